/-
  What is written is read, in plain Lean.
  A body comes back from its bytes; bytes behind bytes are bodies put together; in plain Lean.
  How many that nobody knows there are in what is read, in plain Lean.
  How long what is read is, written again, in plain Lean.
  What is read, written again, is not too long for the walk; in plain Lean.
-/
import Derived.Test.YtbceccblepckhaaGreatDoorCt27
set_option linter.unusedVariables false
namespace Go.Proofs.YtbceccblepckhaaGreatDoor
open Go.RowKit
theorem kind_how {k:Int} (h1:1<=k) (h2:k<=10):(howC k≠2/\k<=7)∨(howC k=2/\(k=8∨k=9))∨(howC k=2/\k=10):=by
 by_cases h:howC k=2
 ·rcases howC_two.1 h with g|g|g
  ·exact .inr (.inl ⟨h,.inl g⟩)
  ·exact .inr (.inl ⟨h,.inr g⟩)
  ·exact .inr (.inr ⟨h,g⟩)
 ·refine .inl ⟨h,?_⟩;have:¬ (k=8∨k=9∨k=10):=fun g=>h (howC_two.2 g);omega
theorem fit_shape {wb:Int->Bod->Int} {f:Fil} {x:Fld} {v:Val} (h:FitV wb f x v) (h1:1<=x.kind) (h2:x.kind<=10) :
  (howC x.kind≠2/\x.kind<=7/\v=(v.1,v.2.1,[],[])/\v.2.1≠[]/\(x.many=false->∃ n,v.2.1=[n]))∨(howC x.kind=2/\(x.kind=8∨x.kind=9)/\v=(v.1,[],v.2.2.1,[])/\v.2.2.1≠[]/\(x.many=false->∃ t,v.2.2.1=[t]))∨(howC x.kind=2/\x.kind=10/\v=(v.1,[],[],v.2.2.2)/\v.2.2.2≠[]/\(x.many=false->∃ s,v.2.2.2=[s])):=by
 obtain ⟨c1,c2,c3,_,_,_⟩:=h;obtain ⟨n,b,y,s⟩:=v
 have nil2:∀ {α β:Type} {l:List α} {r:List β},(l.length+r.length==0)=true->l=[]/\r=[]:=fun {α β l r} g=>by
  simp only [beq_iff_eq] at g;exact ⟨List.length_eq_zero_iff.1 (by omega),List.length_eq_zero_iff.1 (by omega)⟩
 (have ne1:∀ {α:Type} {l:List α},1<=l.length->l≠[]:=fun {α l} g e=>by rw [e] at g;simp at g);have one1:∀ {α:Type} {l:List α},l.length=1->∃ n,l=[n]:=fun {α l} g=>List.length_eq_one_iff.1 g;rcases kind_how h1 h2 with ⟨g,g7⟩|⟨g,g8⟩|⟨g,g8⟩
 ·have hc:=countN_no (kind:=x.kind) (by omega) (by omega) (by omega) (n,b,y,s);rw [hc] at c1 c2 c3;obtain ⟨rfl,rfl⟩:=nil2 c1;exact .inl ⟨g,g7,rfl,ne1 c2,fun hm=>one1 (c3 hm)⟩
 ·(have hc:countN x.kind (n,b,y,s)=(y.length,b.length+s.length==0):=by unfold countN;rw [if_pos g8]);rw [hc] at c1 c2 c3;obtain ⟨rfl,rfl⟩:=nil2 c1;exact .inr (.inl ⟨g,g8,rfl,ne1 c2,fun hm=>one1 (c3 hm)⟩)
 ·(have hc:countN x.kind (n,b,y,s)=(s.length,b.length+y.length==0):=by unfold countN;rw [if_neg (by omega),if_pos g8]);rw [hc] at c1 c2 c3;obtain ⟨rfl,rfl⟩:=nil2 c1;exact .inr (.inr ⟨g,g8,rfl,ne1 c2,fun hm=>one1 (c3 hm)⟩)
abbrev Num64 (v:Val):Prop:=∀ n∈v.2.1,n<18446744073709551616
def B64 : Nat->Bod->Prop
 |0,_=>True
 |k+1,b=>(∀ v∈b.values,Num64 v/\∀ s∈v.2.2.2,B64 k s)/\∀ r∈b.unknown,r.bits<18446744073709551616
theorem flat_mem {α:Type} (g:α->List UInt8) {l:List α} {a:α} (h:a∈l):(g a).length<=(l.flatMap g).length:=by
 obtain ⟨p,q,rfl⟩:=List.append_of_mem h;rw [List.flatMap_append,List.flatMap_cons,List.length_append,List.length_append];omega
theorem oneB_sized (num:Int) (t:List UInt8):t.length<=(oneB ⟨num,2,0,t⟩).length:=recS_len num t
theorem recsB_succ {f:Fil} {k:Nat} {msg:Int} {b:Bod} {m:Msg} (h:f.msgs[msg.toNat]? = some m):recsB f (k+1) msg b=valsRecs (fun x s=>rawB f k (msgI f x.type) s) m.fields b.values++b.unknown:=by
 rw [recsB,h];rfl
theorem unk_plus {f:Fil} (hright:(wrongN f).1=0) {A B:Nat}:∀ (k:Nat) (msg:Int) (a b:Bod),wrongB f k msg a=0->wrongB f k msg b=0->UnkLe A k a->UnkLe B k b->UnkLe (A+B) k (joinB f k msg a b)
 |0,_,_,_,h,_,_,_=>by cases h
 |k+1,msg,a,b,ha,hb,na,nb=>by
  obtain ⟨k',m,e,hm,ha'⟩:=wrongB_zero ha;(obtain rfl:k=k':=by omega);(have hb':wrongBF (wrongVF (wrongB f k) f) m b=0:=by rw [wrongB,hm] at hb;exact hb);have hmr:=right_msg hright m (List.mem_of_getElem? hm);have hch:∀ z∈m.fields,0<=z.choice:=fun z hz=>(choice_16 hmr hz).1;have oa:=okV_right ha';have ob:=okV_right hb';obtain ⟨ga1,_,_,_⟩:=valsN_zero (wrongBF_zero ha').1;obtain ⟨gb1,_,_,_⟩:=valsN_zero (wrongBF_zero hb').1;(have hla:A<=A+B:=by omega);(have hlb:B<=A+B:=by omega);rw [join_vals hm];refine ⟨?_,fun v hv s hs=>?_⟩
  ·show (a.unknown++b.unknown).length<=_;rw [List.length_append];have:=na.top;have:=nb.top;omega
  ·have hv':v∈b.values.foldl (joinV (joinB f k) f m.fields) a.values:=hv;have hf:=rising_find (rising_join oa.ris) hv';obtain ⟨i1,i2,i3⟩:=find_join (jb:=joinB f k) (f:=f) hch oa.ris ob v.1
   cases hbv:findV b.values v.1 with
   |some w =>
    obtain ⟨hwm,hwn⟩:=findV_mem hbv;obtain ⟨x,hx,hw,_⟩:=gb1 w hwm;rw [hwn] at hx;rw [i1 w x hbv hx] at hf;rw [←Option.some.inj hf] at hs
    cases hav:findV a.values v.1 with
    |none=>rw [hav,both_none] at hs;exact (nb.2 w hwm s hs).mono hlb
    |some o =>
     rw [hav] at hs;obtain ⟨hom,hon⟩:=findV_mem hav;obtain ⟨y,hy,ho,_⟩:=ga1 o hom;rw [hon,hx] at hy;obtain rfl:=Option.some.inj hy
     cases hmy:x.many with
     |true =>
      rw [both_many hmy] at hs;rcases List.mem_append.1 hs with h|h
      ·exact (na.2 o hom s h).mono hla
      ·exact (nb.2 w hwm s h).mono hlb
     |false =>
      by_cases hk:x.kind=10
      ·rw [both_sub hmy hk] at hs;obtain rfl:s=joinB f k (msgI f x.type) (o.2.2.2.headD bod0) (w.2.2.2.headD bod0):=by simpa using hs
       have hd:∀ {z:Val},wrongVF (wrongB f k) f x z=0->z.2.2.2.headD bod0∈z.2.2.2/\wrongB f k (msgI f x.type) (z.2.2.2.headD bod0)=0:=fun {z} h=>by
        obtain ⟨_,_,_,o4,_,_,_,o8⟩:=wrongVF_zero h;have h1:=one_of (by rw [←count_subs (v:=z) hk];exact o4 hmy);(have h2:z.2.2.2.headD bod0∈z.2.2.2:=by rw [h1];simp);exact ⟨h2,o8 _ h2⟩
       exact unk_plus hright k _ _ _ (hd ho).2 (hd hw).2 (na.2 o hom _ (hd ho).1) (nb.2 w hwm _ (hd hw).1)
      ·rw [both_last hmy hk] at hs;exact (nb.2 w hwm s hs).mono hlb
   |none =>
    by_cases hg:gone m.fields b.values v.1
    ·rw [i2 hbv hg] at hf;cases hf
    ·rw [i3 hbv hg] at hf;exact (na.2 v (findV_mem hf).1 s hs).mono hla
theorem unk_add {f:Fil} (hright:(wrongN f).1=0) {A B k:Nat} {fs:List Fld} {jn:Int->Bod->Bod->Bod × Int} (hjn:JnOk (wrongB f k) (joinB f k) jn) {b:Bod} (h:AllV (wrongB f k) f fs b.values) {x:Fld} {v:Val} (hx:fldN fs v.1=some x) (hv:FitV (wrongB f k) f x v)
  (ub:∀ o∈b.values,∀ s∈o.2.2.2,UnkLe A k s) (uv:∀ s∈v.2.2.2,UnkLe B k s):∀ o∈(addC jn f fs b x v).1.values,∀ s∈o.2.2.2,UnkLe (A+B) k s:=by
 (have hla:A<=A+B:=by omega);(have hlb:B<=A+B:=by omega);rcases add_ok hjn h hx hv with ⟨g1,g2,g3⟩|⟨g1,g2⟩
 ·rw [g3];intro o ho s hs;have ho:o∈setV fs b.values (bothV (joinB f k) f x (findV b.values v.1) v):=ho;rcases set_mem ho with ho|rfl
  ·exact (ub o ho s hs).mono hla
  ·cases hav:findV b.values v.1 with
   |none=>rw [hav,both_none] at hs;exact (uv s hs).mono hlb
   |some o =>
    rw [hav] at hs;obtain ⟨hom,hon⟩:=findV_mem hav;obtain ⟨y,hy,ho⟩:=h.fld o hom;rw [hon,hx] at hy;obtain rfl:=Option.some.inj hy;have hof:=(wrongVF_iff.1 ho).1
    cases hmy:x.many with
    |true =>
     rw [both_many hmy] at hs;rcases List.mem_append.1 hs with h|h
     ·exact (ub o hom s h).mono hla
     ·exact (uv s h).mono hlb
    |false =>
     by_cases hk:x.kind=10
     ·rw [both_sub hmy hk] at hs;(obtain rfl:s=joinB f k (msgI f x.type) (o.2.2.2.headD bod0) (v.2.2.2.headD bod0):=by simpa using hs);have hos:=one_of (by rw [←count_subs (v:=o) hk];exact hof.alone hmy);have hvs:=one_of (by rw [←count_subs (v:=v) hk];exact hv.alone hmy);(have m1:o.2.2.2.headD bod0∈o.2.2.2:=by rw [hos];simp);(have m2:v.2.2.2.headD bod0∈v.2.2.2:=by rw [hvs];simp);exact unk_plus hright k _ _ _ (hof.subs _ m1) (hv.subs _ m2) (ub o hom _ m1) (uv _ m2)
     ·rw [both_last hmy hk] at hs;exact (uv s hs).mono hlb
 ·rw [g2];intro o ho;cases ho
theorem unk_none0 (N k:Nat):UnkLe N k bod0:=by
 cases k with
 |zero=>exact Nat.zero_le _
 |succ k=>exact ⟨Nat.zero_le _,fun v hv=>by cases hv⟩
theorem unk_value {wb:Int->Bod->Int} {rd:List UInt8->Bod × Int} {x:Fld} {r:Rec} {k:Nat} (h:∀ l,UnkLe l.length k (rd l).1):∀ s∈(valueC rd x r).1.2.2.2,UnkLe r.bytes.length k s:=by
 unfold valueC;split
 ·exact fun s hs=>by cases hs
 split
 ·exact fun s hs=>by cases hs
 split
 ·split
  ·exact fun s hs=>by cases hs
  ·exact fun s hs=>by cases hs
 split
 ·exact fun s hs=>by cases hs
 split
 ·exact fun s hs=>by cases hs
 ·intro s hs;(obtain rfl:s=(rd r.bytes).1:=by simpa using hs);exact h _
theorem rec_len {r:Rec} (h:wrongRec r=0):r.bytes.length+1<=(oneB r).length:=by
 obtain ⟨r1,r2,r3,r4,r5⟩:=wrongRec_ok h;have hp:=oneB_pos r;rcases r5 with ⟨h2,_,_⟩|⟨h2,h3⟩
 ·unfold oneB;rw [if_neg (by omega),if_neg (by omega),if_neg (by omega),List.length_append,List.length_append];(have h1:0<(tagB r.number.toNat r.how.toNat).length:=List.length_pos_iff.2 (by unfold tagB;unfold Lib.uvarint;split <;> simp));omega
 ·rw [h3];simp only [List.length_nil];omega
theorem readL_unkLe {f:Fil} (hright:(wrongN f).1=0) {k:Nat} {jn:Int->Bod->Bod->Bod × Int} {fs:List Fld} (hch:∀ z∈fs,0<=z.choice) (hty:∀ z∈fs,typedN f z=0) (hjn:JnOk (wrongB f k) (joinB f k) jn) (rd:Fld->List UInt8->Bod × Int)
  (hrd:∀ x r,wrongRec r=0->x∈fs->x.kind=10->r.how=2->(rd x r.bytes).2=0->wrongB f k (msgI f x.type) (rd x r.bytes).1=0) (hu:∀ x l,UnkLe l.length k (rd x l).1):∀ (l:List Rec) (a:Bod) (N:Nat),AllV (wrongB f k) f fs a.values->(∀ r∈l,wrongRec r=0/\r.bits<2 ^ 64) ->
  UnkLe N (k+1) a->UnkLe (N+(l.flatMap oneB).length) (k+1) (readL (fun x r=>valueC (rd x) x r) (addC jn f fs) fs l a).1
 |[],a,N,ha,_,h=>by rw [readL];exact h.mono (by simp)
 |r::l,a,N,ha,hr,h=>by
  have hr1:=hr r List.mem_cons_self;have hr2:∀ r∈l,wrongRec r=0/\r.bits<2 ^ 64:=fun z hz=>hr z (List.mem_cons_of_mem _ hz);have hlen:=rec_len hr1.1;(have e:N+((r::l).flatMap oneB).length=(N+(oneB r).length)+(l.flatMap oneB).length:=by rw [List.flatMap_cons,List.length_append];omega);rw [e,readL];have hmono:UnkLe (N+(oneB r).length) (k+1) a:=h.mono (by omega)
  cases hx:fldN fs r.number with
  |none =>
   simp only;refine readL_unkLe hright hch hty hjn rd hrd hu l _ _ ha hr2 ⟨?_,hmono.2⟩;show (a.unknown++[r]).length<=_;rw [List.length_append];have:=h.1;simp only [List.length_cons,List.length_nil];omega
  |some x =>
   simp only;obtain ⟨hxm,hxn⟩:=fldN_mem hx
   by_cases h0:(valueC (rd x) x r).2.2=0
   ·rw [if_neg (by simpa using h0)]
    by_cases h1:(valueC (rd x) x r).2.1=false
    ·rw [if_pos h1];exact readL_unkLe hright hch hty hjn rd hrd hu l _ _ ha hr2 hmono
    ·rw [if_neg h1];obtain ⟨hf,hn⟩:=value_fit (wb:=wrongB f k) (hty x hxm) hr1.1 (by have:=hr1.2;omega) (hrd x r hr1.1 hxm) h0 (by simpa using h1);(have hx2:fldN fs (valueC (rd x) x r).1.1=some x:=by rw [hn,hxn];exact hx);have hua:=unk_add hright hjn ha hx2 hf (A:=N) (B:=r.bytes.length) h.2 (unk_value (wb:=wrongB f k) (hu x));rcases add_ok hjn ha hx2 hf with ⟨g1,g2,g3⟩|⟨g1,g2⟩
     ·rw [g3] at hua ⊢;simp only [ne_eq,not_true_eq_false,if_false];refine readL_unkLe hright hch hty hjn rd hrd hu l (.mk _ _) _ (set_right hch ha (by rw [bothV_num];exact hx2) g1 g2) hr2 ⟨hmono.1,fun v hv s hs=>(hua v hv s hs).mono (by omega)⟩
     ·rw [g2,if_pos (by decide)];exact unk_none0 _ _
   ·rw [if_pos h0];exact unk_none0 _ _
theorem read_unkLe {f:Fil} (hright:(wrongN f).1=0):∀ (k:Nat),k<=12->∀ (msg:Int) (l:List UInt8),UnkLe l.length k (readC f k msg l).1
 |0,_,msg,l=>unk_none0 _ _
 |k+1,hk,msg,l=>by
  rw [readC]
  by_cases hp:(parse l).2.1=0
  ·rw [if_neg (by simpa using hp)]
   cases hm:f.msgs[msg.toNat]? with
   |none=>exact unk_none0 _ _
   |some m =>
    simp only;have hmr:=right_msg hright m (List.mem_of_getElem? hm);have hch:∀ z∈m.fields,0<=z.choice:=fun z hz=>(choice_16 hmr hz).1;obtain ⟨p1,p2,p3⟩:=parse_right hp;refine (readL_unkLe hright hch (field_typed hmr) (joinK_ok hright k 12 (by omega)) (fun x bs=>readC f k (msgI f x.type) bs) (fun x r hr hx h10 h2 hz=>?_) (fun x bs=>read_unkLe hright k (by omega) _ _) _ bod0 0 AllV.nil p2 (unk_none0 _ _)).mono (by omega);have hmb:=msgI_bd f x.type;have hm0:=(typed_facts (field_typed hmr x hx)).2.2.1 h10;exact read_right hright k (by omega) _ _ hm0 (by omega) hz
  ·rw [if_pos hp];exact unk_none0 _ _
def wgtV (wb:Bod->Nat) (v:Val):Nat:=25*v.2.1.length+((v.2.2.1.map fun t=>t.length+25).sum+(v.2.2.2.map fun s=>wb s+25).sum)
def wgtU (l:List Rec):Nat:=(l.map fun r=>r.bytes.length+25).sum
def wgt : Nat->Bod->Nat
 |0,_=>0
 |k+1,b=>(b.values.map (wgtV (wgt k))).sum+wgtU b.unknown
theorem sum_append (l r:List Nat):(l++r).sum=l.sum+r.sum:=by
 induction l with
 |nil=>simp
 |cons a l ih=>simp only [List.cons_append,List.sum_cons,ih];omega
theorem sum_mem (g:Val->Nat) {l:List Val} {v:Val} (h:v∈l):g v<=(l.map g).sum:=by
 induction l with
 |nil=>cases h
 |cons a l ih =>
  rw [List.map_cons,List.sum_cons];rcases List.mem_cons.1 h with rfl|h
  ·omega
  ·have:=ih h;omega
theorem pack_err' {kind:Int}:∀ (f:Nat) (l:List UInt8),(packP kind f l).2≠0->(packP kind f l).1=[]
 |0,l,h=>by rw [packP]
 |f+1,l,h=>by
  rw [packP] at h ⊢
  by_cases hl:l=[]
  ·rw [if_pos hl]
  rw [if_neg hl] at h ⊢
  by_cases hh:(headC (howC kind) l).2.2=0
  ·rw [if_neg (by simpa using hh)] at h ⊢;simp only at h ⊢
   by_cases hp:(packP kind f (l.drop (headC (howC kind) l).2.1)).2=0
   ·rw [if_neg (by simpa using hp)] at h;exact absurd rfl h
   ·rw [if_pos hp]
  ·rw [if_pos hh]
end Go.Proofs.YtbceccblepckhaaGreatDoor
namespace Go.Proofs.YtbceccblepckhaaGreatDoor
open Go.RowKit Go.Lib
theorem uv10 {n:Nat} (h:n<18446744073709551616):(uvarint n).length<=10:=uvarint_length64 h
theorem howC_three {k:Int} (h:howC k≠2):howC k=0∨howC k=1∨howC k=5:=by
 unfold howC at h ⊢;split
 ·exact .inr (.inl rfl)
 ·rename_i h6;rw [if_neg h6] at h;split
  ·exact .inr (.inr rfl)
  ·rename_i h7;rw [if_neg h7] at h;split
   ·rename_i h8;rw [if_pos h8] at h;exact absurd rfl h
   ·exact .inl rfl
theorem sum_25 : ∀ l:List Nat,(l.map fun _=>25).sum=25*l.length
 |[]=>rfl
 |a::l=>by rw [List.map_cons,List.sum_cons,sum_25 l,List.length_cons];omega
theorem sized_len {num:Int} {t:List UInt8} (n1:1<=num) (n2:num<536870912) (h:t.length<18446744073709551616):(oneB ⟨num,2,0,t⟩).length<=t.length+15:=by
 have h1:=tagB_length num.toNat (2:Int).toNat (by omega) (by decide);have h2:=uv10 h;unfold oneB;show (tagB num.toNat (2:Int).toNat++(if (2:Int)=0 then _ else if (2:Int)=1 then _ else if (2:Int)=5 then _ else uvarint t.length++t)).length<=_;rw [if_neg (by decide),if_neg (by decide),if_neg (by decide),List.length_append,List.length_append];show (tagB num.toNat (2:Int).toNat).length+((uvarint t.length).length+t.length)<=_;omega
theorem num_len {k:Int} {num:Int} {n:Nat} (n1:1<=num) (n2:num<536870912) (hk:howC k≠2) (h:n<18446744073709551616):(oneB ⟨num,howC k,n,[]⟩).length<=15:=by
 have hh:=howC_three hk;unfold oneB;show (tagB num.toNat (howC k).toNat++if howC k=0 then uvarint n else if howC k=1 then lowB 8 n else if howC k=5 then lowB 4 n else _).length<=15;rw [List.length_append];have h2:=uv10 h;rcases hh with e|e|e
 ·rw [e,if_pos rfl];have h1:=tagB_length num.toNat (0:Int).toNat (by omega) (by decide);omega
 ·rw [e,if_neg (by decide),if_pos rfl,lowB_length];have h1:=tagB_length num.toNat (1:Int).toNat (by omega) (by decide);omega
 ·rw [e,if_neg (by decide),if_neg (by decide),if_pos rfl,lowB_length];have h1:=tagB_length num.toNat (5:Int).toNat (by omega) (by decide);omega
theorem flat_sum {α:Type} (g:α->List UInt8) (h:α->Nat):∀ (l:List α),(∀ a∈l,(g a).length<=h a)->(l.flatMap g).length<=(l.map h).sum
 |[],_=>Nat.le_refl _
 |a::l,hl=>by
  rw [List.flatMap_cons,List.length_append,List.map_cons,List.sum_cons];have h1:=hl a List.mem_cons_self;have h2:=flat_sum g h l (fun b hb=>hl b (List.mem_cons_of_mem _ hb));omega
theorem pack_len {k:Int} (hk:howC k≠2):∀ (l:List Nat),(∀ n∈l,n<18446744073709551616)->(packC k l).length<=10*l.length
 |[],_=>Nat.le_refl _
 |n::l,h=>by
  have e:packC k (n::l)=(oneB ⟨1,howC k,toldC k n,[]⟩).drop 1++packC k l:=rfl;have hh:=howC_three hk;have h10:=uv10 (told_64 (k:=k) (h n List.mem_cons_self))
  have h1:((oneB ⟨1,howC k,toldC k n,[]⟩).drop 1).length<=10:=by
   rw [drop_tag _ _ hh];split
   ·exact h10
   ·split
    ·rw [lowB_length];decide
    ·rw [lowB_length];decide
  rw [e,List.length_append,List.length_cons];have h2:=pack_len hk l (fun b hb=>h b (List.mem_cons_of_mem _ hb));omega
theorem sum_memB (g:Bod->Nat) {l:List Bod} {v:Bod} (h:v∈l):g v<=(l.map g).sum:=by
 induction l with
 |nil=>cases h
 |cons a l ih =>
  rw [List.map_cons,List.sum_cons];rcases List.mem_cons.1 h with rfl|h
  ·omega
  ·have:=ih h;omega
theorem val_wgt {wb:Int->Bod->Int} {f:Fil} {x:Fld} {v:Val} {sub:Bod->List UInt8} {ws:Bod->Nat} (n1:1<=x.number) (n2:x.number<536870912) (ht:typedN f x=0) (hv:FitV wb f x v) (h60:(countN x.kind v).1<=60) (h64:Num64 v) (hs:∀ s∈v.2.2.2,(sub s).length<=ws s) (hz:wgtV ws v<18446744073709551616) :
  ((valRecs sub x v).flatMap oneB).length<=wgtV ws v:=by
 obtain ⟨t1,t2,_,_⟩:=typed_facts ht;have hcnt:=count_sum hv.cnt;have hone:=hv.one;have hsh:=fit_shape hv t1 t2;have htx:=hv.texts;obtain ⟨n,b,y,s⟩:=v;simp only at h64 hs hsh htx hcnt;rcases hsh with ⟨g,g7,e,hne,hal⟩|⟨g,g8,e,hne,hal⟩|⟨g,g8,e,hne,hal⟩
 ·simp only [Prod.mk.injEq,true_and] at e;obtain ⟨rfl,rfl⟩:=e;have ew:wgtV ws (n,b,[],[])=25*b.length:=rfl;rw [ew] at hz ⊢;have hb1:1<=b.length:=List.length_pos_iff.2 hne
  cases hm:x.many with
  |true =>
   (have e2:valRecs sub x (n,b,[],[])=[⟨x.number,2,0,packC x.kind b⟩]:=by unfold valRecs;rw [if_pos ⟨hm,g⟩]);rw [e2,List.flatMap_cons,List.flatMap_nil,List.append_nil];have h1:=pack_len g b h64;have h2:=sized_len (t:=packC x.kind b) n1 n2 (by omega);omega
  |false =>
   (have e2:valRecs sub x (n,b,[],[])=b.map fun q=>⟨x.number,howC x.kind,toldC x.kind q,[]⟩:=by unfold valRecs;rw [if_neg (by rw [hm];simp)];simp);rw [e2,List.flatMap_map];have:=flat_sum (fun q=>oneB ⟨x.number,howC x.kind,toldC x.kind q,[]⟩) (fun _=>25) b (fun q hq=>Nat.le_trans (num_len n1 n2 g (told_64 (h64 q hq))) (by omega));rw [sum_25] at this;omega
 ·simp only [Prod.mk.injEq,true_and] at e;obtain ⟨rfl,rfl⟩:=e;(have e2:valRecs sub x (n,[],y,[])=y.map fun t=>⟨x.number,2,0,t⟩:=by unfold valRecs;rw [if_neg (by rintro ⟨_,h⟩;exact h g)];simp);have ew:wgtV ws (n,[],y,[])=25*0+((y.map fun t=>t.length+25).sum+0):=rfl;rw [e2,List.flatMap_map]
  have:=flat_sum (fun t=>oneB ⟨x.number,2,0,t⟩) (fun t=>t.length+25) y (fun t ht=>by
   have h4:t.length<=4000:=by
    have:=htx t ht;unfold byteN at this;split at this
    ·cases this
    ·omega
   have:=sized_len (t:=t) n1 n2 (by omega);omega)
  rw [ew];omega
 ·simp only [Prod.mk.injEq,true_and] at e;obtain ⟨rfl,rfl,_⟩:=e;(have e2:valRecs sub x (n,[],[],s)=s.map fun t=>⟨x.number,2,0,sub t⟩:=by unfold valRecs;rw [if_neg (by rintro ⟨_,h⟩;exact h g)];simp);have ew:wgtV ws (n,[],[],s)=25*0+(0+(s.map fun t=>ws t+25).sum):=rfl;rw [ew] at hz ⊢;rw [e2,List.flatMap_map];have hsm:∀ t∈s,ws t+25<=(s.map fun t=>ws t+25).sum:=fun t ht=>sum_memB (fun t=>ws t+25) ht
  have:=flat_sum (fun t=>oneB ⟨x.number,2,0,sub t⟩) (fun t=>ws t+25) s (fun t ht=>by
   have h1:=hs t ht;have h2:=hsm t ht;have:=sized_len (t:=sub t) n1 n2 (by omega);omega)
  omega
theorem raw_wgt {f:Fil} (hright:(wrongN f).1=0):∀ (k:Nat) (msg:Int) (b:Bod),wrongB f k msg b=0->B64 k b->wgt k b<18446744073709551616->(rawB f k msg b).length<=wgt k b
 |0,_,_,h,_,_=>by cases h
 |k+1,msg,b,h,h64,hz=>by
  obtain ⟨k',m,e,hm,hb'⟩:=wrongB_zero h;(obtain rfl:k=k':=by omega);have hmr:=right_msg hright m (List.mem_of_getElem? hm);have hch:∀ z∈m.fields,0<=z.choice:=fun z hz=>(choice_16 hmr hz).1;obtain ⟨hA,uA⟩:=(wrongB_is (k:=k) hm hch b).1 h;rw [raw_flat hm,List.length_append];have ew:wgt (k+1) b=(b.values.map (wgtV (wgt k))).sum+wgtU b.unknown:=rfl;rw [ew] at hz ⊢
  have h1:=flat_sum (valG f k m) (wgtV (wgt k)) b.values (fun v hv=>by
   obtain ⟨x,hx,hw⟩:=hA.fld v hv;obtain ⟨hxm,hxn⟩:=fldN_mem hx;obtain ⟨i,hi,e⟩:=List.getElem_of_mem hxm;have hff:=field_facts ((msg_field hmr).2.2 i hi);rw [e] at hff;obtain ⟨g1,g2,g3⟩:=wrongVF_iff.1 hw;have hle:=sum_mem (wgtV (wgt k)) hv;unfold valG;rw [hx];simp only;refine val_wgt hff.1 hff.2.1 hff.2.2.2.1 g1 g2 (h64.1 v hv).1 (fun s hs=>?_) (by omega)
   have hws:wgt k s<=wgtV (wgt k) v:=by
    unfold wgtV;have:wgt k s+25<=(v.2.2.2.map fun s=>wgt k s+25).sum:=sum_memB (fun s=>wgt k s+25) hs;omega
   exact raw_wgt hright k _ s (g1.subs s hs) ((h64.1 v hv).2 s hs) (by omega))
  have h2:=flat_sum oneB (fun r=>r.bytes.length+25) b.unknown (fun r hr=>by
   have hu:=uA r hr
   have hr0:wrongRec r=0:=by
    unfold unkN at hu;apply Classical.byContradiction;intro g;rw [if_pos g] at hu;exact g hu
   obtain ⟨r1,r2,r3,r4,r5⟩:=wrongRec_ok hr0;have h64r:=h64.2 r hr;obtain ⟨number,how,bits,bytes⟩:=r;simp only at r1 r2 r3 r4 r5 h64r ⊢;rcases r5 with ⟨rfl,rfl,h4⟩|⟨hn,rfl⟩
   ·have:=sized_len (t:=bytes) r1 r2 (by omega);omega
   ·have e:(oneB ⟨number,how,bits,[]⟩).length<=15:=by
     unfold oneB;show (tagB number.toNat how.toNat++if how=0 then uvarint bits else if how=1 then lowB 8 bits else if how=5 then lowB 4 bits else _).length<=15;rw [List.length_append];have h2:=uv10 h64r;rcases r3 with e|e|e|e
     ·rw [e,if_pos rfl];have h1:=tagB_length number.toNat (0:Int).toNat (by omega) (by decide);omega
     ·rw [e,if_neg (by decide),if_pos rfl,lowB_length];have h1:=tagB_length number.toNat (1:Int).toNat (by omega) (by decide);omega
     ·rw [e,if_neg (by decide),if_neg (by decide),if_pos rfl,lowB_length];have h1:=tagB_length number.toNat (5:Int).toNat (by omega) (by decide);omega
     ·exact absurd e hn
    simp only [List.length_nil];omega)
  have e3:wgtU b.unknown=(b.unknown.map fun r=>r.bytes.length+25).sum:=rfl;omega
end Go.Proofs.YtbceccblepckhaaGreatDoor
