/-
  pressref3.Value: what a record tells of a field.
  Too many values, as deep as may be; what is put together is right or has too many; in plain Lean.
  pressref3.Most.
-/
import Derived.Test.YtbceccblepckhaaGreatDoorCt40
set_option maxHeartbeats 6400000
set_option linter.unusedVariables false
namespace Go.Proofs.YtbceccblepckhaaGreatDoor
open Go.RowKit
theorem refval_r {S:Nat->Prop} (k:Nat) (f:Fil) (ih:ReadC k f) (x:Fld) (r:Rec) (m1 e1 a3:Option Addr) (m3 e3 c3:Nat) (bf fo:Nat) (w:World) (hf:FilV All w (.agg #[.slice m1 f.msgs.length m3,.slice e1 f.enums.length e3]) f) (hx:FldAt w bf fo x) (hr:RdB S w (.slice a3 r.bytes.length c3) r.bytes) (hbl:r.bytes.length<=4000) (h64:r.bits<18446744073709551616) (hk12:k<=12) (ht:typedN f x=0) (n1:1<=x.number) (n2:x.number<536870912) :
  Calls Tryz.prog 49 #[.agg #[.slice m1 f.msgs.length m3,.slice e1 f.enums.length e3],.pointer (some ⟨bf,fo,none⟩),.agg #[.int .i64 r.number,.int .i64 r.how,.int .u64 (r.bits:Int),.slice a3 r.bytes.length c3],.int .i64 (12 - k)] w fun e w' =>
   ∃ (p1 p2 p3:Option Addr) (l1 l2 l3 q1 q2 q3:Nat),e=.returned (.tuple #[.agg #[.int .i64 x.number,.slice p1 l1 q1,.slice p2 l2 q2,.slice p3 l3 q3],.int .i64 (valueC (fun bs=>readC f k (msgI f x.type) bs) x r).2.2]) /\
   ((valueC (fun bs=>readC f k (msgI f x.type) bs) x r).2.2=0->l1=(valueC (fun bs=>readC f k (msgI f x.type) bs) x r).1.2.1.length/\l2=(valueC (fun bs=>readC f k (msgI f x.type) bs) x r).1.2.2.1.length/\l3=(valueC (fun bs=>readC f k (msgI f x.type) bs) x r).1.2.2.2.length /\
    DValD (k+1) (Sx S w) w' (valueC (fun bs=>readC f k (msgI f x.type) bs) x r).1 [.int .i64 x.number,.slice p1 l1 q1,.slice p2 l2 q2,.slice p3 l3 q3])/\Up w w':=by
 obtain ⟨t1,t2,t3,t4⟩:=typed_facts ht;(have hok:okI x.number:=by unfold okI;omega);have hnil64:∀ (Q:Nat->Prop) (W:World),RdS DU64 1 Q W (.slice none 0 0) ([]:List Nat):=fun _ _=>rdS_nil _ _ _ _;have hnilB:∀ (Q:Nat->Prop) (W:World),RdS DBytes 1 Q W (.slice none 0 0) ([]:List (List UInt8)):=fun _ _=>rdS_nil _ _ _ _;have hnilS:∀ (Q:Nat->Prop) (W:World),RdS (DBodF (k+1)) 2 Q W (.slice none 0 0) ([]:List Bod):=fun _ _=>rdS_nil _ _ _ _;unfold valueC
 by_cases hk:howC x.kind≠2
 ·rw [if_pos hk];(have h7:x.kind<=7:=by rcases kind_how t1 t2 with h|h|h;exact h.2;exact absurd h.1 hk;exact absurd h.1 hk);refine (rval_num x r m1 e1 a3 f.msgs.length m3 f.enums.length e3 c3 (12 - k) bf fo w hx hr hbl h64 hk).mono ?_;rintro e w' ⟨a1,l1,c1,rfl,hv,hu⟩;refine ⟨a1,none,none,l1,0,0,c1,0,0,rfl,fun h0=>?_,hu⟩;have hv:=hv h0;obtain ⟨_,_,he,_,_⟩:=hv.val;simp only [Value.slice.injEq] at he;obtain ⟨rfl,rfl,rfl⟩:=he;have hlen:=numbers_len (r:=r) t1 h7;refine ⟨rfl,rfl,rfl,_,_,_,rfl,hok,hv.keep stable_u64 (Keep.weak (fun q h=>.inr (by have h':w.heap.size+4<=q:=h;omega))),hnilB _ _,hnilS _ _,?_,by simp,by simp⟩;simp only;omega
 ·rw [if_neg hk];have hk2:howC x.kind=2:=Classical.not_not.1 hk
  by_cases hw:r.how≠2
  ·rw [if_pos hw];have h:=rval_text x r m1 e1 a3 f.msgs.length m3 f.enums.length e3 c3 (12 - k) bf fo w hx hr hbl hk2 (.inl hw);rw [if_pos hw] at h;refine h.mono ?_;rintro e w' ⟨rfl,hu⟩;exact ⟨none,none,none,0,0,0,0,0,0,rfl,fun h=>(by cases h),hu⟩
  ·rw [if_neg hw]
   by_cases h8:x.kind=8
   ·rw [if_pos h8];have h:=rval_text x r m1 e1 a3 f.msgs.length m3 f.enums.length e3 c3 (12 - k) bf fo w hx hr hbl hk2 (.inr (.inl h8));rw [if_neg hw] at h
    by_cases hv:Lib.validD r.bytes=false
    ·rw [if_pos ⟨h8,hv⟩] at h;rw [if_pos hv];refine h.mono ?_;rintro e w' ⟨rfl,hu⟩;exact ⟨none,none,none,0,0,0,0,0,0,rfl,fun h=>(by cases h),hu⟩
    ·rw [if_neg (fun g=>hv g.2)] at h;rw [if_neg hv];refine h.mono ?_;rintro e w' ⟨a1,c1,rfl,hd,hu⟩;exact ⟨none,a1,none,0,1,0,0,c1,0,rfl,fun _=>⟨rfl,rfl,rfl,_,_,_,rfl,hok,hnil64 _ _,hd,hnilS _ _,by simp,by simp,by simp⟩,hu⟩
   ·rw [if_neg h8]
    by_cases h9:x.kind=9
    ·rw [if_pos h9];have h:=rval_text x r m1 e1 a3 f.msgs.length m3 f.enums.length e3 c3 (12 - k) bf fo w hx hr hbl hk2 (.inr (.inr h9));rw [if_neg hw,if_neg (fun g=>h8 g.1)] at h;refine h.mono ?_;rintro e w' ⟨a1,c1,rfl,hd,hu⟩;exact ⟨none,a1,none,0,1,0,0,c1,0,rfl,fun _=>⟨rfl,rfl,rfl,_,_,_,rfl,hok,hnil64 _ _,hd,hnilS _ _,by simp,by simp,by simp⟩,hu⟩
    ·rw [if_neg h9];(have h10:x.kind=10:=by have:=howC_two.1 hk2;omega);refine (rval_sub k f ih x r m1 e1 a3 m3 e3 c3 bf fo w hf hx hr hbl hk12 h10 (Classical.not_not.1 hw) (t3 h10)).mono ?_;rintro e w' ⟨a1,c1,rfl,hd,hu⟩;dsimp only
     by_cases he:(readC f k (msgI f x.type) r.bytes).2≠0
     ·rw [if_pos he];exact ⟨none,none,a1,0,0,1,0,0,c1,rfl,fun h=>absurd h he,hu⟩
     ·rw [if_neg he];have he0:(readC f k (msgI f x.type) r.bytes).2=0:=Classical.not_not.1 he;rw [he0];exact ⟨none,none,a1,0,0,1,0,0,c1,rfl,fun _=>⟨rfl,rfl,rfl,_,_,_,rfl,hok,hnil64 _ _,hnilB _ _,hd,by simp,by simp,by simp⟩,hu⟩
def mostB : Nat->Bod->Bool
 |0,_=>false
 |d+1,b=>b.values.any fun v=>decide (60<v.2.1.length) || decide (60<v.2.2.1.length) || decide (60<v.2.2.2.length) || v.2.2.2.any (mostB d)
def Bad (mb:Bod->Bool) (u:Val):Prop:=60<maxV u∨∃ s∈u.2.2.2,mb s=true
theorem most_bad {d:Nat} {b:Bod} {u:Val} (h:u∈b.values) (hu:Bad (mostB d) u):mostB (d+1) b=true:=by
 rw [mostB,List.any_eq_true];refine ⟨u,h,?_⟩;simp only [Bool.or_eq_true,decide_eq_true_eq,List.any_eq_true];rcases hu with h|⟨s,hs,h⟩
 ·unfold maxV at h;omega
 ·exact .inr ⟨s,hs,h⟩
theorem most_mono : ∀ {d e:Nat},d<=e->∀ {b:Bod},mostB d b=true->mostB e b=true
 |0,_,_,b,h=>by cases h
 |d+1,0,h,_,_=>by omega
 |d+1,e+1,h,b,hb=>by
  rw [mostB,List.any_eq_true] at hb ⊢;obtain ⟨u,hu,hb⟩:=hb;refine ⟨u,hu,?_⟩;simp only [Bool.or_eq_true,decide_eq_true_eq,List.any_eq_true] at hb ⊢;rcases hb with hb|⟨s,hs,hb⟩
  ·exact .inl hb
  ·exact .inr ⟨s,hs,most_mono (by omega) hb⟩
theorem most_none {wb:Int->Bod->Int} {f:Fil} {fs:List Fld} {l:List Val} {u:List Rec} {d:Nat} (h:AllV wb f fs l) (hs:∀ mi s,wb mi s=0->mostB d s=false):mostB (d+1) (.mk l u)=false:=by
 rw [mostB];apply Bool.eq_false_iff.2;intro hb;rw [List.any_eq_true] at hb;obtain ⟨v,hv,hb⟩:=hb;obtain ⟨x,_,hw⟩:=h.fld v hv;obtain ⟨hf,h60,_⟩:=wrongVF_iff.1 hw;have hc:=count_sum hf.cnt;simp only [Bool.or_eq_true,decide_eq_true_eq,List.any_eq_true] at hb;rcases hb with hb|⟨s,hs2,hb⟩
 ·omega
 ·rw [hs _ s (hf.subs s hs2)] at hb;cases hb
theorem most_right {f:Fil} (hright:(wrongN f).1=0):∀ (k d:Nat) (mi:Int) (b:Bod),wrongB f k mi b=0->mostB d b=false
 |_,0,_,_,_=>rfl
 |0,d+1,_,_,h=>by cases h
 |k+1,d+1,mi,b,h=>by
  obtain ⟨k',m,e,hm,h'⟩:=wrongB_zero h;(obtain rfl:k=k':=by omega);have hmr:=right_msg hright m (List.mem_of_getElem? hm);have hch:∀ z∈m.fields,0<=z.choice:=fun z hz=>(choice_16 hmr hz).1;have hall:=(allV_iff hch).1 (wrongBF_zero h').1
  cases b with
  |mk l u=>exact most_none hall (fun mi s hs=>most_right hright k d mi s hs)
abbrev JnM (wb:Int->Bod->Int) (jb:Int->Bod->Bod->Bod) (jn:Int->Bod->Bod->Bod × Int) (mb:Bod->Bool):Prop:=∀ mi a b,wb mi a=0->wb mi b=0->(wb mi (jb mi a b)=0/\jn mi a b=(jb mi a b,0))∨(mb (jb mi a b)=true/\(jn mi a b).2=5)
theorem add_most {wb:Int->Bod->Int} {jb:Int->Bod->Bod->Bod} {jn:Int->Bod->Bod->Bod × Int} {mb:Bod->Bool} {f:Fil} {fs:List Fld} (hjn:JnM wb jb jn mb) {b:Bod} (h:AllV wb f fs b.values) {x:Fld} {v:Val} (hx:fldN fs v.1=some x) (hv:FitV wb f x v) :
  (FitV wb f x (bothV jb f x (findV b.values v.1) v)/\(countN x.kind (bothV jb f x (findV b.values v.1) v)).1<=60/\addC jn f fs b x v=(.mk (setV fs b.values (bothV jb f x (findV b.values v.1) v)) b.unknown,0)) ∨
  ((Bad mb (bothV jb f x (findV b.values v.1) v)/\plainN x (bothV jb f x (findV b.values v.1) v)=false)/\addC jn f fs b x v=(bod0,5)):=by
 have hxn:x.number=v.1:=(fldN_mem hx).2
 have hfin:∀ u:Val,FitV wb f x u->(FitV wb f x u/\(countN x.kind u).1<=60/\finC fs b u=(.mk (setV fs b.values u) b.unknown,0))∨((Bad mb u/\plainN x u=false)/\finC fs b u=(bod0,5)):=by
  intro u hu;unfold finC;rw [max_count hu.cnt]
  by_cases h6:60<(countN x.kind u).1
  ·rw [if_pos h6];refine .inr ⟨⟨.inl (by rw [max_count hu.cnt];exact h6),?_⟩,rfl⟩
   cases hm:x.many with
   |true=>exact plain_many hm
   |false=>have:=hu.alone hm;omega
  ·rw [if_neg h6];exact .inl ⟨hu,by omega,rfl⟩
 unfold addC;rw [hxn]
 cases ho:findV b.values v.1 with
 |none=>exact hfin v hv
 |some o =>
  obtain ⟨hom,hon⟩:=findV_mem ho;obtain ⟨y,hy,hwo⟩:=h.fld o hom;rw [hon,hx] at hy;obtain rfl:=Option.some.inj hy;have hof:=(wrongVF_iff.1 hwo).1;simp only
  by_cases hm:x.many=true
  ·rw [if_pos hm,both_many hm];refine hfin _ ?_;(have:=fit_both (jb:=jb) hof hv (fun g=>by rw [hm] at g;cases g));rw [both_many hm] at this;exact this
  ·rw [if_neg hm];have hm':x.many=false:=by simpa using hm
   by_cases hk:x.kind=10
   ·rw [if_pos hk,both_sub hm' hk];have hos:=one_of (by rw [←count_subs (v:=o) hk];exact hof.alone hm');have hvs:=one_of (by rw [←count_subs (v:=v) hk];exact hv.alone hm');have e1:=hof.subs (o.2.2.2.headD bod0) (by rw [hos];simp);have e2:=hv.subs (v.2.2.2.headD bod0) (by rw [hvs];simp);have hb:=fun (hj:wb (msgI f x.type) (jb (msgI f x.type) (o.2.2.2.headD bod0) (v.2.2.2.headD bod0))=0)=>fit_both (jb:=jb) hof hv (fun _ _=>hj);rw [both_sub hm' hk] at hb;rcases hjn _ _ _ e1 e2 with ⟨g1,g2⟩|⟨g1,g2⟩
    ·rw [g2];simp only [ne_eq,not_true_eq_false,if_false];exact hfin _ (hb g1)
    ·rw [g2,if_pos (by decide)];exact .inr ⟨⟨.inr ⟨_,List.mem_cons_self,g1⟩,plain_sub hk⟩,rfl⟩
   ·rw [if_neg hk,both_last hm' hk];exact hfin v hv
theorem joinL_most {wb:Int->Bod->Int} {jb:Int->Bod->Bod->Bod} {jn:Int->Bod->Bod->Bod × Int} {mb:Bod->Bool} {f:Fil} {fs:List Fld} (hch:∀ z∈fs,0<=z.choice) (hjn:JnM wb jb jn mb):∀ (l:List Val) (a:Bod),AllV wb f fs a.values->AllV wb f fs l ->
  (AllV wb f fs (l.foldl (joinV jb f fs) a.values)/\joinL (addC jn f fs) fs l a=(.mk (l.foldl (joinV jb f fs) a.values) a.unknown,0))∨((∃ u∈l.foldl (joinV jb f fs) a.values,Bad mb u)/\(joinL (addC jn f fs) fs l a)=(bod0,5))
 |[],a,ha,_=>.inl ⟨ha,by rw [joinL];cases a;rfl⟩
 |v::l,a,ha,hl=>by
  obtain ⟨x,hx,hw⟩:=hl.fld v List.mem_cons_self;have hfit:=wrongVF_iff.1 hw;(have hstep:joinV jb f fs a.values v=setV fs a.values (bothV jb f x (findV a.values v.1) v):=by unfold joinV;rw [hx]);have hbn:(bothV jb f x (findV a.values v.1) v).1=v.1:=bothV_num _ _ _ _ _;rw [joinL,hx];simp only [List.foldl_cons];rcases add_most hjn ha hx hfit.1 with ⟨g1,g2,g3⟩|⟨⟨g1,_⟩,g2⟩
  ·rw [g3];simp only [ne_eq,not_true_eq_false,if_false];have:=joinL_most hch hjn l (.mk (setV fs a.values (bothV jb f x (findV a.values v.1) v)) a.unknown) (set_right hch ha (by rw [hbn];exact hx) g1 g2) hl.tail;rw [hstep];exact this
  ·rw [g2,if_pos (by decide)];have hj:=(find_join (jb:=jb) (f:=f) hch ha.ris hl.ok v.1).1 v x find_cons_self hx;rw [List.foldl_cons] at hj;exact .inr ⟨⟨_,(findV_mem hj).1,g1⟩,rfl⟩
theorem joinK_most {f:Fil} (hright:(wrongN f).1=0):∀ (k j:Nat),k<=j->JnM (wrongB f k) (joinB f k) (joinK f j) (mostB k)
 |0,_,_=>fun _ _ _ h=>by cases h
 |k+1,0,h=>by omega
 |k+1,j+1,hkj=>by
  intro msg a b ha hb;obtain ⟨k',m,e,hm,ha'⟩:=wrongB_zero ha;(obtain rfl:k=k':=by omega);obtain ⟨k',m',e,hm',hb'⟩:=wrongB_zero hb;(obtain rfl:k=k':=by omega);rw [hm] at hm';obtain rfl:=Option.some.inj hm';have hmr:=right_msg hright m (List.mem_of_getElem? hm);have hch:∀ z∈m.fields,0<=z.choice:=fun z hz=>(choice_16 hmr hz).1;obtain ⟨ga,ua⟩:=wrongBF_zero ha';obtain ⟨gb,ub⟩:=wrongBF_zero hb';(have hja:joinB f (k+1) msg a b=.mk (b.values.foldl (joinV (joinB f k) f m.fields) a.values) (a.unknown++b.unknown):=by rw [joinB,hm]);have hl:=joinL_most hch (joinK_most hright k j (by omega)) b.values a ((allV_iff hch).1 ga) ((allV_iff hch).1 gb)
  have hk:joinK f (j+1) msg a b=(let p:=joinL (addC (joinK f j) f m.fields) m.fields b.values a
   if p.2≠0 then (bod0,p.2) else (.mk p.1.values (p.1.unknown++b.unknown),0)):=by rw [joinK,hm]
  rcases hl with ⟨l1,l2⟩|⟨⟨u,hu,l1⟩,l2⟩
  ·refine .inl ⟨?_,?_⟩
   ·have:=joinK_ok hright (k+1) (j+1) hkj msg a b ha hb;rcases this with h|h
    ·exact h.1
    ·rw [hja];rw [wrongB,hm];simp only;unfold wrongBF;show (if valsN _ _ _ _ (b.values.foldl _ _)≠0 then valsN _ _ _ _ (b.values.foldl _ _) else firstN ((a.unknown++b.unknown).map _))=0;rw [(allV_iff hch).2 l1,if_neg (by decide),firstN_all (fun r hr=>by rcases List.mem_append.1 hr with h|h;exact ua r h;exact ub r h)]
   ·rw [hk,l2,hja];rfl
  ·refine .inr ⟨?_,?_⟩
   ·rw [hja];exact most_bad (b:=.mk _ _) hu l1
   ·rw [hk,l2];rfl
theorem add_read {f:Fil} (hright:(wrongN f).1=0) {k:Nat} (hk:k<=12) {fs:List Fld} (hch:∀ z∈fs,0<=z.choice) {b:Bod} (h:AllV (wrongB f k) f fs b.values) {x:Fld} {v:Val} (hx:fldN fs v.1=some x) (hv:FitV (wrongB f k) f x v) :
  (AllV (wrongB f k) f fs (setV fs b.values (bothV (joinB f k) f x (findV b.values v.1) v))/\(∀ d,mostB d (.mk (setV fs b.values (bothV (joinB f k) f x (findV b.values v.1) v)) b.unknown)=false)/\addC (joinK f 12) f fs b x v=(.mk (setV fs b.values (bothV (joinB f k) f x (findV b.values v.1) v)) b.unknown,0)) ∨
  ((∀ d,k+1<=d->mostB d (.mk (setV fs b.values (bothV (joinB f k) f x (findV b.values v.1) v)) b.unknown)=true)/\addC (joinK f 12) f fs b x v=(bod0,5)):=by
 have hbn:(bothV (joinB f k) f x (findV b.values v.1) v).1=v.1:=bothV_num _ _ _ _ _;(have hx2:fldN fs (bothV (joinB f k) f x (findV b.values v.1) v).1=some x:=by rw [hbn];exact hx);rcases add_most (joinK_most hright k 12 hk) h hx hv with ⟨g1,g2,g3⟩|⟨⟨g1,g2⟩,g3⟩
 ·have hall:=set_right hch h hx2 g1 g2;refine .inl ⟨hall,fun d=>?_,g3⟩
  cases d with
  |zero=>rfl
  |succ d=>exact most_none hall (fun mi s hs=>most_right hright k d mi s hs)
 ·refine .inr ⟨fun d hd=>most_mono hd (most_bad (b:=.mk _ _) ?_ g1),g3⟩;exact (set_mem_iff h.ris hx2 _).2 (.inr ⟨g2,rfl⟩)
set_option maxRecDepth 100000
open Lib (hid)
def mostV (mb:Bod->Bool) (v:Val):Bool:=decide (60<v.2.1.length) || decide (60<v.2.2.1.length) || decide (60<v.2.2.2.length) || v.2.2.2.any mb
abbrev MostC (d:Nat):Prop:=∀ (b:Bod) (vv vu:Value) (w:World),DBodF d All w b [vv,vu]->Calls Tryz.prog 53 #[.agg #[vv,vu]] w fun e w'=>e=.returned (.bool (mostB d b))/\Up w w'
theorem any_take_T {α:Type} {p:α->Bool} {l:List α} {j:Nat} (hj:j<l.length) (e:p l[j]=true):l.any p=true:=List.any_eq_true.2 ⟨_,List.getElem_mem hj,e⟩
theorem most_step (d:Nat) (ih:MostC d):MostC (d+1):=by
 intro b vv vu w hdb;obtain ⟨bv1,bc1,bu1,bc2,rfl,rfl,hbv,hbu,hbz⟩:=bod_cells hdb;(have hbvl:b.values.length<=1759218604441:=by have:=hbz.1;omega);have hmb:mostB (d+1) b=b.values.any (mostV (mostB d)):=rfl;rw [hmb];have Hbv:=hid hbv;have Hih:=hid ih;clear hbv hbu hbz hdb hmb ih;obtain ⟨RES,hRES⟩:∃ RES,b.values.any (mostV (mostB d))=RES:=⟨_,rfl⟩;rw [hRES];have HR:=hid hRES;clear hRES;generalize b.values=l at *
 go_enter Tryz.func53,Tryz.ntmps53
 go_wp2_with fail
 go_loopw [10] (fun i wr=>∃ j:Nat,j<=l.length/\i=.int .i64 j/\Up w wr/\∀ q,(hq:q<l.length)->q<j->mostV (mostB d) l[q]=false)
  (fun i _=>l.length - (intOf i).toNat)
 case atStart=>exact ⟨0,by omega,rfl,((Up.refl w).alloc _),fun q _ h=>by omega⟩
 case round =>
  obtain ⟨j,hj,rfl,hu,hpre⟩:=hrel;have Hu:=hid hu;have Hpre:=hid hpre;clear hu hpre
  by_cases hlt:j<l.length
  ·obtain ⟨b1,o1,cs,rfl,hb1lt,hl4,hcs,hd⟩:=(Hbv.out.up (stable_val d) Hu.out).at hlt;obtain ⟨p1,g1,p2,g2,p3,g3,rfl,hn,hx1,hx2,hx3,zx⟩:=val_cells hd;have q0:=hcs 0 _ rfl;have q1:=hcs 1 _ rfl;have q2:=hcs 2 _ rfl;have q3:=hcs 3 _ rfl;simp only [Nat.add_zero] at q0;have Htrue:=hid (fun (e:mostV (mostB d) l[j]=true)=>show RES=true by rw [←HR.out];exact any_take_T hlt e)
   have Hnext:=hid (fun (e:mostV (mostB d) l[j]=false)=>show ∀ q,(hq:q<l.length)->q<j+1->mostV (mostB d) l[q]=false from fun q hq h=>by
    by_cases hqj:q=j
    ·subst hqj;exact e
    ·exact Hpre.out q hq (by omega))
   (have i0:(0:Int)<=(j:Int):=by omega);(have i1:(j:Int)<(l.length:Int):=by omega);have Hlt:=hid hlt;have Hx3:=hid hx3;(have hz3:l[j].2.2.2.length<=2932031007402:=by have:=zx.2.2;omega);clear hcs hd hl4 hb1lt hx1 hx2 hx3 zx hn;generalize l[j]=v at *;obtain ⟨qn,qb,qy,qs⟩:=v;simp only at q0 q1 q2 q3 Htrue Hnext Hx3 hz3;unfold mostV at Htrue Hnext;simp only at Htrue Hnext
   by_cases c1:60<qb.length
   ·have c1':decide (60<(qb.length:Int))=true:=decide_eq_true (by omega);have hr:=Htrue.out (by simp [c1]);subst hr;go_wp2_with fail
    go_ret
    exact ⟨rfl,Hu.out.alloc _⟩
   have c1':decide (60<(qb.length:Int))=false:=decide_eq_false (by omega);have d1:decide (60<qb.length)=false:=decide_eq_false c1
   by_cases c2:60<qy.length
   ·have c2':decide (60<(qy.length:Int))=true:=decide_eq_true (by omega);have hr:=Htrue.out (by simp [c2]);subst hr;go_wp2_with fail
    go_ret
    exact ⟨rfl,Hu.out.alloc _⟩
   have c2':decide (60<(qy.length:Int))=false:=decide_eq_false (by omega);have d2:decide (60<qy.length)=false:=decide_eq_false c2
   by_cases c3:60<qs.length
   ·have c3':decide (60<(qs.length:Int))=true:=decide_eq_true (by omega);have hr:=Htrue.out (by simp [c3]);subst hr;go_wp2_with fail
    go_ret
    exact ⟨rfl,Hu.out.alloc _⟩
   have c3':decide (60<(qs.length:Int))=false:=decide_eq_false (by omega);have d3:decide (60<qs.length)=false:=decide_eq_false c3;rw [d1,d2,d3] at Htrue Hnext;simp only [Bool.false_or] at Htrue Hnext;have Hux:=hid (Hu.out.alloc (.cells #[.int .i64 qn,.slice p1 qb.length g1,.slice p2 qy.length g2,.slice p3 qs.length g3] 71));have Hwx:=hid ((Up.refl wr).alloc (.cells #[.int .i64 qn,.slice p1 qb.length g1,.slice p2 qy.length g2,.slice p3 qs.length g3] 71));clear d1 d2 d3 c1 c2 c3;(go_wp2_with fail);clear q0 q1 q2 q3 c1' c2' c3'
   go_loopw [33] (fun i wr2=>∃ j2:Nat,j2<=qs.length/\i=.int .i64 j2/\Up wr wr2/\∀ q,(hq:q<qs.length)->q<j2->mostB d qs[q]=false)
    (fun i _=>qs.length - (intOf i).toNat)
   case atStart=>exact ⟨0,by omega,rfl,Hwx.out,fun q _ h=>by omega⟩
   case round =>
    obtain ⟨j2,hj2,rfl,hu2,hpre2⟩:=hrel;have Hu2:=hid hu2;have Hpre2:=hid hpre2;clear hu2 hpre2
    by_cases hlt2:j2<qs.length
    ·obtain ⟨bq,oq,cq,rfl,hbq,hlq,hcq,hdq⟩:=(Hx3.out.up (stable_bod d) Hu2.out).at hlt2;obtain ⟨sa1,sn1,sc1,sa2,sn2,sc2,rfl⟩:=bod_two hdq;have n0:=hcq 0 _ rfl;have n1:=hcq 1 _ rfl;simp only [Nat.add_zero] at n0;have Htrue2:=hid (fun (e:mostB d qs[j2]=true)=>show RES=true from Htrue.out (any_take_T hlt2 e))
     have Hnext2:=hid (fun (e:mostB d qs[j2]=false)=>show ∀ q,(hq:q<qs.length)->q<j2+1->mostB d qs[q]=false from fun q hq h=>by
      by_cases hqj:q=j2
      ·subst hqj;exact e
      ·exact Hpre2.out q hq (by omega))
     (have i2:(0:Int)<=(j2:Int):=by omega);(have i3:(j2:Int)<(qs.length:Int):=by omega);have Hmo:=hid (fun W (u:Up wr W)=>Hih.out qs[j2] (.slice sa1 sn1 sc1) (.slice sa2 sn2 sc2) W (stable_bod d _ _ _ _ _ _ (Keep.upS u) hdq));change Hid (∀ W,Up wr W->Calls _ _ _ _ _) at Hmo;clear hcq hlq hbq hdq;generalize mostB d qs[j2]=mb at *
     cases mb with
     |true =>
      have hr:=Htrue2.out rfl;subst hr;go_wp2_with (go_at_call 53;go_must (refine (Hmo.out _ ((Up.refl wr).alloc _)).mono ?_;rintro e w5 ⟨rfl,hu5⟩))
      go_ret
      exact ⟨rfl,(Hu.out.trans (Hu2.out.alloc _)).trans hu5⟩
     |false =>
      have Hn2:=hid (Hnext2.out rfl);clear Hnext2 Htrue2;go_wp2_with (go_at_call 53;go_must (refine (Hmo.out _ ((Up.refl wr).alloc _)).mono ?_;rintro e w5 ⟨rfl,hu5⟩))
      go_roundw
      (case rel=>exact ⟨j2+1,by omega,by go_num,(Hu2.out.alloc _).trans hu5,Hn2.out⟩);case measure=>simp [intOf];omega
    ·have Hfalse:=hid (Hnext.out (by
      apply Bool.eq_false_iff.2;intro h;rw [List.any_eq_true] at h;obtain ⟨s,hs,h⟩:=h;obtain ⟨q,hq,rfl⟩:=List.getElem_of_mem hs;rw [Hpre2.out q hq (by omega)] at h;cases h))
     go_wp2_with fail
     go_roundw
     (case rel=>exact ⟨j+1,by have:=Hlt.out;omega,by have:=Hlt.out;go_num,Hu.out.trans Hu2.out,Hfalse.out⟩);case measure=>have:=Hlt.out;simp [intOf];omega
  ·have hr:RES=false:=by
    rw [←HR.out];apply Bool.eq_false_iff.2;intro h;rw [List.any_eq_true] at h;obtain ⟨s,hs,h⟩:=h;obtain ⟨q,hq,rfl⟩:=List.getElem_of_mem hs;rw [Hpre.out q hq (by omega)] at h;cases h
   subst hr;go_wp2_with fail
   go_ret
   exact ⟨rfl,Hu.out⟩
theorem most_r : ∀ d,MostC d
 |0=>fun b vv vu w h=>h.elim
 |d+1=>most_step d (most_r d)
end Go.Proofs.YtbceccblepckhaaGreatDoor
