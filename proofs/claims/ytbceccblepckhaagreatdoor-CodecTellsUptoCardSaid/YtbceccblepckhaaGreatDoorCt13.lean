/-
  Two bodies put together, in plain Lean.
  The body of bytes, in plain Lean.
  Package wire: Tag, fixed, Add, onto a row of the call's own.
  Package wire in plain Lean: a number comes back.
  Package wire in plain Lean: what is written is read.
-/
import Derived.Test.YtbceccblepckhaaGreatDoorCt12
set_option maxHeartbeats 400000
set_option linter.unusedVariables false
namespace Go.Proofs.YtbceccblepckhaaGreatDoor
open Go.RowKit
def setV (fs:List Fld) (l:List Val) (v:Val):List Val:=setG (fun y:Val=>y.1) fs l v (fun F=>plainN F v)
def bothV (jb:Int->Bod->Bod->Bod) (f:Fil) (x:Fld) (old:Option Val) (v:Val):Val :=
 match old with
 |none=>v
 |some o =>
  if x.many=true then (v.1,o.2.1++v.2.1,o.2.2.1++v.2.2.1,o.2.2.2++v.2.2.2)
  else if x.kind=10 then (v.1,v.2.1,v.2.2.1,[jb (msgI f x.type) (o.2.2.2.headD bod0) (v.2.2.2.headD bod0)])
  else v
def joinV (jb:Int->Bod->Bod->Bod) (f:Fil) (fs:List Fld) (l:List Val) (v:Val):List Val :=
 match fldN fs v.1 with
 |none=>l
 |some x=>setV fs l (bothV jb f x (findV l v.1) v)
def joinB (f:Fil):Nat->Int->Bod->Bod->Bod
 |0,_,a,_=>a
 |k+1,msg,a,b=>match f.msgs[msg.toNat]? with
  |none=>a
  |some m=>.mk (b.values.foldl (joinV (joinB f k) f m.fields) a.values) (a.unknown++b.unknown)
abbrev RisingV (l:List Val):Prop:=l.Pairwise fun a b=>a.1<b.1
def UnkLe (N:Nat):Nat->Bod->Prop
 |0,b=>b.unknown.length<=N
 |k+1,b=>b.unknown.length<=N/\∀ v∈b.values,∀ s∈v.2.2.2,UnkLe N k s
theorem UnkLe.top {N k:Nat} {b:Bod} (h:UnkLe N k b):b.unknown.length<=N:=by cases k with|zero=>exact h|succ k=>exact h.1
theorem UnkLe.mono {N M:Nat} (h:N<=M):∀ {k:Nat} {b:Bod},UnkLe N k b->UnkLe M k b
 |0,b,hb=>Nat.le_trans hb h
 |k+1,b,hb=>⟨Nat.le_trans hb.1 h,fun v hv s hs=>UnkLe.mono h (hb.2 v hv s hs)⟩
theorem findV_mem {l:List Val} {n:Int} {v:Val} (h:findV l n=some v):v∈l/\v.1=n:=⟨List.mem_of_find?_eq_some h,by have:=List.find?_some h;simpa using this⟩
theorem rising_find {l:List Val} (h:RisingV l) {v:Val} (hv:v∈l):findV l v.1=some v:=by
 induction l with
 |nil=>cases hv
 |cons a l ih =>
  rcases List.mem_cons.1 hv with rfl|hv'
  ·unfold findV;rw [List.find?_cons_of_pos (by simp)]
  ·have h1:=List.rel_of_pairwise_cons h hv';unfold findV;rw [List.find?_cons_of_neg (by simp;omega)];exact ih (List.Pairwise.of_cons h) hv'
theorem low_split {l:List Val} (h:RisingV l) (n:Int):l.take (l.takeWhile fun x=>decide (x.1<n)).length=l.filter (fun x=>decide (x.1<n))/\l.drop (l.takeWhile fun x=>decide (x.1<n)).length=l.filter (fun x=>!decide (x.1<n)):=by
 induction l with
 |nil=>exact ⟨rfl,rfl⟩
 |cons a l ih =>
  obtain ⟨h1,h2⟩:=ih (List.Pairwise.of_cons h)
  by_cases ha:a.1<n
  ·rw [List.takeWhile_cons,if_pos (by simpa using ha),List.filter_cons,List.filter_cons,if_pos (by simpa using ha),if_neg (by simpa using ha),List.length_cons,List.take_succ_cons,List.drop_succ_cons,h1,h2];exact ⟨rfl,rfl⟩
  ·(have hall:∀ x∈l,¬ x.1<n:=fun x hx=>by have:=List.rel_of_pairwise_cons h hx;omega);have e1:l.filter (fun x=>decide (x.1<n))=[]:=List.filter_eq_nil_iff.2 (fun x hx=>by simpa using hall x hx);have e2:l.filter (fun x=>!decide (x.1<n))=l:=List.filter_eq_self.2 (fun x hx=>by simpa using hall x hx);rw [List.takeWhile_cons,if_neg (by simpa using ha),List.filter_cons,List.filter_cons,if_neg (by simpa using ha),if_pos (by simpa using ha),e1,e2];exact ⟨rfl,rfl⟩
theorem insG_eq {l:List Val} (h:RisingV l) (v:Val):insG (fun y:Val=>y.1) l v=l.filter (fun x=>decide (x.1<v.1))++v::l.filter (fun x=>!decide (x.1<v.1)):=by
 unfold insG;rw [(low_split h v.1).1,(low_split h v.1).2]
theorem rising_ins {l:List Val} (h:RisingV l) {v:Val} (hn:∀ x∈l,x.1≠v.1):RisingV (insG (fun y:Val=>y.1) l v):=by
 rw [insG_eq h];refine List.pairwise_append.2 ⟨h.sublist List.filter_sublist,List.pairwise_cons.2 ⟨fun x hx=>?_,h.sublist List.filter_sublist⟩,fun x hx y hy=>?_⟩
 ·have h1:=(List.mem_filter.1 hx);have:=hn x h1.1;(have h2:¬ x.1<v.1:=by simpa using h1.2);omega
 ·(have h1:x.1<v.1:=by simpa using (List.mem_filter.1 hx).2);rcases List.mem_cons.1 hy with rfl|hy
  ·exact h1
  ·(have h2:¬ y.1<v.1:=by simpa using (List.mem_filter.1 hy).2);omega
theorem keepN_ne {fs:List Fld} {x:Fld} {n y:Int} (h:keepN fs x n y=true):y≠n:=by
 unfold keepN at h;rw [Bool.and_eq_true] at h;simpa using h.1
theorem rising_set {fs:List Fld} {l:List Val} (h:RisingV l) (v:Val):RisingV (setV fs l v):=by
 unfold setV setG;split
 ·exact h
 ·split
  ·exact h.sublist List.filter_sublist
  ·exact rising_ins (h.sublist List.filter_sublist) (fun x hx=>keepN_ne (List.mem_filter.1 hx).2)
theorem set_len (fs:List Fld) (l:List Val) (v:Val):(setV fs l v).length<=l.length+1:=by
 unfold setV setG;split
 ·omega
 ·rename_i x _;have h:=filter_len (fun y:Val=>keepN fs x v.1 y.1) l;split
  ·simp only at h ⊢;omega
  ·unfold insG;simp only [List.length_append,List.length_cons,List.length_take,List.length_drop] at h ⊢;omega
theorem set_mem {fs:List Fld} {l:List Val} {v y:Val} (h:y∈setV fs l v):y∈l∨y=v:=setG_mem _ _ _ _ _ y h
theorem set_mem_iff {fs:List Fld} {l:List Val} (h:RisingV l) {v:Val} {x:Fld} (hx:fldN fs v.1=some x) (y:Val):y∈setV fs l v ↔ (y∈l/\keepN fs x v.1 y.1=true)∨(plainN x v=false/\y=v):=by
 unfold setV setG;simp only [hx]
 by_cases hp:plainN x v=true
 ·rw [if_pos hp,List.mem_filter,hp];simp
 ·rw [if_neg hp,insG_eq (h.sublist List.filter_sublist)];(have hp':plainN x v=false:=by simpa using hp);rw [hp'];simp only [List.mem_append,List.mem_cons,List.mem_filter];constructor
  ·rintro (h|h|h)
   ·exact .inl h.1
   ·exact .inr ⟨trivial,h⟩
   ·exact .inl h.1
  ·rintro (h|h)
   ·by_cases hlt:y.1<v.1
    ·exact .inl ⟨h,by simpa using hlt⟩
    ·exact .inr (.inr ⟨h,by simpa using hlt⟩)
   ·exact .inr (.inl h.2)
theorem find_iff {l:List Val} (h:RisingV l) (n:Int) (u:Val):findV l n=some u ↔ u∈l/\u.1=n :=
 ⟨findV_mem,fun ⟨h1,h2⟩=>by rw [←h2];exact rising_find h h1⟩
theorem find_set {fs:List Fld} {l:List Val} (h:RisingV l) {v:Val} {x:Fld} (hx:fldN fs v.1=some x) (n:Int) :
  findV (setV fs l v) n=if n=v.1 then (if plainN x v=true then none else some v) else if keepN fs x v.1 n=true then findV l n else none:=by
 have hr:=rising_set (fs:=fs) h v;apply Option.ext;intro u;rw [find_iff hr,set_mem_iff h hx]
 by_cases hn:n=v.1
 ·subst hn;rw [if_pos rfl];constructor
  ·rintro ⟨h1|h1,h2⟩
   ·exact absurd h2 (keepN_ne h1.2)
   ·rw [if_neg (by rw [h1.1];decide),h1.2]
  ·intro h1;split at h1
   ·cases h1
   ·rename_i hp;obtain rfl:=Option.some.inj h1;exact ⟨.inr ⟨by simpa using hp,rfl⟩,rfl⟩
 ·rw [if_neg hn];constructor
  ·rintro ⟨h1|h1,h2⟩
   ·rw [h2] at h1;rw [if_pos h1.2];exact (find_iff h n u).2 ⟨h1.1,h2⟩
   ·rw [h1.2] at h2;exact absurd h2.symm hn
  ·intro h1;split at h1
   ·rename_i hk;obtain ⟨h2,h3⟩:=(find_iff h n u).1 h1;exact ⟨.inl ⟨h2,by rw [h3];exact hk⟩,h3⟩
   ·cases h1
theorem valsN_zero {wv:Fld->Val->Int} {fs:List Fld}:∀ {l:List Val} {prev:Option Int} {had:List Int},valsN wv fs prev had l=0 ->
  (∀ v∈l,∃ x,fldN fs v.1=some x/\wv x v=0/\(0<x.choice->x.choice ∉ had))/\RisingV l/\(∀ p,prev=some p->∀ v∈l,p<v.1) /\
   l.Pairwise (fun a b=>∀ x y,fldN fs a.1=some x->fldN fs b.1=some y->0<x.choice->x.choice≠y.choice)
 |[],_,_,_=>⟨fun v h=>(by cases h),List.Pairwise.nil,fun _ _ v h=>(by cases h),List.Pairwise.nil⟩
 |v::l,prev,had,h=>by
  rw [valsN] at h
  cases hx:fldN fs v.1 with
  |none=>rw [hx] at h;cases h
  |some x =>
   rw [hx] at h;simp only at h;split at h
   ·cases h
   rename_i hb;split at h
   ·contradiction
   rename_i hw;split at h
   ·cases h
   rename_i hc;obtain ⟨h1,h2,h3,h4⟩:=valsN_zero h;refine ⟨fun u hu=>?_,List.pairwise_cons.2 ⟨fun u hu=>h3 _ rfl u hu,h2⟩,fun p hp u hu=>?_,List.pairwise_cons.2 ⟨fun u hu x' y hx' hy hpos=>?_,h4⟩⟩
   ·rcases List.mem_cons.1 hu with rfl|hu
    ·exact ⟨x,hx,by simpa using hw,fun g1 g2=>hc ⟨g1,g2⟩⟩
    ·obtain ⟨y,e1,e2,e3⟩:=h1 u hu;refine ⟨y,e1,e2,fun g1 g2=>e3 g1 ?_⟩;split
     ·exact List.mem_cons_of_mem _ g2
     ·exact g2
   ·have hpv:p<v.1:=by
     subst hp;(have:¬ v.1<=p:=by simpa [badPrev] using hb);omega
    rcases List.mem_cons.1 hu with rfl|hu
    ·exact hpv
    ·have:=h3 _ rfl u hu;omega
   ·rw [hx] at hx';obtain rfl:=Option.some.inj hx';obtain ⟨y',e1,e2,e3⟩:=h1 u hu;rw [hy] at e1;obtain rfl:=Option.some.inj e1;intro e;refine e3 (by omega) ?_;rw [if_pos hpos,←e];exact List.mem_cons_self
theorem wrongVF_zero {wb:Int->Bod->Int} {f:Fil} {x:Fld} {v:Val} (h:wrongVF wb f x v=0) :
  (countN x.kind v).2=true/\1<=(countN x.kind v).1/\(countN x.kind v).1<=60/\(x.many=false->(countN x.kind v).1=1)/\plainN x v=false/\(∀ n∈v.2.1,fitsN x.kind n=0)/\(∀ b∈v.2.2.1,byteN x.kind b=0)/\∀ s∈v.2.2.2,wb (msgI f x.type) s=0:=by
 unfold wrongVF at h;split at h
 ·cases h
 rename_i h1;split at h
 ·cases h
 rename_i h2;split at h
 ·cases h
 rename_i h3;split at h
 ·contradiction
 rename_i h4;split at h
 ·contradiction
 rename_i h5;refine ⟨by simpa using h1,by omega,by omega,fun hm=>?_,by simpa using h3,fun n hn=>?_,fun b hb=>?_,fun s hs=>?_⟩
 ·by_cases g:1<(countN x.kind v).1
  ·exact absurd (.inr (.inr ⟨hm,g⟩)) h2
  ·omega
 ·obtain ⟨i,hi,rfl⟩:=List.getElem_of_mem hn;have:=firstN_zero _ (by simpa using h4) i (by simpa using hi);simpa using this
 ·obtain ⟨i,hi,rfl⟩:=List.getElem_of_mem hb;have:=firstN_zero _ (by simpa using h5) i (by simpa using hi);simpa using this
 ·obtain ⟨i,hi,rfl⟩:=List.getElem_of_mem hs;have:=firstN_zero _ h i (by simpa using hi);simpa using this
theorem count_sum {kind:Int} {v:Val} (h:(countN kind v).2=true):v.2.1.length<=(countN kind v).1/\v.2.2.1.length<=(countN kind v).1/\v.2.2.2.length<=(countN kind v).1:=by
 unfold countN at h ⊢;split at h
 ·rename_i g;rw [if_pos g];simp only [beq_iff_eq] at h;simp only;omega
 ·rename_i g;rw [if_neg g];split at h
  ·rename_i g2;rw [if_pos g2];simp only [beq_iff_eq] at h;simp only;omega
  ·rename_i g2;rw [if_neg g2];simp only [beq_iff_eq] at h;simp only;omega
theorem count_subs {kind:Int} {v:Val} (h:kind=10):(countN kind v).1=v.2.2.2.length:=by
 subst h;rfl
theorem wrongBF_zero {wv:Fld->Val->Int} {m:Msg} {b:Bod} (h:wrongBF wv m b=0):valsN wv m.fields none [] b.values=0/\∀ r∈b.unknown,unkN m.fields r=0:=by
 unfold wrongBF at h;split at h
 ·contradiction
 rename_i h1;refine ⟨by simpa using h1,fun r hr=>?_⟩;obtain ⟨i,hi,rfl⟩:=List.getElem_of_mem hr;have:=firstN_zero _ h i (by simpa using hi);simpa using this
theorem wrongB_zero {f:Fil} {k:Nat} {msg:Int} {b:Bod} (h:wrongB f k msg b=0):∃ k' m,k=k'+1/\f.msgs[msg.toNat]? = some m/\wrongBF (wrongVF (wrongB f k') f) m b=0:=by
 cases k with
 |zero=>cases h
 |succ k =>
  rw [wrongB] at h
  cases hm:f.msgs[msg.toNat]? with
  |none=>rw [hm] at h;cases h
  |some m=>rw [hm] at h;exact ⟨k,m,rfl,rfl,h⟩
end Go.Proofs.YtbceccblepckhaaGreatDoor
namespace Go.Proofs.YtbceccblepckhaaGreatDoor
def usg (i:Int):Nat:=if 0<=i then i.toNat else (i+18446744073709551616).toNat
def backC (kind:Int) (n:Nat):Nat :=
 if kind=2 then usg (unzig n) else if kind=4 then min n 1
 else if kind=5 then (if n % 4294967296<2147483648 then n % 4294967296 else n % 4294967296+18446744069414584320) else n
def headC (how:Int) (l:List UInt8):Nat × Nat × Int :=
 if how=0 then get l
 else if l.length<(if how=5 then 4 else 8) then (0,0,2) else (lowVal (l.take (if how=5 then 4 else 8)),(if how=5 then 4 else 8),0)
def packP (kind:Int):Nat->List UInt8->List Nat × Int
 |0,_=>([],0)
 |f+1,l =>
  if l=[] then ([],0)
  else if (headC (howC kind) l).2.2≠0 then ([],(headC (howC kind) l).2.2)
  else
   let p:=packP kind f (l.drop (headC (howC kind) l).2.1)
   if p.2≠0 then ([],p.2) else (backC kind (headC (howC kind) l).1::p.1,0)
def numbersC (x:Fld) (r:Rec):List Nat × Int :=
 if r.how=howC x.kind then ([backC x.kind r.bits],0)
 else if r.how≠2∨x.many=false then ([],8)
 else packP x.kind (r.bytes.length+1) r.bytes
def valueC (rd:List UInt8->Bod × Int) (x:Fld) (r:Rec):Val × Bool × Int :=
 if howC x.kind≠2 then ((x.number,(numbersC x r).1,[],[]),decide (0<(numbersC x r).1.length),(numbersC x r).2)
 else if r.how≠2 then ((x.number,[],[],[]),false,8)
 else if x.kind=8 then (if Lib.validD r.bytes=false then ((x.number,[],[],[]),false,9) else ((x.number,[],[r.bytes],[]),true,0))
 else if x.kind=9 then ((x.number,[],[r.bytes],[]),true,0)
 else if (rd r.bytes).2≠0 then ((x.number,[],[],[]),false,(rd r.bytes).2)
 else ((x.number,[],[],[(rd r.bytes).1]),true,0)
def maxV (v:Val):Nat:=max (max v.2.1.length v.2.2.1.length) v.2.2.2.length
def finC (fs:List Fld) (b:Bod) (v:Val):Bod × Int:=if 60<maxV v then (bod0,5) else (.mk (setV fs b.values v) b.unknown,0)
def addC (jn:Int->Bod->Bod->Bod × Int) (f:Fil) (fs:List Fld) (b:Bod) (x:Fld) (v:Val):Bod × Int :=
 match findV b.values x.number with
 |none=>finC fs b v
 |some o =>
  if x.many=true then finC fs b (v.1,o.2.1++v.2.1,o.2.2.1++v.2.2.1,o.2.2.2++v.2.2.2)
  else if x.kind=10 then
   (if (jn (msgI f x.type) (o.2.2.2.headD bod0) (v.2.2.2.headD bod0)).2≠0 then (bod0,(jn (msgI f x.type) (o.2.2.2.headD bod0) (v.2.2.2.headD bod0)).2)
    else finC fs b (v.1,v.2.1,v.2.2.1,[(jn (msgI f x.type) (o.2.2.2.headD bod0) (v.2.2.2.headD bod0)).1]))
  else finC fs b v
def joinL (ad:Bod->Fld->Val->Bod × Int) (fs:List Fld):List Val->Bod->Bod × Int
 |[],a=>(a,0)
 |v::l,a=>match fldN fs v.1 with
  |none=>joinL ad fs l a
  |some x=>if (ad a x v).2≠0 then (bod0,(ad a x v).2) else joinL ad fs l (ad a x v).1
def joinK (f:Fil):Nat->Int->Bod->Bod->Bod × Int
 |0,_,a,_=>(a,0)
 |k+1,msg,a,b=>match f.msgs[msg.toNat]? with
  |none=>(a,0)
  |some m =>
   let p:=joinL (addC (joinK f k) f m.fields) m.fields b.values a
   if p.2≠0 then (bod0,p.2) else (.mk p.1.values (p.1.unknown++b.unknown),0)
def readL (val:Fld->Rec->Val × Bool × Int) (ad:Bod->Fld->Val->Bod × Int) (fs:List Fld):List Rec->Bod->Bod × Int
 |[],out=>(out,0)
 |r::l,out=>match fldN fs r.number with
  |none=>readL val ad fs l (.mk out.values (out.unknown++[r]))
  |some x =>
   if (val x r).2.2≠0 then (bod0,(val x r).2.2)
   else if (val x r).2.1=false then readL val ad fs l out
   else if (ad out x (val x r).1).2≠0 then (bod0,(ad out x (val x r).1).2)
   else readL val ad fs l (ad out x (val x r).1).1
def readC (f:Fil):Nat->Int->List UInt8->Bod × Int
 |0,_,_=>(bod0,10)
 |k+1,msg,l =>
  if (parse l).2.1≠0 then (bod0,(parse l).2.1)
  else match f.msgs[msg.toNat]? with
   |none=>(bod0,0)
   |some m=>readL (fun x r=>valueC (fun bs=>readC f k (msgI f x.type) bs) x r) (addC (joinK f 12) f m.fields) m.fields (parse l).1 bod0
def parseA (f:Fil) (msg:Int) (l:List UInt8):Bod × Int :=
 if (wrongN f).1≠0 then (bod0,(wrongN f).1) else if msg<0∨f.msgs.length<=msg then (bod0,6) else readC f 12 msg l
open Go.RowKit
set_option maxRecDepth 100000
open Lib (hid)
theorem put_eq (base:Nat) (v:Value) (l:List UInt8) (X:Int) (x:Nat) (w:World) (hX:X=(x:Int)) (hx:x<2 ^ 64) (hl:l.length<=1099511627776)
  (hown:w.ownsRow base 5 1 v l.length (B8 l)) (hb:base<=w.heap.size) :
  Calls Tryz.prog 73 #[v,.int .u64 X] w fun e w'=>∃ v',e=.returned v'/\w'.ownsRow base 5 1 v' (l++Lib.uvarint x).length (B8 (l++Lib.uvarint x))/\Evo w w' v v':=by
 subst hX;exact put_own base v l x w hx hl hown hb
theorem tag_own (base:Nat) (v:Value) (l:List UInt8) (n h:Int) (w:World) (n0:0<=n) (n1:n<536870912) (h0:0<=h) (h1:h<8) (hl:l.length<=1099511627776)
  (hown:w.ownsRow base 5 1 v l.length (B8 l)) (hb:base<=w.heap.size) :
  Calls Tryz.prog 72 #[v,.int .i64 n,.int .i64 h] w fun e w'=>∃ v',e=.returned v'/\w'.ownsRow base 5 1 v' (l++tagB n.toNat h.toNat).length (B8 (l++tagB n.toNat h.toNat))/\Evo w w' v v':=by
 have hb2:=tag_bits n h n0 n1 h0 h1;have Hb2:=hid hb2;clear hb2
 go_enter Tryz.func72,Tryz.ntmps72
 (go_wp2_with fail);refine (put_eq base _ l _ (8*n.toNat+h.toNat) _ Hb2.out (by omega) hl hown hb).mono ?_;rintro e w1 ⟨v1,rfl,how1,hev1⟩;go_wp2_with fail
 go_ret
 exact ⟨_,rfl,how1,hev1⟩
theorem fixed_own (base:Nat) (v:Value) (l:List UInt8) (x size:Nat) (w:World) (hx:x<2 ^ 64) (hs:size<=8) (hl:l.length<=1099511627776)
  (hown:w.ownsRow base 5 1 v l.length (B8 l)) (hb:base<=w.heap.size) :
  Calls Tryz.prog 74 #[v,.int .u64 x,.int .i64 size] w fun e w'=>∃ v',e=.returned v'/\w'.ownsRow base 5 1 v' (l++lowB size x).length (B8 (l++lowB size x))/\Evo w w' v v':=by
 have Hx:=hid hx;clear hx
 go_enter Tryz.func74,Tryz.ntmps74
 go_wp2_with fail
 go_loopw [0,1,8] (fun s y i wr=>∃ (d:List UInt8) (z k:Nat),z<2 ^ 64/\k<=size/\y=.int .u64 z/\i=.int .i64 k/\d++lowB (size - k) z=lowB size x/\wr.ownsRow base 5 1 s (l++d).length (B8 (l++d))/\Evo w wr v s)
  (fun _ _ i _=>size - (intOf i).toNat)
 case atStart=>exact ⟨[],x,0,Hx.out,by omega,rfl,rfl,rfl,by simpa using hown,Evo.refl _ _⟩
 case round =>
  obtain ⟨d,z,k,hz,hk,rfl,rfl,hd,how,hev⟩:=hrel
  have hdl:(l++d).length<=1099511627776+8:=by
   have h1:=congrArg List.length hd;simp only [List.length_append,lowB_length] at h1 ⊢;omega
  (have hsz:base<=wr.heap.size:=by have:=hev.grown.size;omega);have Hz:=hid hz;clear hz;have Hd:=hid hd;clear hd;have Hev:=hid hev;clear hev
  by_cases hlt:k<size
  ·go_wp2_with (at_builtin;go_loud (refine wpList_app_one eU8 wr rfl _ _ rfl base _ _ _ rfl how rfl rfl (by intro u hu;simp at hu;subst hu;rfl) (by omega) (by unfold maxLen;omega) (by omega) ?_);intro v1 w1 how1 (hev1:Evo wr w1 u0 v1))
   go_roundw
   case rel =>
    refine ⟨d++[z.toUInt8],z / 256,k+1,by have:=Hz.out;omega,by omega,rfl,by go_num,?_,?_,Hev.out.trans hev1⟩
    ·rw [←Hd.out,show size - k=(size - (k+1))+1 by omega,lowB];simp
    ·have e:Value.int .u8 ((z:Int) % 256)=.int .u8 ((z.toUInt8.toNat:Nat):Int):=by
      rfl
     rw [e] at how1;simpa [B8,←List.append_assoc,Nat.add_assoc] using how1
   case measure=>simp [intOf];omega
  ·go_wp2_with fail
   go_ret
   have hd:=Hd.out;rw [show size - k=0 by omega,lowB,List.append_nil] at hd;rw [←hd];exact ⟨_,rfl,how,Hev.out⟩
theorem add_own (base:Nat) (v:Value) (l:List UInt8) (r:Rec) (vb:Value) (w:World) (hv:RdB (Av v) w vb r.bytes) (hr:wrongRec r=0) (hb64:r.bits<2 ^ 64) (hl:l.length<=1099511627776 - 4100)
  (hown:w.ownsRow base 5 1 v l.length (B8 l)) (hb:base<=w.heap.size) :
  Calls Tryz.prog 31 #[v,.agg #[.int .i64 r.number,.int .i64 r.how,.int .u64 r.bits,vb]] w fun e w'=>∃ v',e=.returned v'/\w'.ownsRow base 5 1 v' (l++oneB r).length (B8 (l++oneB r))/\Evo w w' v v':=by
 obtain ⟨n1,n2,hh,hb4,hy⟩:=wrongRec_ok hr;obtain ⟨ao,cap,rfl,hc1,hc2⟩:=hv.val;obtain ⟨number,how,bits,bytes⟩:=r;simp only at *;have htl:=tagB_length number.toNat how.toNat (by omega) (by omega);have Hb64:=hid hb64;clear hb64;have Hr:=hid hr;clear hr;have Hv:=hid hv;clear hv;have Hown:=hid hown;clear hown
 go_enter Tryz.func31,Tryz.ntmps31
 (go_wp2_with fail);refine (tag_own base _ l number how _ (by omega) (by omega) (by omega) (by omega) (by omega) (Hown.out.alloc _) (by simp;omega)).mono ?_;rintro e w1 ⟨v1,rfl,how1,hev1⟩;have hblk:=Evo.box hev1 (fun k hk=>(Hown.out.lt k hk).2);have c1:w1.cell? ⟨w.heap.size,1,none⟩=some (.int .i64 how):=cell_of_row w1 _ 1 _ _ _ hblk;have c2:w1.cell? ⟨w.heap.size,2,none⟩=some (.int .u64 (bits:Int)):=cell_of_row w1 _ 2 _ _ _ hblk;have c3:w1.cell? ⟨w.heap.size,3,none⟩=some (.slice ao bytes.length cap):=cell_of_row w1 _ 3 _ _ _ hblk;(have hs1:w.heap.size<w1.heap.size:=by have:=hev1.grown.size;simp at this;omega);(have hlt:(l++tagB number.toNat how.toNat).length<=1099511627776 - 4095:=by simp only [List.length_append];omega);have Hblk:=hid hblk;clear hblk;have hev:=Evo.of_alloc hev1;have Hev:=hid hev;clear hev;have How1:=hid how1;clear how1;have Hev1:=hid hev1;clear hev1;have Hlt:=hid hlt;clear hlt;have Hhy:=hid hy;clear hy;have Hb4:=hid hb4;clear hb4;rcases hh with rfl|rfl|rfl|rfl
 ·(go_wp2_with fail);refine (put_own base _ _ bits _ Hb64.out (by have:=Hlt.out;omega) How1.out (by omega)).mono ?_;rintro e w2 ⟨v2,rfl,how2,hev2⟩;go_wp2_with fail
  go_ret
  rw [List.append_assoc] at how2;exact ⟨_,rfl,how2,Hev.out.trans hev2⟩
 ·(go_wp2_with fail);refine (fixed_own base _ _ bits 8 _ Hb64.out (by omega) (by have:=Hlt.out;omega) How1.out (by omega)).mono ?_;rintro e w2 ⟨v2,rfl,how2,hev2⟩;go_wp2_with fail
  go_ret
  rw [List.append_assoc] at how2;exact ⟨_,rfl,how2,Hev.out.trans hev2⟩
 ·(go_wp2_with fail);refine (fixed_own base _ _ bits 4 _ Hb64.out (by omega) (by have:=Hlt.out;omega) How1.out (by omega)).mono ?_;rintro e w2 ⟨v2,rfl,how2,hev2⟩;go_wp2_with fail
  go_ret
  rw [List.append_assoc] at how2;exact ⟨_,rfl,how2,Hev.out.trans hev2⟩
 ·have Hv1:=hid (Hv.out.keep stable_u8 (Keep.evo Hev.out))
  have hne:v1.ownBlock≠some w.heap.size:=fun e=>by
   rcases How1.out.2 with ⟨rfl,_⟩|⟨g,cap',cur,rfl,_,hg,_⟩
   ·cases e
   ·simp only [Value.ownBlock,Option.some.injEq] at e;subst e;rw [Hblk.out] at hg;simp at hg
  have Hne:=hid hne;clear hne;have hby:bytes.length<=4000:=by rcases Hhy.out with h|h <;> omega
  have hsum:(l++tagB number.toNat (Int.toNat 2)++Lib.uvarint bytes.length).length+bytes.length<=1099511627776+100:=by
   have h1:=Hlt.out;have h2:=Lib.uvarint_length64 (x:=bytes.length) (by omega);rw [List.length_append];omega
  have Hsum:=hid hsum;clear hsum;go_wp2_with fail
  go_region_held3 (fun w'=>w'.cell? ⟨w.heap.size,3,none⟩=some (.slice ao bytes.length cap)) (first|go_keep|exact cell_of_row _ _ 3 _ _ _ (hev2.undrew.blk Hblk.out Hne.out)|exact cell_of_row _ _ 3 _ _ _ ((hev2.undrew.trans hev3).blk Hblk.out Hne.out))
   (first|(go_at_call 73;refine (put_eq base _ _ _ bytes.length _ (by rw [IntKind.wrap_u64];omega) (by omega) (by have:=Hlt.out;omega) How1.out.drew (by simp;omega)).mono ?_;rintro e w2 ⟨v2,rfl,how2,hev2⟩;have Hrd2:=hid (RdB.news (Hv1.out.keep stable_u8 (Keep.evo hev2.undrew)));have hs2:base<=w2.heap.size:=by have h9:=hev2.undrew.grown.size;omega)|(refine step_app eU8 _ (by rfl) _ _ (by rfl) base v2 _ _ (by rfl) how2 ao bytes.length cap (by rfl) (B8 bytes) (by simp [B8]) (Hrd2.out.2.1) (Hrd2.out.2.2) (B8_one _) (by have:=Hsum.out;omega) (by have:=Hsum.out;unfold maxLen;omega) (by omega) ?_;intro v3 w3 how3 hev3))
  go_wp2_with fail
  go_ret
  refine ⟨_,rfl,?_,Hev.out.trans (hev2.undrew.trans hev3)⟩;(have e:l++oneB ⟨number,2,bits,bytes⟩=l++tagB number.toNat (Int.toNat 2)++Lib.uvarint bytes.length++bytes:=by simp [oneB]);rw [e,List.length_append,B8_append];exact how3
end Go.Proofs.YtbceccblepckhaaGreatDoor
namespace Go.Proofs.YtbceccblepckhaaGreatDoor
open Go.Lib
theorem unzig_range {n:Nat} (h:n<2 ^ 64):-9223372036854775808<=unzig n/\unzig n<=9223372036854775807:=by
 unfold unzig;split <;> omega
theorem getF_min : ∀ (l:List UInt8) (i n:Nat),(getF i n l).2.2=0->∃ x,(getF i n l).1=n+x*2 ^ (7*i)/\(uvarint x).length+i<=(getF i n l).2.1
 |[],i,n,h=>by simp [getF] at h
 |c::r,i,n,h=>by
  rw [getF] at h ⊢
  by_cases h9:i=9/\1<c.toNat
  ·rw [if_pos h9] at h;simp at h
  ·rw [if_neg h9] at h ⊢
   by_cases h1:c.toNat<128
   ·rw [if_pos h1] at h ⊢;refine ⟨c.toNat,rfl,?_⟩;rw [uvarint_small h1];simp;omega
   ·rw [if_neg h1] at h ⊢;obtain ⟨x,e,hl⟩:=getF_min r (i+1) _ h;refine ⟨c.toNat % 128+x*128,?_,?_⟩
    ·(have h2:2 ^ (7*(i+1))=128*2 ^ (7*i):=by rw [show 7*(i+1)=7+7*i by omega,Nat.pow_add]);rw [e,Nat.add_mul,h2,Nat.mul_assoc];omega
    ·by_cases hx:c.toNat % 128+x*128<128
     ·rw [uvarint_small hx];have:=uvarint_pos x;simp;omega
     ·rw [uvarint_big (by omega),List.length_cons,show (c.toNat % 128+x*128) / 128=x by omega];omega
theorem get_min {l:List UInt8} (h:(get l).2.2=0):(uvarint (get l).1).length<=(get l).2.1:=by
 obtain ⟨x,e,hl⟩:=getF_min l 0 0 h;simp only [Nat.mul_zero,Nat.pow_zero,Nat.mul_one,Nat.zero_add,Nat.add_zero] at e hl;rw [e];exact hl
theorem oneP_right {l:List UInt8} (h:(oneP l).1=0) (hl:l.length<=4000):wrongRec (oneP l).2.1=0/\(oneB (oneP l).2.1).length<=(oneP l).2.2:=by
 revert h;have hg:=@get_ok l;have hgm:=@get_min l;unfold oneP;simp only;generalize get l=g at *;obtain ⟨tag,at_,e0⟩:=g;simp only at *
 by_cases he:e0=0
 ·subst he;obtain ⟨k1,k2,k3,k4⟩:=hg rfl;have hmin:=hgm rfl;rw [if_neg (by simp)]
  by_cases hn:tag / 8<1∨536870912<=tag / 8
  ·rw [if_pos hn];intro h;simp at h
  ·rw [if_neg hn];have ht:∀ H,tag % 8=H->tagB (tag / 8) H=uvarint tag:=fun H hH=>by unfold tagB;congr 1;omega
   by_cases h0:tag % 8=0
   ·rw [if_pos h0];have h2:=@get_min (l.drop at_);generalize get (l.drop at_)=h at *
    by_cases h1:h.2.2=0
    ·rw [if_neg (by simpa using h1)];intro _;have h2:=h2 h1;refine ⟨by simp [wrongRec];omega,?_⟩;simp only [oneB,Int.toNat_natCast,if_pos,List.length_append];rw [show Int.toNat 0=0 from rfl,ht 0 h0];omega
    ·rw [if_pos h1];intro h;exact absurd h h1
   ·rw [if_neg h0]
    by_cases h8:tag % 8=1
    ·rw [if_pos h8];generalize numB 8 (l.drop at_)=h at *
     by_cases h1:h.2=0
     ·rw [if_neg (by simpa using h1)];intro _;refine ⟨by simp [wrongRec];omega,?_⟩;simp only [oneB,Int.toNat_natCast,List.length_append];rw [show Int.toNat 1=1 from rfl,ht 1 h8,if_neg (by decide),if_pos trivial,lowB_length];omega
     ·rw [if_pos h1];intro h;exact absurd h h1
    ·rw [if_neg h8]
     by_cases h5:tag % 8=5
     ·rw [if_pos h5]
      have hlt:(numB 4 (l.drop at_)).1<4294967296:=by
       unfold numB;split
       ·simp
       ·have:=lowVal_lt ((l.drop at_).take 4);rw [List.length_take] at this;have h2:2 ^ (8*min 4 (l.drop at_).length)<=2 ^ 32:=Nat.pow_le_pow_right (by decide) (by omega);simp only;omega
      generalize numB 4 (l.drop at_)=h at *
      by_cases h1:h.2=0
      ·rw [if_neg (by simpa using h1)];intro _;refine ⟨by simp [wrongRec];omega,?_⟩;simp only [oneB,Int.toNat_natCast,List.length_append];rw [show Int.toNat 5=5 from rfl,ht 5 h5,if_neg (by decide),if_neg (by decide),if_pos trivial,lowB_length];omega
      ·rw [if_pos h1];intro h;exact absurd h h1
     ·rw [if_neg h5]
      by_cases h2:tag % 8=2
      ·rw [if_pos h2];have hm2:=@get_min (l.drop at_);generalize get (l.drop at_)=h at *
       by_cases h1:h.2.2=0
       ·rw [if_neg (by simpa using h1)];have hm2:=hm2 h1
        by_cases hx:(l.drop at_).length - h.2.1<h.1
        ·rw [if_pos hx];intro h;simp at h
        ·rw [if_neg hx];intro _;rw [List.length_drop] at hx
         have hlen:(((l.drop at_).drop h.2.1).take h.1).length=h.1:=by
          rw [List.length_take,List.length_drop,List.length_drop];omega
         refine ⟨?_,?_⟩
         ·simp only [wrongRec,hlen];simp;omega
         ·simp only [oneB,Int.toNat_natCast,List.length_append,hlen];rw [show Int.toNat 2=2 from rfl,ht 2 h2,if_neg (by decide),if_neg (by decide),if_neg (by decide)];rw [List.length_append,hlen];omega
       ·rw [if_pos h1];intro h;exact absurd h h1
      ·rw [if_neg h2];intro h;simp at h
 ·rw [if_pos he];intro h;exact absurd h he
theorem oneB_pos (r:Rec):0<(oneB r).length:=by
 unfold oneB tagB;rw [List.length_append];have:=uvarint_pos (8*r.number.toNat+r.how.toNat);omega
theorem parseG_right : ∀ (f:Nat) (l:List UInt8),l.length<=4000->(parseG f l).2.1=0->l.length<f->(∀ r∈(parseG f l).1,wrongRec r=0/\r.bits<2 ^ 64)/\((parseG f l).1.flatMap oneB).length<=l.length
 |0,_,_,_,h=>by omega
 |f+1,l,hl,h,hf=>by
  rw [parseG] at h ⊢
  by_cases hn:l=[]
  ·rw [if_pos hn];simp
  ·rw [if_neg hn] at h ⊢
   by_cases ho:(oneP l).1=0
   ·have hk:=oneP_ok ho;have hr:=oneP_right ho hl;rw [if_neg (by simpa using ho)] at h ⊢;simp only at h ⊢
    by_cases hp:(parseG f (l.drop (oneP l).2.2)).2.1=0
    ·rw [if_neg (by simpa using hp)];obtain ⟨h1,h2⟩:=parseG_right f _ (by rw [List.length_drop];omega) hp (by rw [List.length_drop];omega);refine ⟨fun r hr'=>?_,?_⟩
     ·rcases List.mem_cons.1 hr' with rfl|hx
      ·exact ⟨hr.1,hk.2.2.1⟩
      ·exact h1 r hx
     ·rw [List.flatMap_cons,List.length_append];rw [List.length_drop] at h2;omega
    ·rw [if_pos hp] at h;exact absurd h hp
   ·rw [if_pos ho] at h;exact absurd h ho
end Go.Proofs.YtbceccblepckhaaGreatDoor
