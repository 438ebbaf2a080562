/-
  A value comes to a right body, two bodies are put together: the right one, or too many; in plain Lean.
  What is read is right, in plain Lean.
-/
import Derived.Test.YtbceccblepckhaaGreatDoorCt26
set_option linter.unusedVariables false
namespace Go.Proofs.YtbceccblepckhaaGreatDoor
open Go.RowKit
structure FitV (wb:Int->Bod->Int) (f:Fil) (x:Fld) (v:Val):Prop where
 cnt:(countN x.kind v).2=true
 one:1<=(countN x.kind v).1
 alone:x.many=false->(countN x.kind v).1=1
 nums:∀ n∈v.2.1,fitsN x.kind n=0
 texts:∀ b∈v.2.2.1,byteN x.kind b=0
 subs:∀ s∈v.2.2.2,wb (msgI f x.type) s=0
theorem wrongVF_iff {wb:Int->Bod->Int} {f:Fil} {x:Fld} {v:Val}:wrongVF wb f x v=0 ↔ FitV wb f x v/\(countN x.kind v).1<=60/\plainN x v=false:=by
 constructor
 ·intro h;obtain ⟨h1,h2,h3,h4,h5,h6,h7,h8⟩:=wrongVF_zero h;exact ⟨⟨h1,h2,h4,h6,h7,h8⟩,h3,h5⟩
 ·rintro ⟨⟨h1,h2,h4,h6,h7,h8⟩,h3,h5⟩;unfold wrongVF;rw [if_neg (by rw [h1];decide),if_neg (by rintro (h|h|⟨h,g⟩);omega;omega;have:=h4 h;omega),if_neg (by rw [h5];decide)];rw [firstN_all (q:=fitsN x.kind) h6,if_neg (by decide),firstN_all (q:=byteN x.kind) h7,if_neg (by decide)];exact firstN_all h8
theorem max_count {kind:Int} {v:Val} (h:(countN kind v).2=true):maxV v=(countN kind v).1:=by
 unfold maxV;unfold countN at h ⊢
 by_cases g:kind=8∨kind=9
 ·rw [if_pos g] at h ⊢;simp only [beq_iff_eq] at h ⊢;omega
 ·rw [if_neg g] at h ⊢
  by_cases g2:kind=10
  ·rw [if_pos g2] at h ⊢;simp only [beq_iff_eq] at h ⊢;omega
  ·rw [if_neg g2] at h ⊢;simp only [beq_iff_eq] at h ⊢;omega
theorem plain_many {x:Fld} {v:Val} (h:x.many=true):plainN x v=false:=by
 unfold plainN;rw [h];rfl
theorem plain_sub {x:Fld} {v:Val} (h:x.kind=10):plainN x v=false:=by
 unfold plainN;rw [h];simp
theorem fit_both {wb:Int->Bod->Int} {jb:Int->Bod->Bod->Bod} {f:Fil} {x:Fld} {o v:Val} (ho:FitV wb f x o) (hv:FitV wb f x v)
  (hj:x.many=false->x.kind=10->wb (msgI f x.type) (jb (msgI f x.type) (o.2.2.2.headD bod0) (v.2.2.2.headD bod0))=0):FitV wb f x (bothV jb f x (some o) v):=by
 unfold bothV;simp only
 by_cases hm:x.many=true
 ·rw [if_pos hm];obtain ⟨c1,c2⟩:=countN_app (n:=v.1) ho.cnt hv.cnt;have:=ho.one;refine ⟨c1,by omega,(fun h=>by rw [hm] at h;cases h),fun n hn=>?_,fun n hn=>?_,fun n hn=>?_⟩
  ·rcases List.mem_append.1 hn with h|h
   ·exact ho.nums n h
   ·exact hv.nums n h
  ·rcases List.mem_append.1 hn with h|h
   ·exact ho.texts n h
   ·exact hv.texts n h
  ·rcases List.mem_append.1 hn with h|h
   ·exact ho.subs n h
   ·exact hv.subs n h
 ·rw [if_neg hm];have hm':x.many=false:=by simpa using hm
  by_cases hk:x.kind=10
  ·rw [if_pos hk];have hj:=hj hm' hk;generalize jb (msgI f x.type) (o.2.2.2.headD bod0) (v.2.2.2.headD bod0)=J at *;(have hc:countN x.kind (v.1,v.2.1,v.2.2.1,[J])=(1,v.2.1.length+v.2.2.1.length==0):=by rw [hk];rfl);(have hc2:(v.2.1.length+v.2.2.1.length==0)=true:=by have:=hv.cnt;rw [hk] at this;exact this);exact ⟨by rw [hc];exact hc2,by rw [hc];exact Nat.le_refl _,fun _=>by rw [hc],hv.nums,hv.texts,fun s hs=>by obtain rfl:s=J:=(by simpa using hs);exact hj⟩
  ·rw [if_neg hk];exact hv
theorem valsN_0 {wv:Fld->Val->Int} {fs:List Fld}:∀ {l:List Val} {prev:Option Int} {had:List Int},(∀ v∈l,∃ x,fldN fs v.1=some x/\wv x v=0/\(0<x.choice->x.choice ∉ had))->RisingV l->(∀ p,prev=some p->∀ v∈l,p<v.1) ->
  (∀ u∈l,∀ v∈l,u.1≠v.1->∀ x y,fldN fs u.1=some x->fldN fs v.1=some y->0<x.choice->x.choice≠y.choice)->valsN wv fs prev had l=0
 |[],_,_,_,_,_,_=>rfl
 |v::l,prev,had,h1,h2,h3,h4=>by
  obtain ⟨x,hx,hw,hc⟩:=h1 v List.mem_cons_self;rw [valsN,hx];simp only
  have hbp:¬ badPrev prev v.1=true:=by
   cases prev with
   |none=>simp [badPrev]
   |some p=>have:=h3 p rfl v List.mem_cons_self;simp only [badPrev,decide_eq_true_eq];omega
  rw [if_neg hbp];rw [if_neg (by simpa using hw),if_neg (fun g=>hc g.1 g.2)];refine valsN_0 (fun u hu=>?_) h2.of_cons (fun p hp u hu=>?_) (fun u hu w hw=>h4 u (List.mem_cons_of_mem _ hu) w (List.mem_cons_of_mem _ hw))
  ·obtain ⟨y,hy,hwy,hcy⟩:=h1 u (List.mem_cons_of_mem _ hu);refine ⟨y,hy,hwy,fun hpos hm=>?_⟩;split at hm
   ·rename_i hx0;rcases List.mem_cons.1 hm with e|hm
    ·have hlt:=List.rel_of_pairwise_cons h2 hu;exact h4 v List.mem_cons_self u (List.mem_cons_of_mem _ hu) (by omega) x y hx hy hx0 e.symm
    ·exact hcy hpos hm
   ·exact hcy hpos hm
  ·(cases hp);exact List.rel_of_pairwise_cons h2 hu
structure AllV (wb:Int->Bod->Int) (f:Fil) (fs:List Fld) (l:List Val):Prop where
 ris:RisingV l
 fld:∀ v∈l,∃ x,fldN fs v.1=some x/\wrongVF wb f x v=0
 one:∀ u∈l,∀ v∈l,u.1≠v.1->∀ x y,fldN fs u.1=some x->fldN fs v.1=some y->0<x.choice->x.choice≠y.choice
theorem AllV.ok {wb:Int->Bod->Int} {f:Fil} {fs:List Fld} {l:List Val} (h:AllV wb f fs l):OkV fs l :=
 ⟨h.ris,fun v hv=>by obtain ⟨x,h1,h2⟩:=h.fld v hv;exact ⟨x,h1,(wrongVF_iff.1 h2).2.2⟩,h.one⟩
theorem AllV.nil {wb:Int->Bod->Int} {f:Fil} {fs:List Fld}:AllV wb f fs []:=⟨List.Pairwise.nil,(fun v h=>by cases h),(fun v h=>by cases h)⟩
theorem AllV.tail {wb:Int->Bod->Int} {f:Fil} {fs:List Fld} {v:Val} {l:List Val} (h:AllV wb f fs (v::l)):AllV wb f fs l :=
 ⟨h.ris.of_cons,fun u hu=>h.fld u (List.mem_cons_of_mem _ hu),fun u hu w hw=>h.one u (List.mem_cons_of_mem _ hu) w (List.mem_cons_of_mem _ hw)⟩
theorem allV_iff {wb:Int->Bod->Int} {f:Fil} {fs:List Fld} {l:List Val} (hch:∀ z∈fs,0<=z.choice):valsN (wrongVF wb f) fs none [] l=0 ↔ AllV wb f fs l:=by
 constructor
 ·intro h;obtain ⟨g1,g2,_,g4⟩:=valsN_zero h;refine ⟨g2,fun v hv=>by obtain ⟨x,e1,e2,_⟩:=g1 v hv;exact ⟨x,e1,e2⟩,fun u hu v hv hne x y hx hy hpos e=>?_⟩;obtain ⟨i,hi,rfl⟩:=List.getElem_of_mem hu;obtain ⟨j,hj,rfl⟩:=List.getElem_of_mem hv;rcases Nat.lt_trichotomy i j with hlt|heq|hlt
  ·exact List.pairwise_iff_getElem.1 g4 i j hi hj hlt x y hx hy hpos e
  ·subst heq;exact hne rfl
  ·exact List.pairwise_iff_getElem.1 g4 j i hj hi hlt y x hy hx (by omega) e.symm
 ·intro h;exact valsN_0 (fun v hv=>by obtain ⟨x,e1,e2⟩:=h.fld v hv;exact ⟨x,e1,e2,fun _ h=>by cases h⟩) h.ris (fun p hp=>by cases hp) h.one
theorem set_right {wb:Int->Bod->Int} {f:Fil} {fs:List Fld} {l:List Val} (hch:∀ z∈fs,0<=z.choice) (h:AllV wb f fs l) {v:Val} {x:Fld} (hx:fldN fs v.1=some x) (hv:FitV wb f x v) (h60:(countN x.kind v).1<=60):AllV wb f fs (setV fs l v):=by
 have hm:=fun y=>set_mem_iff (fs:=fs) h.ris hx y;refine ⟨rising_set h.ris v,fun y hy=>?_,fun u hu w hw hne a b ha hb hpos e=>?_⟩
 ·rcases (hm y).1 hy with ⟨h1,_⟩|⟨h1,rfl⟩
  ·exact h.fld y h1
  ·exact ⟨x,hx,wrongVF_iff.2 ⟨hv,h60,h1⟩⟩
 ·rcases (hm u).1 hu with ⟨h1,k1⟩|⟨h1,rfl⟩
  ·rcases (hm w).1 hw with ⟨h2,k2⟩|⟨h2,rfl⟩
   ·exact h.one u h1 w h2 hne a b ha hb hpos e
   ·rw [hx] at hb;obtain rfl:=Option.some.inj hb;have:=keepN_same hne (by omega) ha e;rw [k1] at this;cases this
  ·rcases (hm w).1 hw with ⟨h2,k2⟩|⟨h2,rfl⟩
   ·rw [hx] at ha;obtain rfl:=Option.some.inj ha;have:=keepN_same (Ne.symm hne) (by omega) hb e.symm;rw [k2] at this;cases this
   ·exact absurd rfl hne
abbrev JnOk (wb:Int->Bod->Int) (jb:Int->Bod->Bod->Bod) (jn:Int->Bod->Bod->Bod × Int):Prop:=∀ mi a b,wb mi a=0->wb mi b=0->(wb mi (jb mi a b)=0/\jn mi a b=(jb mi a b,0))∨(wb mi (jb mi a b)=5/\(jn mi a b).2=5)
theorem add_ok {wb:Int->Bod->Int} {jb:Int->Bod->Bod->Bod} {jn:Int->Bod->Bod->Bod × Int} {f:Fil} {fs:List Fld} (hjn:JnOk wb jb jn) {b:Bod} (h:AllV wb f fs b.values) {x:Fld} {v:Val} (hx:fldN fs v.1=some x) (hv:FitV wb f x v) :
  (FitV wb f x (bothV jb f x (findV b.values v.1) v)/\(countN x.kind (bothV jb f x (findV b.values v.1) v)).1<=60/\addC jn f fs b x v=(.mk (setV fs b.values (bothV jb f x (findV b.values v.1) v)) b.unknown,0)) ∨
  ((wrongVF wb f x (bothV jb f x (findV b.values v.1) v)≠0)/\addC jn f fs b x v=(bod0,5)):=by
 have hxn:x.number=v.1:=(fldN_mem hx).2
 have hfin:∀ u:Val,FitV wb f x u->(FitV wb f x u/\(countN x.kind u).1<=60/\finC fs b u=(.mk (setV fs b.values u) b.unknown,0))∨(wrongVF wb f x u≠0/\finC fs b u=(bod0,5)):=by
  intro u hu;unfold finC;rw [max_count hu.cnt]
  by_cases h6:60<(countN x.kind u).1
  ·rw [if_pos h6];exact .inr ⟨fun g=>by have:=(wrongVF_iff.1 g).2.1;omega,rfl⟩
  ·rw [if_neg h6];exact .inl ⟨hu,by omega,rfl⟩
 unfold addC;rw [hxn]
 cases ho:findV b.values v.1 with
 |none=>exact hfin v hv
 |some o =>
  obtain ⟨hom,hon⟩:=findV_mem ho;obtain ⟨y,hy,hwo⟩:=h.fld o hom;rw [hon,hx] at hy;obtain rfl:=Option.some.inj hy;have hof:=(wrongVF_iff.1 hwo).1;simp only
  by_cases hm:x.many=true
  ·rw [if_pos hm,both_many hm];refine hfin _ ?_;(have:=fit_both (jb:=jb) hof hv (fun g=>by rw [hm] at g;cases g));rw [both_many hm] at this;exact this
  ·rw [if_neg hm];have hm':x.many=false:=by simpa using hm
   by_cases hk:x.kind=10
   ·rw [if_pos hk,both_sub hm' hk];have hos:=one_of (by rw [←count_subs (v:=o) hk];exact hof.alone hm');have hvs:=one_of (by rw [←count_subs (v:=v) hk];exact hv.alone hm');have e1:=hof.subs (o.2.2.2.headD bod0) (by rw [hos];simp);have e2:=hv.subs (v.2.2.2.headD bod0) (by rw [hvs];simp);have hb:=fun (hj:wb (msgI f x.type) (jb (msgI f x.type) (o.2.2.2.headD bod0) (v.2.2.2.headD bod0))=0)=>fit_both (jb:=jb) hof hv (fun _ _=>hj);rw [both_sub hm' hk] at hb;rcases hjn _ _ _ e1 e2 with ⟨g1,g2⟩|⟨g1,g2⟩
    ·rw [g2];simp only [ne_eq,not_true_eq_false,if_false];exact hfin _ (hb g1)
    ·rw [g2,if_pos (by decide)];refine .inr ⟨fun g=>?_,rfl⟩;have:=(wrongVF_iff.1 g).1.subs _ List.mem_cons_self;rw [g1] at this;cases this
   ·rw [if_neg hk,both_last hm' hk];exact hfin v hv
theorem joinL_ok {wb:Int->Bod->Int} {jb:Int->Bod->Bod->Bod} {jn:Int->Bod->Bod->Bod × Int} {f:Fil} {fs:List Fld} (hch:∀ z∈fs,0<=z.choice) (hjn:JnOk wb jb jn):∀ (l:List Val) (a:Bod),AllV wb f fs a.values->AllV wb f fs l ->
  (AllV wb f fs (l.foldl (joinV jb f fs) a.values)/\joinL (addC jn f fs) fs l a=(.mk (l.foldl (joinV jb f fs) a.values) a.unknown,0))∨(¬ AllV wb f fs (l.foldl (joinV jb f fs) a.values)/\(joinL (addC jn f fs) fs l a)=(bod0,5))
 |[],a,ha,_=>.inl ⟨ha,by rw [joinL];cases a;rfl⟩
 |v::l,a,ha,hl=>by
  obtain ⟨x,hx,hw⟩:=hl.fld v List.mem_cons_self;have hfit:=wrongVF_iff.1 hw;(have hstep:joinV jb f fs a.values v=setV fs a.values (bothV jb f x (findV a.values v.1) v):=by unfold joinV;rw [hx]);have hbn:(bothV jb f x (findV a.values v.1) v).1=v.1:=bothV_num _ _ _ _ _;rw [joinL,hx];simp only [List.foldl_cons];rcases add_ok hjn ha hx hfit.1 with ⟨g1,g2,g3⟩|⟨g1,g2⟩
  ·rw [g3];simp only [ne_eq,not_true_eq_false,if_false];have:=joinL_ok hch hjn l (.mk (setV fs a.values (bothV jb f x (findV a.values v.1) v)) a.unknown) (set_right hch ha (by rw [hbn];exact hx) g1 g2) hl.tail;rw [hstep];exact this
  ·rw [g2,if_pos (by decide)];refine .inr ⟨fun hall=>g1 ?_,rfl⟩;have hj:=(find_join (jb:=jb) (f:=f) hch ha.ris hl.ok v.1).1 v x find_cons_self hx;rw [List.foldl_cons] at hj;obtain ⟨hmem,hnum⟩:=findV_mem hj;obtain ⟨y,hy,hwy⟩:=hall.fld _ hmem;rw [hnum,hx] at hy;obtain rfl:=Option.some.inj hy;exact hwy
theorem joinK_ok {f:Fil} (hright:(wrongN f).1=0):∀ (k j:Nat),k<=j->JnOk (wrongB f k) (joinB f k) (joinK f j)
 |0,_,_=>fun _ _ _ h=>by cases h
 |k+1,0,h=>by omega
 |k+1,j+1,hkj=>by
  intro msg a b ha hb;have h05:=join_05 hright (k+1) msg a b ha hb;obtain ⟨k',m,e,hm,ha'⟩:=wrongB_zero ha;(obtain rfl:k=k':=by omega);obtain ⟨k',m',e,hm',hb'⟩:=wrongB_zero hb;(obtain rfl:k=k':=by omega);rw [hm] at hm';obtain rfl:=Option.some.inj hm';have hmr:=right_msg hright m (List.mem_of_getElem? hm);have hch:∀ z∈m.fields,0<=z.choice:=fun z hz=>(choice_16 hmr hz).1;obtain ⟨ga,ua⟩:=wrongBF_zero ha';obtain ⟨gb,ub⟩:=wrongBF_zero hb';have hja:joinB f (k+1) msg a b=.mk (b.values.foldl (joinV (joinB f k) f m.fields) a.values) (a.unknown++b.unknown):=by rw [joinB,hm]
  have hiff:wrongB f (k+1) msg (joinB f (k+1) msg a b)=0 ↔ AllV (wrongB f k) f m.fields (b.values.foldl (joinV (joinB f k) f m.fields) a.values):=by
   rw [←allV_iff hch,hja,wrongB,hm];simp only;unfold wrongBF;show (if valsN _ _ _ _ (b.values.foldl _ _)≠0 then valsN _ _ _ _ (b.values.foldl _ _) else firstN ((a.unknown++b.unknown).map _))=0 ↔ _;constructor
   ·intro h;apply Classical.byContradiction;intro h2;rw [if_pos h2] at h;exact h2 h
   ·intro h;rw [h,if_neg (by decide),firstN_all (fun r hr=>by rcases List.mem_append.1 hr with h|h;exact ua r h;exact ub r h)]
  have hl:=joinL_ok hch (joinK_ok hright k j (by omega)) b.values a ((allV_iff hch).1 ga) ((allV_iff hch).1 gb)
  have hk:joinK f (j+1) msg a b=(let p:=joinL (addC (joinK f j) f m.fields) m.fields b.values a
   if p.2≠0 then (bod0,p.2) else (.mk p.1.values (p.1.unknown++b.unknown),0)):=by rw [joinK,hm]
  rcases hl with ⟨l1,l2⟩|⟨l1,l2⟩
  ·refine .inl ⟨hiff.2 l1,?_⟩;rw [hk,l2,hja];rfl
  ·refine .inr ⟨?_,?_⟩
   ·rcases h05 with h|h
    ·exact absurd (hiff.1 h) l1
    ·exact h
   ·rw [hk,l2];rfl
theorem head_ok {kind:Int} {l:List UInt8} (hk:howC kind≠2) (hl:l≠[]) (h:(headC (howC kind) l).2.2=0) :
  0<(headC (howC kind) l).2.1/\(headC (howC kind) l).2.1<=l.length/\(headC (howC kind) l).1<18446744073709551616/\(kind=7->(headC (howC kind) l).1<4294967296):=by
 have e0:∀ L,headC 0 L=get L:=fun _=>rfl;have e1:∀ L,headC 1 L=if L.length<8 then (0,0,2) else (lowVal (L.take 8),8,0):=fun _=>rfl;have e5:∀ L,headC 5 L=if L.length<4 then (0,0,2) else (lowVal (L.take 4),4,0):=fun _=>rfl
 have hh:(howC kind=0/\kind≠7)∨(howC kind=1/\kind≠7)∨howC kind=5:=by
  unfold howC at hk ⊢;split
  ·exact .inr (.inl ⟨rfl,by omega⟩)
  ·split
   ·exact .inr (.inr rfl)
   ·split
    ·rename_i h6 h7 h8;rw [if_neg h6,if_neg h7,if_pos h8] at hk;exact absurd rfl hk
    ·exact .inl ⟨rfl,by assumption⟩
 rcases hh with ⟨hh,h7⟩|⟨hh,h7⟩|hh
 ·rw [hh,e0] at h ⊢;obtain ⟨g1,g2,g3,g4⟩:=get_ok h;exact ⟨g1,g2,by omega,fun g=>absurd g h7⟩
 ·rw [hh,e1] at h ⊢
  by_cases g:l.length<8
  ·rw [if_pos g] at h;cases h
  ·rw [if_neg g];have:=lowVal_lt (l.take 8);rw [List.length_take,Nat.min_eq_left (by omega)] at this;exact ⟨show 0<8 by decide,by simp only;omega,by simp only;omega,fun g=>absurd g h7⟩
 ·rw [hh,e5] at h ⊢
  by_cases g:l.length<4
  ·rw [if_pos g] at h;cases h
  ·rw [if_neg g];have:=lowVal_lt (l.take 4);rw [List.length_take,Nat.min_eq_left (by omega)] at this;exact ⟨show 0<4 by decide,by simp only;omega,by simp only;omega,fun _=>by simp only;omega⟩
theorem pack_fits {kind:Int} (h1:1<=kind) (h2:kind<=7):∀ (f:Nat) (l:List UInt8),(packP kind f l).2=0->(∀ n∈(packP kind f l).1,fitsN kind n=0/\n<18446744073709551616)/\(packP kind f l).1.length<=l.length
 |0,l,_=>by
  rw [packP];exact ⟨fun n hn=>(by cases hn),Nat.zero_le _⟩
 |f+1,l,h=>by
  rw [packP] at h ⊢
  by_cases hl:l=[]
  ·rw [if_pos hl];exact ⟨fun n hn=>(by cases hn),Nat.zero_le _⟩
  rw [if_neg hl] at h ⊢
  by_cases hh:(headC (howC kind) l).2.2=0
  ·(have hk:howC kind≠2:=fun e=>by have:=howC_two.1 e;omega);obtain ⟨g1,g2,g3,g4⟩:=head_ok hk hl hh;rw [if_neg (by simpa using hh)] at h ⊢;simp only at h ⊢
   by_cases hp:(packP kind f (l.drop (headC (howC kind) l).2.1)).2=0
   ·obtain ⟨i1,i2⟩:=pack_fits h1 h2 f _ hp;rw [if_neg (by simpa using hp)];rw [List.length_drop] at i2;refine ⟨fun n hn=>?_,by simp only [List.length_cons];omega⟩;rcases List.mem_cons.1 hn with rfl|hn
    ·exact back_fits h1 h2 g3 g4
    ·exact i1 n hn
   ·rw [if_pos hp] at h;exact absurd h hp
  ·rw [if_pos hh] at h;exact absurd h hh
theorem numbers_fit {x:Fld} {r:Rec} (h1:1<=x.kind) (h2:x.kind<=7) (hr:wrongRec r=0) (hb:r.bits<18446744073709551616) (h:(numbersC x r).2=0) :
  (∀ n∈(numbersC x r).1,fitsN x.kind n=0/\n<18446744073709551616)/\(x.many=false->(numbersC x r).1.length=1)/\(numbersC x r).1.length<=r.bytes.length+1:=by
 obtain ⟨r1,r2,r3,r4,r5⟩:=wrongRec_ok hr;unfold numbersC at h ⊢
 by_cases hh:r.how=howC x.kind
 ·rw [if_pos hh];refine ⟨fun n hn=>?_,fun _=>rfl,by simp⟩;(obtain rfl:n=backC x.kind r.bits:=by simpa using hn);exact back_fits h1 h2 hb (fun h7=>r4 (by rw [hh,h7];rfl))
 ·rw [if_neg hh] at h ⊢
  by_cases hm:r.how≠2∨x.many=false
  ·rw [if_pos hm] at h;cases h
  ·rw [if_neg hm] at h ⊢;obtain ⟨i1,i2⟩:=pack_fits h1 h2 _ _ h;exact ⟨i1,fun g=>absurd (.inr g) hm,by omega⟩
theorem value_fit {wb:Int->Bod->Int} {f:Fil} {rd:List UInt8->Bod × Int} {x:Fld} {r:Rec} (ht:typedN f x=0) (hr:wrongRec r=0) (hb:r.bits<18446744073709551616)
  (hrd:x.kind=10->r.how=2->(rd r.bytes).2=0->wb (msgI f x.type) (rd r.bytes).1=0) (h0:(valueC rd x r).2.2=0) (h1:(valueC rd x r).2.1=true) :
  FitV wb f x (valueC rd x r).1/\(valueC rd x r).1.1=x.number:=by
 obtain ⟨t1,t2,t3,t4⟩:=typed_facts ht;obtain ⟨r1,r2,r3,r4,r5⟩:=wrongRec_ok hr;unfold valueC at h0 h1 ⊢
 by_cases hk:howC x.kind≠2
 ·rw [if_pos hk] at h0 h1 ⊢;have hno:¬ (x.kind=8∨x.kind=9∨x.kind=10):=fun g=>hk (howC_two.2 g);obtain ⟨i1,i2,i3⟩:=numbers_fit t1 (by omega) hr hb h0;have hc:=countN_no (kind:=x.kind) (by omega) (by omega) (by omega) (x.number,(numbersC x r).1,[],[]);(have hl:0<(numbersC x r).1.length:=by simpa using h1);exact ⟨⟨by rw [hc];rfl,by rw [hc];exact hl,fun g=>by rw [hc];exact i2 g,fun n hn=>(i1 n hn).1,(fun b hb=>by cases hb),(fun b hb=>by cases hb)⟩,rfl⟩
 ·rw [if_neg hk] at h0 h1 ⊢
  by_cases hw:r.how≠2
  ·rw [if_pos hw] at h0;cases h0
  ·rw [if_neg hw] at h0 h1 ⊢;(have hw:r.how=2:=by omega);have h4:r.bytes.length<=4000:=by rcases r5 with h|h;exact h.2.2;exact absurd hw h.1
   by_cases h8:x.kind=8
   ·rw [if_pos h8] at h0 h1 ⊢
    by_cases hv:Lib.validD r.bytes=false
    ·rw [if_pos hv] at h0;cases h0
    ·rw [if_neg hv];(have hc:countN x.kind (x.number,[],[r.bytes],[])=(1,true):=by rw [h8];rfl);refine ⟨⟨by rw [hc],by rw [hc];exact Nat.le_refl _,fun _=>by rw [hc],(fun n hn=>by cases hn),fun b hb=>?_,(fun n hn=>by cases hn)⟩,rfl⟩;(obtain rfl:b=r.bytes:=by simpa using hb);unfold byteN;rw [if_neg (by omega),if_neg (by rintro ⟨_,g⟩;exact hv g)]
   ·rw [if_neg h8] at h0 h1 ⊢
    by_cases h9:x.kind=9
    ·rw [if_pos h9];(have hc:countN x.kind (x.number,[],[r.bytes],[])=(1,true):=by rw [h9];rfl);refine ⟨⟨by rw [hc],by rw [hc];exact Nat.le_refl _,fun _=>by rw [hc],(fun n hn=>by cases hn),fun b hb=>?_,(fun n hn=>by cases hn)⟩,rfl⟩;(obtain rfl:b=r.bytes:=by simpa using hb);unfold byteN;rw [if_neg (by omega),if_neg (by rintro ⟨g,_⟩;exact h8 g)]
    ·rw [if_neg h9] at h0 h1 ⊢
     have h10:x.kind=10:=by
      have:=howC_two.1 (Classical.not_not.1 hk);omega
     by_cases hz:(rd r.bytes).2≠0
     ·rw [if_pos hz] at h0;exact absurd h0 hz
     ·rw [if_neg hz];have hz:=hrd h10 hw (by simpa using hz);(have hc:countN x.kind (x.number,[],[],[(rd r.bytes).1])=(1,true):=by rw [h10];rfl);refine ⟨⟨by rw [hc],by rw [hc];exact Nat.le_refl _,fun _=>by rw [hc],(fun n hn=>by cases hn),(fun n hn=>by cases hn),fun b hb=>?_⟩,rfl⟩;(obtain rfl:b=(rd r.bytes).1:=by simpa using hb);exact hz
theorem value_num {rd:List UInt8->Bod × Int} {x:Fld} {r:Rec}:(valueC rd x r).1.1=x.number:=by
 unfold valueC;split
 ·rfl
 split
 ·rfl
 split
 ·split <;> rfl
 split
 ·rfl
 split <;> rfl
theorem readL_right {wb:Int->Bod->Int} {jb:Int->Bod->Bod->Bod} {jn:Int->Bod->Bod->Bod × Int} {f:Fil} {fs:List Fld} (hch:∀ z∈fs,0<=z.choice) (hty:∀ z∈fs,typedN f z=0) (hjn:JnOk wb jb jn) (rd:Fld->List UInt8->Bod × Int)
  (hrd:∀ x r,wrongRec r=0->x∈fs->x.kind=10->r.how=2->(rd x r.bytes).2=0->wb (msgI f x.type) (rd x r.bytes).1=0):∀ (l:List Rec) (a:Bod),AllV wb f fs a.values->(∀ r∈a.unknown,unkN fs r=0)->(∀ r∈l,wrongRec r=0/\r.bits<2 ^ 64) ->
  (readL (fun x r=>valueC (rd x) x r) (addC jn f fs) fs l a).2=0->AllV wb f fs (readL (fun x r=>valueC (rd x) x r) (addC jn f fs) fs l a).1.values/\∀ r∈(readL (fun x r=>valueC (rd x) x r) (addC jn f fs) fs l a).1.unknown,unkN fs r=0
 |[],a,ha,hu,_,_=>⟨ha,hu⟩
 |r::l,a,ha,hu,hr,h=>by
  have hr1:=hr r List.mem_cons_self;have hr2:∀ r∈l,wrongRec r=0/\r.bits<2 ^ 64:=fun z hz=>hr z (List.mem_cons_of_mem _ hz);rw [readL] at h ⊢
  cases hx:fldN fs r.number with
  |none =>
   rw [hx] at h;simp only at h ⊢
   exact readL_right hch hty hjn rd hrd l _ ha (fun z hz=>by
    rcases List.mem_append.1 hz with h|h
    ·exact hu z h
    ·(obtain rfl:z=r:=by simpa using h);unfold unkN;rw [if_neg (by rw [hr1.1];decide),hx];rfl) hr2 h
  |some x =>
   rw [hx] at h;simp only at h ⊢;obtain ⟨hxm,hxn⟩:=fldN_mem hx
   by_cases h0:(valueC (rd x) x r).2.2=0
   ·rw [if_neg (by simpa using h0)] at h ⊢
    by_cases h1:(valueC (rd x) x r).2.1=false
    ·rw [if_pos h1] at h ⊢;exact readL_right hch hty hjn rd hrd l _ ha hu hr2 h
    ·rw [if_neg h1] at h ⊢;obtain ⟨hf,hn⟩:=value_fit (wb:=wb) (hty x hxm) hr1.1 (by have:=hr1.2;omega) (hrd x r hr1.1 hxm) h0 (by simpa using h1);(have hx2:fldN fs (valueC (rd x) x r).1.1=some x:=by rw [hn,hxn];exact hx);rcases add_ok hjn ha hx2 hf with ⟨g1,g2,g3⟩|⟨g1,g2⟩
     ·rw [g3] at h ⊢;simp only [ne_eq,not_true_eq_false,if_false] at h ⊢;exact readL_right hch hty hjn rd hrd l (.mk _ _) (set_right hch ha (by rw [bothV_num];exact hx2) g1 g2) hu hr2 h
     ·rw [g2] at h;rw [if_pos (by decide)] at h;cases h
   ·rw [if_pos h0] at h;exact absurd h h0
theorem parse_right {l:List UInt8} (h:(parse l).2.1=0):l.length<=4000/\(∀ r∈(parse l).1,wrongRec r=0/\r.bits<2 ^ 64)/\((parse l).1.flatMap oneB).length<=l.length:=by
 unfold parse at h ⊢
 by_cases hl:4000<l.length
 ·rw [if_pos hl] at h;cases h
 ·rw [if_neg hl] at h ⊢;exact ⟨by omega,parseG_right _ l (by omega) h (by omega)⟩
theorem field_typed {f:Fil} {m:Msg} (h:msgN f m=0):∀ x∈m.fields,typedN f x=0:=fun x hx=>by
 obtain ⟨i,hi,rfl⟩:=List.getElem_of_mem hx;exact (field_facts ((msg_field h).2.2 i hi)).2.2.2.1
theorem wrongB_is {f:Fil} {k:Nat} {msg:Int} {m:Msg} (hm:f.msgs[msg.toNat]? = some m) (hch:∀ z∈m.fields,0<=z.choice) (b:Bod):wrongB f (k+1) msg b=0 ↔ AllV (wrongB f k) f m.fields b.values/\∀ r∈b.unknown,unkN m.fields r=0:=by
 rw [←allV_iff hch,wrongB,hm];simp only;constructor
 ·exact wrongBF_zero
 ·rintro ⟨h1,h2⟩;unfold wrongBF;rw [h1,if_neg (by decide),firstN_all h2]
theorem read_right {f:Fil} (hright:(wrongN f).1=0):∀ (k:Nat),k<=12->∀ (msg:Int) (l:List UInt8),0<=msg->msg<f.msgs.length->(readC f k msg l).2=0->wrongB f k msg (readC f k msg l).1=0
 |0,_,msg,l,_,_,h=>by cases h
 |k+1,hk,msg,l,h0,h1,h=>by
  obtain ⟨mi,rfl⟩:∃ mi:Nat,msg=mi:=⟨msg.toNat,by omega⟩;(have hmi:mi<f.msgs.length:=by omega);(have hm:f.msgs[(mi:Int).toNat]? = some f.msgs[mi]:=by rw [Int.toNat_natCast,List.getElem?_eq_getElem hmi]);have hmr:=right_msg hright f.msgs[mi] (List.getElem_mem hmi);have hch:∀ z∈f.msgs[mi].fields,0<=z.choice:=fun z hz=>(choice_16 hmr hz).1;rw [wrongB_is hm hch];rw [readC] at h ⊢
  by_cases hp:(parse l).2.1=0
  ·rw [if_neg (by simpa using hp)] at h ⊢;rw [hm] at h ⊢;simp only at h ⊢;refine readL_right hch (field_typed hmr) (joinK_ok hright k 12 (by omega)) (fun x bs=>readC f k (msgI f x.type) bs) (fun x r hr hx h10 h2 hz=>?_) _ bod0 AllV.nil (fun r hr=>by cases hr) (parse_right hp).2.1 h;have hmb:=msgI_bd f x.type;have hm0:=(typed_facts (field_typed hmr x hx)).2.2.1 h10;exact read_right hright k (by omega) _ _ hm0 (by omega) hz
  ·rw [if_pos hp] at h;exact absurd h hp
end Go.Proofs.YtbceccblepckhaaGreatDoor
