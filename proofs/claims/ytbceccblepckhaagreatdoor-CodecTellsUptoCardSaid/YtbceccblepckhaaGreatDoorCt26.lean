/-
  body.Wrong.
  Two bodies put together, with what is wrong: body.Join.
  Bodies put together, in plain Lean: what is there of each number; it is no matter which two are put together first; what may be wrong.
  Bodies put together, in plain Lean: it is no matter which two are put together first; what may be wrong.
  Bodies put together, in plain Lean: of three it is no matter which two are put together first; a body and nothing are it.
  Bodies put together, in plain Lean: how many that nobody knows; the last one counts.
-/
import Derived.Test.YtbceccblepckhaaGreatDoorCt25
set_option maxHeartbeats 3200000
set_option linter.unusedVariables false
namespace Go.Proofs.YtbceccblepckhaaGreatDoor
open Go.RowKit
set_option maxRecDepth 100000
open Lib (hid)
theorem wrong_bod (d:Nat) (v vv vu:Value) (f:Fil) (msg:Int) (x:Bod) (w:World) (hf:FilV All w v f) (hb:DBodF d All w x [vv,vu]) (hT:Tabs w) :
  Calls Tryz.prog 15 #[v,.int .i64 msg,.agg #[vv,vu]] w fun e w'=>e=.returned (.int .i64 (wrongA f msg x))/\Up w w':=by
 obtain ⟨vm,ve,rfl,hm,he⟩:=id hf;obtain ⟨ma,mc,rfl,_,_⟩:=hm.val;obtain ⟨ea,ec,rfl,_,_⟩:=he.val;obtain ⟨a1,n1,c1,a2,n2,c2,hbt⟩:=bod_two hb;simp only [List.cons.injEq,and_true] at hbt;obtain ⟨rfl,rfl⟩:=hbt;have Hf:=hid hf;have Hb:=hid hb;have HT:=hid hT;clear hf hb hT hm he;obtain ⟨ANS,hANS⟩:∃ ANS,wrongA f msg x=ANS:=⟨_,rfl⟩;rw [hANS];unfold wrongA at hANS;have HA:=hid hANS;clear hANS
 go_enter Tryz.func15,Tryz.ntmps15
 (go_wp2_with fail);have hb0:((w.alloc (.cells #[.slice ma f.msgs.length mc,.slice ea f.enums.length ec] 25)).alloc (.cells #[.slice a1 n1 c1,.slice a2 n2 c2] 29)).heap[w.heap.size]? = some (.cells #[.slice ma f.msgs.length mc,.slice ea f.enums.length ec] 25 (0,0)):=blk_old _ (blk_new w _ rfl);have hb1:((w.alloc (.cells #[.slice ma f.msgs.length mc,.slice ea f.enums.length ec] 25)).alloc (.cells #[.slice a1 n1 c1,.slice a2 n2 c2] 29)).heap[w.heap.size+1]? = some (.cells #[.slice a1 n1 c1,.slice a2 n2 c2] 29 (0,0)):=blk_new (w.alloc _) _ (by simp);have hu0:Up w ((w.alloc (.cells #[.slice ma f.msgs.length mc,.slice ea f.enums.length ec] 25)).alloc (.cells #[.slice a1 n1 c1,.slice a2 n2 c2] 29)):=((Up.refl w).alloc _).alloc _;generalize hw1:(w.alloc (.cells #[.slice ma f.msgs.length mc,.slice ea f.enums.length ec] 25)).alloc (.cells #[.slice a1 n1 c1,.slice a2 n2 c2] 29)=w1 at *;clear hw1;refine (wrong_l _ f w1 (Hf.out.up hu0)).mono ?_;rintro e w2 ⟨rfl,hu2⟩;have Hu02:=hid (hu0.trans hu2);have Hb0:=hid (hu2.blk hb0);have Hb1:=hid (hu2.blk hb1);clear hb0 hb1 hu0 hu2;have hz:=lt_of_block Hb1.out;have hANS:=HA.out;clear HA;(have r0:w.heap.size<w2.heap.size:=by omega);(have r1:w.heap.size+1<w2.heap.size:=by omega);have f0:=ro0 Hb0.out;have f1:=ro1 Hb0.out;have g0:=ro0 Hb1.out;have g1:=ro1 Hb1.out
 by_cases hw:(wrongN f).1=0
 ·have Hw:=hid hw;rw [if_neg (by simpa using hw)] at hANS;rw [hw]
  by_cases hm:msg<0∨(f.msgs.length:Int)<=msg
  ·rw [if_pos hm] at hANS;rcases (show msg<0∨(¬ msg<0/\(f.msgs.length:Int)<=msg) by omega) with h|⟨h,h2⟩
   ·clear hm g0 g1 f1;generalize (wrongN f).2=at2 at *;go_wp2_with fail
    go_ret
    exact ⟨ret_int hANS,Hu02.out.alloc _⟩
   ·clear hm g0 g1 f1;generalize (wrongN f).2=at2 at *;go_wp2_with fail
    go_ret
    exact ⟨ret_int hANS,Hu02.out.alloc _⟩
  ·rw [if_neg hm] at hANS;(have h1:¬ msg<0:=by omega);(have h2:¬ (f.msgs.length:Int)<=msg:=by omega);have Hm:=hid hm;have Hans:=hid hANS;clear hm hw hANS;generalize (wrongN f).2=at2 at *;(go_wp2_with fail);have hbk:((w2.alloc (.cells #[.int .i64 0,.int .i64 (at2:Int)] 60)).alloc (.cells #[.pointer (some ⟨w.heap.size,0,none⟩)] 79)).heap[w2.heap.size+1]? = some (.cells #[.pointer (some ⟨w.heap.size,0,none⟩)] 79 (0,0)):=blk_new (w2.alloc _) _ (by simp);have hu3:Up w2 ((w2.alloc (.cells #[.int .i64 0,.int .i64 (at2:Int)] 60)).alloc (.cells #[.pointer (some ⟨w.heap.size,0,none⟩)] 79)):=((Up.refl w2).alloc _).alloc _;generalize (w2.alloc (.cells #[.int .i64 0,.int .i64 (at2:Int)] 60)).alloc (.cells #[.pointer (some ⟨w.heap.size,0,none⟩)] 79)=w3 at *;have hu03:=Hu02.out.trans hu3
   have hbc:=body_c f Hw.out 12 (by omega) d msg x (w2.heap.size+1) w.heap.size (w.heap.size+1) 0 w3 (by have:=Hm.out;omega) (by have:=Hm.out;omega)
    ⟨cell_of_row w3 _ 0 _ _ _ hbk,_,_,hu3.cell_some f0,hu3.cell_some f1,Hf.out.up hu03⟩ ⟨_,_,hu3.cell_some g0,hu3.cell_some g1,stable_bod d _ _ _ _ _ _ (Keep.upS hu03) Hb.out⟩ (HT.out.up hu03)
   refine (show Calls Tryz.prog 28 #[.pointer (some ⟨w2.heap.size+1,0,none⟩),.int .i64 msg,.pointer (some ⟨w.heap.size+1,0,none⟩),.int .i64 1] w3 _ from hbc).mono ?_;rintro e w4 ⟨rfl,hu4⟩;rw [Hans.out];go_wp2_with fail
   go_ret
   exact ⟨rfl,hu03.trans hu4⟩
 ·rw [if_pos hw] at hANS;generalize (wrongN f).1=e1 at *;generalize (wrongN f).2=at2 at *;clear f0 f1 g0 g1;go_wp2_with fail
  go_ret
  exact ⟨ret_int (by first|rfl|exact hANS),Hu02.out.alloc _⟩
end Go.Proofs.YtbceccblepckhaaGreatDoor
namespace Go.Proofs.YtbceccblepckhaaGreatDoor
open Go.RowKit
theorem bod_all {d:Nat} {S:Nat->Prop} {w:World} {b:Bod} {cs:List Value} (h:DBodF d S w b cs):DBodF d All w b cs:=stable_bod d _ _ _ _ _ _ Keep.all h
def gone (fs:List Fld) (b:List Val) (n:Int):Prop:=∃ u∈b,∃ x,fldN fs u.1=some x/\u.1≠n/\keepN fs x u.1 n=false
theorem keepN_true {fs:List Fld} {x:Fld} {m n:Int} (hn:n≠m) (h:∀ z,fldN fs n=some z->0<x.choice->x.choice≠z.choice) (h0:0<=x.choice):keepN fs x m n=true:=by
 unfold keepN;rw [Bool.and_eq_true,Bool.or_eq_true];refine ⟨by simpa using hn,?_⟩
 by_cases e:x.choice=0
 ·exact .inl (by simpa using e)
 ·refine .inr ?_
  cases hz:fs.find? (fun z=>z.number==n) with
  |none=>rfl
  |some z =>
   have:=h z hz (by omega);simp only [bne_iff_ne,ne_eq];omega
theorem keepN_false {fs:List Fld} {x:Fld} {m n:Int} (hn:n≠m) (h:keepN fs x m n=false):x.choice≠0/\∃ z,fldN fs n=some z/\z.choice=x.choice:=by
 unfold keepN at h;rw [Bool.and_eq_false_iff,Bool.or_eq_false_iff] at h;rcases h with h|⟨h1,h2⟩
 ·simp at h;exact absurd h hn
 ·refine ⟨by simpa using h1,?_⟩
  cases hz:fs.find? (fun z=>z.number==n) with
  |none=>rw [hz] at h2;cases h2
  |some z=>rw [hz] at h2;exact ⟨z,hz,by simpa using h2⟩
theorem keepN_same {fs:List Fld} {x z:Fld} {m n:Int} (hn:n≠m) (h0:x.choice≠0) (hz:fldN fs n=some z) (hc:z.choice=x.choice):keepN fs x m n=false:=by
 unfold keepN;rw [show fs.find? (fun z=>z.number==n)=some z from hz];simp [h0,hc]
structure OkV (fs:List Fld) (l:List Val):Prop where
 ris:RisingV l
 fld:∀ v∈l,∃ x,fldN fs v.1=some x/\plainN x v=false
 one:∀ u∈l,∀ v∈l,u.1≠v.1->∀ x y,fldN fs u.1=some x->fldN fs v.1=some y->0<x.choice->x.choice≠y.choice
theorem OkV.tail {fs:List Fld} {v:Val} {l:List Val} (h:OkV fs (v::l)):OkV fs l :=
 ⟨h.ris.of_cons,fun u hu=>h.fld u (List.mem_cons_of_mem _ hu),fun u hu w hw=>h.one u (List.mem_cons_of_mem _ hu) w (List.mem_cons_of_mem _ hw)⟩
theorem plain_both {jb:Int->Bod->Bod->Bod} {f:Fil} {x:Fld} {o:Option Val} {v:Val} (h:plainN x v=false):plainN x (bothV jb f x o v)=false:=by
 unfold bothV
 cases o with
 |none=>exact h
 |some o =>
  simp only;split
  ·rename_i hm;unfold plainN;rw [hm];rfl
  ·split
   ·rename_i hk;unfold plainN;rw [hk];simp
   ·exact h
theorem find_cons_self {v:Val} {l:List Val}:findV (v::l) v.1=some v:=by unfold findV;rw [List.find?_cons_of_pos (by simp)]
theorem find_cons_ne {v:Val} {l:List Val} {n:Int} (h:n≠v.1):findV (v::l) n=findV l n:=by unfold findV;rw [List.find?_cons_of_neg (by simp;omega)]
theorem findV_non {l:List Val} {n:Int} (h:∀ u∈l,u.1≠n):findV l n=none:=by
 unfold findV;rw [List.find?_eq_none];intro u hu;simpa using h u hu
theorem find_join {jb:Int->Bod->Bod->Bod} {f:Fil} {fs:List Fld} (hch:∀ z∈fs,0<=z.choice):∀ {b:List Val} {a:List Val} (ha:RisingV a) (hb:OkV fs b) (n:Int),
  (∀ v x,findV b n=some v->fldN fs n=some x->findV (b.foldl (joinV jb f fs) a) n=some (bothV jb f x (findV a n) v)) /\
  (findV b n=none->gone fs b n->findV (b.foldl (joinV jb f fs) a) n=none)/\(findV b n=none->¬ gone fs b n->findV (b.foldl (joinV jb f fs) a) n=findV a n):=by
 intro b
 induction b with
 |nil=>exact fun ha _ n=>⟨fun v x h=>(by cases h),fun _ ⟨u,hu,_⟩=>(by cases hu),fun _ _=>rfl⟩
 |cons v b ih =>
  intro a ha hb n;obtain ⟨x,hx,hpl⟩:=hb.fld v List.mem_cons_self;have hxm:=fldN_mem hx;have hx0:=hch x hxm.1;(have hstep:joinV jb f fs a v=setV fs a (bothV jb f x (findV a v.1) v):=by unfold joinV;rw [hx]);have hbn:(bothV jb f x (findV a v.1) v).1=v.1:=bothV_num _ _ _ _ _;(have hxb:fldN fs (bothV jb f x (findV a v.1) v).1=some x:=by rw [hbn];exact hx);have ha':RisingV (joinV jb f fs a v):=by rw [hstep];exact rising_set ha _
  have hfs:∀ k,findV (joinV jb f fs a v) k=if k=v.1 then some (bothV jb f x (findV a v.1) v) else if keepN fs x v.1 k=true then findV a k else none:=fun k=>by
   rw [hstep,find_set ha hxb,hbn,plain_both hpl];rfl
  have hkeep:∀ u∈b,∀ y,fldN fs u.1=some y->keepN fs x v.1 u.1=true:=fun u hu y hy=>by
   (have hne:v.1≠u.1:=by have:=List.rel_of_pairwise_cons hb.ris hu;omega);exact keepN_true (Ne.symm hne) (fun z hz hpos=>hb.one v List.mem_cons_self u (List.mem_cons_of_mem _ hu) hne x z hx hz hpos) hx0
  obtain ⟨i1,i2,i3⟩:=ih ha' hb.tail n;rw [List.foldl_cons]
  by_cases hn:n=v.1
  ·subst hn;have hbn':findV b v.1=none:=findV_non fun u hu=>by have:=List.rel_of_pairwise_cons hb.ris hu;omega
   have hng:¬ gone fs b v.1:=fun ⟨u,hu,y,hy,hne,hk⟩=>by
    obtain ⟨h0,z,hz,hc⟩:=keepN_false (Ne.symm hne) hk;rw [hx] at hz;obtain rfl:=Option.some.inj hz;have hy0:=hch y (fldN_mem hy).1;exact hb.one u (List.mem_cons_of_mem _ hu) v List.mem_cons_self hne y x hy hx (by omega) hc.symm
   refine ⟨fun w y hw hy=>?_,fun h=>?_,fun h=>?_⟩
   ·rw [find_cons_self] at hw;obtain rfl:=Option.some.inj hw;rw [hx] at hy;obtain rfl:=Option.some.inj hy;rw [i3 hbn' hng,hfs,if_pos rfl]
   ·rw [find_cons_self] at h;cases h
   ·rw [find_cons_self] at h;cases h
  ·rw [find_cons_ne hn];refine ⟨fun w y hw hy=>?_,fun h hg=>?_,fun h hg=>?_⟩
   ·rw [i1 w y hw hy,hfs,if_neg hn];obtain ⟨hwm,hwn⟩:=findV_mem hw;rw [←hwn,if_pos (hkeep w hwm y (by rw [hwn];exact hy))]
   ·by_cases hgb:gone fs b n
    ·exact i2 h hgb
    ·rw [i3 h hgb,hfs,if_neg hn];obtain ⟨u,hu,y,hy,hne,hk⟩:=hg;rcases List.mem_cons.1 hu with rfl|hu
     ·rw [hx] at hy;obtain rfl:=Option.some.inj hy;rw [hk];rfl
     ·exact absurd ⟨u,hu,y,hy,hne,hk⟩ hgb
   ·rw [i3 h (fun ⟨u,hu,y,hy,hne,hk⟩=>hg ⟨u,List.mem_cons_of_mem _ hu,y,hy,hne,hk⟩),hfs,if_neg hn];rw [if_pos]
    cases hk:keepN fs x v.1 n with
    |true=>rfl
    |false=>exact absurd ⟨v,List.mem_cons_self,x,hx,Ne.symm hn,hk⟩ hg
theorem rising_join {jb:Int->Bod->Bod->Bod} {f:Fil} {fs:List Fld}:∀ {b a:List Val},RisingV a->RisingV (b.foldl (joinV jb f fs) a)
 |[],_,h=>h
 |v::b,a,h=>by
  rw [List.foldl_cons];refine rising_join ?_;unfold joinV;split
  ·exact h
  ·exact rising_set h _
theorem okV_right {f:Fil} {k:Nat} {m:Msg} {b:Bod} (h:wrongBF (wrongVF (wrongB f k) f) m b=0):OkV m.fields b.values:=by
 obtain ⟨g1,g2,_,g4⟩:=valsN_zero (wrongBF_zero h).1;refine ⟨g2,fun v hv=>by obtain ⟨x,e1,e2,_⟩:=g1 v hv;exact ⟨x,e1,(wrongVF_zero e2).2.2.2.2.1⟩,fun u hu v hv hne x y hx hy hpos e=>?_⟩;obtain ⟨i,hi,rfl⟩:=List.getElem_of_mem hu;obtain ⟨j,hj,rfl⟩:=List.getElem_of_mem hv;rcases Nat.lt_trichotomy i j with h1|h1|h1
 ·exact List.pairwise_iff_getElem.1 g4 i j hi hj h1 x y hx hy hpos e
 ·subst h1;exact hne rfl
 ·exact List.pairwise_iff_getElem.1 g4 j i hj hi h1 y x hy hx (by omega) e.symm
theorem okV_join {jb:Int->Bod->Bod->Bod} {f:Fil} {fs:List Fld} (hch:∀ z∈fs,0<=z.choice) {a b:List Val} (ha:OkV fs a) (hb:OkV fs b) :
  OkV fs (b.foldl (joinV jb f fs) a):=by
 have hr:=rising_join (jb:=jb) (f:=f) (fs:=fs) (b:=b) ha.ris
 have hcase:∀ v∈b.foldl (joinV jb f fs) a,(∃ w x,w∈b/\w.1=v.1/\fldN fs v.1=some x/\plainN x w=false/\v=bothV jb f x (findV a v.1) w)∨(v∈a/\¬ gone fs b v.1/\findV b v.1=none):=fun v hv=>by
  have hf:=rising_find hr hv;obtain ⟨i1,i2,i3⟩:=find_join (jb:=jb) (f:=f) hch ha.ris hb v.1
  cases hbv:findV b v.1 with
  |some w =>
   obtain ⟨hm,hn⟩:=findV_mem hbv;obtain ⟨x,hx,hp⟩:=hb.fld w hm;rw [hn] at hx;rw [i1 w x hbv hx] at hf;exact .inl ⟨w,x,hm,hn,hx,hp,(Option.some.inj hf).symm⟩
  |none =>
   by_cases hg:gone fs b v.1
   ·rw [i2 hbv hg] at hf;cases hf
   ·rw [i3 hbv hg] at hf;exact .inr ⟨(findV_mem hf).1,hg,rfl⟩
 refine ⟨hr,fun v hv=>?_,fun u hu v hv hne x y hx hy hpos e=>?_⟩
 ·rcases hcase v hv with ⟨w,x,_,_,hx,hp,hv2⟩|⟨h,_,_⟩
  ·exact ⟨x,hx,by rw [hv2];exact plain_both hp⟩
  ·exact ha.fld v h
 ·(have hy0:0<y.choice:=by omega);rcases hcase u hu with ⟨w,_,hw,hwn,_⟩|⟨h,hg,hn1⟩
  ·rcases hcase v hv with ⟨w',_,hw',hwn',_⟩|⟨h',hg',hn'⟩
   ·exact hb.one w hw w' hw' (by rw [hwn,hwn'];exact hne) x y (by rw [hwn];exact hx) (by rw [hwn'];exact hy) hpos e
   ·exact hg' ⟨w,hw,x,by rw [hwn];exact hx,by rw [hwn];exact hne,by rw [hwn];exact keepN_same (Ne.symm hne) (by omega) hy e.symm⟩
  ·rcases hcase v hv with ⟨w',_,hw',hwn',_⟩|⟨h',hg',hn'⟩
   ·exact hg ⟨w',hw',y,by rw [hwn'];exact hy,by rw [hwn'];exact Ne.symm hne,by rw [hwn'];exact keepN_same hne (by omega) hx e⟩
   ·exact ha.one u h v h' hne x y hx hy hpos e
theorem valsN_05 {wv:Fld->Val->Int} {fs:List Fld}:∀ {l:List Val} {prev:Option Int} {had:List Int},(∀ v∈l,∃ x,fldN fs v.1=some x/\(wv x v=0∨wv x v=5)/\(0<x.choice->x.choice ∉ had))->RisingV l->(∀ p,prev=some p->∀ v∈l,p<v.1) ->
  (∀ u∈l,∀ v∈l,u.1≠v.1->∀ x y,fldN fs u.1=some x->fldN fs v.1=some y->0<x.choice->x.choice≠y.choice)->valsN wv fs prev had l=0∨valsN wv fs prev had l=5
 |[],_,_,_,_,_,_=>.inl rfl
 |v::l,prev,had,h1,h2,h3,h4=>by
  obtain ⟨x,hx,hw,hc⟩:=h1 v List.mem_cons_self;rw [valsN,hx];simp only
  have hbp:¬ badPrev prev v.1=true:=by
   cases prev with
   |none=>simp [badPrev]
   |some p=>have:=h3 p rfl v List.mem_cons_self;simp only [badPrev,decide_eq_true_eq];omega
  rw [if_neg hbp];rcases hw with hw|hw
  ·rw [if_neg (by simpa using hw),if_neg (fun g=>hc g.1 g.2)];refine valsN_05 (fun u hu=>?_) h2.of_cons (fun p hp u hu=>?_) (fun u hu w hw=>h4 u (List.mem_cons_of_mem _ hu) w (List.mem_cons_of_mem _ hw))
   ·obtain ⟨y,hy,hwy,hcy⟩:=h1 u (List.mem_cons_of_mem _ hu);refine ⟨y,hy,hwy,fun hpos hm=>?_⟩;split at hm
    ·rename_i hx0;rcases List.mem_cons.1 hm with e|hm
     ·have hlt:=List.rel_of_pairwise_cons h2 hu;exact h4 v List.mem_cons_self u (List.mem_cons_of_mem _ hu) (by omega) x y hx hy hx0 e.symm
     ·exact hcy hpos hm
    ·exact hcy hpos hm
   ·(cases hp);exact List.rel_of_pairwise_cons h2 hu
  ·rw [if_pos (by rw [hw];decide)];exact .inr hw
theorem firstN_one (e:Int):firstN [e]=e:=by
 unfold firstN;split
 ·rfl
 ·rename_i h;simp only [ne_eq,Classical.not_not] at h;rw [h];rfl
theorem firstN_all {α:Type} {q:α->Int} {l:List α} (h:∀ x∈l,q x=0):firstN (l.map q)=0:=firstN_map_none fun j hj=>h _ (List.getElem_mem hj)
theorem one_of {l:List Bod} (h:l.length=1):l=[l.headD bod0]:=by
 rcases l with _|⟨a,_|⟨b,l⟩⟩
 ·cases h
 ·rfl
 ·simp at h
theorem countN_app {kind:Int} {n:Int} {o v:Val} (ho:(countN kind o).2=true) (hv:(countN kind v).2=true):(countN kind (n,o.2.1++v.2.1,o.2.2.1++v.2.2.1,o.2.2.2++v.2.2.2)).2=true/\(countN kind (n,o.2.1++v.2.1,o.2.2.1++v.2.2.1,o.2.2.2++v.2.2.2)).1=(countN kind o).1+(countN kind v).1:=by
 unfold countN at ho hv ⊢
 by_cases g:kind=8∨kind=9
 ·rw [if_pos g] at ho hv;rw [if_pos g,if_pos g,if_pos g];simp only [beq_iff_eq,List.length_append] at ho hv ⊢;exact ⟨by omega,trivial⟩
 ·rw [if_neg g] at ho hv;rw [if_neg g,if_neg g,if_neg g]
  by_cases g2:kind=10
  ·rw [if_pos g2] at ho hv;rw [if_pos g2,if_pos g2,if_pos g2];simp only [beq_iff_eq,List.length_append] at ho hv ⊢;exact ⟨by omega,trivial⟩
  ·rw [if_neg g2] at ho hv;rw [if_neg g2,if_neg g2,if_neg g2];simp only [beq_iff_eq,List.length_append] at ho hv ⊢;exact ⟨by omega,trivial⟩
theorem both_05 {wb:Int->Bod->Int} {jb:Int->Bod->Bod->Bod} {f:Fil} {x:Fld} {o v:Val} (ih:∀ mi a b,wb mi a=0->wb mi b=0->wb mi (jb mi a b)=0∨wb mi (jb mi a b)=5) (ho:wrongVF wb f x o=0) (hv:wrongVF wb f x v=0) :
  wrongVF wb f x (bothV jb f x (some o) v)=0∨wrongVF wb f x (bothV jb f x (some o) v)=5:=by
 obtain ⟨o1,o2,o3,o4,o5,o6,o7,o8⟩:=wrongVF_zero ho;obtain ⟨v1,v2,v3,v4,v5,v6,v7,v8⟩:=wrongVF_zero hv;unfold bothV;simp only
 by_cases hm:x.many=true
 ·rw [if_pos hm];obtain ⟨c1,c2⟩:=countN_app (n:=v.1) o1 v1;unfold wrongVF;rw [if_neg (by rw [c1];decide)];split
  ·exact .inr rfl
  ·(have hp:¬ plainN x (v.1,o.2.1++v.2.1,o.2.2.1++v.2.2.1,o.2.2.2++v.2.2.2)=true:=by unfold plainN;rw [hm];simp);rw [if_neg hp];simp only
   rw [firstN_all (q:=fitsN x.kind) (fun n hn=>by rcases List.mem_append.1 hn with h|h;exact o6 n h;exact v6 n h),if_neg (by decide),firstN_all (q:=byteN x.kind) (fun n hn=>by rcases List.mem_append.1 hn with h|h;exact o7 n h;exact v7 n h),if_neg (by decide),
    firstN_all (q:=wb (msgI f x.type)) (fun n hn=>by rcases List.mem_append.1 hn with h|h;exact o8 n h;exact v8 n h)]
   exact .inl rfl
 ·rw [if_neg hm];have hm':x.many=false:=by simpa using hm
  by_cases hk:x.kind=10
  ·rw [if_pos hk];have hos:=one_of (by rw [←count_subs (v:=o) hk];exact o4 hm');have hvs:=one_of (by rw [←count_subs (v:=v) hk];exact v4 hm');have e1:=o8 (o.2.2.2.headD bod0) (by rw [hos];simp);have e2:=v8 (v.2.2.2.headD bod0) (by rw [hvs];simp);have e3:=ih _ _ _ e1 e2;generalize jb (msgI f x.type) (o.2.2.2.headD bod0) (v.2.2.2.headD bod0)=J at *;(have hc:countN x.kind (v.1,v.2.1,v.2.2.1,[J])=(1,v.2.1.length+v.2.2.1.length==0):=by rw [hk];rfl);(have hc2:(v.2.1.length+v.2.2.1.length==0)=true:=by rw [hk] at v1;exact v1);unfold wrongVF;rw [hc,hc2];rw [if_neg (by decide),if_neg (by rintro (h|h|⟨_,h⟩) <;> simp at h),if_neg (by unfold plainN;rw [hk];simp)];simp only;rw [firstN_all (q:=fitsN x.kind) v6,if_neg (by decide),firstN_all (q:=byteN x.kind) v7,if_neg (by decide),List.map_cons,List.map_nil,firstN_one];exact e3
  ·rw [if_neg hk];exact .inl hv
theorem join_05 {f:Fil} (hright:(wrongN f).1=0):∀ (k:Nat) (msg:Int) (a b:Bod),wrongB f k msg a=0->wrongB f k msg b=0->wrongB f k msg (joinB f k msg a b)=0∨wrongB f k msg (joinB f k msg a b)=5
 |0,_,_,_,h,_=>by cases h
 |k+1,msg,a,b,ha,hb=>by
  obtain ⟨k',m,e,hm,ha'⟩:=wrongB_zero ha;(obtain rfl:k=k':=by omega);obtain ⟨k',m',e,hm',hb'⟩:=wrongB_zero hb;(obtain rfl:k=k':=by omega);rw [hm] at hm';obtain rfl:=Option.some.inj hm';have hmr:=right_msg hright m (List.mem_of_getElem? hm);have hch:∀ z∈m.fields,0<=z.choice:=fun z hz=>(choice_16 hmr hz).1;have oa:=okV_right ha';have ob:=okV_right hb';(have hja:joinB f (k+1) msg a b=.mk (b.values.foldl (joinV (joinB f k) f m.fields) a.values) (a.unknown++b.unknown):=by rw [joinB,hm]);have oj:=okV_join (jb:=joinB f k) (f:=f) hch oa ob;obtain ⟨ga,ua⟩:=wrongBF_zero ha';obtain ⟨gb,ub⟩:=wrongBF_zero hb';obtain ⟨ga1,_,_,_⟩:=valsN_zero ga;obtain ⟨gb1,_,_,_⟩:=valsN_zero gb
  have hv:∀ v∈b.values.foldl (joinV (joinB f k) f m.fields) a.values,∃ x,fldN m.fields v.1=some x/\(wrongVF (wrongB f k) f x v=0∨wrongVF (wrongB f k) f x v=5):=fun v hv=>by
   have hf:=rising_find oj.ris hv;obtain ⟨i1,i2,i3⟩:=find_join (jb:=joinB f k) (f:=f) hch oa.ris ob v.1
   cases hbv:findV b.values v.1 with
   |some w =>
    obtain ⟨hwm,hwn⟩:=findV_mem hbv;obtain ⟨x,hx,hw,_⟩:=gb1 w hwm;rw [hwn] at hx;rw [i1 w x hbv hx] at hf;refine ⟨x,hx,?_⟩;rw [←Option.some.inj hf]
    cases hav:findV a.values v.1 with
    |none=>exact .inl hw
    |some o =>
     obtain ⟨hom,hon⟩:=findV_mem hav;obtain ⟨y,hy,ho,_⟩:=ga1 o hom;rw [hon,hx] at hy;obtain rfl:=Option.some.inj hy;exact both_05 (join_05 hright k) ho hw
   |none =>
    by_cases hg:gone m.fields b.values v.1
    ·rw [i2 hbv hg] at hf;cases hf
    ·rw [i3 hbv hg] at hf;obtain ⟨x,hx,hw,_⟩:=ga1 v (findV_mem hf).1;exact ⟨x,hx,.inl hw⟩
  rw [hja,wrongB,hm];simp only;unfold wrongBF;show (if valsN _ _ _ _ (b.values.foldl _ _)≠0 then valsN _ _ _ _ (b.values.foldl _ _) else firstN ((a.unknown++b.unknown).map _))=0∨(if valsN _ _ _ _ (b.values.foldl _ _)≠0 then valsN _ _ _ _ (b.values.foldl _ _) else firstN ((a.unknown++b.unknown).map _))=5;rcases valsN_05 (prev:=none) (had:=[]) (fun v h=>by obtain ⟨x,h1,h2⟩:=hv v h;exact ⟨x,h1,h2,fun _ h3=>(by cases h3)⟩) oj.ris (fun p hp=>by cases hp) oj.one with h|h
  ·rw [h,if_neg (by decide),firstN_all (fun r hr=>by rcases List.mem_append.1 hr with h|h;exact ua r h;exact ub r h)];exact .inl rfl
  ·rw [h,if_pos (by decide)];exact .inr rfl
theorem both_none {jb:Int->Bod->Bod->Bod} {f:Fil} {x:Fld} {v:Val}:bothV jb f x none v=v:=rfl
theorem both_many {jb:Int->Bod->Bod->Bod} {f:Fil} {x:Fld} {u v:Val} (h:x.many=true):bothV jb f x (some u) v=(v.1,u.2.1++v.2.1,u.2.2.1++v.2.2.1,u.2.2.2++v.2.2.2):=by
 unfold bothV;simp only;rw [if_pos h]
theorem both_sub {jb:Int->Bod->Bod->Bod} {f:Fil} {x:Fld} {u v:Val} (h:x.many=false) (hk:x.kind=10):bothV jb f x (some u) v=(v.1,v.2.1,v.2.2.1,[jb (msgI f x.type) (u.2.2.2.headD bod0) (v.2.2.2.headD bod0)]):=by
 unfold bothV;simp only;rw [if_neg (by rw [h];decide),if_pos hk]
theorem both_last {jb:Int->Bod->Bod->Bod} {f:Fil} {x:Fld} {o:Option Val} {v:Val} (h:x.many=false) (hk:x.kind≠10):bothV jb f x o v=v:=by
 unfold bothV
 cases o with
 |none=>rfl
 |some o=>simp only;rw [if_neg (by rw [h];decide),if_neg hk]
theorem join_vals {f:Fil} {k:Nat} {msg:Int} {m:Msg} (hm:f.msgs[msg.toNat]? = some m) (a b:Bod):joinB f (k+1) msg a b=.mk (b.values.foldl (joinV (joinB f k) f m.fields) a.values) (a.unknown++b.unknown):=by rw [joinB,hm]
theorem fld_self {f:Fil} {m:Msg} (h:msgN f m=0) {x:Fld} (hx:x∈m.fields):fldN m.fields x.number=some x:=by
 obtain ⟨i,hi,rfl⟩:=List.getElem_of_mem hx;have h3:=(field_facts ((msg_field h).2.2 i hi)).2.2.1;unfold fldN;rw [List.find?_eq_some_iff_getElem];refine ⟨by simp,i,hi,rfl,fun j hj=>?_⟩;have:=h3 m.fields[j] (by rw [List.mem_take_iff_getElem];exact ⟨j,by omega,rfl⟩);simpa using this
end Go.Proofs.YtbceccblepckhaaGreatDoor
