/-
  pressref3.Both (written by gen_bothr.py).
-/
import Derived.Test.YtbceccblepckhaaGreatDoorCt18
import Derived.Test.YtbceccblepckhaaGreatDoorCt20
import Derived.Laws.OwnMore
set_option maxHeartbeats 12800000
set_option linter.unusedVariables false
namespace Go.Proofs.YtbceccblepckhaaGreatDoor
open Go.RowKit
set_option maxRecDepth 100000
open Lib (hid)
abbrev PlusC (N k:Nat) (f:Fil):Prop:=∀ (d:Nat) (S:Nat->Prop) (msg:Int) (a b:Bod) (fv va ua vb ub:Value) (w:World),0<=msg->msg<f.msgs.length->FilV All w fv f ->
 DBodF d S w a [va,ua]->DBodF d S w b [vb,ub]->wrongB f k msg a=0->wrongB f k msg b=0->UnkLe N k a->UnkLe N k b ->
 Calls Tryz.prog 111 #[fv,.int .i64 msg,.agg #[va,ua],.agg #[vb,ub]] w fun e w'=>∃ vv vu,e=.returned (.agg #[vv,vu])/\DBodF d (Sx S w) w' (joinB f k msg a b) [vv,vu]/\Up w w'
def SO (S:Nat->Prop) (B:Nat):Nat->Prop:=fun b=>S b/\b<B
theorem box4_0 {w:World} {g:Nat} {a b c d:Value} {t:TypeId} (h:w.heap[g]? = some (.cells #[a,b,c,d] t (0,0))) (u:Value):(w.setCell ⟨g,0,none⟩ u).heap[g]? = some (.cells #[u,b,c,d] t (0,0)):=heap_setCell_same w g 0 _ t u h
theorem box4_all {w:World} {g:Nat} {a b c d:Value} {t:TypeId} (h:w.heap[g]? = some (.cells #[a,b,c,d] t (0,0))) (x y z u:Value):((((w.setCell ⟨g,0,none⟩ x).setCell ⟨g,1,none⟩ y).setCell ⟨g,2,none⟩ z).setCell ⟨g,3,none⟩ u).heap[g]? = some (.cells #[x,y,z,u] t (0,0)):=box4_3 (box4_2 (box4_1 (box4_0 h x) y) z) u
theorem keep4 {S:Nat->Prop} {w:World} {g:Nat} (h:¬ S g) (x y z u:Value):Keep S w S ((((w.setCell ⟨g,0,none⟩ x).setCell ⟨g,1,none⟩ y).setCell ⟨g,2,none⟩ z).setCell ⟨g,3,none⟩ u) :=
 (((Keep.setCell (p:=⟨g,0,none⟩) h x).trans (Keep.setCell (p:=⟨g,1,none⟩) h y)).trans (Keep.setCell (p:=⟨g,2,none⟩) h z)).trans (Keep.setCell (p:=⟨g,3,none⟩) h u)
theorem up4 {v w:World} {g:Nat} (hu:Up v w) (h:v.heap.size<=g) (x y z u:Value):Up v ((((w.setCell ⟨g,0,none⟩ x).setCell ⟨g,1,none⟩ y).setCell ⟨g,2,none⟩ z).setCell ⟨g,3,none⟩ u) :=
 Up.setCell (Up.setCell (Up.setCell (Up.setCell hu (p:=⟨g,0,none⟩) h x) (p:=⟨g,1,none⟩) h y) (p:=⟨g,2,none⟩) h z) (p:=⟨g,3,none⟩) h u
theorem both_g (N k d:Nat) (f:Fil) (ih:PlusC N k f) (S:Nat->Prop) (F:Fld) (o v:Val) (fv:Value) (xb xo:Nat) (y1 y2 y3 p1 p2 p3:Option Addr) (z1 z2 z3 g1 g2 g3:Nat) (w:World) (hfv:FilV All w fv f) (hxa:FldAt w xb xo F) (hty:typedN f F=0)
  (how:wrongVF (wrongB f k) f F o=0) (hvz:(countN F.kind v).2=true/\1<=(countN F.kind v).1/\(countN F.kind v).1<=100000/\(F.many=false->(countN F.kind v).1=1)/\∀ s∈v.2.2.2,wrongB f k (msgI f F.type) s=0) (hnum:o.1=v.1) (huo:∀ s∈o.2.2.2,UnkLe N k s) (huv:∀ s∈v.2.2.2,UnkLe N k s)
  (hod:DValD d S w o [.int .i64 o.1,.slice y1 o.2.1.length z1,.slice y2 o.2.2.1.length z2,.slice y3 o.2.2.2.length z3])
  (hvd:DValD d S w v [.int .i64 v.1,.slice p1 v.2.1.length g1,.slice p2 v.2.2.1.length g2,.slice p3 v.2.2.2.length g3]) :
  Calls Tryz.prog 51 #[fv,.pointer (some ⟨xb,xo,none⟩),.agg #[.int .i64 o.1,.slice y1 o.2.1.length z1,.slice y2 o.2.2.1.length z2,.slice y3 o.2.2.2.length z3],.agg #[.int .i64 v.1,.slice p1 v.2.1.length g1,.slice p2 v.2.2.1.length g2,.slice p3 v.2.2.2.length g3]] w fun e w' =>
   ∃ (e1 e2 e3:Option Addr) (h1 h2 h3:Nat),e=.returned (.agg #[.int .i64 v.1,.slice e1 (bothV (joinB f k) f F (some o) v).2.1.length h1,.slice e2 (bothV (joinB f k) f F (some o) v).2.2.1.length h2,.slice e3 (bothV (joinB f k) f F (some o) v).2.2.2.length h3])/\DValD d (Sx S w) w' (bothV (joinB f k) f F (some o) v) [.int .i64 v.1,.slice e1 (bothV (joinB f k) f F (some o) v).2.1.length h1,.slice e2 (bothV (joinB f k) f F (some o) v).2.2.1.length h2,.slice e3 (bothV (joinB f k) f F (some o) v).2.2.2.length h3]/\Up w w':=by
 obtain ⟨vm,ve,rfl,hm',he''⟩:=id hfv;obtain ⟨ma,mc,rfl,_,_⟩:=hm'.val;obtain ⟨ea,ec,rfl,_,_⟩:=he''.val;have Hfv:=hid hfv;have Hxa:=hid hxa;have Hih:=hid ih;have Hty:=hid hty;have hoz:=wrongVF_zero how;obtain ⟨on,ob,oy,os⟩:=o;obtain ⟨qn,qb,qy,qs⟩:=v;simp only at hnum hod hvd huo huv;subst hnum;simp only;(have ho60:ob.length<=60/\oy.length<=60/\os.length<=60:=by have:=count_sum hoz.1;simp only at this;omega);(have hv60:qb.length<=100000/\qy.length<=100000/\qs.length<=100000:=by have:=count_sum hvz.1;simp only at this;omega);obtain ⟨hl1,hl2,hl3⟩:=ho60;obtain ⟨hq1,hq2,hq3⟩:=hv60;have Hoz:=hid hoz;have Hvz:=hid hvz;have Huo:=hid huo;have Huv:=hid huv;have Hod:=hid hod;have Hvd:=hid hvd;obtain ⟨_,_,_,_,_,_,he,hon,ox1,ox2,ox3,ozx⟩:=val_cells hod;simp only [List.cons.injEq,Value.slice.injEq,true_and,and_true] at he;obtain ⟨⟨rfl,rfl⟩,⟨rfl,rfl⟩,rfl,rfl⟩:=he;obtain ⟨_,_,_,_,_,_,he,hvn,vx1,vx2,vx3,vzx⟩:=val_cells hvd;simp only [List.cons.injEq,Value.slice.injEq,true_and,and_true] at he;obtain ⟨⟨rfl,rfl⟩,⟨rfl,rfl⟩,rfl,rfl⟩:=he;have mn:w.cell? ⟨xb,xo+4,none⟩=some (.bool F.many):=hxa.2.1.2.2.2.2.1;have kd:w.cell? ⟨xb,xo+2,none⟩=some (.int .i64 F.kind):=hxa.2.1.2.2.1;have hxb:=hxa.1;have kso:Keep S w (SO S w.heap.size) w:=fun b hs hb=>⟨rfl,hs,hb⟩;have Hox1:=hid (ox1.keep stable_u64 kso);have Hox2:=hid (ox2.keep stable_bytes kso);have Hox3:=hid (ox3.keep (stable_bod d) kso);have Hvx1:=hid (vx1.keep stable_u64 kso);have Hvx2:=hid (vx2.keep stable_bytes kso);have Hvx3:=hid (vx3.keep (stable_bod d) kso);clear hfv hxa ih hty how hoz hvz huo huv hod hvd ox1 ox2 ox3 vx1 vx2 vx3 hm' he'' ozx kso;obtain ⟨RES,hRES⟩:∃ RES,bothV (joinB f k) f F (some (on,ob,oy,os)) (on,qb,qy,qs)=RES:=⟨_,rfl⟩;rw [hRES];have HRES:=hid hRES;clear hRES
 go_enter Tryz.func51,Tryz.ntmps51
 go_upto_region 1 with (fail)
 generalize hW:(((w.alloc (.cells #[.slice ma f.msgs.length mc,.slice ea f.enums.length ec] 25)).alloc (.cells #[.int .i64 on,.slice y1 ob.length z1,.slice y2 oy.length z2,.slice y3 os.length z3] 71)).alloc (.cells #[.int .i64 on,.slice p1 qb.length g1,.slice p2 qy.length g2,.slice p3 qs.length g3] 71)).alloc (.cells #[.int .i64 0,.slice none 0 0,.slice none 0 0,.slice none 0 0] 71)=w1;(have hb0:w1.heap[w.heap.size]? = some (.cells #[.slice ma f.msgs.length mc,.slice ea f.enums.length ec] 25 (0,0)):=by rw [←hW];exact blk_old _ (blk_old _ (blk_old _ (blk_new w _ rfl))));(have hb1:w1.heap[w.heap.size+1]? = some (.cells #[.int .i64 on,.slice y1 ob.length z1,.slice y2 oy.length z2,.slice y3 os.length z3] 71 (0,0)):=by rw [←hW];exact blk_old _ (blk_old _ (blk_new (w.alloc _) _ (by simp))));(have hb2:w1.heap[w.heap.size+2]? = some (.cells #[.int .i64 on,.slice p1 qb.length g1,.slice p2 qy.length g2,.slice p3 qs.length g3] 71 (0,0)):=by rw [←hW];exact blk_old _ (blk_new ((w.alloc _).alloc _) _ (by simp)));(have hb3:w1.heap[w.heap.size+3]? = some (.cells #[.int .i64 0,.slice none 0 0,.slice none 0 0,.slice none 0 0] 71 (0,0)):=by rw [←hW];exact blk_new (((w.alloc _).alloc _).alloc _) _ (by simp));(have hu1:Up w w1:=by rw [←hW];exact ((((Up.refl w).alloc _).alloc _).alloc _).alloc _);clear hW;have mn:=hu1.cell_some mn;have kd:=hu1.cell_some kd;have Hb0:=hid hb0;have Hb1:=hid hb1;have Hb2:=hid hb2;have Hb3:=hid hb3;have Hu1:=hid hu1;have Hox1:=hid (Hox1.out.up stable_u64 hu1);have Hox2:=hid (Hox2.out.up stable_bytes hu1);have Hox3:=hid (Hox3.out.up (stable_bod d) hu1);have Hvx1:=hid (Hvx1.out.up stable_u64 hu1);have Hvx2:=hid (Hvx2.out.up stable_bytes hu1);have Hvx3:=hid (Hvx3.out.up (stable_bod d) hu1);(have hz4:w.heap.size+4<=w1.heap.size:=by have:=lt_of_block hb3;omega);(have hnA:¬ SO S w.heap.size (w.heap.size+1):=fun h=>by have:=h.2;omega);(have hnA':¬ SA S w.heap.size (w.heap.size+1):=by rintro (⟨_,h⟩|h) <;> omega);(have hnR':¬ SA S w.heap.size (w.heap.size+1+1+1):=by rintro (⟨_,h⟩|h) <;> omega);have HnA:=hid hnA;have HnA':=hid hnA';have HnR':=hid hnR'
 have Hsx:=hid (show ∀ b,SA S w.heap.size b->Sx S w b from fun b h=>by
  rcases h with ⟨h,_⟩|h
  ·exact .inl h
  ·exact .inr (by omega))
 clear hb0 hb1 hb2 hb3 hu1 hnA hnA' hnR'
 cases hmany:F.many with
 |true =>
  rw [hmany] at mn;have HR2:=hid (show RES=(on,ob++qb,oy++qy,os++qs) by rw [←HRES.out];unfold bothV;simp only;rw [if_pos hmany]);clear hmany
  go_upto_region 2 with (fail)
  clear mn kd;have Hb1V:=Hb2;obtain ⟨_,nx,cx,lx,ex,fx,gx⟩:=RdS.css (by decide) (Hox1.out.keep stable_u64 (S':=fun k=>SO S w.heap.size k/\k<w1.heap.size) (fun k hs hk=>⟨rfl,hs,hk⟩));obtain ⟨_,ny,cy,ly,ey,fy,gy⟩:=RdS.css (by decide) (Hvx1.out.keep stable_u64 (S':=fun k=>SO S w.heap.size k/\k<w1.heap.size) (fun k hs hk=>⟨rfl,hs,hk⟩));have onx:=ones_of (D:=DU64) (S:=fun k=>SO S w.heap.size k/\k<w1.heap.size) (w:=w1) (l:=ob) (size:=1) one_u64c lx ex;have ony:=ones_of (D:=DU64) (S:=fun k=>SO S w.heap.size k/\k<w1.heap.size) (w:=w1) (l:=qb) (size:=1) one_u64c ly ey;have Hnx:=hid nx;have Hlx:=hid lx;have Hex:=hid ex;have Hfx:=hid fx;have Hgx:=hid gx;have Hny:=hid ny;have Hly:=hid ly;have Hey:=hid ey;have Hfy:=hid fy;have Hgy:=hid gy;have Honx:=hid onx;have Hony:=hid ony;clear nx lx ex fx gx ny ly ey fy gy onx ony;have ddA:=ro1 Hb1.out;have ddV:=ro1 Hb1V.out;have DD:=hid (fun Wd (u:Up w1 Wd)=>(⟨u.cell_some ddA,u.cell_some ddV⟩:Wd.cell? ⟨w.heap.size+1,1,none⟩=some (.slice y1 ob.length z1)/\Wd.cell? ⟨w.heap.size+1+1,1,none⟩=some (.slice p1 qb.length g1)));refine wp_region_last (m:=8) (by kernel_rfl) (by rfl) (by kernel_rfl) (by kernel_rfl) (by kernel_rfl) (S:=fun w'=>w'.cell? ⟨w.heap.size+1,1,none⟩=some (.slice y1 ob.length z1)/\w'.cell? ⟨w.heap.size+1+1,1,none⟩=some (.slice p1 qb.length g1)) ?_;have hHeld:(fun w':World=>w'.cell? ⟨w.heap.size+1,1,none⟩=some (.slice y1 ob.length z1)/\w'.cell? ⟨w.heap.size+1+1,1,none⟩=some (.slice p1 qb.length g1)) w1.drew:=⟨ddA,ddV⟩;change wpAnyH _ _ _ _ _ _ _ _ w1.drew;clear ddA ddV;refine wtk 1 (v:=?_) rfl ?_ ?_
  rotate_left
  ·(intro w hSw;(try dsimp only at hSw);go_simp)
   try with_reducible rfl
  (try simp only [Act.put,List.setIfInBounds_toArray]);refine wtk 2 (v:=?_) rfl ?_ ?_
  rotate_left
  ·(intro w hSw;(try dsimp only at hSw);go_simp)
   try with_reducible rfl
  (try simp only [Act.put]);refine wtk 4 (v:=?_) rfl ?_ ?_
  rotate_left
  ·(intro w hSw;(try dsimp only at hSw);go_simp)
   try with_reducible rfl
  (try simp only [Act.put]);refine wtk 5 (v:=?_) rfl ?_ ?_
  rotate_left
  ·(intro w hSw;(try dsimp only at hSw);go_simp)
   try with_reducible rfl
  (try simp only [Act.put]);refine wpAnyH_ready (rs:=[0]) (by kernel_rfl) (by simp) ?_;refine AllReadyH.cons rfl (fun K hK=>?_) AllReadyH.nil;go_simp;refine hK.out _ _ (DD.out _ (((Up.refl w1).drew).alloc _)) (fun hHeld=>?_);clear hK K;try simp only [Act.put,List.setIfInBounds_toArray,List.set_cons_zero,List.set_cons_succ]
  have how0:(w1.drew.alloc (.cells #[] 72)).ownsRow w1.heap.size 72 1 (.slice (some ⟨w1.heap.size,0,none⟩) 0 0) 0 []:=by
   have:=World.ownsRow_lit (e:=72) (size:=1) w1.drew #[] 0 (Nat.le_refl _) (by unfold maxLen;omega) (by simp);simpa using this
  refine wpAnyH_ready (rs:=[3]) (by kernel_rfl) (by simp) ?_;refine AllReadyH.cons rfl (fun K hK=>?_) AllReadyH.nil;refine step_app eU64c _ (by rfl) _ _ (by rfl) w1.heap.size _ 0 [] (by rfl) how0 y1 ob.length z1 (by rfl) cx.flatten Hfx.out Hnx.out (fun ad h j u hu=>(((Up.refl w1).drew).alloc (.cells #[] 72)).cell_some (Hgx.out ad h j u hu)) Honx.out (by omega) (by unfold maxLen;omega) (by simp) ?_;intro v11a w11a how11a hev11a;have hu11a:=Up.evo (((Up.refl w1).drew).alloc (.cells #[] 72)) hev11a (fun j hj=>by simp [Value.ownBlock] at hj;subst hj;exact Nat.le_refl _);simp only [Nat.zero_add,List.nil_append] at how11a;obtain ⟨s11a,n11a,rfl⟩:=own_val how11a;refine hK.out _ _ (DD.out _ hu11a) (fun hHeld=>?_);clear hK K;(try simp only [Act.put,List.setIfInBounds_toArray]);have hz11a:=hu11a.size;refine wpAnyH_ready (rs:=[6]) (by kernel_rfl) (by simp) ?_;refine AllReadyH.cons rfl (fun K hK=>?_) AllReadyH.nil;refine step_app eU64c _ (by rfl) _ _ (by rfl) w1.heap.size _ ob.length cx.flatten (by rfl) how11a p1 qb.length g1 (by rfl) cy.flatten Hfy.out Hny.out (fun ad h j u hu=>hu11a.cell_some (Hgy.out ad h j u hu)) Hony.out (by omega) (by unfold maxLen;omega) hz11a ?_;intro v11b w11b how11b hev11b;have hu11b:=Up.evo hu11a hev11b (fun j hj=>(how11a.lt j hj).1);have hj11:=rdS_joinS stable_u64 hu11b Hlx.out Hex.out Hly.out Hey.out how11b;obtain ⟨s11b,n11b,rfl⟩:=own_val how11b;refine hK.out _ _ (DD.out _ hu11b) (fun hHeld=>?_);clear hK K;(try simp only [Act.put]);refine wtk 7 (v:=?_) rfl ?_ ?_
  rotate_left
  ·(intro w hSw;(try dsimp only at hSw);go_simp)
   try with_reducible rfl
  (try simp only [Act.put]);refine wpAnyH_done (by kernel_rfl) ?_ _;have Hj11:=hid hj11;have Hu11b:=hid hu11b;have rA11:=(DD.out _ hu11b).1;have rF11:=frozen_of_row w11b (w.heap.size+1) 1 _ _ (hu11b.blk Hb1.out);have rZ11:w.heap.size+1<w11b.heap.size:=lt_of_block (hu11b.blk Hb1.out);clear how11a how11b hev11a hev11b hu11a hu11b hj11 hz11a how0 hHeld DD Hnx Hlx Hex Hfx Hgx Hny Hly Hey Hfy Hgy Honx Hony;refine AskLast.normal (wpOp_step rfl (fun K' hK'=>?_));go_simp;refine hK' _ _ ?_;clear hK'
  go_upto_region 3 with (fail)
  have hbA11:=box4_1 (Hu11b.out.blk Hb1.out) (.slice s11b (ob.length+qb.length) n11b);have hbV11:=(heap_setCell_other w11b ⟨w.heap.size+1,1,none⟩ (w.heap.size+2) (.slice s11b (ob.length+qb.length) n11b) (show w.heap.size+2≠w.heap.size+1 by omega)).trans (Hu11b.out.blk Hb2.out);have hbR11:=(heap_setCell_other w11b ⟨w.heap.size+1,1,none⟩ (w.heap.size+3) (.slice s11b (ob.length+qb.length) n11b) (show w.heap.size+3≠w.heap.size+1 by omega)).trans (Hu11b.out.blk Hb3.out);have hu11:=Up.setCell (Hu1.out.trans Hu11b.out) (p:=⟨w.heap.size+1,1,none⟩) (show w.heap.size<=w.heap.size+1 by omega) (.slice s11b (ob.length+qb.length) n11b);have kp:Keep (SO S w.heap.size) w1 (SO S w.heap.size) (w11b.setCell ⟨w.heap.size+1,1,none⟩ (.slice s11b (ob.length+qb.length) n11b)):=(Keep.upS Hu11b.out).trans (Keep.setCell (p:=⟨w.heap.size+1,1,none⟩) HnA.out _);have kn:Keep (SA S w.heap.size) w1 (SA S w.heap.size) (w11b.setCell ⟨w.heap.size+1,1,none⟩ (.slice s11b (ob.length+qb.length) n11b)):=(Keep.upS Hu11b.out).trans (Keep.setCell (p:=⟨w.heap.size+1,1,none⟩) HnA'.out _);(have hws:w.heap.size+4<=(w11b.setCell ⟨w.heap.size+1,1,none⟩ (.slice s11b (ob.length+qb.length) n11b)).heap.size:=by have:=Hu11b.out.size;simp;omega);have hW4:w.heap.size+4<=w1.heap.size:=hz4;have Hc1:=hid ((Hj11.out.keep stable_u64 (Keep.weak (S':=SA S w.heap.size) (fun b h=>by rcases h with h|h;exact .inl h;exact .inr (by omega)))).keep stable_u64 (Keep.setCell (p:=⟨w.heap.size+1,1,none⟩) HnA'.out (.slice s11b (ob.length+qb.length) n11b)));have Hox2:=hid (Hox2.out.keep stable_bytes kp);have Hvx2:=hid (Hvx2.out.keep stable_bytes kp);have Hox3:=hid (Hox3.out.keep (stable_bod d) kp);have Hvx3:=hid (Hvx3.out.keep (stable_bod d) kp);generalize w11b.setCell ⟨w.heap.size+1,1,none⟩ (.slice s11b (ob.length+qb.length) n11b)=w21 at *;have HbA11:=hid hbA11;have HbA11V:=hid hbV11;have HbR11:=hid hbR11;have Hu11:=hid hu11;clear hbA11 hbV11 hbR11 hu11 kp kn rA11 rF11 rZ11 hz4 hW4;have hz4:=hws;clear hws;obtain ⟨_,nx,cx,lx,ex,fx,gx⟩:=RdS.css (by decide) (Hox2.out.keep stable_bytes (S':=fun k=>SO S w.heap.size k/\k<w21.heap.size) (fun k hs hk=>⟨rfl,hs,hk⟩));obtain ⟨_,ny,cy,ly,ey,fy,gy⟩:=RdS.css (by decide) (Hvx2.out.keep stable_bytes (S':=fun k=>SO S w.heap.size k/\k<w21.heap.size) (fun k hs hk=>⟨rfl,hs,hk⟩));have onx:=ones_of (D:=DBytes) (S:=fun k=>SO S w.heap.size k/\k<w21.heap.size) (w:=w21) (l:=oy) (size:=1) one_byt lx ex;have ony:=ones_of (D:=DBytes) (S:=fun k=>SO S w.heap.size k/\k<w21.heap.size) (w:=w21) (l:=qy) (size:=1) one_byt ly ey;have Hnx:=hid nx;have Hlx:=hid lx;have Hex:=hid ex;have Hfx:=hid fx;have Hgx:=hid gx;have Hny:=hid ny;have Hly:=hid ly;have Hey:=hid ey;have Hfy:=hid fy;have Hgy:=hid gy;have Honx:=hid onx;have Hony:=hid ony;clear nx lx ex fx gx ny ly ey fy gy onx ony;have ddA:=ro2 HbA11.out;have ddV:=ro2 HbA11V.out;have DD:=hid (fun Wd (u:Up w21 Wd)=>(⟨u.cell_some ddA,u.cell_some ddV⟩:Wd.cell? ⟨w.heap.size+1,2,none⟩=some (.slice y2 oy.length z2)/\Wd.cell? ⟨w.heap.size+1+1,2,none⟩=some (.slice p2 qy.length g2)));refine wp_region_last (m:=8) (by kernel_rfl) (by rfl) (by kernel_rfl) (by kernel_rfl) (by kernel_rfl) (S:=fun w'=>w'.cell? ⟨w.heap.size+1,2,none⟩=some (.slice y2 oy.length z2)/\w'.cell? ⟨w.heap.size+1+1,2,none⟩=some (.slice p2 qy.length g2)) ?_;have hHeld:(fun w':World=>w'.cell? ⟨w.heap.size+1,2,none⟩=some (.slice y2 oy.length z2)/\w'.cell? ⟨w.heap.size+1+1,2,none⟩=some (.slice p2 qy.length g2)) w21.drew:=⟨ddA,ddV⟩;change wpAnyH _ _ _ _ _ _ _ _ w21.drew;clear ddA ddV;refine wtk 1 (v:=?_) rfl ?_ ?_
  rotate_left
  ·(intro w hSw;(try dsimp only at hSw);go_simp)
   try with_reducible rfl
  (try simp only [Act.put,List.setIfInBounds_toArray]);refine wtk 2 (v:=?_) rfl ?_ ?_
  rotate_left
  ·(intro w hSw;(try dsimp only at hSw);go_simp)
   try with_reducible rfl
  (try simp only [Act.put]);refine wtk 4 (v:=?_) rfl ?_ ?_
  rotate_left
  ·(intro w hSw;(try dsimp only at hSw);go_simp)
   try with_reducible rfl
  (try simp only [Act.put]);refine wtk 5 (v:=?_) rfl ?_ ?_
  rotate_left
  ·(intro w hSw;(try dsimp only at hSw);go_simp)
   try with_reducible rfl
  (try simp only [Act.put]);refine wpAnyH_ready (rs:=[0]) (by kernel_rfl) (by simp) ?_;refine AllReadyH.cons rfl (fun K hK=>?_) AllReadyH.nil;go_simp;refine hK.out _ _ (DD.out _ (((Up.refl w21).drew).alloc _)) (fun hHeld=>?_);clear hK K;try simp only [Act.put,List.setIfInBounds_toArray,List.set_cons_zero,List.set_cons_succ]
  have how0:(w21.drew.alloc (.cells #[] 30)).ownsRow w21.heap.size 30 1 (.slice (some ⟨w21.heap.size,0,none⟩) 0 0) 0 []:=by
   have:=World.ownsRow_lit (e:=30) (size:=1) w21.drew #[] 0 (Nat.le_refl _) (by unfold maxLen;omega) (by simp);simpa using this
  refine wpAnyH_ready (rs:=[3]) (by kernel_rfl) (by simp) ?_;refine AllReadyH.cons rfl (fun K hK=>?_) AllReadyH.nil;refine step_app eByt _ (by rfl) _ _ (by rfl) w21.heap.size _ 0 [] (by rfl) how0 y2 oy.length z2 (by rfl) cx.flatten Hfx.out Hnx.out (fun ad h j u hu=>(((Up.refl w21).drew).alloc (.cells #[] 30)).cell_some (Hgx.out ad h j u hu)) Honx.out (by omega) (by unfold maxLen;omega) (by simp) ?_;intro v12a w12a how12a hev12a;have hu12a:=Up.evo (((Up.refl w21).drew).alloc (.cells #[] 30)) hev12a (fun j hj=>by simp [Value.ownBlock] at hj;subst hj;exact Nat.le_refl _);simp only [Nat.zero_add,List.nil_append] at how12a;obtain ⟨s12a,n12a,rfl⟩:=own_val how12a;refine hK.out _ _ (DD.out _ hu12a) (fun hHeld=>?_);clear hK K;(try simp only [Act.put,List.setIfInBounds_toArray]);have hz12a:=hu12a.size;refine wpAnyH_ready (rs:=[6]) (by kernel_rfl) (by simp) ?_;refine AllReadyH.cons rfl (fun K hK=>?_) AllReadyH.nil;refine step_app eByt _ (by rfl) _ _ (by rfl) w21.heap.size _ oy.length cx.flatten (by rfl) how12a p2 qy.length g2 (by rfl) cy.flatten Hfy.out Hny.out (fun ad h j u hu=>hu12a.cell_some (Hgy.out ad h j u hu)) Hony.out (by omega) (by unfold maxLen;omega) hz12a ?_;intro v12b w12b how12b hev12b;have hu12b:=Up.evo hu12a hev12b (fun j hj=>(how12a.lt j hj).1);have hj12:=rdS_joinS stable_bytes hu12b Hlx.out Hex.out Hly.out Hey.out how12b;obtain ⟨s12b,n12b,rfl⟩:=own_val how12b;refine hK.out _ _ (DD.out _ hu12b) (fun hHeld=>?_);clear hK K;(try simp only [Act.put]);refine wtk 7 (v:=?_) rfl ?_ ?_
  rotate_left
  ·(intro w hSw;(try dsimp only at hSw);go_simp)
   try with_reducible rfl
  (try simp only [Act.put]);refine wpAnyH_done (by kernel_rfl) ?_ _;have Hj12:=hid hj12;have Hu12b:=hid hu12b;have rA12:=(DD.out _ hu12b).1;have rF12:=frozen_of_row w12b (w.heap.size+1) 2 _ _ (hu12b.blk HbA11.out);have rZ12:w.heap.size+1<w12b.heap.size:=lt_of_block (hu12b.blk HbA11.out);clear how12a how12b hev12a hev12b hu12a hu12b hj12 hz12a how0 hHeld DD Hnx Hlx Hex Hfx Hgx Hny Hly Hey Hfy Hgy Honx Hony;refine AskLast.normal (wpOp_step rfl (fun K' hK'=>?_));go_simp;refine hK' _ _ ?_;clear hK'
  go_upto_region 4 with (fail)
  have hbA12:=box4_2 (Hu12b.out.blk HbA11.out) (.slice s12b (oy.length+qy.length) n12b);have hbV12:=(heap_setCell_other w12b ⟨w.heap.size+1,2,none⟩ (w.heap.size+2) (.slice s12b (oy.length+qy.length) n12b) (show w.heap.size+2≠w.heap.size+1 by omega)).trans (Hu12b.out.blk HbA11V.out);have hbR12:=(heap_setCell_other w12b ⟨w.heap.size+1,2,none⟩ (w.heap.size+3) (.slice s12b (oy.length+qy.length) n12b) (show w.heap.size+3≠w.heap.size+1 by omega)).trans (Hu12b.out.blk HbR11.out);have hu12:=Up.setCell (Hu11.out.trans Hu12b.out) (p:=⟨w.heap.size+1,2,none⟩) (show w.heap.size<=w.heap.size+1 by omega) (.slice s12b (oy.length+qy.length) n12b);have kp:Keep (SO S w.heap.size) w21 (SO S w.heap.size) (w12b.setCell ⟨w.heap.size+1,2,none⟩ (.slice s12b (oy.length+qy.length) n12b)):=(Keep.upS Hu12b.out).trans (Keep.setCell (p:=⟨w.heap.size+1,2,none⟩) HnA.out _);have kn:Keep (SA S w.heap.size) w21 (SA S w.heap.size) (w12b.setCell ⟨w.heap.size+1,2,none⟩ (.slice s12b (oy.length+qy.length) n12b)):=(Keep.upS Hu12b.out).trans (Keep.setCell (p:=⟨w.heap.size+1,2,none⟩) HnA'.out _);(have hws:w.heap.size+4<=(w12b.setCell ⟨w.heap.size+1,2,none⟩ (.slice s12b (oy.length+qy.length) n12b)).heap.size:=by have:=Hu12b.out.size;simp;omega);have hW4:w.heap.size+4<=w21.heap.size:=hz4;have Hc2:=hid ((Hj12.out.keep stable_bytes (Keep.weak (S':=SA S w.heap.size) (fun b h=>by rcases h with h|h;exact .inl h;exact .inr (by omega)))).keep stable_bytes (Keep.setCell (p:=⟨w.heap.size+1,2,none⟩) HnA'.out (.slice s12b (oy.length+qy.length) n12b)));have Hc1:=hid (Hc1.out.keep stable_u64 kn);have Hox3:=hid (Hox3.out.keep (stable_bod d) kp);have Hvx3:=hid (Hvx3.out.keep (stable_bod d) kp);generalize w12b.setCell ⟨w.heap.size+1,2,none⟩ (.slice s12b (oy.length+qy.length) n12b)=w22 at *;have HbA12:=hid hbA12;have HbA12V:=hid hbV12;have HbR12:=hid hbR12;have Hu12:=hid hu12;clear hbA12 hbV12 hbR12 hu12 kp kn rA12 rF12 rZ12 hz4 hW4;have hz4:=hws;clear hws;obtain ⟨_,nx,cx,lx,ex,fx,gx⟩:=RdS.css (by decide) (Hox3.out.keep (stable_bod d) (S':=fun k=>SO S w.heap.size k/\k<w22.heap.size) (fun k hs hk=>⟨rfl,hs,hk⟩));obtain ⟨_,ny,cy,ly,ey,fy,gy⟩:=RdS.css (by decide) (Hvx3.out.keep (stable_bod d) (S':=fun k=>SO S w.heap.size k/\k<w22.heap.size) (fun k hs hk=>⟨rfl,hs,hk⟩));have onx:=ones_of (D:=(DBodF d)) (S:=fun k=>SO S w.heap.size k/\k<w22.heap.size) (w:=w22) (l:=os) (size:=2) (one_bod d) lx ex;have ony:=ones_of (D:=(DBodF d)) (S:=fun k=>SO S w.heap.size k/\k<w22.heap.size) (w:=w22) (l:=qs) (size:=2) (one_bod d) ly ey;have Hnx:=hid nx;have Hlx:=hid lx;have Hex:=hid ex;have Hfx:=hid fx;have Hgx:=hid gx;have Hny:=hid ny;have Hly:=hid ly;have Hey:=hid ey;have Hfy:=hid fy;have Hgy:=hid gy;have Honx:=hid onx;have Hony:=hid ony;clear nx lx ex fx gx ny ly ey fy gy onx ony;have ddA:=ro3 HbA12.out;have ddV:=ro3 HbA12V.out;have DD:=hid (fun Wd (u:Up w22 Wd)=>(⟨u.cell_some ddA,u.cell_some ddV⟩:Wd.cell? ⟨w.heap.size+1,3,none⟩=some (.slice y3 os.length z3)/\Wd.cell? ⟨w.heap.size+1+1,3,none⟩=some (.slice p3 qs.length g3)));refine wp_region_last (m:=8) (by kernel_rfl) (by rfl) (by kernel_rfl) (by kernel_rfl) (by kernel_rfl) (S:=fun w'=>w'.cell? ⟨w.heap.size+1,3,none⟩=some (.slice y3 os.length z3)/\w'.cell? ⟨w.heap.size+1+1,3,none⟩=some (.slice p3 qs.length g3)) ?_;have hHeld:(fun w':World=>w'.cell? ⟨w.heap.size+1,3,none⟩=some (.slice y3 os.length z3)/\w'.cell? ⟨w.heap.size+1+1,3,none⟩=some (.slice p3 qs.length g3)) w22.drew:=⟨ddA,ddV⟩;change wpAnyH _ _ _ _ _ _ _ _ w22.drew;clear ddA ddV;refine wtk 1 (v:=?_) rfl ?_ ?_
  rotate_left
  ·(intro w hSw;(try dsimp only at hSw);go_simp)
   try with_reducible rfl
  (try simp only [Act.put,List.setIfInBounds_toArray]);refine wtk 2 (v:=?_) rfl ?_ ?_
  rotate_left
  ·(intro w hSw;(try dsimp only at hSw);go_simp)
   try with_reducible rfl
  (try simp only [Act.put]);refine wtk 4 (v:=?_) rfl ?_ ?_
  rotate_left
  ·(intro w hSw;(try dsimp only at hSw);go_simp)
   try with_reducible rfl
  (try simp only [Act.put]);refine wtk 5 (v:=?_) rfl ?_ ?_
  rotate_left
  ·(intro w hSw;(try dsimp only at hSw);go_simp)
   try with_reducible rfl
  (try simp only [Act.put]);refine wpAnyH_ready (rs:=[0]) (by kernel_rfl) (by simp) ?_;refine AllReadyH.cons rfl (fun K hK=>?_) AllReadyH.nil;go_simp;refine hK.out _ _ (DD.out _ (((Up.refl w22).drew).alloc _)) (fun hHeld=>?_);clear hK K;try simp only [Act.put,List.setIfInBounds_toArray,List.set_cons_zero,List.set_cons_succ]
  have how0:(w22.drew.alloc (.cells #[] 29)).ownsRow w22.heap.size 29 2 (.slice (some ⟨w22.heap.size,0,none⟩) 0 0) 0 []:=by
   have:=World.ownsRow_lit (e:=29) (size:=2) w22.drew #[] 0 (Nat.le_refl _) (by unfold maxLen;omega) (by simp);simpa using this
  refine wpAnyH_ready (rs:=[3]) (by kernel_rfl) (by simp) ?_;refine AllReadyH.cons rfl (fun K hK=>?_) AllReadyH.nil;refine step_app eBod _ (by rfl) _ _ (by rfl) w22.heap.size _ 0 [] (by rfl) how0 y3 os.length z3 (by rfl) cx.flatten Hfx.out Hnx.out (fun ad h j u hu=>(((Up.refl w22).drew).alloc (.cells #[] 29)).cell_some (Hgx.out ad h j u hu)) Honx.out (by omega) (by unfold maxLen;omega) (by simp) ?_;intro v13a w13a how13a hev13a;have hu13a:=Up.evo (((Up.refl w22).drew).alloc (.cells #[] 29)) hev13a (fun j hj=>by simp [Value.ownBlock] at hj;subst hj;exact Nat.le_refl _);simp only [Nat.zero_add,List.nil_append] at how13a;obtain ⟨s13a,n13a,rfl⟩:=own_val how13a;refine hK.out _ _ (DD.out _ hu13a) (fun hHeld=>?_);clear hK K;(try simp only [Act.put,List.setIfInBounds_toArray]);have hz13a:=hu13a.size;refine wpAnyH_ready (rs:=[6]) (by kernel_rfl) (by simp) ?_;refine AllReadyH.cons rfl (fun K hK=>?_) AllReadyH.nil;refine step_app eBod _ (by rfl) _ _ (by rfl) w22.heap.size _ os.length cx.flatten (by rfl) how13a p3 qs.length g3 (by rfl) cy.flatten Hfy.out Hny.out (fun ad h j u hu=>hu13a.cell_some (Hgy.out ad h j u hu)) Hony.out (by omega) (by unfold maxLen;omega) hz13a ?_;intro v13b w13b how13b hev13b;have hu13b:=Up.evo hu13a hev13b (fun j hj=>(how13a.lt j hj).1);have hj13:=rdS_joinS (stable_bod d) hu13b Hlx.out Hex.out Hly.out Hey.out how13b;obtain ⟨s13b,n13b,rfl⟩:=own_val how13b;refine hK.out _ _ (DD.out _ hu13b) (fun hHeld=>?_);clear hK K;(try simp only [Act.put]);refine wtk 7 (v:=?_) rfl ?_ ?_
  rotate_left
  ·(intro w hSw;(try dsimp only at hSw);go_simp)
   try with_reducible rfl
  (try simp only [Act.put]);refine wpAnyH_done (by kernel_rfl) ?_ _;have Hj13:=hid hj13;have Hu13b:=hid hu13b;have rA13:=(DD.out _ hu13b).1;have rF13:=frozen_of_row w13b (w.heap.size+1) 3 _ _ (hu13b.blk HbA12.out);have rZ13:w.heap.size+1<w13b.heap.size:=lt_of_block (hu13b.blk HbA12.out);clear how13a how13b hev13a hev13b hu13a hu13b hj13 hz13a how0 hHeld DD Hnx Hlx Hex Hfx Hgx Hny Hly Hey Hfy Hgy Honx Hony;refine AskLast.normal (wpOp_step rfl (fun K' hK'=>?_));go_simp;refine hK' _ _ ?_;clear hK'
  go_upto_region 5 with (fail)
  have hbA13:=box4_3 (Hu13b.out.blk HbA12.out) (.slice s13b (os.length+qs.length) n13b);have hbV13:=(heap_setCell_other w13b ⟨w.heap.size+1,3,none⟩ (w.heap.size+2) (.slice s13b (os.length+qs.length) n13b) (show w.heap.size+2≠w.heap.size+1 by omega)).trans (Hu13b.out.blk HbA12V.out);have hbR13:=(heap_setCell_other w13b ⟨w.heap.size+1,3,none⟩ (w.heap.size+3) (.slice s13b (os.length+qs.length) n13b) (show w.heap.size+3≠w.heap.size+1 by omega)).trans (Hu13b.out.blk HbR12.out);have hu13:=Up.setCell (Hu12.out.trans Hu13b.out) (p:=⟨w.heap.size+1,3,none⟩) (show w.heap.size<=w.heap.size+1 by omega) (.slice s13b (os.length+qs.length) n13b);have kp:Keep (SO S w.heap.size) w22 (SO S w.heap.size) (w13b.setCell ⟨w.heap.size+1,3,none⟩ (.slice s13b (os.length+qs.length) n13b)):=(Keep.upS Hu13b.out).trans (Keep.setCell (p:=⟨w.heap.size+1,3,none⟩) HnA.out _);have kn:Keep (SA S w.heap.size) w22 (SA S w.heap.size) (w13b.setCell ⟨w.heap.size+1,3,none⟩ (.slice s13b (os.length+qs.length) n13b)):=(Keep.upS Hu13b.out).trans (Keep.setCell (p:=⟨w.heap.size+1,3,none⟩) HnA'.out _);(have hws:w.heap.size+4<=(w13b.setCell ⟨w.heap.size+1,3,none⟩ (.slice s13b (os.length+qs.length) n13b)).heap.size:=by have:=Hu13b.out.size;simp;omega);have hW4:w.heap.size+4<=w22.heap.size:=hz4;have Hc3:=hid ((Hj13.out.keep (stable_bod d) (Keep.weak (S':=SA S w.heap.size) (fun b h=>by rcases h with h|h;exact .inl h;exact .inr (by omega)))).keep (stable_bod d) (Keep.setCell (p:=⟨w.heap.size+1,3,none⟩) HnA'.out (.slice s13b (os.length+qs.length) n13b)));have Hc1:=hid (Hc1.out.keep stable_u64 kn);have Hc2:=hid (Hc2.out.keep stable_bytes kn);generalize w13b.setCell ⟨w.heap.size+1,3,none⟩ (.slice s13b (os.length+qs.length) n13b)=w23 at *;have HbA13:=hid hbA13;have HbA13V:=hid hbV13;have HbR13:=hid hbR13;have Hu13:=hid hu13;clear hbA13 hbV13 hbR13 hu13 kp kn rA13 rF13 rZ13 hz4 hW4;have hz4:=hws;clear hws;have c0:=ro0 HbA13.out;have c1:w23.cell? ⟨w.heap.size+1,1,none⟩=some (.slice s11b (ob.length+qb.length) n11b):=cell_of_row w23 _ 1 _ _ _ HbA13.out;have c2:w23.cell? ⟨w.heap.size+1,2,none⟩=some (.slice s12b (oy.length+qy.length) n12b):=cell_of_row w23 _ 2 _ _ _ HbA13.out;have c3:w23.cell? ⟨w.heap.size+1,3,none⟩=some (.slice s13b (os.length+qs.length) n13b):=cell_of_row w23 _ 3 _ _ _ HbA13.out;have r0:=ro0 HbR13.out;have r1:=ro1 HbR13.out;have r2:=ro2 HbR13.out;have r3:=ro3 HbR13.out;have rf':∀ o,w23.frozen? ⟨w.heap.size+1+1+1,o,none⟩=false:=fun o=>frozen_of_row w23 _ o _ _ HbR13.out;have rz:w.heap.size+1+1+1<w23.heap.size:=lt_of_block HbR13.out;(go_wp2_with fail);refine bodyPost_ret (v:=.agg #[.int .i64 on,.slice s11b (ob.length+qb.length) n11b,.slice s12b (oy.length+qy.length) n12b,.slice s13b (os.length+qs.length) n13b]) (by simp [results,Tryz.results51,go_sem,r0,r1,r2,r3]) rfl ?_;have hk4:=keep4 (w:=w23) HnR'.out (.int .i64 on) (.slice s11b (ob.length+qb.length) n11b) (.slice s12b (oy.length+qy.length) n12b) (.slice s13b (os.length+qs.length) n13b);refine ⟨s11b,s12b,s13b,n11b,n12b,n13b,?_,?_,up4 Hu13.out (show w.heap.size<=w.heap.size+1+1+1 by omega) _ _ _ _⟩
  ·rw [HR2.out];simp only [List.length_append]
  ·rw [HR2.out];have e1:(ob++qb).length=ob.length+qb.length:=List.length_append;have e2:(oy++qy).length=oy.length+qy.length:=List.length_append;have e3:(os++qs).length=os.length+qs.length:=List.length_append;refine ⟨_,_,_,rfl,hon,?_,?_,?_,?_⟩
   ·simp only [e1];exact (Hc1.out.keep stable_u64 hk4).keep stable_u64 (Keep.weak Hsx.out)
   ·simp only [e2];exact (Hc2.out.keep stable_bytes hk4).keep stable_bytes (Keep.weak Hsx.out)
   ·simp only [e3];exact (Hc3.out.keep (stable_bod d) hk4).keep (stable_bod d) (Keep.weak Hsx.out)
   ·unfold ValSz;simp only [List.length_append];omega
 |false =>
  rw [hmany] at mn
  have r0:∀ W,Up w1 W->W.cell? ⟨w.heap.size+1+1+1,0,none⟩=some (.int .i64 0)/\W.cell? ⟨w.heap.size+1+1+1,1,none⟩=some (.slice none 0 0)/\W.cell? ⟨w.heap.size+1+1+1,2,none⟩=some (.slice none 0 0)/\W.cell? ⟨w.heap.size+1+1+1,3,none⟩=some (.slice none 0 0)/\(∀ o,W.frozen? ⟨w.heap.size+1+1+1,o,none⟩=false)/\w.heap.size+1+1+1<W.heap.size:=fun W u =>
   ⟨cell_of_row W _ 0 _ _ _ (u.blk Hb3.out),cell_of_row W _ 1 _ _ _ (u.blk Hb3.out),cell_of_row W _ 2 _ _ _ (u.blk Hb3.out),cell_of_row W _ 3 _ _ _ (u.blk Hb3.out),fun o=>frozen_of_row W _ o _ _ (u.blk Hb3.out),lt_of_block (u.blk Hb3.out)⟩
  have HR0:=hid r0;clear r0
  by_cases hk10:F.kind=10
  ·rw [hk10] at kd;(have hoc:os.length=1:=by have:=Hoz.out.2.2.2.1 hmany;rw [hk10] at this;exact this);(have hvc:qs.length=1:=by have:=Hvz.out.2.2.2.1 hmany;rw [hk10] at this;exact this);have hmi0:=(typed_facts Hty.out).2.2.1 hk10;have hmib:=msgI_bd f F.type
   have hnil:qb=[]/\qy=[]:=by
    have:=Hvz.out.1;rw [hk10,countN_10] at this;simp only [beq_iff_eq] at this;exact ⟨List.eq_nil_of_length_eq_zero (by omega),List.eq_nil_of_length_eq_zero (by omega)⟩
   obtain ⟨rfl,rfl⟩:=hnil;have HR2:=hid (show RES=(on,[],[],[joinB f k (msgI f F.type) (os.headD bod0) (qs.headD bod0)]) by rw [←HRES.out];unfold bothV;simp only;rw [if_neg (by rw [hmany];decide),if_pos hk10]);have hko:((10:Int)==10)=true:=rfl
   obtain ⟨os0,rfl⟩:∃ x,os=[x]:=by
    rcases os with _|⟨x,_|⟨y,r⟩⟩
    ·simp at hoc
    ·exact ⟨x,rfl⟩
    ·simp at hoc
   obtain ⟨qs0,rfl⟩:∃ x,qs=[x]:=by
    rcases qs with _|⟨x,_|⟨y,r⟩⟩
    ·simp at hvc
    ·exact ⟨x,rfl⟩
    ·simp at hvc
   obtain ⟨sb,so,cs1,rfl,hsS,hsl,hsc4,hcs1,hd1⟩:∃ b1 o1 cs,y3=some ⟨b1,o1,none⟩/\SO S w.heap.size b1/\b1<w1.heap.size/\cs.length=2/\CellsAt w1 b1 o1 cs/\DBodF d (SO S w.heap.size) w1 os0 cs:=by
    obtain ⟨ao,cap,e,_,_,_,g4⟩:=Hox3.out;obtain ⟨b1,o1,cs,e1,e2,e3,e4,e5,e6⟩:=g4 0 (by simp);simp only [Value.slice.injEq] at e;exact ⟨b1,o1,cs,by rw [e.1];exact e1,e2,e3,e4,by simpa using e5,e6⟩
   obtain ⟨m1,r1,z1',m2,r2,z2',rfl⟩:=bod_two hd1
   obtain ⟨tb,to',cs2,rfl,htS,htl,htc4,hcs2,hd2⟩:∃ b1 o1 cs,p3=some ⟨b1,o1,none⟩/\SO S w.heap.size b1/\b1<w1.heap.size/\cs.length=2/\CellsAt w1 b1 o1 cs/\DBodF d (SO S w.heap.size) w1 qs0 cs:=by
    obtain ⟨ao,cap,e,_,_,_,g4⟩:=Hvx3.out;obtain ⟨b1,o1,cs,e1,e2,e3,e4,e5,e6⟩:=g4 0 (by simp);simp only [Value.slice.injEq] at e;exact ⟨b1,o1,cs,by rw [e.1];exact e1,e2,e3,e4,by simpa using e5,e6⟩
   obtain ⟨m3,r3,z3',m4,r4,z4',rfl⟩:=bod_two hd2;have c0:=hcs1 0 _ rfl;have c1:=hcs1 1 _ rfl;have c2:=hcs2 0 _ rfl;have c3:=hcs2 1 _ rfl;simp only [Nat.add_zero] at c0 c2;have f0:=ro0 Hb0.out;have f1:=ro1 Hb0.out;have ty:=Hu1.out.cell_some Hxa.out.2.1.2.2.2.1;have o3:w1.cell? ⟨w.heap.size+1,3,none⟩=some (.slice (some ⟨sb,so,none⟩) 1 z3):=cell_of_row w1 _ 3 _ _ _ Hb1.out;have t0:=ro0 Hb2.out;have t3:w1.cell? ⟨w.heap.size+1+1,3,none⟩=some (.slice (some ⟨tb,to',none⟩) 1 g3):=cell_of_row w1 _ 3 _ _ _ Hb2.out;have Hmsg:=hid (fun W (u:Up w1 W)=>find_msg_r (.agg #[.slice ma f.msgs.length mc,.slice ea f.enums.length ec]) f F.type W (Hfv.out.up (Hu1.out.trans u)));have Hjn:=hid (fun W (u:Up w1 W)=>Hih.out d (SO S w.heap.size) (msgI f F.type) os0 qs0 (.agg #[.slice ma f.msgs.length mc,.slice ea f.enums.length ec]) (.slice m1 r1 z1') (.slice m2 r2 z2') (.slice m3 r3 z3') (.slice m4 r4 z4') W hmi0 (by omega) (Hfv.out.up (Hu1.out.trans u)) (stable_bod d _ _ _ _ _ _ (Keep.upS u) hd1) (stable_bod d _ _ _ _ _ _ (Keep.upS u) hd2) (Hoz.out.2.2.2.2.2.2.2 _ (by simp)) (Hvz.out.2.2.2.2 _ (by simp)) (Huo.out _ (by simp)) (Huv.out _ (by simp)));clear hoc hvc hcs1 hcs2 hd1 hd2 hmany hk10 hsc4 htc4;simp only [List.headD_cons] at HR2;change Hid (∀ W,Up w1 W->Calls _ _ _ _ fun e w'=>e=Ending.returned (.int .i64 (msgI f F.type))/\Up W w') at Hmsg;generalize msgI f F.type=mj at *;generalize joinB f k mj os0 qs0=JB at *
   go_upto_region 7 with (fail)
   have DD:=hid (fun W (u:Up w1 W)=>(⟨u.cell_some f0,u.cell_some f1,u.cell_some ty,u.cell_some o3,u.cell_some t0,u.cell_some t3,u.cell_some c0,u.cell_some c1,u.cell_some c2,u.cell_some c3⟩:W.cell? ⟨w.heap.size,0,none⟩=some (.slice ma f.msgs.length mc)/\W.cell? ⟨w.heap.size,1,none⟩=some (.slice ea f.enums.length ec)/\W.cell? ⟨xb,xo+3,none⟩=some (.string ⟨F.type.toArray⟩)/\W.cell? ⟨w.heap.size+1,3,none⟩=some (.slice (some ⟨sb,so,none⟩) 1 z3)/\W.cell? ⟨w.heap.size+1+1,0,none⟩=some (.int .i64 on)/\W.cell? ⟨w.heap.size+1+1,3,none⟩=some (.slice (some ⟨tb,to',none⟩) 1 g3)/\W.cell? ⟨sb,so,none⟩=some (.slice m1 r1 z1')/\W.cell? ⟨sb,so+1,none⟩=some (.slice m2 r2 z2')/\W.cell? ⟨tb,to',none⟩=some (.slice m3 r3 z3')/\W.cell? ⟨tb,to'+1,none⟩=some (.slice m4 r4 z4')));refine wp_region_last (m:=20) (by kernel_rfl) (by rfl) (by kernel_rfl) (by kernel_rfl) (by kernel_rfl) (S:=fun w'=>w'.cell? ⟨w.heap.size,0,none⟩=some (.slice ma f.msgs.length mc)/\w'.cell? ⟨w.heap.size,1,none⟩=some (.slice ea f.enums.length ec)/\w'.cell? ⟨xb,xo+3,none⟩=some (.string ⟨F.type.toArray⟩)/\w'.cell? ⟨w.heap.size+1,3,none⟩=some (.slice (some ⟨sb,so,none⟩) 1 z3)/\w'.cell? ⟨w.heap.size+1+1,0,none⟩=some (.int .i64 on)/\w'.cell? ⟨w.heap.size+1+1,3,none⟩=some (.slice (some ⟨tb,to',none⟩) 1 g3)/\w'.cell? ⟨sb,so,none⟩=some (.slice m1 r1 z1')/\w'.cell? ⟨sb,so+1,none⟩=some (.slice m2 r2 z2')/\w'.cell? ⟨tb,to',none⟩=some (.slice m3 r3 z3')/\w'.cell? ⟨tb,to'+1,none⟩=some (.slice m4 r4 z4')) ?_;have hHeld:(fun w':World=>w'.cell? ⟨w.heap.size,0,none⟩=some (.slice ma f.msgs.length mc)/\w'.cell? ⟨w.heap.size,1,none⟩=some (.slice ea f.enums.length ec)/\w'.cell? ⟨xb,xo+3,none⟩=some (.string ⟨F.type.toArray⟩)/\w'.cell? ⟨w.heap.size+1,3,none⟩=some (.slice (some ⟨sb,so,none⟩) 1 z3)/\w'.cell? ⟨w.heap.size+1+1,0,none⟩=some (.int .i64 on)/\w'.cell? ⟨w.heap.size+1+1,3,none⟩=some (.slice (some ⟨tb,to',none⟩) 1 g3)/\w'.cell? ⟨sb,so,none⟩=some (.slice m1 r1 z1')/\w'.cell? ⟨sb,so+1,none⟩=some (.slice m2 r2 z2')/\w'.cell? ⟨tb,to',none⟩=some (.slice m3 r3 z3')/\w'.cell? ⟨tb,to'+1,none⟩=some (.slice m4 r4 z4')) w1.drew:=⟨f0,f1,ty,o3,t0,t3,c0,c1,c2,c3⟩;change wpAnyH _ _ _ _ _ _ _ _ w1.drew;refine wtk 0 (v:=?_) rfl ?_ ?_
   rotate_left
   ·(intro w hSw;(try dsimp only at hSw);go_simp)
    try with_reducible rfl
   (try simp only [Act.put,List.setIfInBounds_toArray]);refine wtk 1 (v:=?_) rfl ?_ ?_
   rotate_left
   ·(intro w hSw;(try dsimp only at hSw);go_simp)
    try with_reducible rfl
   (try simp only [Act.put]);refine wtk 2 (v:=?_) rfl ?_ ?_
   rotate_left
   ·(intro w hSw;(try dsimp only at hSw);go_simp)
    try with_reducible rfl
   (try simp only [Act.put]);refine wtk 3 (v:=?_) rfl ?_ ?_
   rotate_left
   ·(intro w hSw;(try dsimp only at hSw);go_simp)
    try with_reducible rfl
   (try simp only [Act.put]);refine wtk 4 (v:=?_) rfl ?_ ?_
   rotate_left
   ·(intro w hSw;(try dsimp only at hSw);go_simp)
    try with_reducible rfl
   (try simp only [Act.put]);refine wtk 5 (v:=?_) rfl ?_ ?_
   rotate_left
   ·(intro w hSw;(try dsimp only at hSw);go_simp)
    try with_reducible rfl
   (try simp only [Act.put]);refine wtk 6 (v:=?_) rfl ?_ ?_
   rotate_left
   ·(intro w hSw;(try dsimp only at hSw);go_simp)
    try with_reducible rfl
   (try simp only [Act.put]);refine wtk 7 (v:=?_) rfl ?_ ?_
   rotate_left
   ·(intro w hSw;(try dsimp only at hSw);go_simp)
    try with_reducible rfl
   (try simp only [Act.put]);refine wtk 9 (v:=?_) rfl ?_ ?_
   rotate_left
   ·(intro w hSw;(try dsimp only at hSw);go_simp)
    try with_reducible rfl
   (try simp only [Act.put]);refine wtk 10 (v:=?_) rfl ?_ ?_
   rotate_left
   ·(intro w hSw;(try dsimp only at hSw);go_simp)
    try with_reducible rfl
   (try simp only [Act.put]);refine wtk 11 (v:=?_) rfl ?_ ?_
   rotate_left
   ·(intro w hSw;(try dsimp only at hSw);go_simp)
    try with_reducible rfl
   (try simp only [Act.put]);refine wtk 12 (v:=?_) rfl ?_ ?_
   rotate_left
   ·(intro w hSw;(try dsimp only at hSw);go_simp)
    try with_reducible rfl
   (try simp only [Act.put]);refine wtk 13 (v:=?_) rfl ?_ ?_
   rotate_left
   ·(intro w hSw;(try dsimp only at hSw);go_simp)
    try with_reducible rfl
   (try simp only [Act.put]);refine wtk 14 (v:=?_) rfl ?_ ?_
   rotate_left
   ·(intro w hSw;(try dsimp only at hSw);go_simp)
    try with_reducible rfl
   (try simp only [Act.put]);refine wtk 15 (v:=?_) rfl ?_ ?_
   rotate_left
   ·(intro w hSw;(try dsimp only at hSw);go_simp)
    try with_reducible rfl
   (try simp only [Act.put]);refine wtk 16 (v:=?_) rfl ?_ ?_
   rotate_left
   ·(intro w hSw;(try dsimp only at hSw);go_simp)
    try with_reducible rfl
   (try simp only [Act.put]);refine wpAnyH_ready (rs:=[8]) (by kernel_rfl) (by simp) ?_;refine AllReadyH.cons rfl (fun K hK=>?_) AllReadyH.nil;go_simp;refine (Hmsg.out _ (Up.refl w1).drew).mono ?_;rintro e w8 ⟨rfl,hu8'⟩;have hu8:=((Up.refl w1).drew).trans hu8';refine hK.out _ _ (DD.out _ hu8) (fun hHeld=>?_);clear hK K hHeld;have hHeld:=DD.out _ hu8;(try simp only [Act.put,List.setIfInBounds_toArray,List.set_cons_zero,List.set_cons_succ]);refine wpAnyH_ready (rs:=[17]) (by kernel_rfl) (by simp) ?_;refine AllReadyH.cons rfl (fun K hK=>?_) AllReadyH.nil;go_simp;refine (Hjn.out _ hu8).mono ?_;rintro e w9 ⟨vv9,vu9,rfl,hjd,hu9'⟩;have hu9:=hu8.trans hu9';have Hjd:=hid hjd;refine hK.out _ _ (DD.out _ hu9) (fun hHeld=>?_);clear hK K hHeld hjd;(try simp only [Act.put,List.setIfInBounds_toArray,List.set_cons_zero,List.set_cons_succ]);refine wpAnyH_ready (rs:=[18]) (by kernel_rfl) (by simp) ?_;refine AllReadyH.cons rfl (fun K hK=>?_) AllReadyH.nil;go_simp;refine hK.out _ _ (DD.out _ (hu9.alloc _)) (fun hHeld=>?_);clear hK K;(try simp only [Act.put,List.setIfInBounds_toArray,List.set_cons_zero,List.set_cons_succ]);refine wtk 19 (v:=?_) rfl ?_ ?_
   rotate_left
   ·(intro w hSw;(try dsimp only at hSw);go_simp)
    try with_reducible rfl
   (try simp only [Act.put,List.setIfInBounds_toArray]);refine wpAnyH_done (by kernel_rfl) ?_ _;have hug:=hu9.alloc (.cells #[vv9,vu9] 29);have hgb:=blk_new w9 (.cells #[vv9,vu9] 29) (g:=w9.heap.size) rfl;have hz9:=hu9.size;have hz8:=hu8.size;have hkj:Keep (Sx (SO S w.heap.size) w8) w9 (SA S w.heap.size) (w9.alloc (.cells #[vv9,vu9] 29)):=(Keep.weak (fun b h=>by rcases h with h|h;exact .inl h;exact .inr (by omega))).trans (Keep.alloc _);have hjn:=stable_bod d _ _ _ _ _ _ hkj Hjd.out;obtain ⟨w10,hw10⟩:∃ w10,w9.alloc (.cells #[vv9,vu9] 29)=w10:=⟨_,rfl⟩;rw [hw10] at hug hgb hjn hHeld ⊢;obtain ⟨q0,q1,q2,q3,qf,qz⟩:=HR0.out w10 hug;have Hjn':=hid hjn;have Hgb:=hid hgb;have Hug:=hid hug;clear hjn hgb hug hu9 hu9' hu8 hu8' hHeld hkj hw10 DD hz8;refine AskLast.normal (wpOp_step rfl (fun K' hK'=>?_));go_simp;refine hK' _ _ ?_;clear hK';(go_wp2_with fail);refine bodyPost_ret (v:=.agg #[.int .i64 on,.slice none 0 0,.slice none 0 0,.slice (some ⟨w9.heap.size,0,none⟩) 1 1]) (by simp [results,Tryz.results51,go_sem,q0,q1,q2,q3]) rfl ?_;refine ⟨none,none,some ⟨w9.heap.size,0,none⟩,0,0,1,?_,?_,up4 (Hu1.out.trans Hug.out) (show w.heap.size<=w.heap.size+1+1+1 by omega) _ _ _ _⟩
   ·rw [HR2.out];rfl
   ·rw [HR2.out];have hk4:=keep4 (w:=w10) HnR'.out (.int .i64 on) (.slice none 0 0) (.slice none 0 0) (.slice (some ⟨w9.heap.size,0,none⟩) 1 1);refine ⟨_,_,_,rfl,hon,rdS_nil _ _ _ _,rdS_nil _ _ _ _,?_,by unfold ValSz;simp⟩;refine rd_one (vv:=vv9) (vu:=vu9) (t:=29) ?_ (.inr (by omega)) ?_
    ·(have hne:w9.heap.size≠w.heap.size+1+1+1:=by omega);rw [heap_setCell_other _ ⟨w.heap.size+1+1+1,3,none⟩ _ _ hne,heap_setCell_other _ ⟨w.heap.size+1+1+1,2,none⟩ _ _ hne,heap_setCell_other _ ⟨w.heap.size+1+1+1,1,none⟩ _ _ hne,heap_setCell_other _ ⟨w.heap.size+1+1+1,0,none⟩ _ _ hne];exact Hgb.out
    ·exact stable_bod d _ _ _ _ _ _ (hk4.trans (Keep.weak Hsx.out)) Hjn'.out
  ·(have hkb:(F.kind==10)=false:=by simpa using hk10);have HR2:=hid (show RES=(on,qb,qy,qs) by rw [←HRES.out];unfold bothV;simp only;rw [if_neg (by rw [hmany];decide),if_neg hk10]);have c0:=ro0 Hb2.out;have c1:=ro1 Hb2.out;have c2:=ro2 Hb2.out;have c3:=ro3 Hb2.out;obtain ⟨r0,r1,r2,r3,rf',rz⟩:=HR0.out w1 (Up.refl _);clear hk10 hmany;(go_wp2_with fail);refine bodyPost_ret (v:=.agg #[.int .i64 on,.slice p1 qb.length g1,.slice p2 qy.length g2,.slice p3 qs.length g3]) (by simp [results,Tryz.results51,go_sem,r0,r1,r2,r3]) rfl ?_;refine ⟨p1,p2,p3,g1,g2,g3,?_,?_,up4 Hu1.out (show w.heap.size<=w.heap.size+1+1+1 by omega) _ _ _ _⟩
   ·rw [HR2.out]
   ·rw [HR2.out];have hk4:=keep4 (w:=w1) HnR'.out (.int .i64 on) (.slice p1 qb.length g1) (.slice p2 qy.length g2) (.slice p3 qs.length g3);have hks:=Hsx.out;exact stable_val d _ _ _ _ _ _ ((((show Keep S w (SA S w.heap.size) w from fun b hs hb=>⟨rfl,.inl ⟨hs,hb⟩⟩).trans (Keep.upS Hu1.out)).trans hk4).trans (Keep.weak hks)) Hvd.out
theorem both_r (N k d:Nat) (f:Fil) (ih:PlusC N k f) (S:Nat->Prop) (F:Fld) (o v:Val) (fv:Value) (xb xo:Nat) (y1 y2 y3 p1 p2 p3:Option Addr) (z1 z2 z3 g1 g2 g3:Nat) (w:World) (hfv:FilV All w fv f) (hxa:FldAt w xb xo F) (hty:typedN f F=0)
  (how:wrongVF (wrongB f k) f F o=0) (hvw:wrongVF (wrongB f k) f F v=0) (hnum:o.1=v.1) (huo:∀ s∈o.2.2.2,UnkLe N k s) (huv:∀ s∈v.2.2.2,UnkLe N k s)
  (hod:DValD d S w o [.int .i64 o.1,.slice y1 o.2.1.length z1,.slice y2 o.2.2.1.length z2,.slice y3 o.2.2.2.length z3])
  (hvd:DValD d S w v [.int .i64 v.1,.slice p1 v.2.1.length g1,.slice p2 v.2.2.1.length g2,.slice p3 v.2.2.2.length g3]) :
  Calls Tryz.prog 51 #[fv,.pointer (some ⟨xb,xo,none⟩),.agg #[.int .i64 o.1,.slice y1 o.2.1.length z1,.slice y2 o.2.2.1.length z2,.slice y3 o.2.2.2.length z3],.agg #[.int .i64 v.1,.slice p1 v.2.1.length g1,.slice p2 v.2.2.1.length g2,.slice p3 v.2.2.2.length g3]] w fun e w' =>
   ∃ (e1 e2 e3:Option Addr) (h1 h2 h3:Nat),e=.returned (.agg #[.int .i64 v.1,.slice e1 (bothV (joinB f k) f F (some o) v).2.1.length h1,.slice e2 (bothV (joinB f k) f F (some o) v).2.2.1.length h2,.slice e3 (bothV (joinB f k) f F (some o) v).2.2.2.length h3])/\DValD d (Sx S w) w' (bothV (joinB f k) f F (some o) v) [.int .i64 v.1,.slice e1 (bothV (joinB f k) f F (some o) v).2.1.length h1,.slice e2 (bothV (joinB f k) f F (some o) v).2.2.1.length h2,.slice e3 (bothV (joinB f k) f F (some o) v).2.2.2.length h3]/\Up w w':=by
 obtain ⟨h1,h2,h3,h4,_,_,_,h8⟩:=wrongVF_zero hvw;exact both_g N k d f ih S F o v fv xb xo y1 y2 y3 p1 p2 p3 z1 z2 z3 g1 g2 g3 w hfv hxa hty how ⟨h1,h2,by omega,h4,h8⟩ hnum huo huv hod hvd
end Go.Proofs.YtbceccblepckhaaGreatDoor
