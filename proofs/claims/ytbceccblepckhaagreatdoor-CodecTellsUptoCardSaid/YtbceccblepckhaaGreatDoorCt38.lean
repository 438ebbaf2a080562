/-
  pressref3.Value, of numbers.
-/
import Derived.Test.YtbceccblepckhaaGreatDoorCt36
import Derived.Test.YtbceccblepckhaaGreatDoorCt37
set_option maxHeartbeats 12800000
set_option linter.unusedVariables false
namespace Go.Proofs.YtbceccblepckhaaGreatDoor
open Go.RowKit Go.Maps
set_option maxRecDepth 100000
open Lib (hid)
theorem rd64_blk {S:Nat->Prop} {W:World} {g n:Nat} {t:TypeId} (hb:W.heap[g]? = some (.cells #[.int .u64 (n:Int)] t (0,0))) (hn:n<18446744073709551616) (hS:S g):RdS DU64 1 S W (.slice (some ⟨g,0,none⟩) 1 1) [n] :=
 rdS_of_block [n] [[.int .u64 (n:Int)]] hb rfl hS rfl (fun i hi=>by
  (obtain rfl:i=0:=by simpa using hi);exact ⟨_,rfl,rfl,rfl,hn⟩) rfl (by simp) (by unfold maxLen;omega)
theorem rval_num {S:Nat->Prop} (x:Fld) (r:Rec) (m1 e1 a3:Option Addr) (m2 m3 e2 e3 c3:Nat) (deep:Int) (bf fo:Nat) (w:World) (hx:FldAt w bf fo x) (hr:RdB S w (.slice a3 r.bytes.length c3) r.bytes) (hbl:r.bytes.length<=4000) (h64:r.bits<18446744073709551616) (hk:howC x.kind≠2) :
  Calls Tryz.prog 49 #[.agg #[.slice m1 m2 m3,.slice e1 e2 e3],.pointer (some ⟨bf,fo,none⟩),.agg #[.int .i64 r.number,.int .i64 r.how,.int .u64 (r.bits:Int),.slice a3 r.bytes.length c3],.int .i64 deep] w fun e w' =>
   ∃ (a1:Option Addr) (n1 c1:Nat),e=.returned (.tuple #[.agg #[.int .i64 x.number,.slice a1 n1 c1,.slice none 0 0,.slice none 0 0],.int .i64 (numbersC x r).2])/\((numbersC x r).2=0->RdS DU64 1 (From (w.heap.size+4)) w' (.slice a1 n1 c1) (numbersC x r).1)/\Up w w':=by
 have hmm:=@run_makeMap Tryz.prog;obtain ⟨hxb,⟨x0,x1,x2,x3,x4,x5⟩,hxd⟩:=hx;have Hwf:=hid (wf_int hxd.2.2.1);(have b8:(x.kind==8)=false:=by rw [beq_eq_false_iff_ne];exact fun e=>hk (howC_two.2 (.inl e)));(have b9:(x.kind==9)=false:=by rw [beq_eq_false_iff_ne];exact fun e=>hk (howC_two.2 (.inr (.inl e))));(have b10:(x.kind==10)=false:=by rw [beq_eq_false_iff_ne];exact fun e=>hk (howC_two.2 (.inr (.inr e))));(have bh:(howC x.kind==2)=false:=by rw [beq_eq_false_iff_ne];exact hk);obtain ⟨RES,hRES⟩:∃ RES,numbersC x r=RES:=⟨_,rfl⟩;rw [hRES];unfold numbersC at hRES;have HR:=hid hRES;have Hr:=hid hr;clear hRES hr x0 x3 x5 hxd;obtain ⟨W,hW⟩:∃ W,(((w.alloc (.cells #[.slice m1 m2 m3,.slice e1 e2 e3] 25)).alloc (.cells #[.int .i64 r.number,.int .i64 r.how,.int .u64 (r.bits:Int),.slice a3 r.bytes.length c3] 87)).alloc (.cells #[.int .i64 0,.slice none 0 0,.slice none 0 0,.slice none 0 0] 71)).alloc (.cells #[.int .i64 x.number,.slice none 0 0,.slice none 0 0,.slice none 0 0] 71)=W:=⟨_,rfl⟩;(have hu:Up w W:=by rw [←hW];exact ((((Up.refl w).alloc _).alloc _).alloc _).alloc _);(have hb1:W.heap[w.heap.size+1]? = some (.cells #[.int .i64 r.number,.int .i64 r.how,.int .u64 (r.bits:Int),.slice a3 r.bytes.length c3] 87 (0,0)):=by rw [←hW];exact blk_old _ (blk_old _ (blk_new (w.alloc _) _ (by simp))));(have hb2:W.heap[w.heap.size+2]? = some (.cells #[.int .i64 0,.slice none 0 0,.slice none 0 0,.slice none 0 0] 71 (0,0)):=by rw [←hW];exact blk_old _ (blk_new ((w.alloc _).alloc _) _ (by simp)));(have hb3:W.heap[w.heap.size+3]? = some (.cells #[.int .i64 x.number,.slice none 0 0,.slice none 0 0,.slice none 0 0] 71 (0,0)):=by rw [←hW];exact blk_new (((w.alloc _).alloc _).alloc _) _ (by simp));(have hz:W.heap.size=w.heap.size+4:=by rw [←hW];simp);have y1:=((((Up.refl w).alloc (.cells #[.slice m1 m2 m3,.slice e1 e2 e3] 25)).alloc (.cells #[.int .i64 r.number,.int .i64 r.how,.int .u64 (r.bits:Int),.slice a3 r.bytes.length c3] 87)).alloc (.cells #[.int .i64 0,.slice none 0 0,.slice none 0 0,.slice none 0 0] 71)).cell_some x1;have y2:=hu.cell_some x2;have y4:=hu.cell_some x4;have Hu:=hid hu;have Hb1:=hid hb1;have Hb2:=hid hb2;have Hb3:=hid hb3;have Hz:=hid hz;clear hu hb1 hb2 hb3 hz x1 x2 x4;have HW:=hid hW;clear hW
 go_enter Tryz.func49,Tryz.ntmps49
 go_upto_region 2 with (fail)
 rw [HW.out];clear y1;have r1:=ro1 Hb1.out;have r2:=ro2 Hb1.out;have r3:=ro3 Hb1.out;(go_wp2_with fail);refine (how_r x.kind _ Hwf.out).mono ?_;rintro e W1 ⟨rfl,hu1⟩;have y2:=hu1.cell_some y2;have y4:=hu1.cell_some y4;have r1:=hu1.cell_some r1;have r2:=hu1.cell_some r2;have r3:=hu1.cell_some r3;replace Hu:=hid (Hu.out.trans hu1);replace Hb2:=hid (hu1.blk Hb2.out);replace Hb3:=hid (hu1.blk Hb3.out);(have hz1:w.heap.size+4<=W1.heap.size:=by have:=hu1.size;have:=Hz.out;omega);(have hz2:w.heap.size+1+1<W1.heap.size:=by omega);(have hz3:w.heap.size+1+1+1<W1.heap.size:=by omega);have v0:=ro0 Hb3.out;have v1:=ro1 Hb3.out;have v2:=ro2 Hb3.out;have v3:=ro3 Hb3.out;have vf:∀ o,W1.frozen? ⟨w.heap.size+1+1+1,o,none⟩=false:=fun o=>frozen_of_row W1 _ o _ _ Hb3.out;have z0:=ro0 Hb2.out;have z1:=ro1 Hb2.out;have z2:=ro2 Hb2.out;have z3:=ro3 Hb2.out;have zf:∀ o,W1.frozen? ⟨w.heap.size+1+1,o,none⟩=false:=fun o=>frozen_of_row W1 _ o _ _ Hb2.out;clear hu1 HW Hb1 Hz;have hres:=HR.out
 by_cases hh:r.how=howC x.kind
 ·
  rw [if_pos hh] at hres;have Hres:=hid hres;clear HR hmm hres;(have hhb:(r.how==howC x.kind)=true:=by simpa using hh);have Hhh:=hid hh;rw [hh] at r1;clear hh;have H64:=hid h64;have Hnum:=hid (fun W=>number_r x.kind r.bits W H64.out);clear h64
  go_upto_region 15 with (fail)
  have hbW:=lt_of_block Hb3.out;(have hnb:bf≠w.heap.size+1+1+1:=by omega);(have hn1:w.heap.size+1≠w.heap.size+1+1+1:=by omega);have dd:W1.drew.cell? ⟨bf,fo+2,none⟩=some (.int .i64 x.kind)/\W1.drew.cell? ⟨w.heap.size+1,2,none⟩=some (.int .u64 (r.bits:Int)):=⟨y2,r2⟩;have DD:=hid (fun W' (u:Up W1 W')=>(⟨u.cell_some y2,u.cell_some r2⟩:W'.cell? ⟨bf,fo+2,none⟩=some (.int .i64 x.kind)/\W'.cell? ⟨w.heap.size+1,2,none⟩=some (.int .u64 (r.bits:Int))));have HS:=hid (fun u=>(⟨cell_keep y2 hnb u,cell_keep r2 hn1 u⟩:(W1.setCell ⟨w.heap.size+1+1+1,1,none⟩ u).cell? ⟨bf,fo+2,none⟩=some (.int .i64 x.kind)/\(W1.setCell ⟨w.heap.size+1+1+1,1,none⟩ u).cell? ⟨w.heap.size+1,2,none⟩=some (.int .u64 (r.bits:Int))));clear y2 r2 y4 r1 r3
  go_region_held3 (fun w'=>w'.cell? ⟨bf,fo+2,none⟩=some (.int .i64 x.kind)/\w'.cell? ⟨w.heap.size+1,2,none⟩=some (.int .u64 (r.bits:Int)))
   (first|with_reducible exact dd|with_reducible exact DD.out _ ((Up.refl W1).drew.alloc _)|with_reducible exact DD.out _ ((Up.refl W1).alloc _).drew|with_reducible exact ⟨(((Up.refl _).alloc _).drew).cell_some (HS.out _).1,(((Up.refl _).alloc _).drew).cell_some (HS.out _).2⟩|with_reducible exact ⟨(((Up.refl _).drew).alloc _).cell_some (HS.out _).1,(((Up.refl _).drew).alloc _).cell_some (HS.out _).2⟩|go_keep)
   (first|(go_at_call 110;refine (Hnum.out _).mono ?_;rintro e w5 ⟨rfl,hw5⟩;subst w5))
  have Hw2:=hid (show Up w (((W1.setCell ⟨w.heap.size+1+1+1,1,none⟩ (.slice (some ⟨W1.heap.size,0,none⟩) 1 1)).alloc (.cells #[.int .u64 (backC x.kind r.bits:Int)] 72)).drew) from ((Up.setCell Hu.out (p:=⟨w.heap.size+1+1+1,1,none⟩) (by simp only;omega) _).alloc _).drew);have hg2:(((W1.setCell ⟨w.heap.size+1+1+1,1,none⟩ (.slice (some ⟨W1.heap.size,0,none⟩) 1 1)).alloc (.cells #[.int .u64 (backC x.kind r.bits:Int)] 72)).drew).heap[W1.heap.size]? = some (.cells #[.int .u64 (backC x.kind r.bits:Int)] 72 (0,0)):=blk_new (W1.setCell ⟨w.heap.size+1+1+1,1,none⟩ (.slice (some ⟨W1.heap.size,0,none⟩) 1 1)) (.cells #[.int .u64 (backC x.kind r.bits:Int)] 72) (by simp)
  have hb2:(((W1.setCell ⟨w.heap.size+1+1+1,1,none⟩ (.slice (some ⟨W1.heap.size,0,none⟩) 1 1)).alloc (.cells #[.int .u64 (backC x.kind r.bits:Int)] 72)).drew).heap[w.heap.size+1+1]? = some (.cells #[.int .i64 0,.slice none 0 0,.slice none 0 0,.slice none 0 0] 71 (0,0)):=by
   refine blk_old (w:=W1.setCell ⟨w.heap.size+1+1+1,1,none⟩ (.slice (some ⟨W1.heap.size,0,none⟩) 1 1)) (.cells #[.int .u64 (backC x.kind r.bits:Int)] 72) ?_;rw [heap_setCell_other _ ⟨w.heap.size+1+1+1,1,none⟩ _ _ (by simp only;omega)];exact Hb2.out
  have hb3:(((W1.setCell ⟨w.heap.size+1+1+1,1,none⟩ (.slice (some ⟨W1.heap.size,0,none⟩) 1 1)).alloc (.cells #[.int .u64 (backC x.kind r.bits:Int)] 72)).drew).heap[w.heap.size+1+1+1]? = some (.cells #[.int .i64 x.number,.slice (some ⟨W1.heap.size,0,none⟩) 1 1,.slice none 0 0,.slice none 0 0] 71 (0,0)):=by
   refine blk_old (w:=W1.setCell ⟨w.heap.size+1+1+1,1,none⟩ (.slice (some ⟨W1.heap.size,0,none⟩) 1 1)) (.cells #[.int .u64 (backC x.kind r.bits:Int)] 72) ?_;exact heap_setCell_same W1 (w.heap.size+3) 1 _ _ _ Hb3.out
  clear v0 v1 v2 v3 vf z0 z1 z2 z3 zf;generalize ((W1.setCell ⟨w.heap.size+1+1+1,1,none⟩ (.slice (some ⟨W1.heap.size,0,none⟩) 1 1)).alloc (.cells #[.int .u64 (backC x.kind r.bits:Int)] 72)).drew=W2 at *;have v0:=ro0 hb3;have v1:=ro1 hb3;have v2:=ro2 hb3;have v3:=ro3 hb3;have z0:=ro0 hb2;have z1:=ro1 hb2;have z2:=ro2 hb2;have z3:=ro3 hb2;have zf:∀ o,W2.frozen? ⟨w.heap.size+1+1,o,none⟩=false:=fun o=>frozen_of_row W2 _ o _ _ hb2;have hz4:w.heap.size+1+1<W2.heap.size:=lt_of_block hb2;have Hg2:=hid hg2;clear hg2 hb2 hb3;(go_wp2_with fail);refine bodyPost_ret (v:=.tuple #[.agg #[.int .i64 x.number,.slice (some ⟨W1.heap.size,0,none⟩) 1 1,.slice none 0 0,.slice none 0 0],.int .i64 0]) (by simp [results,Tryz.results49,go_sem,z0,z1,z2,z3]) rfl ?_;(have hle:w.heap.size<=w.heap.size+1+1:=by omega);rw [←Hres.out];refine ⟨_,_,_,rfl,fun _=>?_,up4 Hw2.out hle _ _ _ _⟩;refine RdS.keep stable_u64 (rd64_blk (S:=From (w.heap.size+4)) Hg2.out (back_64 H64.out) hz1) (keep4 (fun h=>by unfold From at h;omega) _ _ _ _)
 by_cases hm:r.how≠2∨x.many=false
 ·
  rw [if_neg hh,if_pos hm] at hres;have Hres:=hid hres;clear HR hmm hres;have hhb:(r.how==howC x.kind)=false:=by rw [beq_eq_false_iff_ne];exact hh
  by_cases h2:r.how=2
  ·(have hmany:x.many=false:=by rcases hm with h|h;exact absurd h2 h;exact h);rw [hmany] at y4;rw [h2] at r1 hhb;have hhb2:((2:Int)==howC x.kind)=false:=hhb;clear hm hh;(go_wp2_with fail);refine bodyPost_ret (v:=.tuple #[.agg #[.int .i64 x.number,.slice none 0 0,.slice none 0 0,.slice none 0 0],.int .i64 8]) (by simp [results,Tryz.results49,go_sem,z0,z1,z2,z3]) rfl ?_;(have hle:w.heap.size<=w.heap.size+1+1:=by omega);rw [←Hres.out];exact ⟨none,0,0,rfl,(fun h=>absurd h (by decide)),up4 Hu.out hle _ _ _ _⟩
  ·(have h2b:(r.how != 2)=true:=by rw [bne_iff_ne];exact h2);clear hm hh;(go_wp2_with fail);refine bodyPost_ret (v:=.tuple #[.agg #[.int .i64 x.number,.slice none 0 0,.slice none 0 0,.slice none 0 0],.int .i64 8]) (by simp [results,Tryz.results49,go_sem,z0,z1,z2,z3]) rfl ?_;(have hle:w.heap.size<=w.heap.size+1+1:=by omega);rw [←Hres.out];exact ⟨none,0,0,rfl,(fun h=>absurd h (by decide)),up4 Hu.out hle _ _ _ _⟩
 ·rw [if_neg hh,if_neg hm] at hres
  have h2:r.how=2:=by
   by_cases g:r.how=2
   ·exact g
   ·exact absurd (.inl g) hm
  have hmany:x.many=true:=by
   cases g:x.many with
   |true=>rfl
   |false=>exact absurd (.inr g) hm
  have hA0:combP [] (packP x.kind (r.bytes.length+1) r.bytes)=RES:=by
   rw [hres];have h1:=pack_err' (kind:=x.kind) (r.bytes.length+1) r.bytes;rw [hres] at h1;unfold combP;split
   ·rename_i g;rw [←h1 g]
   ·rename_i g;simp only [ne_eq,Decidable.not_not] at g;rw [List.nil_append,←g]
  have HA0:=hid hA0;rw [hmany] at y4;rw [h2] at r1;have h3c:=howC_three hk;have Hk:=hid hk;(have hhb:((2:Int)==howC x.kind)=false:=by rw [beq_eq_false_iff_ne];exact fun e=>hk e.symm);have Hy2:=hid y2;have Hr3:=hid r3;(have hwf2:(Lit.int .i64 (howC x.kind)).wf=true:=by rcases h3c with h|h|h <;> (rw [h];rfl));have Hwf2:=hid hwf2;have Hb1:=hid (show W1.heap[w.heap.size+1]? = W1.heap[w.heap.size+1]? from rfl);obtain ⟨L,hL⟩:∃ L,r.bytes=L:=⟨_,rfl⟩;rw [hL] at r3 Hr3 HA0 Hr hbl;have H3c:=hid h3c;clear HR hres hA0 hm hh h2 hk hwf2 Hb1 hL h64 h3c;(go_wp2_with fail);clear y2 y4 r1 r2 r3 v0 v1 v2 v3 vf z0 z1 z2 z3 zf
  go_loopw [14] (fun a wr=>∃ (j fu:Nat) (acc:List Nat) (sa:Option Addr) (sc:Nat),a=.int .i64 j/\j<=L.length/\L.length - j<fu/\acc.length<=j/\(∀ n∈acc,n<18446744073709551616)/\combP acc (packP x.kind fu (L.drop j))=RES /\
    wr.heap[w.heap.size+3]? = some (.cells #[.int .i64 x.number,.slice sa acc.length sc,.slice none 0 0,.slice none 0 0] 71 (0,0))/\wr.ownsRow (w.heap.size+4) 72 1 (.slice sa acc.length sc) acc.length (U64s acc) /\
    wr.heap[w.heap.size+2]? = some (.cells #[.int .i64 0,.slice none 0 0,.slice none 0 0,.slice none 0 0] 71 (0,0))/\wr.cell? ⟨w.heap.size+1,3,none⟩=some (.slice a3 L.length c3)/\wr.cell? ⟨bf,fo+2,none⟩=some (.int .i64 x.kind)/\Up w wr)
   (fun a _=>L.length - (intOf a).toNat)
  case atStart=>exact ⟨0,L.length+1,[],none,0,rfl,by omega,by omega,by simp,(fun n h=>by cases h),by rw [List.drop_zero];exact HA0.out,Hb3.out,World.ownsRow_nil _ _ _ _,Hb2.out,Hr3.out,Hy2.out,Hu.out⟩
  case round =>
   clear Hb2 Hb3 Hu Hr3 HA0 Hy2;obtain ⟨j,fu,acc,sa,sc,rfl,hj,hfu,hacc,h64,hA,hb3,how,hb2,r3,y2,hu⟩:=hrel;have Hy2:=hid y2;have Hb2:=hid hb2;have Hb3:=hid hb3;have Hu:=hid hu;have How:=hid how;have H64:=hid h64;have HA:=hid hA;have Hr3:=hid r3;have hzr:=hu.size;have hb3z:=lt_of_block hb3;clear hb2 hb3 hu how h64 hA hz1 hz2 hz3 y2;(have hz2:w.heap.size+1+1<wr.heap.size:=by omega);have v0:=ro0 Hb3.out;have v1:=ro1 Hb3.out;have v2:=ro2 Hb3.out;have v3:=ro3 Hb3.out;have z0:=ro0 Hb2.out;have z1:=ro1 Hb2.out;have z2:=ro2 Hb2.out;have z3:=ro3 Hb2.out;have zf:∀ o,wr.frozen? ⟨w.heap.size+1+1,o,none⟩=false:=fun o=>frozen_of_row wr _ o _ _ Hb2.out
   by_cases hlt:j<L.length
   ·(have hlt2:(j:Int)<(L.length:Int):=by omega);(have hne:L.drop j≠[]:=fun e=>by have:=congrArg List.length e;simp at this;omega);obtain ⟨fu,rfl⟩:∃ z,fu=z+1:=⟨fu - 1,by omega⟩;have Hbad:=hid (fun e (he:(headC (howC x.kind) (L.drop j)).2.2=e) (h0:e≠0)=>show RES=([],e) by rw [←HA.out];exact comb_bad acc hne he h0);have Hmore:=hid (fun n m (he:headC (howC x.kind) (L.drop j)=(n,m,0))=>show combP (acc++[backC x.kind n]) (packP x.kind fu (L.drop (j+m)))=RES by rw [←HA.out,comb_more acc hne he,List.drop_drop]);have Hne:=hid hne;have Hhok:=hid (@head_ok x.kind (L.drop j) Hk.out hne);have hown0:=World.ownsMap_made wr Tryz.prog 3 (plainElem (H:=Unit) Tryz.prog 3);have Hown:=hid hown0;have Hux:=hid ((Up.refl wr).alloc (.map #[] 0));have Hlt:=hid hlt;clear hne hown0 v0 v1 v2 v3 z0 z1 z2 z3 zf hlt
    go_upto_region 22 with (first
     |(refine step_insert _ rfl _ _ _ 45 rfl 3 3 law_int Tryz.underlying45 (plainElem (H:=Unit) Tryz.prog 3) wr.heap.size _ _ rfl (by with_reducible exact Hown.out) (by unfold maxLen;omega) _ _ _ rfl rfl (keyOf_int_mk Tryz.underlying3 (by decide)) _ [] (plainElem_int Tryz.underlying3 (by decide)) ?_;intro w1 hown1 hgrow1;have hx1:Up wr w1:=Up.grown (by with_reducible exact Hux.out) hgrow1 (fun q hq=>by cases hq;exact Nat.le_refl _);clear hgrow1;replace Hown:=hid hown1;replace Hux:=hid hx1;clear hown1 hx1)
     |(refine wpList_lookup_own_int _ rfl _ _ 45 rfl 3 3 .i64 law_int Tryz.underlying45 Tryz.underlying3 (zero_int _) wr.heap.size _ _ rfl (by with_reducible exact Hown.out) _ _ rfl (keyOf_int_mk Tryz.underlying3 Hwf2.out) ?_;intro c hat hwc))
    rw [sizeM_eq] at hat;have hcs:=sizeM_at _ c hat;subst hcs;clear hat hwc Hown hmm;have Hu1:=hid (Hu.out.trans Hux.out);replace Hy2:=hid (Hux.out.cell_some Hy2.out);have Hbv:=hid (Hux.out.blk Hb3.out);have Hb2':=hid (Hux.out.blk Hb2.out);have r3:=Hux.out.cell_some Hr3.out;have How1:=hid (How.out.kept Hux.out.to_none (by cases (Value.slice sa acc.length sc).ownBlock <;> simp));have HrA:=hid (show RdB All w1 (.slice a3 L.length c3) L from (Hr.out.up stable_u8 Hu1.out).keep stable_u8 Keep.all);have hz2:w.heap.size+1+1<w1.heap.size:=lt_of_block Hb2'.out;have v0:=ro0 Hbv.out;have v1:=ro1 Hbv.out;have v2:=ro2 Hbv.out;have v3:=ro3 Hbv.out;have z0:=ro0 Hb2'.out;have z1:=ro1 Hb2'.out;have z2:=ro2 Hb2'.out;have z3:=ro3 Hb2'.out;have zf:∀ o,w1.frozen? ⟨w.heap.size+1+1,o,none⟩=false:=fun o=>frozen_of_row w1 _ o _ _ Hb2'.out;clear Hb2 Hb3 How Hu Hux Hr3
    go_upto_if 130 with (fail)
    go_cut [14,15,16] (fun a sv nv wc=>∃ n m:Nat,headC (howC x.kind) (L.drop j)=(n,m,0)/\a=.int .i64 ((j+m:Nat):Int)/\nv=.int .u64 (n:Int)/\wc=w1)
    case first =>
     rcases H3c.out with hc|hc|hc
     ·(have hh0:(howC x.kind==0)=true:=by rw [hc];rfl);obtain ⟨n,m,e,hg⟩:∃ n m e,get (L.drop j)=(n,m,e):=⟨_,_,_,rfl⟩;(have hhd:headC (howC x.kind) (L.drop j)=(n,m,e):=by rw [headC_var hc,hg]);clear hc
      by_cases he:e=0
      ·subst he;(have htk:takeC L j=(n,j+m,0):=by unfold takeC;rw [hg];rfl);have Ht:=hid (take_eq L j _ _ _ (.slice a3 L.length c3) (j:Int) w1 htk rfl HrA.out hj);have Hhd:=hid hhd;clear htk hg hhd;go_wp2_with (go_at_call 107;go_must (refine Ht.out.mono ?_;rintro e w3 ⟨rfl,hw3⟩;subst w3))
       go_meet
       exact ⟨n,m,Hhd.out,by go_num,rfl,rfl⟩
      ·(have htk:takeC L j=(0,0,e):=by unfold takeC;rw [hg];simp only;rw [if_neg he]);have Ht:=hid (take_eq L j _ _ _ (.slice a3 L.length c3) (j:Int) w1 htk rfl HrA.out hj);have Hres:=hid (Hbad.out e (by rw [hhd]) he);(have heb:(e != 0)=true:=by rw [bne_iff_ne];exact he);clear htk hg hhd;(go_wp2_with (go_at_call 107;go_must (refine Ht.out.mono ?_;rintro e w3 ⟨rfl,hw3⟩;subst w3)));refine bodyPost_ret (v:=.tuple #[.agg #[.int .i64 x.number,.slice sa acc.length sc,.slice none 0 0,.slice none 0 0],.int .i64 e]) (by simp [results,Tryz.results49,go_sem,z0,z1,z2,z3]) rfl ?_;(have hle:w.heap.size<=w.heap.size+1+1:=by omega);rw [Hres.out];exact ⟨sa,acc.length,sc,rfl,(fun h=>absurd h he),up4 Hu1.out hle _ _ _ _⟩
     ·(have hh0:(howC x.kind==0)=false:=by rw [hc];rfl);(have hsz:sizeC (howC x.kind)=8:=by rw [hc];rfl);(have hhd:headC (howC x.kind) (L.drop j)=if (L.drop j).length<8 then (0,0,2) else (lowVal ((L.drop j).take 8),8,0):=by rw [hc];rfl);rw [List.length_drop] at hhd;rw [hsz];clear hsz hc
      by_cases hs:L.length - j<8
      ·rw [if_pos hs] at hhd;have Hres:=hid (Hbad.out 2 (by rw [hhd]) (by decide));(have hs2:(L.length:Int)<(j:Int)+8:=by have:=Hlt.out;omega);clear hhd hs;(go_wp2_with fail);refine bodyPost_ret (v:=.tuple #[.agg #[.int .i64 x.number,.slice sa acc.length sc,.slice none 0 0,.slice none 0 0],.int .i64 2]) (by simp [results,Tryz.results49,go_sem,z0,z1,z2,z3]) rfl ?_;(have hle:w.heap.size<=w.heap.size+1+1:=by omega);rw [Hres.out];exact ⟨sa,acc.length,sc,rfl,(fun h=>absurd h (by decide)),up4 Hu1.out hle _ _ _ _⟩
      ·rw [if_neg hs] at hhd;(have hs2:¬ (L.length:Int)<(j:Int)+8:=by have:=Hlt.out;omega);(have hs3:j+8<=L.length:=by have:=Hlt.out;omega);obtain ⟨y,hy⟩:∃ y,lowVal ((L.drop j).take 8)=y:=⟨_,rfl⟩;rw [hy] at hhd;(have hnb:numB 8 (L.drop j)=(y,0):=by unfold numB;rw [if_neg (by rw [List.length_drop];omega),hy]);obtain ⟨a5,c5,hsl,hsr⟩:=slice_rd HrA.out j 8 (j:Int) ((j:Int)+8) hs3 rfl (by omega);have Hhi:=hid (high_eq (.slice a5 8 c5) (L.drop j) 8 y w1 hnb hsr (by omega));have Hhd:=hid hhd;clear hhd hs hy hnb hsr hs3;go_wp2_with (go_at_call 108;go_must (refine Hhi.out.mono ?_;rintro e w3 ⟨rfl,hw3⟩;subst w3))
       go_meet
       exact ⟨y,8,Hhd.out,by go_num,rfl,rfl⟩
     ·(have hh0:(howC x.kind==0)=false:=by rw [hc];rfl);(have hsz:sizeC (howC x.kind)=4:=by rw [hc];rfl);(have hhd:headC (howC x.kind) (L.drop j)=if (L.drop j).length<4 then (0,0,2) else (lowVal ((L.drop j).take 4),4,0):=by rw [hc];rfl);rw [List.length_drop] at hhd;rw [hsz];clear hsz hc
      by_cases hs:L.length - j<4
      ·rw [if_pos hs] at hhd;have Hres:=hid (Hbad.out 2 (by rw [hhd]) (by decide));(have hs2:(L.length:Int)<(j:Int)+4:=by have:=Hlt.out;omega);clear hhd hs;(go_wp2_with fail);refine bodyPost_ret (v:=.tuple #[.agg #[.int .i64 x.number,.slice sa acc.length sc,.slice none 0 0,.slice none 0 0],.int .i64 2]) (by simp [results,Tryz.results49,go_sem,z0,z1,z2,z3]) rfl ?_;(have hle:w.heap.size<=w.heap.size+1+1:=by omega);rw [Hres.out];exact ⟨sa,acc.length,sc,rfl,(fun h=>absurd h (by decide)),up4 Hu1.out hle _ _ _ _⟩
      ·rw [if_neg hs] at hhd;(have hs2:¬ (L.length:Int)<(j:Int)+4:=by have:=Hlt.out;omega);(have hs3:j+4<=L.length:=by have:=Hlt.out;omega);obtain ⟨y,hy⟩:∃ y,lowVal ((L.drop j).take 4)=y:=⟨_,rfl⟩;rw [hy] at hhd;(have hnb:numB 4 (L.drop j)=(y,0):=by unfold numB;rw [if_neg (by rw [List.length_drop];omega),hy]);obtain ⟨a5,c5,hsl,hsr⟩:=slice_rd HrA.out j 4 (j:Int) ((j:Int)+4) hs3 rfl (by omega);have Hhi:=hid (high_eq (.slice a5 4 c5) (L.drop j) 4 y w1 hnb hsr (by omega));have Hhd:=hid hhd;clear hhd hs hy hnb hsr hs3;go_wp2_with (go_at_call 108;go_must (refine Hhi.out.mono ?_;rintro e w3 ⟨rfl,hw3⟩;subst w3))
       go_meet
       exact ⟨y,4,Hhd.out,by go_num,rfl,rfl⟩
    case rest =>
     obtain ⟨n,m,hhd,rfl,rfl,hwc⟩:=hcut;subst wc;obtain ⟨k1,k2,k3,_⟩:=Hhok.out (by rw [hhd]);rw [hhd,List.length_drop] at k2;rw [hhd] at k1 k3;simp only at k1 k2 k3;have Hm:=hid (Hmore.out n m hhd);have Hnum:=hid (fun W=>number_r x.kind n W k3);have Hb64:=hid (back_64 (k:=x.kind) k3);have K1:=hid k1;have K2:=hid k2;have HR3:=hid r3;have y2:=Hy2.out;clear hhd k1 k2 k3 Hbad Hmore Hhok r3 v0 v2 v3 z0 z1 z2 z3 zf;generalize backC x.kind n=bk at *;(have hnb:bf≠w.heap.size+1+1+1:=by omega);(have hz4:w.heap.size+4<=w1.heap.size:=by have:=lt_of_block Hbv.out;omega);have DD:=hid (fun W (u:Up w1 W)=>(⟨u.cell_some v1,u.cell_some y2⟩:W.cell? ⟨w.heap.size+1+1+1,1,none⟩=some (.slice sa acc.length sc)/\W.cell? ⟨bf,fo+2,none⟩=some (.int .i64 x.kind)))
     go_upto_region 32 with (fail)
     refine wp_region_last (m:=11) (by kernel_rfl) (by rfl) (by kernel_rfl) (by kernel_rfl) (by kernel_rfl) (S:=fun w'=>w'.cell? ⟨w.heap.size+1+1+1,1,none⟩=some (.slice sa acc.length sc)/\w'.cell? ⟨bf,fo+2,none⟩=some (.int .i64 x.kind)) ?_;have hHeld:(fun w':World=>w'.cell? ⟨w.heap.size+1+1+1,1,none⟩=some (.slice sa acc.length sc)/\w'.cell? ⟨bf,fo+2,none⟩=some (.int .i64 x.kind)) w1.drew:=⟨v1,y2⟩;change wpAnyH _ _ _ _ _ _ _ _ w1.drew;clear v1 y2;refine wtk 0 (v:=?_) rfl ?_ ?_
     rotate_left
     ·(intro w hSw;(try dsimp only at hSw);go_simp)
      try with_reducible rfl
     (try simp only [Act.put,List.setIfInBounds_toArray]);refine wtk 1 (v:=?_) rfl ?_ ?_
     rotate_left
     ·(intro w hSw;(try dsimp only at hSw);go_simp)
      try with_reducible rfl
     (try simp only [Act.put]);refine wtk 2 (v:=?_) rfl ?_ ?_
     rotate_left
     ·(intro w hSw;(try dsimp only at hSw);go_simp)
      try with_reducible rfl
     (try simp only [Act.put]);refine wtk 3 (v:=?_) rfl ?_ ?_
     rotate_left
     ·(intro w hSw;(try dsimp only at hSw);go_simp)
      try with_reducible rfl
     (try simp only [Act.put]);refine wtk 4 (v:=?_) rfl ?_ ?_
     rotate_left
     ·(intro w hSw;(try dsimp only at hSw);go_simp)
      try with_reducible rfl
     (try simp only [Act.put]);refine wtk 5 (v:=?_) rfl ?_ ?_
     rotate_left
     ·(intro w hSw;(try dsimp only at hSw);go_simp)
      try with_reducible rfl
     (try simp only [Act.put]);refine wtk 6 (v:=?_) rfl ?_ ?_
     rotate_left
     ·(intro w hSw;(try dsimp only at hSw);go_simp)
      try with_reducible rfl
     (try simp only [Act.put]);refine wpAnyH_ready (rs:=[7]) (by kernel_rfl) (by simp) ?_;refine AllReadyH.cons rfl (fun K hK=>?_) AllReadyH.nil;go_simp;refine (Hnum.out _).mono ?_;rintro e w5 ⟨rfl,hw5⟩;subst w5;refine hK.out _ _ (DD.out _ (Up.refl w1).drew) (fun hHeld=>?_);clear hK K;(try simp only [Act.put,List.setIfInBounds_toArray,List.set_cons_zero,List.set_cons_succ]);refine wpAnyH_ready (rs:=[8]) (by kernel_rfl) (by simp) ?_;refine AllReadyH.cons rfl (fun K hK=>?_) AllReadyH.nil;go_simp;refine hK.out _ _ (DD.out _ ((Up.refl w1).alloc _).drew) (fun hHeld=>?_);clear hK K;(try simp only [Act.put,List.setIfInBounds_toArray,List.set_cons_zero,List.set_cons_succ]);have ew:(w1.alloc (.cells #[.int .u64 (bk:Int)] 72)).drew=w1.drew.alloc (.cells #[.int .u64 (bk:Int)] 72):=rfl;rw [ew] at hHeld ⊢;clear ew;refine wpAnyH_ready (rs:=[9]) (by kernel_rfl) (by simp) ?_;refine AllReadyH.cons rfl (fun K hK=>?_) AllReadyH.nil;refine step_app1 eU64c _ (by rfl) _ _ (by rfl) (w.heap.size+4) _ _ _ (by rfl) How1.out.drew _ (by rfl) (by first|rfl|simp) (by rfl) (oc (by rfl)) (by omega) (by unfold maxLen;omega) (show w.heap.size+4<=w1.drew.heap.size from hz4) ?_;intro v9 w9 how9 hev9;obtain ⟨a9,c9,rfl⟩:=own_val how9;have hlo:∀ q,(Value.slice sa acc.length sc).ownBlock=some q->w.heap.size+4<=q:=fun q e=>(How1.out.lt q e).1;(have hn3:(Value.slice sa acc.length sc).ownBlock≠some (w.heap.size+1+1+1):=fun e=>by have:=hlo _ e;omega);(have hnbf:(Value.slice sa acc.length sc).ownBlock≠some bf:=fun e=>by have:=hlo _ e;omega);have hb9:=hev9.blk ((Up.refl w1).drew.blk Hbv.out) hn3;have hb29:=hev9.blk ((Up.refl w1).drew.blk Hb2'.out) (fun e=>by have:=hlo _ e;omega);have hD:=DD.out _ (Up.refl w1).drew;refine hK.out _ _ ⟨evo_cell hev9 hD.1 hn3,evo_cell hev9 hD.2 hnbf⟩ (fun hHeld=>?_);clear hK K;(try simp only [Act.put,List.setIfInBounds_toArray]);refine wtk 10 (v:=?_) rfl ?_ ?_
     rotate_left
     ·(intro w hSw;(try dsimp only at hSw);go_simp)
      try with_reducible rfl
     (try simp only [Act.put]);refine wpAnyH_done (by kernel_rfl) ?_ _;have n1':=ro1 hb9;have nf:∀ o,w9.frozen? ⟨w.heap.size+1+1+1,o,none⟩=false:=fun o=>frozen_of_row w9 _ o _ _ hb9;have nz:w.heap.size+1+1+1<w9.heap.size:=lt_of_block hb9;have y29:=evo_cell hev9 hD.2 hnbf;have r39:=evo_cell hev9 ((Up.refl w1).drew.cell_some HR3.out) (fun e=>by have:=hlo _ e;simp at this);have hu9:Up w w9:=Up.evo Hu1.out.drew hev9 (fun q e=>by have:=hlo q e;omega);(have hn9:(Value.slice a9 (acc.length+1) c9).ownBlock≠some (w.heap.size+1+1+1):=fun e=>by have:=(how9.lt _ e).1;omega);have Hb9:=hid hb9;have Hb29:=hid hb29;have Hy29:=hid y29;have Hr39:=hid r39;have Hu9:=hid hu9;have Hn9:=hid hn9;have Hnb:=hid hnb;have Hhow9:=hid how9;clear hb9 hb29 hD how9 hev9 hHeld DD y29 r39 hu9 hn9 hn3 hnbf hlo;refine AskLast.normal (wpOp_step rfl (fun K' hK'=>?_));go_simp;refine hK' _ _ ?_;clear hK';go_wp2_with fail
     go_roundw
     case rel =>
      refine ⟨j+m,fu,acc++[bk],a9,c9,by go_num,by have:=K2.out;omega,by have:=K1.out;omega,by simp;have:=K1.out;omega,?_,Hm.out,?_,?_,?_,?_,?_,?_⟩
      ·intro z hz;rcases List.mem_append.1 hz with h|h
       ·exact H64.out z h
       ·simp at h;subst h;exact Hb64.out
      ·have h:=heap_setCell_same w9 (w.heap.size+1+1+1) 1 _ _ (.slice a9 (acc.length+1) c9) Hb9.out;rw [List.length_append];exact h
      ·have h:=ownsRow_setCell_other Hhow9.out (a:=⟨w.heap.size+1+1+1,1,none⟩) Hn9.out (.slice a9 (acc.length+1) c9);simpa [U64s] using h
      ·rw [heap_setCell_other _ ⟨w.heap.size+1+1+1,1,none⟩ _ _ (by simp only;omega)];exact Hb29.out
      ·exact cell_keep Hr39.out (p:=⟨w.heap.size+1+1+1,1,none⟩) (by simp only;omega) _
      ·exact cell_keep Hy29.out (p:=⟨w.heap.size+1+1+1,1,none⟩) Hnb.out _
      ·exact Up.setCell Hu9.out (p:=⟨w.heap.size+1+1+1,1,none⟩) (by simp only;omega) _
     case measure=>have:=K1.out;have:=K2.out;simp [intOf];omega
   ·
    have e:L.drop j=[]:=List.drop_eq_nil_of_le (by omega);obtain ⟨fu,rfl⟩:∃ z,fu=z+1:=⟨fu - 1,by omega⟩;have Hres:=hid (show (acc,(0:Int))=RES by rw [←HA.out,e,comb_nil]);(have hlt2:¬ (j:Int)<(L.length:Int):=by omega);clear e hmm;(go_wp2_with fail);refine bodyPost_ret (v:=.tuple #[.agg #[.int .i64 x.number,.slice sa acc.length sc,.slice none 0 0,.slice none 0 0],.int .i64 0]) (by simp [results,Tryz.results49,go_sem,z0,z1,z2,z3]) rfl ?_;(have hle:w.heap.size<=w.heap.size+1+1:=by omega);rw [←Hres.out];refine ⟨sa,acc.length,sc,rfl,fun _=>?_,up4 Hu.out hle _ _ _ _⟩;exact RdS.keep stable_u64 (rd64_of_owns (S:=From (w.heap.size+4)) How.out H64.out (fun q e=>(How.out.lt q e).1)) (keep4 (fun h=>by unfold From at h;omega) _ _ _ _)
end Go.Proofs.YtbceccblepckhaaGreatDoor
