/-
  pressref2.Wrong.
-/
import Derived.Test.YtbceccblepckhaaGreatDoorCt33
set_option maxHeartbeats 12800000
set_option linter.unusedVariables false
namespace Go.Proofs.YtbceccblepckhaaGreatDoor
open Go.RowKit Go.Maps
set_option maxRecDepth 100000
open Lib (hid)
theorem hadN_len (f:Fil):(hadN f).length=f.msgs.length+f.enums.length:=by unfold hadN;rw [List.length_append,List.length_map,List.length_map]
theorem hadN_msg (f:Fil) {k:Nat} (h:k<f.msgs.length):(hadN f)[k]'(by rw [hadN_len];omega)=f.msgs[k].name:=by
 unfold hadN;rw [List.getElem_append_left (by simpa using h),List.getElem_map]
theorem hadN_enum (f:Fil) {k:Nat} (h:k<f.enums.length):(hadN f)[f.msgs.length+k]'(by rw [hadN_len];omega)=f.enums[k].name:=by
 unfold hadN;rw [List.getElem_append_right (by simp)];simp
theorem any_take_succ {α:Type} {p:α->Bool} {l:List α} {k:Nat} (h:k<l.length):(l.take (k+1)).any p=((l.take k).any p || p l[k]):=by
 rw [List.take_succ_eq_append_getElem h,List.any_append];simp
theorem bad_r (ex:Int) (nm k b o:Nat) (mo:Option Addr) (mc:Nat) (w:World) (h0:w.cell? ⟨b,0,none⟩=some (.slice mo nm mc)) (h1:w.cell? ⟨o,0,none⟩=some (.int .i64 k)) (hk:k<=100) (hn:nm<=100) :
  Calls Tryz.prog 46 #[.int .i64 ex,.pointer (some ⟨b,0,none⟩),.pointer (some ⟨o,0,none⟩)] w fun e w'=>e=.returned (.agg #[.int .i64 ex,.int .i64 ((nm+k:Nat):Int)])/\Up w w':=by
 have hb:=World.block_lt_of_cell? w _ h0;have ho:=World.block_lt_of_cell? w _ h1;simp only at hb ho;(have hb':b≠w.heap.size:=by omega);have ho':o≠w.heap.size:=by omega
 go_enter Tryz.func46,Tryz.ntmps46
 (go_wp2_with fail);exact bodyPost_ret (v:=.agg #[.int .i64 ex,.int .i64 ((nm+k:Nat):Int)]) (by simp [results,Tryz.results46,go_sem]) rfl ⟨rfl,(Up.refl w).alloc _⟩
theorem wrong_r (v:Value) (f:Fil) (w:World) (hf:FilV All w v f) (hsz:f.msgs.length+f.enums.length<=9223372036854775807) :
  Calls Tryz.prog 22 #[v] w fun e w'=>e=.returned (.agg #[.int .i64 (wrongN f).1,.int .i64 ((wrongN f).2:Int)])/\Up w w':=by
 have Hf:=hid hf;obtain ⟨vm,ve,rfl,hm,he⟩:=hf;obtain ⟨mo,mc,rfl,hm1,hm2⟩:=hm.val;obtain ⟨eo,ec,rfl,he1,he2⟩:=he.val;have Hm:=hid hm;have He:=hid he;clear hm he
 by_cases hlen:10<f.msgs.length+f.enums.length
 ·
  rw [wrong_many hlen];(have h2:10<(f.msgs.length:Int)+(f.enums.length:Int):=by omega);have Hlen:=hid hlen;clear hlen;have hs1:(f.msgs.length:Int)+(f.enums.length:Int)<=9223372036854775807:=by omega
  go_enter Tryz.func22,Tryz.ntmps22
  (go_wp2_with fail);exact bodyPost_ret (v:=.agg #[.int .i64 5,.int .i64 0]) (by simp [results,Tryz.results22,go_sem]) rfl ⟨rfl,((Up.refl w).alloc _).alloc _⟩
 ·(have i1:(f.msgs.length:Int)+f.enums.length<=10:=by omega);(have i2:(f.msgs.length:Int)<=10:=by omega);(have i3:(f.enums.length:Int)<=10:=by omega);have Hlen:=hid hlen;clear hlen;have hmm:=@run_makeMap Tryz.prog
  go_enter Tryz.func22,Tryz.ntmps22
  (go_wp2_with fail);clear hmm;have hHn:=hadN_len f;have HHn:=hid hHn;clear hHn;(go_loopw [4,36] (fun at_ i wr=>∃ (k:Nat) (D:DataW Unit),k<=f.msgs.length/\i=.int .i64 k/\at_=.int .i64 k/\wr.ownsMap Tryz.prog 9 (plainElem Tryz.prog 3) (w.heap.size+2) k D/\HadD D ((hadN f).take k)/\Up w wr/\wr.heap[w.heap.size]? = some (.cells #[.slice mo f.msgs.length mc,.slice eo f.enums.length ec] 25 (0,0))/\wr.heap[w.heap.size+1]? = some (.cells #[.int .i64 0,.int .i64 0] 60 (0,0))/\∀ j,(hj:j<(hadN f).length)->j<k->nameN (hadN f) j (hadN f)[j]=0) (fun _ i _=>f.msgs.length - (intOf i).toNat));case atStart=>exact ⟨0,.map [],by omega,rfl,rfl,(show ((w.alloc (.cells #[.slice mo f.msgs.length mc,.slice eo f.enums.length ec] 25)).alloc (.cells #[.int .i64 0,.int .i64 0] 60)).heap.size=w.heap.size+2 by simp) ▸ World.ownsMap_made _ _ _ _,had_nil,(((Up.refl w).alloc _).alloc _).alloc _,blk_old _ (blk_old _ (blk_new w _ rfl)),blk_old _ (blk_new (w.alloc _) _ (by simp)),fun j _ h=>absurd h (by omega)⟩
  case round =>
   obtain ⟨k,D,hk,rfl,rfl,how,hd,hu,hb0,hb1,hg⟩:=hrel;have How:=hid how;have Hd:=hid hd;have Hb0:=hid hb0;have Hb1:=hid hb1;have Hg:=hid hg;have Hu:=hid hu;clear how hd hb0 hb1 hg
   by_cases hlt:k<f.msgs.length
   ·
    (have hlh:k<(hadN f).length:=by rw [HHn.out];omega);obtain ⟨b,o,cs,rfl,hb,hl,hcs,hd⟩:=(Hm.out.up stable_msg hu).at hlt;obtain ⟨vf,vb,hd,hf1,hb1',hn⟩:=hd;obtain ⟨fo,fc,rfl,_,_⟩:=hf1.val;obtain ⟨bo,bc,rfl,_,_⟩:=hb1'.val;subst hd;have c0:=hcs 0 _ rfl;have c1:=hcs 1 _ rfl;have c2:=hcs 2 _ rfl;simp only [Nat.add_zero] at c0;(have k0:(0:Int)<=(k:Int):=by omega);(have k1:(k:Int)<(f.msgs.length:Int):=by omega);have Hgn:=hid (fun e=>zero_more (q:=nameN (hadN f)) hlh Hg.out e);have Hgw:=hid (fun e=>wrong_name (f:=f) Hlen.out hlh Hg.out e);have hnm:=name_cases (hadN f) k (hadN f)[k];have hts:=List.take_succ_eq_append_getElem hlh;rw [hadN_msg f hlt] at hnm hts;simp only [hadN_msg f hlt] at Hgn Hgw;have Hts:=hid hts;have Hn:=hid hn;(have hsz:f.msgs[k].name.length<=maxLen:=by have:=hn;unfold okS at this;unfold maxLen;omega);have Hsz:=hid hsz;clear hcs hl hf1 hb1' hu hts hn hsz;have Htl:=hid (show ((hadN f).take k).length<=1000 by rw [List.length_take];omega);generalize f.msgs[k]=x at *;have hwz:w.heap.size+2<wr.heap.size:=How.out.lt;have hcl:=List.count_le_length (a:=x.name) (l:=(hadN f).take k);rw [List.length_take] at hcl;have hca:=counts_any ((hadN f).take k) x.name;obtain ⟨c,hc⟩:∃ c:Int,(((hadN f).take k).count x.name:Int)=c:=⟨_,rfl⟩;(have c00:0<=c:=by omega);(have c10:c<=10:=by omega);rw [show decide (0<((hadN f).take k).count x.name)=decide (0<c) by rw [Bool.eq_iff_iff];simp only [decide_eq_true_eq];omega] at hca;(have hc2:(((hadN f).take k++[x.name]).count x.name:Int)=c+1:=by rw [List.count_append,←hc];simp);have Hc:=hid hc;have Hc2:=hid hc2;clear hc hc2 hcl;rw [←hca] at hnm;clear hca;have hfr:=fun w1=>free_r x.name w1 Hn.out
    cases hfx:freeN x.name with
    |false =>
     simp only [hfx] at hfr;have Hi:=hid (show nameN (hadN f) k x.name=7 by rw [hnm,hfx];rfl);have Hfr:=hid hfr;clear hnm hfr hfx
     go_wp2_with (first
      |(at_lookup;go_must (refine wpList_had (by rfl) _ _ (by rfl) (w.heap.size+2) k D ((hadN f).take k) x.name (by rfl) (How.out.alloc _) Hd.out (by rfl) Hsz.out c Hc.out ?_))
      |(at_mapUpdate;go_must (refine wpList_had_put (by rfl) _ _ _ (by rfl) (w.heap.size+2) k D ((hadN f).take k) x.name (by rfl) (How.out.alloc _) Hd.out (by unfold maxLen;omega) (by rfl) Hsz.out Htl.out c Hc.out (by rfl) ?_;intro w1 D1 how1 hd1 hgr1;have hm1:=(hgr1.block wr.heap.size (by simp) (by simp;omega)).trans (blk_new wr _ rfl);have d0:=ro0 hm1;have hu1:Up w w1:=Up.grown (Hu.out.alloc _) hgr1 (fun j hj=>by cases hj;omega);have hb11:=(hgr1.block (w.heap.size+1) (by simp;omega) (by simp)).trans (blk_old _ Hb1.out);have Hb11:=hid hb11;clear hm1 how1 hd1 hgr1 hb11))
      |(go_at_call 44;go_must ((with_reducible refine (Hfr.out w1).mono ?_);rintro e w2 ⟨rfl,hu2⟩;have hbx:=(hu2).blk Hb11.out;have q0:=ro0 hbx;have q1:=ro1 hbx;have g0:∀ o,w2.frozen? ⟨w.heap.size+1,o,none⟩=false:=(fun o=>frozen_of_row w2 _ o _ _ hbx);have hz:w.heap.size+1<w2.heap.size:=lt_of_block hbx;clear hbx)))
     refine bodyPost_ret (v:=.agg #[.int .i64 7,.int .i64 k]) (by simp [results,Tryz.results22,go_sem,q0,q1]) rfl ?_;rw [Hgw.out Hi.out];refine ⟨by first|rfl|simp,?_⟩;repeat (with_reducible refine Up.setCell ?_ ?_ _)
     ·exact hu1.trans hu2
     all_goals simp
    |true =>
     simp only [hfx] at hfr;(have hcc:0<c∨c<=0:=by omega);have Hi7:=hid (show 0<c->nameN (hadN f) k x.name=7 from fun h=>by rw [hnm,hfx,decide_eq_true h];rfl);have Hi0:=hid (show c<=0->nameN (hadN f) k x.name=0 from fun h=>by rw [hnm,hfx,decide_eq_false (by omega)];rfl);have Hfr:=hid hfr;clear hnm hfr hfx;have tok1:True:=trivial;rcases hcc with hcc|hcc
     all_goals
      go_wp2_with (first
       |(at_lookup;clear tok1;go_must (refine wpList_had (by rfl) _ _ (by rfl) (w.heap.size+2) k D ((hadN f).take k) x.name (by rfl) (How.out.alloc _) Hd.out (by rfl) Hsz.out c Hc.out ?_))
       |(at_mapUpdate;go_must (refine wpList_had_put (by rfl) _ _ _ (by rfl) (w.heap.size+2) k D ((hadN f).take k) x.name (by rfl) (How.out.alloc _) Hd.out (by unfold maxLen;omega) (by rfl) Hsz.out Htl.out c Hc.out (by rfl) ?_;intro w1 D1 how1 hd1 hgr1;have hm1:=(hgr1.block wr.heap.size (by simp) (by simp;omega)).trans (blk_new wr _ rfl);have d0:=ro0 hm1;have hu1:Up w w1:=Up.grown (Hu.out.alloc _) hgr1 (fun j hj=>by cases hj;omega);have hb10:=(hgr1.block w.heap.size (by simp;omega) (by simp)).trans (blk_old _ Hb0.out);have hb11:=(hgr1.block (w.heap.size+1) (by simp;omega) (by simp)).trans (blk_old _ Hb1.out);have Hb10:=hid hb10;have Hb11:=hid hb11;have How1:=hid how1;have Hd1:=hid hd1;clear how1 hd1 hgr1 hb10 hb11))
       |(go_at_call 44;go_must ((with_reducible refine (Hfr.out w1).mono ?_);rintro e w2 ⟨rfl,hu2⟩;have d1:=ro0 (hu2.blk hm1);have How2:=hid (How1.out.kept hu2.to_none (by simp));have hbx:=(hu2).blk Hb11.out;have q0:=ro0 hbx;have q1:=ro1 hbx;have g0:∀ o,w2.frozen? ⟨w.heap.size+1,o,none⟩=false:=(fun o=>frozen_of_row w2 _ o _ _ hbx);have hz:w.heap.size+1<w2.heap.size:=lt_of_block hbx;clear hbx))
       |(at_lookup;go_must (refine wpList_had (by rfl) _ _ (by rfl) (w.heap.size+2) (k+1) D1 ((hadN f).take k++[x.name]) x.name (by rfl) How2.out Hd1.out (by rfl) Hsz.out (c+1) Hc2.out ?_)))
     ·refine bodyPost_ret (v:=.agg #[.int .i64 7,.int .i64 k]) (by simp [results,Tryz.results22,go_sem,q0,q1]) rfl ?_;rw [Hgw.out (Hi7.out hcc)];refine ⟨by first|rfl|simp,?_⟩;repeat (with_reducible refine Up.setCell ?_ ?_ _)
      ·exact hu1.trans hu2
      all_goals simp
     ·go_roundw
      (case rel=>exact ⟨k+1,D1,by omega,by go_num,by go_num,How2.out,by rw [Hts.out];exact Hd1.out,hu1.trans hu2,hu2.blk Hb10.out,hu2.blk Hb11.out,Hgn.out (Hi0.out hcc)⟩);case measure=>simp [intOf];omega
   ·(have hkm:k=f.msgs.length:=by omega);subst hkm;have e1:=ro1 Hb0.out;obtain ⟨wa,rfl⟩:∃ wa:World,wa=wr:=⟨_,rfl⟩;(go_wp2_with fail);clear e1;(go_loopw [4,64] (fun at_ i wr=>∃ (k:Nat) (D:DataW Unit),k<=f.enums.length/\i=.int .i64 k/\at_=.int .i64 (f.msgs.length+k)/\wr.ownsMap Tryz.prog 9 (plainElem Tryz.prog 3) (w.heap.size+2) (f.msgs.length+k) D/\HadD D ((hadN f).take (f.msgs.length+k))/\Up w wr/\wr.heap[w.heap.size]? = some (.cells #[.slice mo f.msgs.length mc,.slice eo f.enums.length ec] 25 (0,0))/\wr.heap[w.heap.size+1]? = some (.cells #[.int .i64 0,.int .i64 0] 60 (0,0))/\∀ j,(hj:j<(hadN f).length)->j<f.msgs.length+k->nameN (hadN f) j (hadN f)[j]=0) (fun _ i _=>f.enums.length - (intOf i).toNat));case atStart=>exact ⟨0,D,by omega,rfl,by simp,How.out,Hd.out,hu,Hb0.out,Hb1.out,Hg.out⟩
    case round =>
     clear How Hd Hb0 Hb1 Hg Hu hu hlt hk;obtain ⟨k,D,hk,rfl,rfl,how,hd,hu,hb0,hb1,hg⟩:=hrel;have How:=hid how;have Hd:=hid hd;have Hb0:=hid hb0;have Hb1:=hid hb1;have Hg:=hid hg;have Hu:=hid hu;clear how hd hb0 hb1 hg
     by_cases hlt:k<f.enums.length
     ·
      (have hlh:f.msgs.length+k<(hadN f).length:=by rw [HHn.out];omega);obtain ⟨b,o,cs,rfl,hb,hl,hcs,hd⟩:=(He.out.up stable_enu hu).at hlt;obtain ⟨vf,hd,hf1,hn⟩:=hd;obtain ⟨fo,fc,rfl,_,_⟩:=hf1.val;subst hd;have c0:=hcs 0 _ rfl;have c1:=hcs 1 _ rfl;simp only [Nat.add_zero] at c0;(have k0:(0:Int)<=(k:Int):=by omega);(have k1:(k:Int)<(f.enums.length:Int):=by omega);have Hgn:=hid (fun e=>zero_more (q:=nameN (hadN f)) hlh Hg.out e);have Hgw:=hid (fun e=>wrong_name (f:=f) Hlen.out hlh Hg.out e);have hnm:=name_cases (hadN f) (f.msgs.length+k) (hadN f)[f.msgs.length+k];have hts:=List.take_succ_eq_append_getElem hlh;rw [hadN_enum f hlt] at hnm hts;simp only [hadN_enum f hlt] at Hgn Hgw;have Hts:=hid hts;have Hn:=hid hn;(have hsz:f.enums[k].name.length<=maxLen:=by have:=hn;unfold okS at this;unfold maxLen;omega);have Hsz:=hid hsz;clear hcs hl hf1 hu hts hn hsz;have Htl:=hid (show ((hadN f).take (f.msgs.length+k)).length<=1000 by rw [List.length_take];omega);generalize f.enums[k]=x at *;have hwz:w.heap.size+2<wr.heap.size:=How.out.lt;have hcl:=List.count_le_length (a:=x.name) (l:=(hadN f).take (f.msgs.length+k));rw [List.length_take] at hcl;have hca:=counts_any ((hadN f).take (f.msgs.length+k)) x.name;obtain ⟨c,hc⟩:∃ c:Int,(((hadN f).take (f.msgs.length+k)).count x.name:Int)=c:=⟨_,rfl⟩;(have c00:0<=c:=by omega);(have c10:c<=10:=by omega);rw [show decide (0<((hadN f).take (f.msgs.length+k)).count x.name)=decide (0<c) by rw [Bool.eq_iff_iff];simp only [decide_eq_true_eq];omega] at hca;(have hc2:(((hadN f).take (f.msgs.length+k)++[x.name]).count x.name:Int)=c+1:=by rw [List.count_append,←hc];simp);have Hc:=hid hc;have Hc2:=hid hc2;clear hc hc2 hcl;rw [←hca] at hnm;clear hca;have hfr:=fun w1=>free_r x.name w1 Hn.out
      cases hfx:freeN x.name with
      |false =>
       simp only [hfx] at hfr;have Hi:=hid (show nameN (hadN f) (f.msgs.length+k) x.name=7 by rw [hnm,hfx];rfl);have Hfr:=hid hfr;clear hnm hfr hfx
       go_wp2_with (first
        |(at_lookup;go_must (refine wpList_had (by rfl) _ _ (by rfl) (w.heap.size+2) (f.msgs.length+k) D ((hadN f).take (f.msgs.length+k)) x.name (by rfl) (How.out.alloc _) Hd.out (by rfl) Hsz.out c Hc.out ?_))
        |(at_mapUpdate;go_must (refine wpList_had_put (by rfl) _ _ _ (by rfl) (w.heap.size+2) (f.msgs.length+k) D ((hadN f).take (f.msgs.length+k)) x.name (by rfl) (How.out.alloc _) Hd.out (by unfold maxLen;omega) (by rfl) Hsz.out Htl.out c Hc.out (by rfl) ?_;intro w1 D1 how1 hd1 hgr1;have hm1:=(hgr1.block wr.heap.size (by simp) (by simp;omega)).trans (blk_new wr _ rfl);have d0:=ro0 hm1;have hu1:Up w w1:=Up.grown (Hu.out.alloc _) hgr1 (fun j hj=>by cases hj;omega);have hb11:=(hgr1.block (w.heap.size+1) (by simp;omega) (by simp)).trans (blk_old _ Hb1.out);have Hb11:=hid hb11;clear hm1 how1 hd1 hgr1 hb11))
        |(go_at_call 44;go_must ((with_reducible refine (Hfr.out w1).mono ?_);rintro e w2 ⟨rfl,hu2⟩;have hbx:=(hu2).blk Hb11.out;have q0:=ro0 hbx;have q1:=ro1 hbx;have g0:∀ o,w2.frozen? ⟨w.heap.size+1,o,none⟩=false:=(fun o=>frozen_of_row w2 _ o _ _ hbx);have hz:w.heap.size+1<w2.heap.size:=lt_of_block hbx;clear hbx)))
       refine bodyPost_ret (v:=.agg #[.int .i64 7,(.int .i64 (f.msgs.length+k))]) (by simp [results,Tryz.results22,go_sem,q0,q1]) rfl ?_;rw [Hgw.out Hi.out];refine ⟨by first|rfl|simp,?_⟩;repeat (with_reducible refine Up.setCell ?_ ?_ _)
       ·exact hu1.trans hu2
       all_goals simp
      |true =>
       simp only [hfx] at hfr;(have hcc:0<c∨c<=0:=by omega);have Hi7:=hid (show 0<c->nameN (hadN f) (f.msgs.length+k) x.name=7 from fun h=>by rw [hnm,hfx,decide_eq_true h];rfl);have Hi0:=hid (show c<=0->nameN (hadN f) (f.msgs.length+k) x.name=0 from fun h=>by rw [hnm,hfx,decide_eq_false (by omega)];rfl);have Hfr:=hid hfr;clear hnm hfr hfx;have tok1:True:=trivial;rcases hcc with hcc|hcc
       all_goals
        go_wp2_with (first
         |(at_lookup;clear tok1;go_must (refine wpList_had (by rfl) _ _ (by rfl) (w.heap.size+2) (f.msgs.length+k) D ((hadN f).take (f.msgs.length+k)) x.name (by rfl) (How.out.alloc _) Hd.out (by rfl) Hsz.out c Hc.out ?_))
         |(at_mapUpdate;go_must (refine wpList_had_put (by rfl) _ _ _ (by rfl) (w.heap.size+2) (f.msgs.length+k) D ((hadN f).take (f.msgs.length+k)) x.name (by rfl) (How.out.alloc _) Hd.out (by unfold maxLen;omega) (by rfl) Hsz.out Htl.out c Hc.out (by rfl) ?_;intro w1 D1 how1 hd1 hgr1;have hm1:=(hgr1.block wr.heap.size (by simp) (by simp;omega)).trans (blk_new wr _ rfl);have d0:=ro0 hm1;have hu1:Up w w1:=Up.grown (Hu.out.alloc _) hgr1 (fun j hj=>by cases hj;omega);have hb10:=(hgr1.block w.heap.size (by simp;omega) (by simp)).trans (blk_old _ Hb0.out);have hb11:=(hgr1.block (w.heap.size+1) (by simp;omega) (by simp)).trans (blk_old _ Hb1.out);have Hb10:=hid hb10;have Hb11:=hid hb11;have How1:=hid how1;have Hd1:=hid hd1;clear how1 hd1 hgr1 hb10 hb11))
         |(go_at_call 44;go_must ((with_reducible refine (Hfr.out w1).mono ?_);rintro e w2 ⟨rfl,hu2⟩;have d1:=ro0 (hu2.blk hm1);have How2:=hid (How1.out.kept hu2.to_none (by simp));have hbx:=(hu2).blk Hb11.out;have q0:=ro0 hbx;have q1:=ro1 hbx;have g0:∀ o,w2.frozen? ⟨w.heap.size+1,o,none⟩=false:=(fun o=>frozen_of_row w2 _ o _ _ hbx);have hz:w.heap.size+1<w2.heap.size:=lt_of_block hbx;clear hbx))
         |(at_lookup;go_must (refine wpList_had (by rfl) _ _ (by rfl) (w.heap.size+2) (f.msgs.length+k+1) D1 ((hadN f).take (f.msgs.length+k)++[x.name]) x.name (by rfl) How2.out Hd1.out (by rfl) Hsz.out (c+1) Hc2.out ?_)))
       ·refine bodyPost_ret (v:=.agg #[.int .i64 7,(.int .i64 (f.msgs.length+k))]) (by simp [results,Tryz.results22,go_sem,q0,q1]) rfl ?_;rw [Hgw.out (Hi7.out hcc)];refine ⟨by first|rfl|simp,?_⟩;repeat (with_reducible refine Up.setCell ?_ ?_ _)
        ·exact hu1.trans hu2
        all_goals simp
       ·go_roundw
        (case rel=>exact ⟨k+1,D1,by omega,by go_num,by go_num,by rw [←Nat.add_assoc];exact How2.out,by rw [←Nat.add_assoc,Hts.out];exact Hd1.out,hu1.trans hu2,hu2.blk Hb10.out,hu2.blk Hb11.out,by rw [←Nat.add_assoc];exact Hgn.out (Hi0.out hcc)⟩);case measure=>simp [intOf];omega
     ·have Hnok:=hid (show namesOk f from fun j hj=>Hg.out j hj (by rw [HHn.out] at hj;omega));clear How Hd Hg hk HHn;obtain ⟨wd,rfl⟩:∃ wd:World,wd=wr:=⟨_,rfl⟩;have Ud:=Hu;have Hd0:=Hb0;have Hd1:=Hb1;have e0:=ro0 Hd0.out;clear Hu Hb0 Hb1;(go_wp2_with fail);clear e0 hu hlt;(go_loopw [92] (fun i wr=>∃ k:Nat,k<=f.msgs.length/\i=.int .i64 k/\Up wd wr/\∀ j,(hj:j<f.msgs.length)->j<k->msgN f f.msgs[j]=0) (fun i _=>f.msgs.length - (intOf i).toNat));case atStart=>exact ⟨0,by omega,rfl,Up.refl _,fun j _ h=>absurd h (by omega)⟩
      case round =>
       obtain ⟨k,hk,rfl,hu,hg⟩:=hrel;have Hg:=hid hg;have Huq:=hid hu;clear hg
       by_cases hlt:k<f.msgs.length
       ·
        obtain ⟨b',o',cs,rfl,hb',hl,hcs,hd⟩:=(Hm.out.up stable_msg (Ud.out.trans hu)).at hlt;obtain ⟨vf,vb,hd,hf1,hb1',hn⟩:=hd;obtain ⟨fo,fc,rfl,hfc1,hfc2⟩:=hf1.val;obtain ⟨bo,bc,rfl,hbc1,hbc2⟩:=hb1'.val;subst hd;have c0:=hcs 0 _ rfl;have c1:=hcs 1 _ rfl;have c2:=hcs 2 _ rfl;simp only [Nat.add_zero] at c0;(have k0:(0:Int)<=(k:Int):=by omega);(have k1:(k:Int)<(f.msgs.length:Int):=by omega);have Hgn:=hid (fun e=>zero_more' (q:=msgN f) hlt Hg.out e);have Hgw:=hid (fun e=>wrong_msg (f:=f) Hlen.out Hnok.out hlt Hg.out e);have Hf1:=hid hf1;have Hbr:=hid hb1';clear hcs hl hf1 hb1';have hbx:=(hu).blk Hd1.out;have q0:=ro0 hbx;have q1:=ro1 hbx;have g0:∀ o,wr.frozen? ⟨w.heap.size+1,o,none⟩=false:=(fun o=>frozen_of_row wr _ o _ _ hbx);have hz:w.heap.size+1<wr.heap.size:=lt_of_block hbx;clear hbx;clear hu;generalize f.msgs[k]=x at *
        by_cases hmany:16<x.fields.length∨16<x.barred.length
        ·have Hi:=hid (show msgN f x=5 by rw [msgN,if_pos hmany]);(have h2:16<(x.fields.length:Int)∨((x.fields.length:Int)<=16/\16<(x.barred.length:Int)):=by omega);clear hmany;rcases h2 with h2|⟨h2,h3⟩
         all_goals
          (go_wp2_with fail);refine bodyPost_ret (v:=.agg #[.int .i64 5,.int .i64 k]) (by simp [results,Tryz.results22,go_sem,q0,q1,hz]) rfl ?_;rw [Hgw.out (by rw [Hi.out];decide),Hi.out];refine ⟨by first|rfl|simp,?_⟩;repeat (first|(with_reducible refine Up.setCell ?_ ?_ _)|(with_reducible refine Up.alloc ?_ _))
          ·exact Ud.out.trans Huq.out
          all_goals simp
        ·(have hms:msgN f x=if x.barred.any (fun n=>decide (n<0∨536870912<=n))=true then 3 else firstN (x.fields.mapIdx (fieldN f x)):=by rw [msgN,if_neg hmany]);have Hms:=hid hms;(have i1:(x.fields.length:Int)<=16:=by omega);(have i2:(x.barred.length:Int)<=16:=by omega);clear hmany hms;obtain ⟨wo,rfl⟩:∃ wo:World,wo=wr:=⟨_,rfl⟩;(go_wp2_with fail);have hx:=blk_new wo (.cells #[.string ⟨x.name.toArray⟩,.slice fo x.fields.length fc,.slice bo x.barred.length bc] 35) rfl;have Hx:=hid hx;clear hx;have hua:=(Up.refl wo).alloc (.cells #[.string ⟨x.name.toArray⟩,.slice fo x.fields.length fc,.slice bo x.barred.length bc] 35);have Hua:=hid hua;clear hua;have Hbr':=hid (Hbr.out.up stable_int Hua.out);have Hf1':=hid (Hf1.out.up stable_fld Hua.out);have a0:(wo.alloc (.cells #[.string ⟨x.name.toArray⟩,.slice fo x.fields.length fc,.slice bo x.barred.length bc] 35)).cell? ⟨wo.heap.size,1,none⟩=some (.slice fo x.fields.length fc):=cell_of_row _ _ 1 _ _ _ Hx.out;generalize hwa:wo.alloc (.cells #[.string ⟨x.name.toArray⟩,.slice fo x.fields.length fc,.slice bo x.barred.length bc] 35)=wa at *;clear hwa c0 c1 c2 q0 q1 g0 hz Hbr Hf1;(go_loopw [112] (fun i wr=>∃ k2:Nat,k2<=x.barred.length/\i=.int .i64 k2/\wr=wa/\∀ j,(hj:j<x.barred.length)->j<k2->decide (x.barred[j]<0∨536870912<=x.barred[j])=false) (fun i _=>x.barred.length - (intOf i).toNat));case atStart=>exact ⟨0,by omega,rfl,rfl,fun j _ h=>absurd h (by omega)⟩
         case round =>
          obtain ⟨k2,hk2,rfl,rfl,hg2⟩:=hrel;have Hg2:=hid hg2;clear hg2
          by_cases hlt2:k2<x.barred.length
          ·obtain ⟨b2,o2,cs,rfl,hb2,hl,hcs,hd⟩:=Hbr'.out.at hlt2;obtain ⟨hd,_⟩:=hd;subst hd;have c0:=hcs 0 _ rfl;simp only [Nat.add_zero,Nat.mul_one] at c0;(have k20:(0:Int)<=(k2:Int):=by omega);(have k21:(k2:Int)<(x.barred.length:Int):=by omega);have Hgn2:=hid (fun e=>no_more (p:=fun n:Int=>decide (n<0∨536870912<=n)) hlt2 Hg2.out e);have Hat:=hid (fun e=>any_true (p:=fun n:Int=>decide (n<0∨536870912<=n)) hlt2 e);clear hcs hl;generalize x.barred[k2]=n at *;(have hcs:n<0∨(0<=n/\536870911<n)∨(0<=n/\n<=536870911):=by omega);have hbx:=(Huq.out.trans Hua.out).blk Hd1.out;have q0:=ro0 hbx;have q1:=ro1 hbx;have g0:∀ o,wr.frozen? ⟨w.heap.size+1,o,none⟩=false:=(fun o=>frozen_of_row wr _ o _ _ hbx);have hz:w.heap.size+1<wr.heap.size:=lt_of_block hbx;clear hbx;rcases hcs with h|⟨h,h'⟩|⟨h,h'⟩
           case' inl=>have Hi:=hid (show msgN f x=3 by rw [Hms.out,Hat.out (decide_eq_true (by omega)),if_pos rfl])
           case' inr.inl=>have Hi:=hid (show msgN f x=3 by rw [Hms.out,Hat.out (decide_eq_true (by omega)),if_pos rfl])
           case inr.inr =>
            go_wp2_with fail
            go_roundw
            (case rel=>exact ⟨k2+1,by omega,by go_num,trivial,Hgn2.out (decide_eq_false (by omega))⟩);case measure=>simp [intOf];omega
           all_goals
            (go_wp2_with fail);refine bodyPost_ret (v:=.agg #[.int .i64 3,.int .i64 k]) (by simp [results,Tryz.results22,go_sem,q0,q1]) rfl ?_;rw [Hgw.out (by rw [Hi.out];decide),Hi.out];refine ⟨by first|rfl|simp,?_⟩;repeat (with_reducible refine Up.setCell ?_ ?_ _)
            ·exact Ud.out.trans (Huq.out.trans Hua.out)
            all_goals simp
          ·have hnb:=any_false (p:=fun n:Int=>decide (n<0∨536870912<=n)) (l:=x.barred) (fun j hj=>Hg2.out j hj (by omega));have hms:=Hms.out;rw [hnb,if_neg (by decide)] at hms;have Hms2:=hid hms;clear hms hnb Hms Hg2;obtain ⟨wb,rfl⟩:∃ wb:World,wb=wr:=⟨_,rfl⟩;(go_wp2_with fail);clear a0;(go_loopw [128] (fun i wr=>∃ k3:Nat,k3<=x.fields.length/\i=.int .i64 k3/\Up wb wr/\∀ j,(hj:j<x.fields.length)->j<k3->fieldN f x j x.fields[j]=0) (fun i _=>x.fields.length - (intOf i).toNat));case atStart=>exact ⟨0,by omega,rfl,Up.refl _,fun j _ h=>absurd h (by omega)⟩
           case round =>
            obtain ⟨k3,hk3,rfl,hu3,hg3⟩:=hrel;have Hg3:=hid hg3;have Hu3:=hid hu3;clear hg3 hlt2 hk2
            by_cases hlt3:k3<x.fields.length
            ·have Hall:=hid (Huq.out.trans (Hua.out.trans hu3));have e0:wr.cell? ⟨w.heap.size,0,none⟩=some (.slice (some ⟨b',o',none⟩) f.msgs.length mc):=cell_of_row wr _ 0 _ _ _ (Hall.out.blk Hd0.out);have e1:=ro1 (Hall.out.blk Hd0.out);have a0:=ro0 (hu3.blk Hx.out);have a1:=ro1 (hu3.blk Hx.out);have a2:=ro2 (hu3.blk Hx.out);(have k30:(0:Int)<=(k3:Int):=by omega);(have k31:(k3:Int)<(x.fields.length:Int):=by omega);have Hgn3:=hid (fun e=>zero_more (q:=fieldN f x) hlt3 Hg3.out e);have Hgw3:=hid (fun e=>firstN_idx_at (q:=fieldN f x) hlt3 Hg3.out e);have Hfl:=hid (wfield_r f x k3 _ _ _ _ wr (Hf.out.up (Ud.out.trans Hall.out)) (Hf1'.out.up stable_fld hu3) (Hbr'.out.up stable_int hu3) hlt3);clear hu3;generalize hex:fieldN f x k3 x.fields[k3]=ex at *;clear hex;go_wp2_with fail
             (with_reducible refine Hfl.out.mono ?_)
             rintro e w4 ⟨rfl,hu4⟩
             by_cases hx0:ex=0
             ·have Hx0:=hid hx0;rw [hx0];clear hx0;go_wp2_with fail
              go_roundw
              (case rel=>exact ⟨k3+1,by omega,by go_num,Hu3.out.trans hu4,Hgn3.out Hx0.out⟩);case measure=>simp [intOf];omega
             ·(have hxb:(ex != 0)=true:=by simpa using hx0);have Hx0:=hid hx0;clear hx0;have hbx:=(Hall.out.trans hu4).blk Hd1.out;have q0:=ro0 hbx;have q1:=ro1 hbx;have g0:∀ o,w4.frozen? ⟨w.heap.size+1,o,none⟩=false:=(fun o=>frozen_of_row w4 _ o _ _ hbx);have hz:w.heap.size+1<w4.heap.size:=lt_of_block hbx;clear hbx;(go_wp2_with fail);refine bodyPost_ret (v:=.agg #[.int .i64 ex,.int .i64 k]) (by simp [results,Tryz.results22,go_sem,q0,q1]) rfl ?_;rw [Hgw.out (by rw [Hms2.out,Hgw3.out Hx0.out];exact Hx0.out),Hms2.out,Hgw3.out Hx0.out];refine ⟨by first|rfl|simp,?_⟩;repeat (with_reducible refine Up.setCell ?_ ?_ _)
              ·exact Ud.out.trans (Hall.out.trans hu4)
              all_goals simp
            ·have Hi:=hid (show msgN f x=0 by rw [Hms2.out];exact firstN_idx_none (fun j hj=>Hg3.out j hj (by omega)));go_wp2_with fail
             go_roundw
             (case rel=>exact ⟨k+1,by omega,by go_num,Huq.out.trans (Hua.out.trans hu3),Hgn.out Hi.out⟩);case measure=>simp [intOf];omega
       ·have Hmok:=hid (show msgsOk f from fun j hj=>Hg.out j hj (by omega));clear Hg;obtain ⟨we,rfl⟩:∃ we:World,we=wr:=⟨_,rfl⟩;have Ue:=hid (Ud.out.trans hu);have He0:=hid (hu.blk Hd0.out);have He1:=hid (hu.blk Hd1.out);have e0:=ro1 He0.out;clear hu Huq Hd0 Hd1 Ud;(go_wp2_with fail);clear e0 hlt hk;(go_loopw [145] (fun i wr=>∃ k:Nat,k<=f.enums.length/\i=.int .i64 k/\Up we wr/\∀ j,(hj:j<f.enums.length)->j<k->itemsN f.enums[j].items=0) (fun i _=>f.enums.length - (intOf i).toNat));case atStart=>exact ⟨0,by omega,rfl,Up.refl _,fun j _ h=>absurd h (by omega)⟩
        case round =>
         obtain ⟨k,hk,rfl,hu,hg⟩:=hrel;have Hg:=hid hg;have Huq:=hid hu;clear hg
         by_cases hlt:k<f.enums.length
         ·obtain ⟨b',o',cs,rfl,hb',hl,hcs,hd⟩:=(He.out.up stable_enu (Ue.out.trans hu)).at hlt;obtain ⟨vf,hd,hf1,hn⟩:=hd;obtain ⟨fo,fc,rfl,hfc1,hfc2⟩:=hf1.val;subst hd;have c0:=hcs 0 _ rfl;have c1:=hcs 1 _ rfl;simp only [Nat.add_zero] at c0;(have k0:(0:Int)<=(k:Int):=by omega);(have k1:(k:Int)<(f.enums.length:Int):=by omega);have Hgn:=hid (fun e=>zero_more' (q:=fun e:Enu=>itemsN e.items) hlt Hg.out e);have Hgw:=hid (fun e=>wrong_enum (f:=f) Hlen.out Hnok.out Hmok.out hlt Hg.out e);have Hf1:=hid hf1;clear hcs hl hf1;generalize f.enums[k]=x at *;obtain ⟨wo,rfl⟩:∃ wo:World,wo=wr:=⟨_,rfl⟩
          have hx:((wo.alloc (.cells #[.int .i64 k] 3)).alloc (.cells #[.string ⟨x.name.toArray⟩,.slice fo x.items.length fc] 97)).heap[wo.heap.size+1]? = some (.cells #[.string ⟨x.name.toArray⟩,.slice fo x.items.length fc] 97 (0,0)):=blk_new (wo.alloc _) _ (by simp);have hxi:((wo.alloc (.cells #[.int .i64 k] 3)).alloc (.cells #[.string ⟨x.name.toArray⟩,.slice fo x.items.length fc] 97)).heap[wo.heap.size]? = some (.cells #[.int .i64 k] 3 (0,0)):=blk_old _ (blk_new wo _ rfl);have hua:Up wo ((wo.alloc (.cells #[.int .i64 k] 3)).alloc (.cells #[.string ⟨x.name.toArray⟩,.slice fo x.items.length fc] 97)):=((Up.refl wo).alloc _).alloc _;have Hx:=hid hx;have Hxi:=hid hxi;have Hua:=hid hua;clear hx hxi hua
          go_upto_region 43 with (fail)
          have Hf1':=hid (Hf1.out.up stable_itm Hua.out);generalize hwa:(wo.alloc (.cells #[.int .i64 k] 3)).alloc (.cells #[.string ⟨x.name.toArray⟩,.slice fo x.items.length fc] 97)=wa at *;have hbad:=fun ex wx (hux:Up wa wx)=>bad_r ex f.msgs.length k w.heap.size wo.heap.size mo mc wx (cell_of_row wx _ 0 _ _ _ ((Huq.out.trans (Hua.out.trans hux)).blk He0.out)) (cell_of_row wx _ 0 _ _ _ (hux.blk Hxi.out)) (by omega) (by omega);have Hbad:=hid hbad;have a1:=ro1 Hx.out;clear hwa c0 c1 hbad hu Hf1 hlt hk
          by_cases hmany:x.items.length<1∨16<x.items.length
          ·have Hi:=hid (show itemsN x.items=5 by rw [itemsN,if_pos hmany]);(have h2:x.items.length=0∨(1<=x.items.length/\16<(x.items.length:Int)):=by omega);clear hmany;rcases h2 with h2|⟨h2,h3⟩
           case' inl=>have h3:((x.items.length:Int)==0)=true:=by simp [h2]
           case' inr=>have h4:((x.items.length:Int)==0)=false:=by rw [beq_eq_false_iff_ne];omega
           all_goals
            have H2:=hid h2;clear h2
            go_wp2_with (first
             |(go_at_call 46;go_must ((with_reducible refine (Hbad.out 5 _ (Up.refl wa)).mono ?_);rintro e w9 ⟨rfl,hu9⟩;have hbx:=(Huq.out.trans (Hua.out.trans ((Up.refl wa).trans hu9))).blk He1.out;have q0:=ro0 hbx;have q1:=ro1 hbx;have g0:∀ o,w9.frozen? ⟨w.heap.size+1,o,none⟩=false:=(fun o=>frozen_of_row w9 _ o _ _ hbx);have hz:w.heap.size+1<w9.heap.size:=lt_of_block hbx;clear hbx)))
            refine bodyPost_ret (v:=.agg #[.int .i64 5,.int .i64 (f.msgs.length+k)]) (by simp [results,Tryz.results22,go_sem,q0,q1]) rfl ?_;rw [Hgw.out (by rw [Hi.out];decide),Hi.out];refine ⟨by first|rfl|simp,?_⟩;repeat (first|(with_reducible refine Up.setCell ?_ ?_ _)|(with_reducible refine Up.alloc ?_ _))
            ·exact Ue.out.trans (Huq.out.trans (Hua.out.trans ((Up.refl wa).trans hu9)))
            all_goals simp
          ·(have his:itemsN x.items=firstN (x.items.mapIdx (itemN x.items)):=by rw [itemsN,if_neg hmany]);have His:=hid his;(have j4:((x.items.length:Int)==0)=false:=by rw [beq_eq_false_iff_ne];omega);(have j16:(x.items.length:Int)<=16:=by omega);clear hmany his;(go_wp2_with fail);clear j4 a1;generalize x.items=l at *;(go_loopw [166] (fun i wr=>∃ k2:Nat,k2<=l.length/\i=.int .i64 k2/\Up wa wr/\∀ j,(hj:j<l.length)->j<k2->itemN l j l[j]=0) (fun i _=>l.length - (intOf i).toNat));case atStart=>exact ⟨0,by omega,rfl,Up.refl _,fun j _ h=>absurd h (by omega)⟩
           case round =>
            obtain ⟨k2,hk2,rfl,hu2,hg2⟩:=hrel;have Hg2:=hid hg2;have Hu2:=hid hu2;clear hg2
            by_cases hlt2:k2<l.length
            ·obtain ⟨b2,o2,cs,rfl,hb2,hl,hcs,hd⟩:=(Hf1'.out.up stable_itm hu2).at hlt2;obtain ⟨hd,hy1,hy2⟩:=hd;subst hd;have c0:=hcs 0 _ rfl;have c1:=hcs 1 _ rfl;simp only [Nat.add_zero] at c0;(have k20:(0:Int)<=(k2:Int):=by omega);(have k21:(k2:Int)<(l.length:Int):=by omega);(have k22:(k2:Int)<=(l.length:Int):=by omega);(have k23:(k2:Int)<=(fc:Int):=by omega);have Hgn2:=hid (fun e=>zero_more (q:=itemN l) hlt2 Hg2.out e);have Hgw2:=hid (fun e=>firstN_idx_at (q:=itemN l) hlt2 Hg2.out e)
             have Hit:=hid (show itemN l k2 l[k2]=if !named l[k2].name || (l.take k2).any (fun y=>l[k2].name==y.name) then 7
              else if l[k2].value < -2147483648∨2147483647<l[k2].value then 3
              else if (k2=0/\l[k2].value≠0)∨(l.take k2).any (fun y=>l[k2].value==y.value) then 8 else 0 from rfl)
             have a1:wr.cell? ⟨wo.heap.size+1,1,none⟩=some (.slice (some ⟨b2,o2,none⟩) l.length fc):=cell_of_row wr _ 1 _ _ _ (hu2.blk Hx.out);have za:wo.heap.size+1<wr.heap.size:=lt_of_block (hu2.blk Hx.out);clear hcs hl hu2;generalize l[k2]=y at *;generalize itemN l k2 y=R at *;obtain ⟨wp,rfl⟩:∃ wp:World,wp=wr:=⟨_,rfl⟩;have Hy:=hid (blk_new wp (.cells #[.string ⟨y.name.toArray⟩,.int .i64 y.value] 112) rfl);have Hup:=hid ((Up.refl wp).alloc (.cells #[.string ⟨y.name.toArray⟩,.int .i64 y.value] 112));(go_wp2_with fail);generalize hwq:wp.alloc (.cells #[.string ⟨y.name.toArray⟩,.int .i64 y.value] 112)=wq at *;clear c0 c1 a1 hwq;(go_loopw [20,176] (fun sm i wr=>∃ k3:Nat,k3<=k2/\i=.int .i64 k3/\sm=.bool ((l.take k3).any (fun z=>y.value==z.value))/\Up wq wr/\∀ j,(hj:j<l.length)->j<k3->(y.name==l[j].name)=false) (fun _ i _=>k2 - (intOf i).toNat));case atStart=>exact ⟨0,by omega,rfl,rfl,Up.refl _,fun j _ h=>absurd h (by omega)⟩
             case round =>
              obtain ⟨k3,hk3,rfl,rfl,hu3,hg3⟩:=hrel;have Hg3:=hid hg3;have Hu3:=hid hu3;clear hg3;have y0:=ro0 (hu3.blk Hy.out);have y1:=ro1 (hu3.blk Hy.out);have zy:wp.heap.size<wr.heap.size:=lt_of_block (hu3.blk Hy.out)
              by_cases hlt3:k3<k2
              ·(have hltl:k3<l.length:=by omega);obtain ⟨b3,o3,cs,he3,hb3,hcl,hcs,hd⟩:=(Hf1'.out.up stable_itm (Hu2.out.trans (Hup.out.trans hu3))).at hltl;simp only [Option.some.injEq,Addr.mk.injEq,and_true] at he3;obtain ⟨rfl,rfl⟩:=he3;obtain ⟨hd,_⟩:=hd;subst hd;have c0:=hcs 0 _ rfl;have c1:=hcs 1 _ rfl;simp only [Nat.add_zero] at c0;(have k30:(0:Int)<=(k3:Int):=by omega);(have k31:(k3:Int)<(k2:Int):=by omega);have Hgn3:=hid (fun e=>no_more (p:=fun z=>y.name==z.name) hltl Hg3.out e);have Hat3:=hid (fun e=>any_take_true (p:=fun z:Itm=>y.name==z.name) hltl hlt3 e);have Hsm:=hid (any_take_succ (p:=fun z:Itm=>y.value==z.value) hltl);clear hcs hcl hu3;generalize l[k3]=z at *;generalize (l.take k3).any (fun z=>y.value==z.value)=sm at *
               cases hez:y.name==z.name with
               |true =>
                (have he':(z.name==y.name)=true:=by rw [leq_comm];exact hez);have Hi:=hid (show R=7 by rw [Hit.out,Hat3.out hez,Bool.or_true,if_pos rfl])
                go_wp2_with (first
                 |(go_at_call 46;go_must ((with_reducible refine (Hbad.out 7 _ (Hu2.out.trans (Hup.out.trans (Hu3.out.alloc _)))).mono ?_);rintro e w9 ⟨rfl,hu9⟩;have hbx:=(Huq.out.trans (Hua.out.trans ((Hu2.out.trans (Hup.out.trans (Hu3.out.alloc _))).trans hu9))).blk He1.out;have q0:=ro0 hbx;have q1:=ro1 hbx;have g0:∀ o,w9.frozen? ⟨w.heap.size+1,o,none⟩=false:=(fun o=>frozen_of_row w9 _ o _ _ hbx);have hz:w.heap.size+1<w9.heap.size:=lt_of_block hbx;clear hbx)))
                refine bodyPost_ret (v:=.agg #[.int .i64 7,.int .i64 (f.msgs.length+k)]) (by simp [results,Tryz.results22,go_sem,q0,q1]) rfl ?_;rw [Hgw.out (by rw [His.out,Hgw2.out (by rw [Hi.out];decide),Hi.out];decide),His.out,Hgw2.out (by rw [Hi.out];decide),Hi.out];refine ⟨by first|rfl|simp,?_⟩;repeat (first|(with_reducible refine Up.setCell ?_ ?_ _)|(with_reducible refine Up.alloc ?_ _))
                ·exact Ue.out.trans (Huq.out.trans (Hua.out.trans ((Hu2.out.trans (Hup.out.trans (Hu3.out.alloc _))).trans hu9)))
                all_goals simp
               |false =>
                (have he':(z.name==y.name)=false:=by rw [leq_comm];exact hez);generalize hyv:y.value=yv at *;have Hyv:=hid hyv;clear hyv
                cases sm with
                |true =>
                 go_wp2_with fail
                 go_roundw
                 (case rel=>exact ⟨k3+1,by omega,by go_num,by rw [Hsm.out];rfl,Hu3.out.alloc _,Hgn3.out hez⟩);case measure=>simp [intOf];omega
                |false =>
                 cases hvz:yv==z.value with
                 |true =>
                  (have hv':(z.value==yv)=true:=by rw [beq_iff_eq] at hvz ⊢;exact hvz.symm);go_wp2_with fail
                  go_roundw
                  (case rel=>exact ⟨k3+1,by omega,by go_num,by rw [Hsm.out,hvz];rfl,Hu3.out.alloc _,Hgn3.out hez⟩);case measure=>simp [intOf];omega
                 |false =>
                  (have hv':(z.value==yv)=false:=by rw [beq_eq_false_iff_ne] at hvz ⊢;exact fun h=>hvz h.symm);go_wp2_with fail
                  go_roundw
                  (case rel=>exact ⟨k3+1,by omega,by go_num,by rw [Hsm.out,hvz];rfl,Hu3.out.alloc _,Hgn3.out hez⟩);case measure=>simp [intOf];omega
              ·have hnn:=any_take_false (p:=fun z:Itm=>y.name==z.name) (l:=l) (i:=k2) (fun j hj hji=>Hg3.out j hj (by omega));(obtain rfl:k3=k2:=by omega);have hit:=Hit.out;rw [hnn,Bool.or_false] at hit;have hnm:=named_r ⟨y.name.toArray⟩ wr (by show y.name.length<=_;have:=hy2;unfold okS at this;omega);simp only at hnm;have Ha3:=hid (Hu2.out.trans (Hup.out.trans hu3));generalize (l.take k3).any (fun z=>y.value==z.value)=sm at *
               cases hnd:named y.name with
               |false =>
                rw [hnd] at hnm hit;have Hi:=hid (show R=7 by rw [hit];rfl);have Hnm:=hid hnm;clear hnm hit hnn Hit hu3
                go_wp2_with (first
                 |(go_at_call 47;go_must ((with_reducible refine Hnm.out.mono ?_);rintro e w4 ⟨rfl,hu4⟩))
                 |(go_at_call 46;go_must ((with_reducible refine (Hbad.out 7 _ (Ha3.out.trans hu4)).mono ?_);rintro e w9 ⟨rfl,hu9⟩;have hbx:=(Huq.out.trans (Hua.out.trans ((Ha3.out.trans hu4).trans hu9))).blk He1.out;have q0:=ro0 hbx;have q1:=ro1 hbx;have g0:∀ o,w9.frozen? ⟨w.heap.size+1,o,none⟩=false:=(fun o=>frozen_of_row w9 _ o _ _ hbx);have hz:w.heap.size+1<w9.heap.size:=lt_of_block hbx;clear hbx)))
                refine bodyPost_ret (v:=.agg #[.int .i64 7,.int .i64 (f.msgs.length+k)]) (by simp [results,Tryz.results22,go_sem,q0,q1]) rfl ?_;rw [Hgw.out (by rw [His.out,Hgw2.out (by rw [Hi.out];decide),Hi.out];decide),His.out,Hgw2.out (by rw [Hi.out];decide),Hi.out];refine ⟨by first|rfl|simp,?_⟩;repeat (first|(with_reducible refine Up.setCell ?_ ?_ _)|(with_reducible refine Up.alloc ?_ _))
                ·exact Ue.out.trans (Huq.out.trans (Hua.out.trans ((Ha3.out.trans hu4).trans hu9)))
                all_goals simp
               |true =>
                rw [hnd] at hnm hit;have Hit2:=hid (show R=if y.value < -2147483648∨2147483647<y.value then 3 else if (k3=0/\y.value≠0)∨sm=true then 8 else 0 by rw [hit];rfl);have Hnm:=hid hnm;clear hnm hit hnn Hit hu3;generalize hyv:y.value=yv at *;have Hyv:=hid hyv;clear hyv;(have hcs:2147483647<yv∨(yv<=2147483647/\yv < -2147483648)∨(yv<=2147483647/\-2147483648<=yv):=by omega);rcases hcs with h|⟨h,h'⟩|⟨h,h'⟩
                case' inl=>have Hi:=hid (show R=3 by rw [Hit2.out,if_pos (by omega)])
                case' inr.inl=>have Hi:=hid (show R=3 by rw [Hit2.out,if_pos (by omega)])
                case inr.inr =>
                 have Hit3:=hid (show R=if (k3=0/\yv≠0)∨sm=true then 8 else 0 by rw [Hit2.out,if_neg (by omega)])
                 have hc2:sm=true∨(sm=false/\((k3:Int)==0)=true/\(yv != 0)=true)∨(sm=false/\((k3:Int)==0)=true/\(yv != 0)=false)∨(sm=false/\((k3:Int)==0)=false):=by
                  cases sm
                  ·right;cases ((k3:Int)==0)
                   ·simp
                   ·cases (yv != 0) <;> simp
                  ·simp
                 rcases hc2 with rfl|⟨rfl,e1,e2⟩|⟨rfl,e1,e2⟩|⟨rfl,e1⟩
                 case' inl=>have Hi:=hid (show R=8 by rw [Hit3.out,if_pos (.inr rfl)])
                 case' inr.inl=>have Hi:=hid (show R=8 by rw [Hit3.out,if_pos (.inl ⟨by have:=beq_iff_eq.1 e1;omega,bne_iff_ne.1 e2⟩)])
                 case' inr.inr.inl=>have Hi:=hid (show R=0 by rw [Hit3.out,if_neg (by rintro (⟨_,h⟩|h);exact h (bne_eq_false_iff_eq.1 e2);exact absurd h (by decide))])
                 case' inr.inr.inr=>have Hi:=hid (show R=0 by rw [Hit3.out,if_neg (by rintro (⟨h,_⟩|h);exact (beq_eq_false_iff_ne.1 e1) (by omega);exact absurd h (by decide))])
                 case' inl|inr.inl =>
                  go_wp2_with (first
                   |(go_at_call 47;go_must ((with_reducible refine Hnm.out.mono ?_);rintro e w4 ⟨rfl,hu4⟩;have y1:w4.cell? ⟨wp.heap.size,1,none⟩=some (.int .i64 yv):=hu4.cell_some y1;have zy:wp.heap.size<w4.heap.size:=Nat.lt_of_lt_of_le zy hu4.size))
                   |(go_at_call 46;go_must ((with_reducible refine (Hbad.out 8 _ (Ha3.out.trans hu4)).mono ?_);rintro e w9 ⟨rfl,hu9⟩;have hbx:=(Huq.out.trans (Hua.out.trans ((Ha3.out.trans hu4).trans hu9))).blk He1.out;have q0:=ro0 hbx;have q1:=ro1 hbx;have g0:∀ o,w9.frozen? ⟨w.heap.size+1,o,none⟩=false:=(fun o=>frozen_of_row w9 _ o _ _ hbx);have hz:w.heap.size+1<w9.heap.size:=lt_of_block hbx;clear hbx)))
                  refine bodyPost_ret (v:=.agg #[.int .i64 8,.int .i64 (f.msgs.length+k)]) (by simp [results,Tryz.results22,go_sem,q0,q1]) rfl ?_;rw [Hgw.out (by rw [His.out,Hgw2.out (by rw [Hi.out];decide),Hi.out];decide),His.out,Hgw2.out (by rw [Hi.out];decide),Hi.out];refine ⟨by first|rfl|simp,?_⟩;repeat (first|(with_reducible refine Up.setCell ?_ ?_ _)|(with_reducible refine Up.alloc ?_ _))
                  ·exact Ue.out.trans (Huq.out.trans (Hua.out.trans ((Ha3.out.trans hu4).trans hu9)))
                  all_goals simp
                 all_goals
                  go_wp2_with (first
                   |(go_at_call 47;go_must ((with_reducible refine Hnm.out.mono ?_);rintro e w4 ⟨rfl,hu4⟩;have y1:w4.cell? ⟨wp.heap.size,1,none⟩=some (.int .i64 yv):=hu4.cell_some y1;have zy:wp.heap.size<w4.heap.size:=Nat.lt_of_lt_of_le zy hu4.size)))
                  go_roundw
                  (case rel=>exact ⟨k3+1,by omega,by go_num,Ha3.out.trans hu4,Hgn2.out Hi.out⟩);case measure=>simp [intOf];omega
                all_goals
                 go_wp2_with (first
                  |(go_at_call 47;go_must ((with_reducible refine Hnm.out.mono ?_);rintro e w4 ⟨rfl,hu4⟩;have y1:w4.cell? ⟨wp.heap.size,1,none⟩=some (.int .i64 yv):=hu4.cell_some y1;have zy:wp.heap.size<w4.heap.size:=Nat.lt_of_lt_of_le zy hu4.size))
                  |(go_at_call 46;go_must ((with_reducible refine (Hbad.out 3 _ (Ha3.out.trans hu4)).mono ?_);rintro e w9 ⟨rfl,hu9⟩;have hbx:=(Huq.out.trans (Hua.out.trans ((Ha3.out.trans hu4).trans hu9))).blk He1.out;have q0:=ro0 hbx;have q1:=ro1 hbx;have g0:∀ o,w9.frozen? ⟨w.heap.size+1,o,none⟩=false:=(fun o=>frozen_of_row w9 _ o _ _ hbx);have hz:w.heap.size+1<w9.heap.size:=lt_of_block hbx;clear hbx)))
                 refine bodyPost_ret (v:=.agg #[.int .i64 3,.int .i64 (f.msgs.length+k)]) (by simp [results,Tryz.results22,go_sem,q0,q1]) rfl ?_;rw [Hgw.out (by rw [His.out,Hgw2.out (by rw [Hi.out];decide),Hi.out];decide),His.out,Hgw2.out (by rw [Hi.out];decide),Hi.out];refine ⟨by first|rfl|simp,?_⟩;repeat (first|(with_reducible refine Up.setCell ?_ ?_ _)|(with_reducible refine Up.alloc ?_ _))
                 ·exact Ue.out.trans (Huq.out.trans (Hua.out.trans ((Ha3.out.trans hu4).trans hu9)))
                 all_goals simp
            ·have Hi:=hid (show itemsN l=0 by rw [His.out];exact firstN_idx_none (fun j hj=>Hg2.out j hj (by omega)));go_wp2_with fail
             go_roundw
             (case rel=>exact ⟨k+1,by omega,by go_num,Huq.out.trans (Hua.out.trans hu2),Hgn.out Hi.out⟩);case measure=>simp [intOf];omega
         ·have Hnone:=hid (wrong_none (f:=f) Hlen.out Hnok.out Hmok.out (fun j hj=>Hg.out j hj (by omega)));have hbx:=(hu).blk He1.out;have q0:=ro0 hbx;have q1:=ro1 hbx;have g0:∀ o,wr.frozen? ⟨w.heap.size+1,o,none⟩=false:=(fun o=>frozen_of_row wr _ o _ _ hbx);have hz:w.heap.size+1<wr.heap.size:=lt_of_block hbx;clear hbx;(go_wp2_with fail);refine bodyPost_ret (v:=.agg #[.int .i64 0,.int .i64 0]) (by simp [results,Tryz.results22,go_sem,q0,q1]) rfl ?_;rw [Hnone.out];refine ⟨by first|rfl|simp,?_⟩;repeat (first|(with_reducible refine Up.setCell ?_ ?_ _)|(with_reducible refine Up.alloc ?_ _))
          ·exact Ue.out.trans hu
          all_goals simp
end Go.Proofs.YtbceccblepckhaaGreatDoor
