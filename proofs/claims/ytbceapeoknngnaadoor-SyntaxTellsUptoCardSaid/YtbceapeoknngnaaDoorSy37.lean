/-
  The document's parser: File.
-/
import Derived.Test.YtbceapeoknngnaaDoorSy35
import Derived.Test.YtbceapeoknngnaaDoorSy36
set_option linter.unusedVariables false
namespace Go.Proofs.YtbceapeoknngnaaDoor
open Go.RowKit
set_option maxRecDepth 100000
structure RG (s : ByteArray) (w : World) (F : Nat) (vm ve : Value) (ms : List Msg) (es : List Enu) (st : WSt) (wi : World) : Prop where
 pw : RAt (F + 2) s st wi
 up : Up w wi
 om : OwnS DMsg (F + 4) 46 3 (fun b => F + 4 ≤ b ∧ ve.ownBlock ≠ some b) wi vm ms
 oe : OwnS DEnu (F + 4) 50 2 (fun b => F + 4 ≤ b ∧ vm.ownBlock ≠ some b) wi ve es
 dis : ∀ j, vm.ownBlock = some j → ve.ownBlock ≠ some j
 f : wi.heap[F + 3]? = some (.cells #[vm, ve] 25 (0, 0))
 y : wi.heap[F]? = some (.cells #[.slice none 0 0, .slice none 0 0] 25 (0, 0))
 z : wi.heap[F + 1]? = some (.cells #[.int .i64 0, .int .i64 0] 28 (0, 0))
section
variable {s : ByteArray} {w : World} {F : Nat} {vm ve : Value} {ms : List Msg} {es : List Enu} {st : WSt} {wi : World}
theorem RG.step (h : RG s w F vm ve ms es st wi) {wj : World} {st' : WSt} (hg : Gr (F + 2) wi wj) (hp : RAt (F + 2) s st' wj) (hF : w.heap.size = F) : RG s w F vm ve ms es st' wj :=
 ⟨hp, hg.upv h.up (by omega), h.om.gr stable_msg hg (by omega) (fun h => by omega), h.oe.gr stable_enu hg (by omega) (fun h => by omega), h.dis, hg.blk h.f (by omega), hg.blk h.y (by omega), hg.blk h.z (by omega)⟩
theorem RG.upto (h : RG s w F vm ve ms es st wi) {wj : World} (hu : Up wi wj) : RG s w F vm ve ms es st wj := ⟨h.pw.up hu, h.up.trans hu, h.om.up stable_msg hu, h.oe.up stable_enu hu, h.dis, hu.blk h.f, hu.blk h.y, hu.blk h.z⟩
theorem RG.snocM (h : RG s w F vm ve ms es st wi) {wj : World} {v' vf vb : Value} {x : Msg} {xs : List Value} (hxs : wi.ownsRow (F + 4) 46 3 vm ms.length xs) (how : wj.ownsRow (F + 4) 46 3 v' (ms.length + 1) (xs ++ [.string ⟨x.name.toArray⟩, vf, vb])) (hev : Evo wi wj vm v') {n : Nat} (hn : F + 4 ≤ n) (h1 : ∀ j, vm.ownBlock = some j → j < n) (h2 : ∀ j, ve.ownBlock = some j → j < n)
   (hf : RdS DFld 6 (fun b => n ≤ b) wi vf x.fields) (hb : RdS DInt 1 (fun b => n ≤ b) wi vb x.barred) (hx : okS x.name) (hF : w.heap.size = F) : RG s w F v' ve (ms ++ [x]) es st (wj.setCell ⟨F + 3, 0, none⟩ v') := by
 have hlo := h.om.lo; (have hne : ∀ b, b ≤ F + 3 → vm.ownBlock ≠ some b := fun b hb e => by have := (hlo b e).1; omega); have hv' : ∀ j, v'.ownBlock = some j → vm.ownBlock = some j ∨ wi.heap.size ≤ j := hev.place
 have hn' : v'.ownBlock ≠ some (F + 3) := fun e => by
   rcases hev.place _ e with h1 | h1
   · exact hne (F + 3) (by omega) h1
   · have := lt_of_block h.f; omega
 (have hem : ve.ownBlock ≠ some (F + 3) := fun e => by have := (h.oe.lo _ e).1; omega); have hup : Up w wj := h.up.evo hev (fun j e => by have := (hlo j e).1; omega); have hz : ((wj.setCell ⟨F + 3, 0, none⟩ v')).heap[F + 1]? = some (.cells #[.int .i64 0, .int .i64 0] 28 (0, 0)) := (Below.heap_setCell wj ⟨F + 3, 0, none⟩ v' (F + 1) (show F + 1 ≠ F + 3 by omega)).trans (hev.blk h.z (hne _ (by omega))); have hy : ((wj.setCell ⟨F + 3, 0, none⟩ v')).heap[F]? = some (.cells #[.slice none 0 0, .slice none 0 0] 25 (0, 0)) := (Below.heap_setCell wj ⟨F + 3, 0, none⟩ v' F (show F ≠ F + 3 by omega)).trans (hev.blk h.y (hne _ (by omega)))
 have hsn : OwnS DMsg (F + 4) 46 3 (fun b => F + 4 ≤ b ∧ ve.ownBlock ≠ some b) wj v' (ms ++ [x]) := by
   refine OwnS.snoc stable_msg h.om hxs how hev rfl ⟨vf, vb, rfl, hf.keep stable_fld (Keep.weak ?_), hb.keep stable_int (Keep.weak ?_), ?_⟩
   · exact fun b hb => ⟨⟨by omega, fun e => by have := h2 b e; omega⟩, fun e => by have := h1 b e; omega⟩
   · exact fun b hb => ⟨⟨by omega, fun e => by have := h2 b e; omega⟩, fun e => by have := h1 b e; omega⟩
   · exact hx
 refine ⟨RAt.other (h.pw.evo hev (hne _ (by omega))) (show F + 3 ≠ F + 2 by omega) v', Up.setCell hup (p := ⟨F + 3, 0, none⟩) (show w.heap.size ≤ F + 3 by omega) v', ?_, ?_, ?_, heap_setCell_same wj (F + 3) 0 _ _ v' (hev.blk h.f (hne _ (by omega))), hy, hz⟩
 · exact OwnS.setCell stable_msg (p := ⟨F + 3, 0, none⟩) hsn hn' (fun h => by have := h.1; simp only at this; omega) v'
 · refine OwnS.setCell stable_enu (p := ⟨F + 3, 0, none⟩) (own_evoS stable_enu h.oe hev (fun j e e2 => h.dis j e2 e) (fun j hs hj => ⟨hs.2, hs.1, fun e => ?_⟩)) hem (fun h => by have := h.1; simp only at this; omega) v'; rcases hv' j e with h3 | h3
   · exact hs.2 h3
   · omega
 · intro j e e2; rcases hv' j e with h3 | h3
   · exact h.dis j h3 e2
   · have := (h.oe.lo j e2).2; omega
theorem RG.snocE (h : RG s w F vm ve ms es st wi) {wj : World} {v' vi : Value} {x : Enu} {xs : List Value} (hxs : wi.ownsRow (F + 4) 50 2 ve es.length xs) (how : wj.ownsRow (F + 4) 50 2 v' (es.length + 1) (xs ++ [.string ⟨x.name.toArray⟩, vi])) (hev : Evo wi wj ve v') {n : Nat} (hn : F + 4 ≤ n) (h1 : ∀ j, vm.ownBlock = some j → j < n) (h2 : ∀ j, ve.ownBlock = some j → j < n)
   (hi : RdS DItm 2 (fun b => n ≤ b) wi vi x.items) (hx : okS x.name) (hF : w.heap.size = F) : RG s w F vm v' ms (es ++ [x]) st (wj.setCell ⟨F + 3, 1, none⟩ v') := by
 have hlo := h.oe.lo; (have hne : ∀ b, b ≤ F + 3 → ve.ownBlock ≠ some b := fun b hb e => by have := (hlo b e).1; omega); have hv' : ∀ j, v'.ownBlock = some j → ve.ownBlock = some j ∨ wi.heap.size ≤ j := hev.place
 have hn' : v'.ownBlock ≠ some (F + 3) := fun e => by
   rcases hev.place _ e with h1 | h1
   · exact hne (F + 3) (by omega) h1
   · have := lt_of_block h.f; omega
 (have hem : vm.ownBlock ≠ some (F + 3) := fun e => by have := (h.om.lo _ e).1; omega); have hup : Up w wj := h.up.evo hev (fun j e => by have := (hlo j e).1; omega); have hz : ((wj.setCell ⟨F + 3, 1, none⟩ v')).heap[F + 1]? = some (.cells #[.int .i64 0, .int .i64 0] 28 (0, 0)) := (Below.heap_setCell wj ⟨F + 3, 1, none⟩ v' (F + 1) (show F + 1 ≠ F + 3 by omega)).trans (hev.blk h.z (hne _ (by omega))); have hy : ((wj.setCell ⟨F + 3, 1, none⟩ v')).heap[F]? = some (.cells #[.slice none 0 0, .slice none 0 0] 25 (0, 0)) := (Below.heap_setCell wj ⟨F + 3, 1, none⟩ v' F (show F ≠ F + 3 by omega)).trans (hev.blk h.y (hne _ (by omega)))
 have hsn : OwnS DEnu (F + 4) 50 2 (fun b => F + 4 ≤ b ∧ vm.ownBlock ≠ some b) wj v' (es ++ [x]) := by
   refine OwnS.snoc stable_enu h.oe hxs how hev rfl ⟨vi, rfl, hi.keep stable_itm (Keep.weak ?_), ?_⟩
   · exact fun b hb => ⟨⟨by omega, fun e => by have := h1 b e; omega⟩, fun e => by have := h2 b e; omega⟩
   · exact hx
 refine ⟨RAt.other (h.pw.evo hev (hne _ (by omega))) (show F + 3 ≠ F + 2 by omega) v', Up.setCell hup (p := ⟨F + 3, 1, none⟩) (show w.heap.size ≤ F + 3 by omega) v', ?_, ?_, ?_, heap_setCell_same wj (F + 3) 1 _ _ v' (hev.blk h.f (hne _ (by omega))), hy, hz⟩
 · refine OwnS.setCell stable_msg (p := ⟨F + 3, 1, none⟩) (own_evoS stable_msg h.om hev (fun j e e2 => h.dis j e e2) (fun j hs hj => ⟨hs.2, hs.1, fun e => ?_⟩)) hem (fun h => by have := h.1; simp only at this; omega) v'; rcases hv' j e with h3 | h3
   · exact hs.2 h3
   · omega
 · exact OwnS.setCell stable_enu (p := ⟨F + 3, 1, none⟩) hsn hn' (fun h => by have := h.1; simp only at this; omega) v'
 · intro j e e2; rcases hv' j e2 with h3 | h3
   · exact h.dis j e h3
   · have := (h.om.lo j e).2; omega
theorem RG.fil (h : RG s w F vm ve ms es st wi) (hF : w.heap.size = F) : FilV (fun b => F + 4 ≤ b) wi (.agg #[vm, ve]) ⟨ms, es⟩ :=
 ⟨vm, ve, rfl, h.om.rd stable_msg (fun k hk => hk.1) (fun j hj => by have := (h.om.lo j hj).1; omega), h.oe.rd stable_enu (fun k hk => hk.1) (fun j hj => by have := (h.oe.lo j hj).1; omega)⟩
end
theorem RAt.back {g : Nat} {s : ByteArray} {st : WSt} {w : World} {k : Nat} {l0 : List UInt8} (h : RAt g s st w) (hk : k ≤ s.size) (hd : dr s k = l0) : RAt g s ⟨l0, st.e, st.b⟩ (w.setCell ⟨g, 1, none⟩ (.int .i64 (k : Int))) := by
 obtain ⟨k', h1, h2, h3⟩ := h; exact ⟨k, hk, hd, h3.set1 k rfl⟩
set_option maxHeartbeats 12800000 in
theorem file_w (s : ByteArray) (w : World) :
   Calls Tryd.prog 5 #[.string s] w fun e w' => ∃ v, e = .returned (.tuple #[v, .agg #[.int .i64 (fileR s.data.toList).2.1, .int .i64 ((fileR s.data.toList).2.2 : Int)]]) ∧ FilV All w' v (fileR s.data.toList).1 ∧ Up w w' := by
 have hlen : s.data.toList.length = s.size := rfl; obtain ⟨ANS, hANS⟩ : ∃ ANS, fileR s.data.toList = ANS := ⟨_, rfl⟩; rw [hANS]; unfold fileR at hANS; rw [hlen] at hANS; have HA := Lib.hid hANS; clear hANS
 go_enter Tryd.func5, Tryd.ntmps5
 by_cases hbig : 3000 < s.size
 · (have hb : (3000 : Int) < (s.size : Int) := by omega); have hA := HA.out; rw [if_pos hbig] at hA; subst hA; clear HA; have y0 := blk_old (.cells #[.int .i64 0, .int .i64 0] 28) (blk_new w (.cells #[.slice none 0 0, .slice none 0 0] 25) (g := w.heap.size) rfl); (go_wp2_with fail); refine bodyPost_ret (v := .tuple #[.agg #[.slice none 0 0, .slice none 0 0], .agg #[.int .i64 4, .int .i64 0]]) (by simp [results, Tryd.results5, go_sem]) rfl ?_; refine ⟨_, rfl, filV_nil _, ?_⟩; (repeat (first | (with_reducible refine Up.setCell ?_ ?_ _) | (with_reducible refine Up.alloc ?_ _) | (with_reducible exact Up.refl _))); all_goals (simp only [Nat.le_refl]; try omega)
 · (have hb : ¬ (3000 : Int) < (s.size : Int) := by omega); have hA := HA.out; rw [if_neg hbig] at hA; have HA := Lib.hid hA; clear hA
   go_upto_region 5 with (fail)
   obtain ⟨w4, hw4⟩ : ∃ w4, (((w.alloc (.cells #[.slice none 0 0, .slice none 0 0] 25)).alloc (.cells #[.int .i64 0, .int .i64 0] 28)).alloc (.cells #[.string s, .int .i64 0, .int .i64 0, .int .i64 0] 55)).alloc (.cells #[.slice none 0 0, .slice none 0 0] 25) = w4 := ⟨_, rfl⟩; (have h0 : w4.heap[w.heap.size]? = some (.cells #[.slice none 0 0, .slice none 0 0] 25 (0, 0)) := by rw [← hw4]; exact blk_old _ (blk_old _ (blk_old _ (blk_new w _ rfl)))); (have h1 : w4.heap[w.heap.size + 1]? = some (.cells #[.int .i64 0, .int .i64 0] 28 (0, 0)) := by rw [← hw4]; exact blk_old _ (blk_old _ (blk_new (w.alloc _) _ (by simp)))); (have h2 : w4.heap[w.heap.size + 2]? = some (.cells #[.string s, .int .i64 0, .int .i64 0, .int .i64 0] 55 (0, 0)) := by rw [← hw4]; exact blk_old _ (blk_new ((w.alloc _).alloc _) _ (by simp))); (have h3 : w4.heap[w.heap.size + 3]? = some (.cells #[.slice none 0 0, .slice none 0 0] 25 (0, 0)) := by rw [← hw4]; exact blk_new (((w.alloc _).alloc _).alloc _) _ (by simp)); (have hu4 : Up w w4 := by rw [← hw4]; exact ((((Up.refl w).alloc _).alloc _).alloc _).alloc _); rw [hw4]; obtain ⟨R, hR⟩ : ∃ R, w.heap.size = R := ⟨_, rfl⟩; rw [hR] at h0 h1 h2 h3 ⊢; have HR := Lib.hid hR; have HG0 := Lib.hid (show RG s w R (.slice none 0 0) (.slice none 0 0) [] [] ⟨s.data.toList, 0, []⟩ w4 from ⟨⟨0, by omega, rfl, h2⟩, hu4, OwnS.nil _ _ _ _ _ _, OwnS.nil _ _ _ _ _ _, fun j hj => (by cases hj), h3, h0, h1⟩); clear hw4 h0 h1 h2 h3 hu4 hR; have hsk := skip_w (R + 2) s ⟨s.data.toList, 0, []⟩ w4 (by omega) HG0.out.pw; have Hsk := Lib.hid hsk; clear hsk; (go_wp2_with (go_at_call 19; go_must (refine Hsk.out.mono ?_; rintro e w5 ⟨rfl, ha5, hg5⟩))); have HG5 := Lib.hid (HG0.out.step hg5 ha5 HR.out); clear ha5 hg5 HG0 Hsk; obtain ⟨T, hT⟩ : ∃ T, fileRf (s.size + 1) ⟨[], []⟩ ⟨skip s.data.toList, 0, []⟩ = T := ⟨_, rfl⟩; have hA := HA.out; rw [hT] at hA; have HA := Lib.hid hA; have HT := Lib.hid hT; clear hA hT; (go_loopw [] (fun wr => ∃ (Fl : Fil) (sl : WSt) (vm ve : Value) (f : Nat), (sl.e = 0 → sl.l.length < f) ∧ fileRf f Fl sl = T ∧ Fl.msgs.length + Fl.enums.length ≤ 11 ∧ (sl.e = 0 → Fl.msgs.length + Fl.enums.length ≤ 10) ∧ RG s w R vm ve Fl.msgs Fl.enums sl wr) (fun wr => rwM (R + 2) s wr)); case atStart => exact ⟨⟨[], []⟩, ⟨skip s.data.toList, 0, []⟩, _, _, s.size + 1, fun _ => by have := skip_len s.data.toList; simp only; omega, HT.out, by simp, fun _ => by simp, HG5.out⟩
   case round =>
     obtain ⟨Fl, sl, vm, ve, f, hlf, hT2, hn11, hn10, he⟩ := hrel; have HE := Lib.hid he; have HT2 := Lib.hid hT2; have Hlf := Lib.hid hlf; have Hn10 := Lib.hid hn10; have hgR : R + 2 < wr.heap.size := he.pw.lt; clear he hT2 hlf HG5 hn10; have Hok := Lib.hid (ok_w (R + 2) s sl wr HE.out.pw); have HM := Lib.hid HE.out.pw.m
     by_cases hbad : sl.e ≠ 0
     · -- something is wrong
       (have hb : (sl.e == 0) = false := by simpa using hbad); have hit := HT2.out; rw [file_noRf hbad] at hit; subst hit; have hA := HA.out; simp only at hA; rw [if_pos hbad] at hA; obtain ⟨k, hk, hd, hp⟩ := HE.out.pw; have p2 := hp.c2; have p3 := hp.c3; have y0 := cell_of_row wr R 0 _ _ _ HE.out.y; have y1 := cell_of_row wr R 1 _ _ _ HE.out.y; have z0 := cell_of_row wr (R + 1) 0 _ _ _ HE.out.z; have z1 := cell_of_row wr (R + 1) 1 _ _ _ HE.out.z; have yf := fun o => frozen_of_row wr R o _ _ HE.out.y; have zf := fun o => frozen_of_row wr (R + 1) o _ _ HE.out.z; have yz := lt_of_block HE.out.y; have zz := lt_of_block HE.out.z; have hba : baOf s sl = ((s.size - sl.b.length : Nat) : Int) := if_neg hbad; rw [hba] at p3; have HA2 := Lib.hid hA; clear hA hp hba hbad hd HA
       go_upto_region 20 with (first | (go_at_call 20; go_must (refine Hok.out.mono ?_; rintro e w6 ⟨rfl, rfl⟩)))
       go_region
       all_goals
         (go_wp2_with fail); refine bodyPost_ret (v := .tuple #[.agg #[.slice none 0 0, .slice none 0 0], .agg #[.int .i64 sl.e, .int .i64 ((s.size - sl.b.length : Nat) : Int)]]) (by simp [results, Tryd.results5, go_sem, y0, y1, z0, z1]) rfl ?_; rw [← HA2.out]; refine ⟨_, rfl, filV_nil _, ?_⟩; (repeat (first | (with_reducible refine Up.setCell ?_ ?_ _) | (with_reducible refine Up.drew ?_) | (with_reducible exact HE.out.up))); all_goals (simp only; rw [HR.out]; omega)
     · (have hgood : sl.e = 0 := by simpa using hbad); (have hb : (sl.e == 0) = true := by simpa using hgood); have Hgood := Lib.hid hgood; clear hbad; have hit := HT2.out; obtain ⟨k, hk, hd, hp⟩ := HE.out.pw; have p1 := hp.c1; have pz := hp.lt; have Hd := Lib.hid hd; clear hp; have hdl := dr_len s k; rw [hd] at hdl
       by_cases hend : k = s.size
       · (have i1 : ¬ (k : Int) < (s.size : Int) := by omega); have hl0 : sl.l = [] := List.eq_nil_of_length_eq_zero (by omega)
         have hit2 : (Fl, sl) = T := by
           rw [← hit]
           cases f with
           | zero => rfl
           | succ f => rw [fileRf, if_neg (fun h => h.2 hl0)]
         clear hit; subst hit2; have hA := HA.out; simp only at hA; rw [if_neg (by simpa using hgood)] at hA; have y0 := cell_of_row wr R 0 _ _ _ HE.out.y; have y1 := cell_of_row wr R 1 _ _ _ HE.out.y; have z0 := cell_of_row wr (R + 1) 0 _ _ _ HE.out.z; have z1 := cell_of_row wr (R + 1) 1 _ _ _ HE.out.z; have f0 := cell_of_row wr (R + 3) 0 _ _ _ HE.out.f; have f1 := cell_of_row wr (R + 3) 1 _ _ _ HE.out.f; have yf := fun o => frozen_of_row wr R o _ _ HE.out.y; have zf := fun o => frozen_of_row wr (R + 1) o _ _ HE.out.z; have yz := lt_of_block HE.out.y; have zz := lt_of_block HE.out.z; obtain ⟨av, cv, rfl⟩ := own_val HE.out.om.own.choose_spec; obtain ⟨bv, dv, rfl⟩ := own_val HE.out.oe.own.choose_spec; have HA2 := Lib.hid hA; clear HA hA hend hl0 hgood hdl hd; (go_wp2_with (go_at_call 20; go_must (refine Hok.out.mono ?_; rintro e w6 ⟨rfl, rfl⟩))); refine bodyPost_ret (v := .tuple #[.agg #[.slice av Fl.msgs.length cv, .slice bv Fl.enums.length dv], .agg #[.int .i64 0, .int .i64 0]]) (by simp [results, Tryd.results5, go_sem, y0, y1, z0, z1]) rfl ?_; rw [← HA2.out]; refine ⟨_, rfl, ?_, ?_⟩
         · have hfil := HE.out.fil HR.out; have h1 := hfil.keep (Keep.setCell (p := ⟨R, 0, none⟩) (show ¬ R + 4 ≤ R by omega) (.slice av Fl.msgs.length cv)); have h2 := h1.keep (Keep.setCell (p := ⟨R, 1, none⟩) (show ¬ R + 4 ≤ R by omega) (.slice bv Fl.enums.length dv)); have h3 := h2.keep (Keep.setCell (p := ⟨R + 1, 0, none⟩) (show ¬ R + 4 ≤ R + 1 by omega) (.int .i64 0)); have h4 := h3.keep (Keep.setCell (p := ⟨R + 1, 1, none⟩) (show ¬ R + 4 ≤ R + 1 by omega) (.int .i64 0)); exact h4.all
         · (repeat (first | (with_reducible refine Up.setCell ?_ ?_ _) | (with_reducible refine Up.drew ?_) | (with_reducible exact HE.out.up))); all_goals (simp only; rw [HR.out]; omega)
       · (have i1 : (k : Int) < (s.size : Int) := by omega); (have hne : sl.l ≠ [] := fun e => by rw [e] at hdl; simp at hdl; omega); obtain ⟨f, rfl⟩ : ∃ f', f = f' + 1 := ⟨f - 1, by have := Hlf.out hgood; omega⟩; rw [fileRf, if_pos ⟨hgood, hne⟩] at hit; have hsw := shr_word sl; have htp := shr_top sl.l (wordRf sl).1 Fl (wordRf sl).2; obtain ⟨WD, hWD⟩ : ∃ WD, wordRf sl = WD := ⟨_, rfl⟩; rw [hWD] at hit hsw htp; obtain ⟨wd, s6⟩ := WD; simp only at hit hsw htp; have hs7 := hsw.trans htp; obtain ⟨TP, hTP⟩ : ∃ TP, topRf sl.l wd Fl s6 = TP := ⟨_, rfl⟩; rw [hTP] at hit hs7; have Hit := Lib.hid hit; have HWD := Lib.hid hWD; have HTP := Lib.hid hTP; have Hs7 := Lib.hid hs7; clear hit hWD hTP hs7 hsw htp hne hdl hgood hd; have hww := word_w (R + 2) s sl wr (by omega) HE.out.pw; rw [HWD.out] at hww; have Hww := Lib.hid hww; clear hww
         go_upto_block 2 with (first | (go_at_call 20; go_must (refine Hok.out.mono ?_; rintro e w6 ⟨rfl, rfl⟩)) | (go_at_call 21; go_must (refine Hww.out.mono ?_; rintro e w6 ⟨rfl, ha6, hg6⟩)))
         have HEr := Lib.hid (HE.out.step hg6 ha6 HR.out); clear ha6 hg6 HE Hww p1 pz Hok; obtain ⟨w6, rfl⟩ : ∃ y : World, y = w6 := ⟨_, rfl⟩; have Hok6 := Lib.hid (ok_w (R + 2) s s6 w6 HEr.out.pw); have hhi := HEr.out.f; have hRw := lt_of_block hhi; have HNq : Hid (R + 4 ≤ w6.drew.heap.size) := Lib.hid (by show R + 4 ≤ w6.heap.size; omega); have HN1 : Hid (∀ j, vm.ownBlock = some j → j < w6.drew.heap.size) := Lib.hid (fun j hj => (HEr.out.om.lo j hj).2); have HN2 : Hid (∀ j, ve.ownBlock = some j → j < w6.drew.heap.size) := Lib.hid (fun j hj => (HEr.out.oe.lo j hj).2); (have hm11 : Fl.msgs.length ≤ 11 := by omega); (have he11 : Fl.enums.length ≤ 11 := by omega); clear hhi
         go_cut [] (fun wc => ∃ vm' ve', RG s w R vm' ve' TP.1.msgs TP.1.enums TP.2 wc)
         case first =>
           have htp := HTP.out; unfold topRf at htp
           by_cases hb6 : s6.e = 0
           rotate_left
           · (have hb : (s6.e == 0) = false := by simpa using hb6); rw [if_pos hb6] at htp; have Htp := Lib.hid htp; clear htp hb6; go_wp2_with (go_at_call 20; go_must (refine Hok6.out.mono ?_; rintro e w7 ⟨rfl, rfl⟩))
             go_meet
             rw [← Htp.out]; exact ⟨_, _, HEr.out⟩
           · (have hb : (s6.e == 0) = true := by simpa using hb6); rw [if_neg (by simpa using hb6)] at htp; clear hb6
             by_cases hms : wd = wMessage
             · rw [if_pos hms] at htp; (have e1 : (wd == [109, 101, 115, 115, 97, 103, 101]) = true := by rw [hms]; rfl); have hmw := message_wk (R + 2) s s6 w6.drew (by omega) (HEr.out.pw.up (Up.refl _).drew); obtain ⟨MX, hMX⟩ : ∃ MX, messageRf s6 = MX := ⟨_, rfl⟩; rw [hMX] at htp hmw; obtain ⟨X, s7⟩ := MX; simp only at htp hmw; have Htp := Lib.hid htp; have Hms := Lib.hid hmw; clear htp hmw hMX hms; have m0 := cell_of_row w6 (R + 3) 0 _ _ _ HEr.out.f; have mz := lt_of_block HEr.out.f
               go_upto_region 14 with (first | (go_at_call 20; go_must (refine Hok6.out.mono ?_; rintro e w7 ⟨rfl, rfl⟩)))
               go_region_law (first
                 | (go_simp; go_at_call 22; refine Hms.out.mono ?_; rintro e w8 ⟨vf, vb, rfl, hrf, hrb, hok8, ha8, hg8⟩; obtain ⟨fa, fc, rfl, _, _⟩ := hrf.val; obtain ⟨ba, bc, rfl, _, _⟩ := hrb.val; have HE8 := Lib.hid ((HEr.out.upto (Up.refl _).drew).step hg8 ha8 HR.out); obtain ⟨xs, hxs⟩ := HE8.out.om.own; have Hxs := Lib.hid hxs; have m0 := cell_of_row w8 (R + 3) 0 _ _ _ HE8.out.f; have mz := lt_of_block HE8.out.f; have Hrf := Lib.hid hrf; have Hrb := Lib.hid hrb; have Hok8 := Lib.hid hok8; clear ha8 hg8 hxs hrf hrb hok8)
                 | (refine step_app1 eMsg _ (by rfl) _ _ (by rfl) (R + 4) _ _ _ (by rfl) Hxs.out _ (by rfl) (by first | rfl | simp) (by rfl) (oc (by rfl)) (by omega) (by unfold maxLen; omega) (by first | omega | (simp; omega)) ?_; intro v9 w9 how9 hev9; obtain ⟨a9, c9, rfl⟩ := own_val how9; have hb9 := hev9.blk HE8.out.f (fun e => by have := (HE8.out.om.lo _ e).1; omega); have m0 := cell_of_row w9 (R + 3) 0 _ _ _ hb9; have m1 := cell_of_row w9 (R + 3) 1 _ _ _ hb9; have mf := fun o => frozen_of_row w9 (R + 3) o _ _ hb9; have mz := lt_of_block hb9; have HE9 := Lib.hid (RG.snocM (x := X) HE8.out Hxs.out how9 hev9 HNq.out HN1.out HN2.out Hrf.out Hrb.out Hok8.out HR.out); clear hb9 how9 hev9))
               all_goals
                 go_wp2_with fail
                 go_meet
                 rw [← Htp.out]; exact ⟨_, _, HE9.out⟩
             · rw [if_neg hms] at htp
               by_cases hen : wd = wEnum
               · rw [if_pos hen] at htp; (have e1 : (wd == [109, 101, 115, 115, 97, 103, 101]) = false := by rw [beq_eq_false_iff_ne]; exact hms); (have e2 : (wd == [101, 110, 117, 109]) = true := by rw [hen]; rfl); have hmw := enum_w (R + 2) s s6 w6.drew (by omega) (HEr.out.pw.up (Up.refl _).drew); obtain ⟨MX, hMX⟩ : ∃ MX, enumRf s6 = MX := ⟨_, rfl⟩; rw [hMX] at htp hmw; obtain ⟨X, s7⟩ := MX; simp only at htp hmw; have Htp := Lib.hid htp; have Hms := Lib.hid hmw; clear htp hmw hMX hms hen; have m1 := cell_of_row w6 (R + 3) 1 _ _ _ HEr.out.f; have mz := lt_of_block HEr.out.f
                 go_upto_region 16 with (first | (go_at_call 20; go_must (refine Hok6.out.mono ?_; rintro e w7 ⟨rfl, rfl⟩)))
                 go_region_law (first
                   | (go_simp; go_at_call 23; refine Hms.out.mono ?_; rintro e w8 ⟨vi, rfl, hri, hok8, _, ha8, hg8⟩; obtain ⟨ia, ic, rfl, _, _⟩ := hri.val; have HE8 := Lib.hid ((HEr.out.upto (Up.refl _).drew).step hg8 ha8 HR.out); obtain ⟨xs, hxs⟩ := HE8.out.oe.own; have Hxs := Lib.hid hxs; have m1 := cell_of_row w8 (R + 3) 1 _ _ _ HE8.out.f; have mz := lt_of_block HE8.out.f; have Hri := Lib.hid hri; have Hok8 := Lib.hid hok8; clear ha8 hg8 hxs hri hok8)
                   | (refine step_app1 eEnu _ (by rfl) _ _ (by rfl) (R + 4) _ _ _ (by rfl) Hxs.out _ (by rfl) (by first | rfl | simp) (by rfl) (oc (by rfl)) (by omega) (by unfold maxLen; omega) (by first | omega | (simp; omega)) ?_; intro v9 w9 how9 hev9; obtain ⟨a9, c9, rfl⟩ := own_val how9; have hb9 := hev9.blk HE8.out.f (fun e => by have := (HE8.out.oe.lo _ e).1; omega); have m0 := cell_of_row w9 (R + 3) 0 _ _ _ hb9; have m1 := cell_of_row w9 (R + 3) 1 _ _ _ hb9; have mf := fun o => frozen_of_row w9 (R + 3) o _ _ hb9; have mz := lt_of_block hb9; have HE9 := Lib.hid (RG.snocE (x := X) HE8.out Hxs.out how9 hev9 HNq.out HN1.out HN2.out Hri.out Hok8.out HR.out); clear hb9 how9 hev9))
                 all_goals
                   go_wp2_with fail
                   go_meet
                   rw [← Htp.out]; exact ⟨_, _, HE9.out⟩
               · rw [if_neg hen] at htp; (have e1 : (wd == [109, 101, 115, 115, 97, 103, 101]) = false := by rw [beq_eq_false_iff_ne]; exact hms); (have e2 : (wd == [101, 110, 117, 109]) = false := by rw [beq_eq_false_iff_ne]; exact hen); obtain ⟨k6, hk6, hd6, hp6⟩ := HEr.out.pw; have p1 := hp6.c1; have pz := hp6.lt; have pf := hp6.fz 1; have Htp := Lib.hid htp; clear htp hms hen hd6 hp6; have hst := fun W (h : RAt (R + 2) s ⟨sl.l, s6.e, s6.b⟩ W) => stop_w (R + 2) s ⟨sl.l, s6.e, s6.b⟩ 2 W (by decide) h; have Hst := Lib.hid hst; have hbk := HEr.out.pw.back hk Hd.out; have Hbk := Lib.hid hbk; clear hst hbk; go_wp2_with (first | (go_at_call 20; go_must (refine Hok6.out.mono ?_; rintro e w7 ⟨rfl, rfl⟩)) | (go_at_call 24; go_must (refine (Hst.out _ Hbk.out).mono ?_; rintro e w8 ⟨rfl, ha8, hg8⟩)))
                 go_meet
                 rw [← Htp.out]; exact ⟨_, _, HEr.out.step (((Gr.refl (R + 2) _).set 1 _).trans hg8) ha8 HR.out⟩
         case rest =>
           obtain ⟨vm2, ve2, hg7⟩ := hcut; obtain ⟨F2, s7⟩ := TP; simp only at hg7; have HG7 := Lib.hid hg7; clear hg7 HEr HN1 HN2 HNq Hok6; have hit := Hit.out
           have hln : F2.msgs.length + F2.enums.length ≤ 11 := by
             have htp := HTP.out; have h10 := Hn10.out Hgood.out; unfold topRf at htp; split at htp
             · simp only [Prod.mk.injEq] at htp; rw [← htp.1]; omega
             · split at htp
               · simp only [Prod.mk.injEq] at htp; rw [← htp.1]; simp only [List.length_append, List.length_singleton]; omega
               · split at htp
                 · simp only [Prod.mk.injEq] at htp; rw [← htp.1]; simp only [List.length_append, List.length_singleton]; omega
                 · simp only [Prod.mk.injEq] at htp; rw [← htp.1]; omega
           unfold tenRf at hit; simp only at hit; have Hok7 := Lib.hid (ok_w (R + 2) s s7 wc HG7.out.pw); have f0 := cell_of_row wc (R + 3) 0 _ _ _ HG7.out.f; have f1 := cell_of_row wc (R + 3) 1 _ _ _ HG7.out.f; have fz := lt_of_block HG7.out.f; obtain ⟨av, cv, rfl⟩ := own_val HG7.out.om.own.choose_spec; obtain ⟨bv, dv, rfl⟩ := own_val HG7.out.oe.own.choose_spec
           by_cases hten : s7.e = 0 ∧ 10 < F2.msgs.length + F2.enums.length
           · rw [if_pos hten] at hit; (have hb7 : (s7.e == 0) = true := by simpa using hten.1); (have d1 : (10 : Int) < (F2.msgs.length : Int) + (F2.enums.length : Int) := by omega); have Hit := Lib.hid hit; clear hit hten; (go_wp2_with (first | (go_at_call 20; go_must (refine Hok7.out.mono ?_; rintro e w8 ⟨rfl, rfl⟩)) | (go_at_call 24; go_must (refine (stop_w (R + 2) s s7 5 _ (by decide) HG7.out.pw).mono ?_; rintro e w8 ⟨rfl, ha8, hg8⟩; have HG8 := Lib.hid (HG7.out.step hg8 ha8 HR.out); clear ha8 hg8)) | (go_at_call 19; go_must (refine (skip_w (R + 2) s (stopRf 5 s7) _ (by omega) HG8.out.pw).mono ?_; rintro e w9 ⟨rfl, ha9, hg9⟩)))); have HG9 := HG8.out.step hg9 ha9 HR.out; refine ⟨⟨F2, blankRf (stopRf 5 s7), _, _, f, fun h => absurd h (stop_ne (er := 5) (by decide) s7), Hit.out, hln, fun h => absurd h (stop_ne (er := 5) (by decide) s7), HG9⟩, ?_⟩; rw [HG9.pw.m, HM.out]; exact stM_lt ((Hs7.out.trans (shr_stop (by decide) _).le).trans (shr_blank _)) Hgood.out
           · rw [if_neg hten] at hit; have Hit := Lib.hid hit; clear hit
             by_cases h7 : s7.e = 0
             · have hb7 : (s7.e == 0) = true := by simpa using h7
               have hle : F2.msgs.length + F2.enums.length ≤ 10 := by
                 rcases Nat.lt_or_ge 10 (F2.msgs.length + F2.enums.length) with h | h
                 · exact absurd ⟨h7, h⟩ hten
                 · exact h
               (have d1 : ¬ (10 : Int) < (F2.msgs.length : Int) + (F2.enums.length : Int) := by omega); clear hten h7; (go_wp2_with (first | (go_at_call 20; go_must (refine Hok7.out.mono ?_; rintro e w8 ⟨rfl, rfl⟩)) | (go_at_call 19; go_must (refine (skip_w (R + 2) s s7 _ (by omega) HG7.out.pw).mono ?_; rintro e w9 ⟨rfl, ha9, hg9⟩)))); have HG9 := HG7.out.step hg9 ha9 HR.out; refine ⟨⟨F2, blankRf s7, _, _, f, fun h => ?_, Hit.out, hln, fun _ => hle, HG9⟩, ?_⟩
               · have h1 := ((Hs7.out.trans (shr_blank _)) h).2; have h2 := Hlf.out Hgood.out; omega
               · rw [HG9.pw.m, HM.out]; exact stM_lt (Hs7.out.trans (shr_blank _)) Hgood.out
             · (have hb7 : (s7.e == 0) = false := by simpa using h7); have H7 := Lib.hid h7; clear hten h7; (go_wp2_with (first | (go_at_call 20; go_must (refine Hok7.out.mono ?_; rintro e w8 ⟨rfl, rfl⟩)) | (go_at_call 19; go_must (refine (skip_w (R + 2) s s7 _ (by omega) HG7.out.pw).mono ?_; rintro e w9 ⟨rfl, ha9, hg9⟩)))); have HG9 := HG7.out.step hg9 ha9 HR.out; refine ⟨⟨F2, blankRf s7, _, _, f, fun h => absurd h H7.out, Hit.out, hln, fun h => absurd h H7.out, HG9⟩, ?_⟩; rw [HG9.pw.m, HM.out]; exact stM_lt (Hs7.out.trans (shr_blank _)) Hgood.out
end Go.Proofs.YtbceapeoknngnaaDoor
