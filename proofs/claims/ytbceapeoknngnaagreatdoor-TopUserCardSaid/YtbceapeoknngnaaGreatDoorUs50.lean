/-
  The law TopUser (written by gen_user.py).
-/
import Derived.Test.YtbceapeoknngnaaGreatDoorUs49
set_option linter.unusedVariables false
namespace Go.Proofs.YtbceapeoknngnaaGreatDoor
open Go.RowKit
set_option maxRecDepth 100000
open Lib (hid)
theorem emp_of {s : ByteArray} (h : ¬ s = ByteArray.empty) : 0 < s.size := by
 rcases Nat.eq_zero_or_pos s.size with h0 | h0
 · exfalso
   apply h
   cases s with
   | mk d => have e : d = #[] := Array.eq_empty_of_size_eq_zero h0
             subst e; rfl
 · exact h0
set_option maxHeartbeats 12800000 in
theorem user_any (s1 s4 : ByteArray) (a1 a2 a3 : Int) (opn : Bool) (w : World) (hs1 : s1.size ≤ 140737488355328) (hs4 : s4.size ≤ 140737488355328) (ha1 : -9223372036854775808 ≤ a1 ∧ a1 ≤ 9223372036854775807) (hev : EvR w) (hT : Tabs w) :
   Calls Tryz.prog 4 #[.string s1, .int .i64 a1, .int .i64 a2, .int .i64 a3, .string s4, .bool opn] w fun e w' => e = .returned (.bool true) ∧ Up w w' := by
 have Hal := hid (alive_top w hev hT); have HT := hid hT; have Hfi := hid (fun W (u : Up w W) => file_user W (hev.up u)); have Hs1 := hid hs1; have Hs4 := hid hs4; have Ha1 := hid ha1; clear hev hT hs1 hs4 ha1
 go_enter Tryz.func4, Tryz.ntmps4
 go_upto_region 3 with (go_at_call 12; go_must (refine Hal.out.mono ?_; rintro e w1 ⟨rfl, hu⟩))
 have U1 := hid hu; clear hu Hal
 go_upto_region 4 with (go_at_call 16; go_must (refine (Hfi.out _ U1.out).mono ?_; rintro e w2 ⟨mo, mc, eo, ec, rfl, hf, hu⟩))
 have hbF := blk_new w2 (.cells #[.slice mo 1 mc, .slice eo 1 ec] 25) (g := w2.heap.size) rfl; have hu3 := hu.alloc (.cells #[.slice mo 1 mc, .slice eo 1 ec] 25); have hf3 := hf.up ((Up.refl w2).alloc (.cells #[.slice mo 1 mc, .slice eo 1 ec] 25)); obtain ⟨FX, hFX⟩ : ∃ B, w2.heap.size = B := ⟨_, rfl⟩; rw [hFX] at hbF ⊢; generalize w2.alloc (.cells #[.slice mo 1 mc, .slice eo 1 ec] 25) = w3 at *; have U3 := hid (U1.out.trans hu3); have HbF := hid hbF; have Hf3 := hid hf3; clear hu hf hbF hu3 hf3 Hfi hFX; obtain ⟨w4, cap4, hcv, hu4, hl4, hrd⟩ := conv_rd s1 w3 Hs1.out; have huf := utf8_r _ s1.data.toList w4 (hrd.keep stable_u8 Keep.all) Hs1.out; obtain ⟨ok, hok⟩ : ∃ ok, Lib.validD s1.data.toList = ok := ⟨_, rfl⟩; rw [hok] at huf; have Huf := hid huf; have Hok := hid hok; have U4 := hid hu4; clear huf hok hu4 hl4 hrd
 cases ok with
 | false =>
   go_wp2_with (go_at_call 17; go_must (refine Huf.out.mono ?_; rintro e w5 ⟨rfl, hu⟩))
   go_ret
   exact ⟨rfl, U3.out.trans (U4.out.trans hu)⟩
 | true =>
 by_cases g1 : (100 : Int) < (s1.size : Int)
 · go_wp2_with (go_at_call 17; go_must (refine Huf.out.mono ?_; rintro e w5 ⟨rfl, hu⟩))
   go_ret
   exact ⟨rfl, U3.out.trans (U4.out.trans hu)⟩
 by_cases g2 : (100 : Int) < (s4.size : Int)
 · go_wp2_with (go_at_call 17; go_must (refine Huf.out.mono ?_; rintro e w5 ⟨rfl, hu⟩))
   go_ret
   exact ⟨rfl, U3.out.trans (U4.out.trans hu)⟩
 by_cases g3 : a3 < 0
 · go_wp2_with (go_at_call 17; go_must (refine Huf.out.mono ?_; rintro e w5 ⟨rfl, hu⟩))
   go_ret
   exact ⟨rfl, U3.out.trans (U4.out.trans hu)⟩
 by_cases g4 : 20 < a3
 · go_wp2_with (go_at_call 17; go_must (refine Huf.out.mono ?_; rintro e w5 ⟨rfl, hu⟩))
   go_ret
   exact ⟨rfl, U3.out.trans (U4.out.trans hu)⟩
 by_cases g5 : a2 < -2147483648
 · go_wp2_with (go_at_call 17; go_must (refine Huf.out.mono ?_; rintro e w5 ⟨rfl, hu⟩))
   go_ret
   exact ⟨rfl, U3.out.trans (U4.out.trans hu)⟩
 by_cases g6 : 2147483647 < a2
 · go_wp2_with (go_at_call 17; go_must (refine Huf.out.mono ?_; rintro e w5 ⟨rfl, hu⟩))
   go_ret
   exact ⟨rfl, U3.out.trans (U4.out.trans hu)⟩
 go_upto_region 6 with (go_at_call 17; go_must (refine Huf.out.mono ?_; rintro e w5 ⟨rfl, hu⟩))
 have U5 := hid (U3.out.trans (U4.out.trans hu)); have U35 := hid (U4.out.trans hu); have G := hid (show (s1.size : Int) ≤ 100 ∧ (s4.size : Int) ≤ 100 ∧ 0 ≤ a3 ∧ a3 ≤ 20 ∧ -2147483648 ≤ a2 ∧ a2 ≤ 2147483647 by omega); clear hu hcv Huf U4 g1 g2 g3 g4 g5 g6; obtain ⟨mb, mo', nm, fo, bo, fn, fc, bn, bc, rfl, hmc, hm0, hm1, hm2, hfs⟩ := msg_user (Hf3.out.up U35.out); have Hfs := hid hfs; have f0 : w5.cell? ⟨FX, 0, none⟩ = some (.slice (some ⟨mb, mo', none⟩) 1 mc) := cell_of_row _ _ 0 _ _ _ (U35.out.blk HbF.out); clear hfs
 go_upto_region 7 with (fail)
 clear hm0 hm1 hm2 f0; have hbM := blk_new w5 (.cells #[.string nm, .slice fo fn fc, .slice bo bn bc] 38) (g := w5.heap.size) rfl; have hu6 := (Up.refl w5).alloc (.cells #[.string nm, .slice fo fn fc, .slice bo bn bc] 38); obtain ⟨M, hM⟩ : ∃ B, w5.heap.size = B := ⟨_, rfl⟩; rw [hM] at hbM ⊢; generalize w5.alloc (.cells #[.string nm, .slice fo fn fc, .slice bo bn bc] 38) = w6 at *; have U6 := hid (U5.out.trans hu6); have HbM := hid hbM; have Hfm := hid (fun W (u : Up w6 W) => Hfs.out.up stable_fld (hu6.trans u)); have Hf6 := hid (Hf3.out.up (U35.out.trans hu6)); have HbF6 := hid (hu6.blk (U35.out.blk HbF.out)); have HT6 := hid (HT.out.up U6.out); have HMC := hid (fun W (u : Up w6 W) => (⟨cell_of_row _ _ 0 _ _ _ (u.blk HbM.out), cell_of_row _ _ 1 _ _ _ (u.blk HbM.out), cell_of_row _ _ 2 _ _ _ (u.blk HbM.out)⟩ : W.cell? ⟨M, 0, none⟩ = some (.string nm) ∧ W.cell? ⟨M, 1, none⟩ = some (.slice fo fn fc) ∧ W.cell? ⟨M, 2, none⟩ = some (.slice bo bn bc))); clear hbM hu6 hM Hfs U35 U5 HbF Hf3 U3 U1 HT
 go_upto_region 8 with (fail)
 have hst := UserSt.start w6; obtain ⟨X, hX⟩ : ∃ B, w6.heap.size = B := ⟨_, rfl⟩; rw [hX] at hst ⊢; generalize w6.alloc (.cells #[.slice none 0 0, .slice none 0 0] 29) = w7 at *; have S0 := hid hst; have HX := hid (show w6.heap.size ≤ X by omega); clear hst hX; obtain ⟨K1, K2, hk1, hk2, hk0⟩ : ∃ K1 K2 : Nat, (IntKind.u64.wrap a1 = (K1 : Int) ∧ K1 < 2 ^ 64) ∧ (IntKind.u64.wrap a2 = (K2 : Int) ∧ K2 < 2 ^ 64) ∧ (K1 = 0 → a1 = 0) ∧ (K2 = 0 → a2 = 0) ∧ fitsN 5 K2 = 0 := num_user Ha1.out G.out.2.2.2.2; have HK1 := hid hk1; have HK2 := hid hk2; have HK0 := hid hk0; clear hk1 hk2 hk0; obtain ⟨m0, m1, m2⟩ := HMC.out _ S0.out.1; obtain ⟨x0, x1, xf, xz⟩ := S0.out.cells; obtain ⟨w8, capz, hcv, hua, hla, hrd⟩ := conv_rd s1 w7 Hs1.out; have hbk := blk_new w8 (.cells #[.slice (some ⟨w7.heap.size, 0, none⟩) s1.data.toList.length capz] 32) (g := w8.heap.size) rfl; have hub := hua.alloc (.cells #[.slice (some ⟨w7.heap.size, 0, none⟩) s1.data.toList.length capz] 32); have hx := valu_byt (d := 12) (S := fun b => b ≠ X) (n := 1) hbk (by show w8.heap.size ≠ X; omega) ((hrd.keep stable_u8 (Keep.weak (fun j hj => by show j ≠ X; omega))).up stable_u8 ((Up.refl w8).alloc _)) Hs1.out (by unfold okI; decide); have Hset := hid (usr_set S0.out (by decide) HX.out hub (u1 s1.data.toList) (s := nm) (bo := bo) (bn := bn) (bc := bc) hx (Hfm.out _ (S0.out.1.trans hub))); simp only [show (u1 s1.data.toList).1 = 1 from rfl, show (u1 s1.data.toList).2.1.length = 0 from rfl, show (u1 s1.data.toList).2.2.1.length = 1 from rfl, show (u1 s1.data.toList).2.2.2.length = 0 from rfl] at Hset; clear hbk hub hx hrd hla hua
 go_upto_region 9 with (go_at_call 18; go_must (refine Hset.out.mono ?_; rintro e w10 ⟨p1, n1, c1, rfl, ⟨y0, y1, yf, yz⟩, hup, hst⟩))
 generalize (w10.setCell ⟨X, 0, none⟩ (.slice p1 n1 c1)).setCell ⟨X, 1, none⟩ (.slice none 0 0) = w11 at *; obtain ⟨L1, hL⟩ : ∃ L, setV fsU ([] : List Val) (u1 s1.data.toList) = L := ⟨_, rfl⟩; rw [hL] at hst; have HL1 := hid hL; have S1 := hid hst; clear y0 y1 yf yz hup hst hL m0 m1 m2 x0 x1 xf xz Hset hcv; obtain ⟨m0, m1, m2⟩ := HMC.out _ S1.out.1; obtain ⟨x0, x1, xf, xz⟩ := S1.out.cells; have cv : IntKind.u64.wrap a1 = ((K1 : Nat) : Int) := HK1.out.1; have hbk := blk_new w11 (.cells #[.int .u64 K1] 54) (g := w11.heap.size) rfl; have hub := (Up.refl w11).alloc (.cells #[.int .u64 K1] 54); have hx := valu_num (d := 12) (S := fun b => b ≠ X) (n := 2) (k := K1) hbk (by show w11.heap.size ≠ X; omega) HK1.out.2 (by unfold okI; decide); have Hset := hid (usr_set S1.out (by decide) HX.out hub (u2 K1) (s := nm) (bo := bo) (bn := bn) (bc := bc) hx (Hfm.out _ (S1.out.1.trans hub))); simp only [show (u2 K1).1 = 2 from rfl, show (u2 K1).2.1.length = 1 from rfl, show (u2 K1).2.2.1.length = 0 from rfl, show (u2 K1).2.2.2.length = 0 from rfl] at Hset; clear hbk hub hx
 go_upto_region 10 with (go_at_call 18; go_must (refine Hset.out.mono ?_; rintro e w13 ⟨p2, n2, c2, rfl, ⟨y0, y1, yf, yz⟩, hup, hst⟩))
 generalize (w13.setCell ⟨X, 0, none⟩ (.slice p2 n2 c2)).setCell ⟨X, 1, none⟩ (.slice none 0 0) = w14 at *; obtain ⟨L2, hL⟩ : ∃ L, setV fsU L1 (u2 K1) = L := ⟨_, rfl⟩; rw [hL] at hst; have HL2 := hid hL; have S2 := hid hst; clear y0 y1 yf yz hup hst hL m0 m1 m2 x0 x1 xf xz Hset cv; obtain ⟨m0, m1, m2⟩ := HMC.out _ S2.out.1; obtain ⟨x0, x1, xf, xz⟩ := S2.out.cells; have cv : IntKind.u64.wrap a2 = ((K2 : Nat) : Int) := HK2.out.1; have hbk := blk_new w14 (.cells #[.int .u64 K2] 54) (g := w14.heap.size) rfl; have hub := (Up.refl w14).alloc (.cells #[.int .u64 K2] 54); have hx := valu_num (d := 12) (S := fun b => b ≠ X) (n := 3) (k := K2) hbk (by show w14.heap.size ≠ X; omega) HK2.out.2 (by unfold okI; decide); have Hset := hid (usr_set S2.out (by decide) HX.out hub (u3 K2) (s := nm) (bo := bo) (bn := bn) (bc := bc) hx (Hfm.out _ (S2.out.1.trans hub))); simp only [show (u3 K2).1 = 3 from rfl, show (u3 K2).2.1.length = 1 from rfl, show (u3 K2).2.2.1.length = 0 from rfl, show (u3 K2).2.2.2.length = 0 from rfl] at Hset; clear hbk hub hx
 go_upto_region 11 with (go_at_call 18; go_must (refine Hset.out.mono ?_; rintro e w16 ⟨p3, n3, c3, rfl, ⟨y0, y1, yf, yz⟩, hup, hst⟩))
 generalize (w16.setCell ⟨X, 0, none⟩ (.slice p3 n3 c3)).setCell ⟨X, 1, none⟩ (.slice none 0 0) = w17 at *; obtain ⟨L3, hL⟩ : ∃ L, setV fsU L2 (u3 K2) = L := ⟨_, rfl⟩; rw [hL] at hst; have HL3 := hid hL; have S3 := hid hst; clear y0 y1 yf yz hup hst hL m0 m1 m2 x0 x1 xf xz Hset cv; obtain ⟨N, hN⟩ : ∃ n : Nat, a3 = (n : Int) := ⟨a3.toNat, by have := G.out.2.2.1; omega⟩; subst hN; have HN := hid (show N ≤ 20 by have := G.out.2.2.2.1; omega); obtain ⟨L4, hL⟩ : ∃ L, (if 0 < N then setV fsU L3 (u4 N) else L3) = L := ⟨_, rfl⟩; have HL4 := hid hL; clear hL
 go_upto_if 92 with (fail)
 go_cut [16] (fun p wc => p = .pointer (some ⟨X, 0, none⟩) ∧ ∃ pv nv cv, UserSt w6 X wc (.slice pv nv cv) L4 4)
 case first =>
   by_cases h0 : 0 < N
   · (have i0 : (0 : Int) < (N : Int) := by omega); have hL := HL4.out; rw [if_pos h0] at hL; have hmk := fun W => make_user N HN.out W
     have HS := hid (fun W0 (u : Up w17 W0) => (show Calls Tryz.prog 18 #[.agg #[.string nm, .slice fo fn fc, .slice bo bn bc], .agg #[.slice p3 n3 c3, .slice none 0 0], .agg #[.int .i64 4, .slice none 0 0, .slice none 0 0, .slice (some ⟨W0.heap.size, 0, none⟩) N N]] ((W0.alloc (.cells (zeroB N) 29)).drew) fun e w' => ∃ p k c, e = .returned (.agg #[.slice p k c, .slice none 0 0]) ∧ (w'.cell? ⟨X, 0, none⟩ = some (.slice p3 n3 c3) ∧ w'.cell? ⟨X, 1, none⟩ = some (.slice none 0 0) ∧ (∀ o, w'.frozen? ⟨X, o, none⟩ = false) ∧ X < w'.heap.size) ∧ Up ((W0.alloc (.cells (zeroB N) 29)).drew) w' ∧ UserSt w6 X ((w'.setCell ⟨X, 0, none⟩ (.slice p k c)).setCell ⟨X, 1, none⟩ (.slice none 0 0)) (.slice p k c) L4 4 from by
       rw [← hL]; have h := usr_set S3.out (by decide) HX.out (u.alloc (.cells (zeroB N) 29)).drew (u4 N) (s := nm) (bo := bo) (bn := bn) (bc := bc) (a1 := none) (a2 := none) (a3 := some ⟨W0.heap.size, 0, none⟩) (c1 := 0) (c2 := 0) (c3 := N) (by show DValD 12 _ _ (4, [], [], List.replicate N bod0) _; rw [show (u4 N).2.2.2.length = N from List.length_replicate]; exact valu_sub2 (d := 11) (show ((W0.alloc (.cells (zeroB N) 29)).drew).heap[W0.heap.size]? = _ from blk_new W0 _ rfl) (by show W0.heap.size ≠ X; have := u.size; have := S3.out.cells.2.2.2; omega) HN.out (by unfold okI; decide)) (Hfm.out _ (S3.out.1.trans (u.alloc _).drew)); rw [show (u4 N).2.2.2.length = N from List.length_replicate] at h; exact h))
     clear hL; have dd := hid (fun W (u : Up w17 W) => (⟨(HMC.out _ (S3.out.1.trans u)).1, (HMC.out _ (S3.out.1.trans u)).2.1, (HMC.out _ (S3.out.1.trans u)).2.2, (S3.out.up u).cells.1, (S3.out.up u).cells.2.1⟩ : W.cell? ⟨M, 0, none⟩ = some (.string nm) ∧ W.cell? ⟨M, 1, none⟩ = some (.slice fo fn fc) ∧ W.cell? ⟨M, 2, none⟩ = some (.slice bo bn bc) ∧ W.cell? ⟨X, 0, none⟩ = some (.slice p3 n3 c3) ∧ W.cell? ⟨X, 1, none⟩ = some (.slice none 0 0))); (go_wp2_with fail); refine wp_region_tail 1 (m := 6) (by kernel_rfl) (by rfl) (by decide) (by kernel_rfl) (by kernel_rfl) (by kernel_rfl) (S := fun w' : World => w'.cell? ⟨M, 0, none⟩ = some (.string nm) ∧ w'.cell? ⟨M, 1, none⟩ = some (.slice fo fn fc) ∧ w'.cell? ⟨M, 2, none⟩ = some (.slice bo bn bc) ∧ w'.cell? ⟨X, 0, none⟩ = some (.slice p3 n3 c3) ∧ w'.cell? ⟨X, 1, none⟩ = some (.slice none 0 0)) ?_; have hHeld : (fun w' : World => w'.cell? ⟨M, 0, none⟩ = some (.string nm) ∧ w'.cell? ⟨M, 1, none⟩ = some (.slice fo fn fc) ∧ w'.cell? ⟨M, 2, none⟩ = some (.slice bo bn bc) ∧ w'.cell? ⟨X, 0, none⟩ = some (.slice p3 n3 c3) ∧ w'.cell? ⟨X, 1, none⟩ = some (.slice none 0 0)) w17.drew := dd.out _ (Up.refl w17).drew; change wpAnyH _ _ _ _ _ _ _ _ w17.drew; refine wpAnyH_take (i := 0) (v := ?_) rfl (by kernel_rfl) (by kernel_rfl) (by kernel_rfl) (fun _ _ _ h => h) (Or.inl ⟨by rfl, ?_⟩) (by assumption) ?_
     rotate_left
     · (intro w hSw; (try dsimp only at hSw); go_simp)
       try with_reducible rfl
     rotate_left
     (try simp only [Act.put, List.setIfInBounds_toArray]); refine wpAnyH_take (i := 1) (v := ?_) rfl (by kernel_rfl) (by kernel_rfl) (by kernel_rfl) (fun _ _ _ h => h) (Or.inl ⟨by rfl, ?_⟩) (by assumption) ?_
     rotate_left
     · (intro w hSw; (try dsimp only at hSw); go_simp)
       try with_reducible rfl
     rotate_left
     (try simp only [Act.put]); refine wpAnyH_take (i := 2) (v := ?_) rfl (by kernel_rfl) (by kernel_rfl) (by kernel_rfl) (fun _ _ _ h => h) (Or.inl ⟨by rfl, ?_⟩) (by assumption) ?_
     rotate_left
     · (intro w hSw; (try dsimp only at hSw); go_simp)
       try with_reducible rfl
     rotate_left
     (try simp only [Act.put]); refine wpAnyH_ready (rs := [3]) (by kernel_rfl) (by simp) ?_; refine AllReadyH.cons rfl (fun K hK => ?_) (AllReadyH.nil); go_simp; refine hK.out _ _ (dd.out _ ((Up.refl w17).alloc _).drew) (fun hHeld => ?_); clear hK K hHeld; have hHeld : (fun w' : World => w'.cell? ⟨M, 0, none⟩ = some (.string nm) ∧ w'.cell? ⟨M, 1, none⟩ = some (.slice fo fn fc) ∧ w'.cell? ⟨M, 2, none⟩ = some (.slice bo bn bc) ∧ w'.cell? ⟨X, 0, none⟩ = some (.slice p3 n3 c3) ∧ w'.cell? ⟨X, 1, none⟩ = some (.slice none 0 0)) (w17.alloc (.cells (zeroB N) 29)).drew := dd.out _ ((Up.refl w17).alloc _).drew; (try simp only [Act.put, List.setIfInBounds_toArray, List.set_cons_zero, List.set_cons_succ]); refine wpAnyH_take (i := 4) (v := ?_) rfl (by kernel_rfl) (by kernel_rfl) (by kernel_rfl) (fun _ _ _ h => h) (Or.inl ⟨by rfl, ?_⟩) (by assumption) ?_
     rotate_left
     · (intro w hSw; (try dsimp only at hSw); go_simp)
       try with_reducible rfl
     rotate_left
     (try simp only [Act.put, List.setIfInBounds_toArray]); refine wpAnyH_ready (rs := [5]) (by kernel_rfl) (by simp) ?_; refine AllReadyH.cons rfl (fun K hK => ?_) (AllReadyH.nil); go_simp; refine (HS.out _ (Up.refl w17)).mono ?_; rintro e w' ⟨p4, n4, c4, rfl, ⟨y0, y1, yf, yz⟩, hup, hst⟩; have Hst := hid hst; refine hK.out _ _ (dd.out _ (((Up.refl w17).alloc _).drew.trans hup)) (fun hHeld => ?_); clear hK K hHeld hst hup; (try simp only [Act.put, List.setIfInBounds_toArray, List.set_cons_zero, List.set_cons_succ]); refine wpAnyH_done (by kernel_rfl) ?_ _; refine AskTail.normal ?_; rw [runTail]; refine wpOp_step rfl (fun K' hK' => ?_); go_simp; refine hK' _ _ ?_; clear hK'; rw [runTail]; go_wp2_with fail
     go_meet
     exact ⟨rfl, _, _, _, Hst.out⟩
   · (have i0 : ¬ (0 : Int) < (N : Int) := by omega); have hL := HL4.out; rw [if_neg h0] at hL; subst hL; go_wp2_with fail
     go_meet
     exact ⟨rfl, _, _, _, S3.out.1, S3.out.2.1, S3.out.2.2.1, S3.out.2.2.2.1, by have := S3.out.2.2.2.2; omega⟩
 case rest =>
 obtain ⟨rfl, p4, n4, c4, hst⟩ := hcut; obtain ⟨w18, rfl⟩ : ∃ y : World, y = wc := ⟨_, rfl⟩; have S4 := hid hst; clear hst; obtain ⟨m0, m1, m2⟩ := HMC.out _ S4.out.1; obtain ⟨x0, x1, xf, xz⟩ := S4.out.cells; obtain ⟨w19, capz, hcv, hua, hla, hrd⟩ := conv_rd s4 w18 Hs4.out; have hbk := blk_new w19 (.cells #[.slice (some ⟨w18.heap.size, 0, none⟩) s4.data.toList.length capz] 32) (g := w19.heap.size) rfl; have hub := hua.alloc (.cells #[.slice (some ⟨w18.heap.size, 0, none⟩) s4.data.toList.length capz] 32); have hx := valu_byt (d := 12) (S := fun b => b ≠ X) (n := 5) hbk (by show w19.heap.size ≠ X; omega) ((hrd.keep stable_u8 (Keep.weak (fun j hj => by show j ≠ X; omega))).up stable_u8 ((Up.refl w19).alloc _)) Hs4.out (by unfold okI; decide); have Hset := hid (usr_set S4.out (by decide) HX.out hub (u5 s4.data.toList) (s := nm) (bo := bo) (bn := bn) (bc := bc) hx (Hfm.out _ (S4.out.1.trans hub))); simp only [show (u5 s4.data.toList).1 = 5 from rfl, show (u5 s4.data.toList).2.1.length = 0 from rfl, show (u5 s4.data.toList).2.2.1.length = 1 from rfl, show (u5 s4.data.toList).2.2.2.length = 0 from rfl] at Hset; clear hbk hub hx hrd hla hua
 go_upto_region 14 with (go_at_call 18; go_must (refine Hset.out.mono ?_; rintro e w21 ⟨p5, n5, c5, rfl, ⟨y0, y1, yf, yz⟩, hup, hst⟩))
 generalize (w21.setCell ⟨X, 0, none⟩ (.slice p5 n5 c5)).setCell ⟨X, 1, none⟩ (.slice none 0 0) = w22 at *; obtain ⟨L5, hL⟩ : ∃ L, setV fsU L4 (u5 s4.data.toList) = L := ⟨_, rfl⟩; rw [hL] at hst; have HL5 := hid hL; have S5 := hid hst; clear y0 y1 yf yz hup hst hL m0 m1 m2 x0 x1 xf xz Hset hcv; obtain ⟨L6, hL⟩ : ∃ L, (if opn = true then setV fsU L5 u6 else L5) = L := ⟨_, rfl⟩; have HL6 := hid hL; clear hL
 go_upto_if 106 with (fail)
 go_cut [17] (fun p wc => p = .int .i64 (if opn = true then 1 else 0) ∧ ∃ pv nv cv, UserSt w6 X wc (.slice pv nv cv) L6 6)
 case first =>
   cases opn with
   | false =>
     have hL := HL6.out; rw [if_neg (by decide)] at hL; subst hL; go_wp2_with fail
     go_meet
     exact ⟨rfl, _, _, _, S5.out.1, S5.out.2.1, S5.out.2.2.1, S5.out.2.2.2.1, by have := S5.out.2.2.2.2; omega⟩
   | true =>
     have hL := HL6.out; rw [if_pos rfl] at hL; obtain ⟨m0, m1, m2⟩ := HMC.out _ S5.out.1; obtain ⟨x0, x1, xf, xz⟩ := S5.out.cells; have hbk := blk_new w22 (.cells #[.int .u64 1] 54) (g := w22.heap.size) rfl; have hub := (Up.refl w22).alloc (.cells #[.int .u64 1] 54); have hx := valu_num (d := 12) (S := fun b => b ≠ X) (n := 6) (k := 1) hbk (by show w22.heap.size ≠ X; omega) (by decide) (by unfold okI; decide); have Hset := hid (usr_set S5.out (by decide) HX.out hub u6 (s := nm) (bo := bo) (bn := bn) (bc := bc) hx (Hfm.out _ (S5.out.1.trans hub))); simp only [show u6.1 = 6 from rfl, show u6.2.1.length = 1 from rfl, show u6.2.2.1.length = 0 from rfl, show u6.2.2.2.length = 0 from rfl, hL] at Hset; clear hbk hub hx hL; go_wp2_with (go_at_call 18; go_must (refine Hset.out.mono ?_; rintro e w' ⟨p6, n6, c6, rfl, ⟨y0, y1, yf, yz⟩, hup, hst⟩; have Hst := hid hst; clear hst hup))
     go_meet
     exact ⟨rfl, _, _, _, Hst.out⟩
 case rest =>
 obtain ⟨rfl, p6, n6, c6, hst⟩ := hcut; obtain ⟨wA, rfl⟩ : ∃ y : World, y = wc := ⟨_, rfl⟩; have S6 := hid hst; clear hst
 have hL6 : L6 = usrF s1.data.toList K1 K2 N s4.data.toList opn := by
   rw [← usr_is]; unfold usrV usrL; dsimp only; rw [HL1.out, HL2.out, HL3.out, HL4.out, HL5.out]; exact HL6.out.symm
 (have hn1 : s1.data.toList.length ≤ 100 := by have h := G.out.1; have e : s1.data.toList.length = s1.size := rfl; omega); (have hn4 : s4.data.toList.length ≤ 100 := by have h := G.out.2.1; have e : s4.data.toList.length = s4.size := rfl; omega); have hback := usr_back (opn := opn) Hok.out hn1 hn4 HN.out HK0.out.2.2 (by have h := HK1.out.2; omega : K1 < 18446744073709551616) (by have h := HK2.out.2; omega : K2 < 18446744073709551616); have h5 := usr_five s1.data.toList K1 K2 N s4.data.toList opn; have h6 := usr_six s1.data.toList K1 K2 N s4.data.toList opn
 have h2 : s1.size = 0 → a1 = 0 → a2 = 0 → N = 0 → opn = true → (bytesC filU 0 (usrB s1.data.toList K1 K2 N s4.data.toList opn)).1.length = 2 := by
   intro e1 e2 e3 e4 e5; have n0 : s1.data.toList = [] := List.eq_nil_of_length_eq_zero e1; (have k1 : K1 = 0 := by have h := HK1.out.1; rw [IntKind.wrap_u64, e2] at h; omega); (have k2 : K2 = 0 := by have h := HK2.out.1; rw [IntKind.wrap_u64, e3] at h; omega); rw [(bytesC_ok hback.1).2.1, n0, k1, k2, e4, e5]; exact usr_two s4.data.toList
 have hbv : (usrB s1.data.toList K1 K2 N s4.data.toList opn).values = usrF s1.data.toList K1 K2 N s4.data.toList opn := rfl; rw [← hbv] at h5 h6; (have hxb : Bod.mk L6 [] = usrB s1.data.toList K1 K2 N s4.data.toList opn := by rw [hL6]; rfl); obtain ⟨XB, hXB⟩ : ∃ b, usrB s1.data.toList K1 K2 N s4.data.toList opn = b := ⟨_, rfl⟩; rw [hXB] at hback h2 h5 h6 hxb; obtain ⟨CB, hCB⟩ : ∃ c, bytesC filU 0 XB = c := ⟨_, rfl⟩; have hby := bytes_c 13 (.agg #[.slice (some ⟨mb, mo', none⟩) 1 mc, .slice eo 1 ec]) (.slice p6 n6 c6) (.slice none 0 0) filU 0 XB wA (Hf6.out.up S6.out.1) (by rw [← hxb]; exact S6.out.bod (by decide)) (HT6.out.up S6.out.1) (fun _ => by have h := hback.2.2.1; omega); rw [hCB] at hback h2 hby; obtain ⟨bs, ce⟩ := CB; simp only at hback h2 hby; obtain ⟨rfl, hpb, _, hbl⟩ := hback; have Hby := hid hby; have Hpb := hid hpb; have Hbl := hid hbl; have H2 := hid h2; have H5 := hid h5; have H6 := hid h6; have Hxb := hid hxb; clear hby hpb hbl h2 h5 h6 hxb hXB hCB hbv hL6 hn1 hn4; have f0 : wA.cell? ⟨FX, 0, none⟩ = some (.slice (some ⟨mb, mo', none⟩) 1 mc) := cell_of_row _ _ 0 _ _ _ ((S6.out.1).blk HbF6.out); have f1 : wA.cell? ⟨FX, 1, none⟩ = some (.slice eo 1 ec) := cell_of_row _ _ 1 _ _ _ ((S6.out.1).blk HbF6.out); obtain ⟨x0, x1, xf, xz⟩ := S6.out.cells
 go_upto_region 19 with (go_at_call 13; go_must (refine Hby.out.mono ?_; rintro e wB ⟨vx, rfl, how, hu⟩; obtain ⟨pa, pc, rfl⟩ := own_val how))
 have UB := hid (S6.out.1.trans hu); have SB := hid (S6.out.up hu); have HP := hid (rdB_of_owns (S := All) how (fun _ _ => trivial)); clear hu how f0 f1 x0 x1 xf xz Hby; have hpa := parse_c (.agg #[.slice (some ⟨mb, mo', none⟩) 1 mc, .slice eo 1 ec]) filU 0 (.slice pa bs.length pc) bs wB (Hf6.out.up UB.out) HP.out (by have h := Hbl.out; omega) (HT6.out.up UB.out); rw [Hpb.out] at hpa; have Hpa := hid hpa; clear hpa; have f0 : wB.cell? ⟨FX, 0, none⟩ = some (.slice (some ⟨mb, mo', none⟩) 1 mc) := cell_of_row _ _ 0 _ _ _ ((UB.out).blk HbF6.out); have f1 : wB.cell? ⟨FX, 1, none⟩ = some (.slice eo 1 ec) := cell_of_row _ _ 1 _ _ _ ((UB.out).blk HbF6.out)
 go_upto_region 20 with (go_at_call 14; go_must (refine Hpa.out.mono ?_; rintro e wC ⟨vv, vu, rfl, hd, hu⟩; obtain ⟨s1', d1, s2', d2, rfl, rfl, hdv, hdu, hdz⟩ := bod_cells hd))
 have hblk := blk_new wC (.cells #[.slice s1' XB.values.length d1, .slice s2' XB.unknown.length d2] 29) (g := wC.heap.size) rfl; have hua := hu.alloc (.cells #[.slice s1' XB.values.length d1, .slice s2' XB.unknown.length d2] 29); have hd2 := stable_bod 13 _ _ All _ _ _ (Keep.upS ((Up.refl wC).alloc (.cells #[.slice s1' XB.values.length d1, .slice s2' XB.unknown.length d2] 29))) (bod_all hd); have hv2 := hdv.keep (stable_val 12) (Keep.trans (Keep.upS ((Up.refl wC).alloc (.cells #[.slice s1' XB.values.length d1, .slice s2' XB.unknown.length d2] 29))) Keep.all); obtain ⟨Y, hY⟩ : ∃ Y, wC.heap.size = Y := ⟨_, rfl⟩; rw [hY] at hblk ⊢; generalize wC.alloc (.cells #[.slice s1' XB.values.length d1, .slice s2' XB.unknown.length d2] 29) = wD at *; have UD := hid (UB.out.trans hua); have SD := hid (SB.out.up hua); have HbY := hid hblk; have Hd := hid hd2; have Hv := hid hv2; clear hblk hua hd2 hv2 hu hd hdv hdu hdz f0 f1 Hpa hY; have y0 : wD.cell? ⟨Y, 0, none⟩ = some (.slice s1' XB.values.length d1) := cell_of_row _ _ 0 _ _ _ (HbY.out); have y1 : wD.cell? ⟨Y, 1, none⟩ = some (.slice s2' XB.unknown.length d2) := cell_of_row _ _ 1 _ _ _ (HbY.out); have hge := get_v 12 (.slice s1' XB.values.length d1) (.slice s2' XB.unknown.length d2) XB.values 5 wD Hv.out ⟨_, _, _, rfl⟩; rw [H5.out] at hge; obtain ⟨V5, hV5⟩ : ∃ v, (findV XB.values 5).getD val0 = v := ⟨_, rfl⟩; rw [hV5] at hge; have Hge := hid hge; clear hge hV5
 go_upto_region 21 with (go_at_call 19; go_must (refine Hge.out.mono ?_; rintro e wE ⟨q1, r1, q2, r2, q3, r3, rfl, _, hu⟩))
 have hua := hu.alloc (.cells #[.int .i64 V5.1, .slice q1 V5.2.1.length r1, .slice q2 V5.2.2.1.length r2, .slice q3 V5.2.2.2.length r3] 53); generalize wE.alloc (.cells #[.int .i64 V5.1, .slice q1 V5.2.1.length r1, .slice q2 V5.2.2.1.length r2, .slice q3 V5.2.2.2.length r3] 53) = wF at *; have UF := hid hua; clear hu hua y0 y1 Hge; have y0 : wF.cell? ⟨Y, 0, none⟩ = some (.slice s1' XB.values.length d1) := cell_of_row _ _ 0 _ _ _ (UF.out.blk HbY.out); have y1 : wF.cell? ⟨Y, 1, none⟩ = some (.slice s2' XB.unknown.length d2) := cell_of_row _ _ 1 _ _ _ (UF.out.blk HbY.out); have hge := get_v 12 (.slice s1' XB.values.length d1) (.slice s2' XB.unknown.length d2) XB.values 6 wF (Hv.out.up (stable_val 12) UF.out) ⟨_, _, _, rfl⟩; rw [H6.out] at hge
 cases opn with
 | false =>
   simp only [if_neg (show ¬ (false = true) by decide), Option.getD_none, Option.isSome_none] at hge; have Hge := hid hge; clear hge
   go_upto_region 22 with (go_at_call 19; go_must (refine Hge.out.mono ?_; rintro e wG ⟨t1, j1, t2, j2, t3, j3, rfl, _, hu⟩))
   have hua := hu.alloc (.cells #[.int .i64 val0.1, .slice t1 val0.2.1.length j1, .slice t2 val0.2.2.1.length j2, .slice t3 val0.2.2.2.length j3] 53); generalize wG.alloc (.cells #[.int .i64 val0.1, .slice t1 val0.2.1.length j1, .slice t2 val0.2.2.1.length j2, .slice t3 val0.2.2.2.length j3] 53) = wH at *; have UH := hid hua; clear hu hua y0 y1 Hge; have Hst := hid (same_b 13 XB (.slice p6 n6 c6) (.slice none 0 0) (.slice s1' XB.values.length d1) (.slice s2' XB.unknown.length d2) wH (by rw [← Hxb.out]; exact (SD.out.up (UF.out.trans UH.out)).bod (by decide)) (stable_bod 13 _ _ All _ _ _ (Keep.upS (UF.out.trans UH.out)) Hd.out)); obtain ⟨x0, x1, xf, xz⟩ := (SD.out.up (UF.out.trans UH.out)).cells; have z0 : wH.cell? ⟨Y, 0, none⟩ = some (.slice s1' XB.values.length d1) := cell_of_row _ _ 0 _ _ _ ((UF.out.trans UH.out).blk HbY.out); have z1 : wH.cell? ⟨Y, 1, none⟩ = some (.slice s2' XB.unknown.length d2) := cell_of_row _ _ 1 _ _ _ ((UF.out.trans UH.out).blk HbY.out)
   go_upto_region 24 with (go_at_call 20; go_must (refine Hst.out.mono ?_; rintro e wI ⟨rfl, hu⟩))
   clear x0 x1 xf xz z0 z1
   by_cases g0 : s1 = ByteArray.empty
   rotate_left
   · have p0 := emp_of g0; go_wp2_with fail
     go_ret
     exact ⟨rfl, U6.out.trans (UD.out.trans (UF.out.trans (UH.out.trans hu)))⟩
   by_cases g1 : a1 = 0
   rotate_left
   · skip
     go_wp2_with fail
     go_ret
     exact ⟨rfl, U6.out.trans (UD.out.trans (UF.out.trans (UH.out.trans hu)))⟩
   by_cases g2 : a2 = 0
   rotate_left
   · skip
     go_wp2_with fail
     go_ret
     exact ⟨rfl, U6.out.trans (UD.out.trans (UF.out.trans (UH.out.trans hu)))⟩
   by_cases g3 : N = 0
   rotate_left
   · skip
     go_wp2_with fail
     go_ret
     exact ⟨rfl, U6.out.trans (UD.out.trans (UF.out.trans (UH.out.trans hu)))⟩
   go_wp2_with fail
   go_ret
   exact ⟨rfl, U6.out.trans (UD.out.trans (UF.out.trans (UH.out.trans hu)))⟩
 | true =>
   simp only [if_pos, Option.getD_some, Option.isSome_some] at hge; have Hge := hid hge; clear hge
   go_upto_region 22 with (go_at_call 19; go_must (refine Hge.out.mono ?_; rintro e wG ⟨t1, j1, t2, j2, t3, j3, rfl, hvv, hu⟩))
   obtain ⟨_, _, _, _, _, _, hcs, _, hx1, _, _, _⟩ := val_cells hvv; simp only [List.cons.injEq, Value.slice.injEq, and_true, true_and] at hcs; obtain ⟨⟨rfl, rfl⟩, _⟩ := hcs; obtain ⟨nb, no, ncs, hnb, _, _, hncs, hnd⟩ := hx1.at (i := 0) (by decide); subst hnb; obtain ⟨rfl, _⟩ := hnd; (have c0 : wG.cell? ⟨nb, no, none⟩ = some (.int .u64 1) := by have h := hncs 0 _ rfl; simp at h; exact h); have hua := hu.alloc (.cells #[.int .i64 u6.1, .slice (some ⟨nb, no, none⟩) u6.2.1.length j1, .slice t2 u6.2.2.1.length j2, .slice t3 u6.2.2.2.length j3] 53); have hbz := blk_new wG (.cells #[.int .i64 u6.1, .slice (some ⟨nb, no, none⟩) u6.2.1.length j1, .slice t2 u6.2.2.1.length j2, .slice t3 u6.2.2.2.length j3] 53) (g := wG.heap.size) rfl; have c0 := ((Up.refl wG).alloc (.cells #[.int .i64 u6.1, .slice (some ⟨nb, no, none⟩) u6.2.1.length j1, .slice t2 u6.2.2.1.length j2, .slice t3 u6.2.2.2.length j3] 53)).cell_some c0; obtain ⟨Z, hZ⟩ : ∃ Z, wG.heap.size = Z := ⟨_, rfl⟩; rw [hZ] at hbz ⊢; generalize wG.alloc (.cells #[.int .i64 u6.1, .slice (some ⟨nb, no, none⟩) u6.2.1.length j1, .slice t2 u6.2.2.1.length j2, .slice t3 u6.2.2.2.length j3] 53) = wH at *; have UH := hid hua; have C0 := hid c0; have HbZ := hid hbz; clear hu hua y0 y1 Hge hvv hncs hx1 c0 hbz hZ; have Hst := hid (same_b 13 XB (.slice p6 n6 c6) (.slice none 0 0) (.slice s1' XB.values.length d1) (.slice s2' XB.unknown.length d2) wH (by rw [← Hxb.out]; exact (SD.out.up (UF.out.trans UH.out)).bod (by decide)) (stable_bod 13 _ _ All _ _ _ (Keep.upS (UF.out.trans UH.out)) Hd.out)); obtain ⟨x0, x1, xf, xz⟩ := (SD.out.up (UF.out.trans UH.out)).cells; have z0 : wH.cell? ⟨Y, 0, none⟩ = some (.slice s1' XB.values.length d1) := cell_of_row _ _ 0 _ _ _ ((UF.out.trans UH.out).blk HbY.out); have z1 : wH.cell? ⟨Y, 1, none⟩ = some (.slice s2' XB.unknown.length d2) := cell_of_row _ _ 1 _ _ _ ((UF.out.trans UH.out).blk HbY.out)
   go_upto_region 24 with (go_at_call 20; go_must (refine Hst.out.mono ?_; rintro e wI ⟨rfl, hu⟩; have v1 : wI.cell? ⟨Z, 1, none⟩ = some (.slice (some ⟨nb, no, none⟩) 1 j1) := cell_of_row _ _ 1 _ _ _ (hu.blk HbZ.out); have c0 := hu.cell_some C0.out))
   clear x0 x1 xf xz z0 z1
   by_cases g0 : s1 = ByteArray.empty
   rotate_left
   · have p0 := emp_of g0; go_wp2_with fail
     go_ret
     exact ⟨rfl, U6.out.trans (UD.out.trans (UF.out.trans (UH.out.trans hu)))⟩
   by_cases g1 : a1 = 0
   rotate_left
   · skip
     go_wp2_with fail
     go_ret
     exact ⟨rfl, U6.out.trans (UD.out.trans (UF.out.trans (UH.out.trans hu)))⟩
   by_cases g2 : a2 = 0
   rotate_left
   · skip
     go_wp2_with fail
     go_ret
     exact ⟨rfl, U6.out.trans (UD.out.trans (UF.out.trans (UH.out.trans hu)))⟩
   by_cases g3 : N = 0
   rotate_left
   · skip
     go_wp2_with fail
     go_ret
     exact ⟨rfl, U6.out.trans (UD.out.trans (UF.out.trans (UH.out.trans hu)))⟩
   have hlen : bs.length = 2 := H2.out (by subst g0; rfl) g1 g2 g3 (by trivial); go_wp2_with fail
   go_ret
   exact ⟨rfl, U6.out.trans (UD.out.trans (UF.out.trans (UH.out.trans hu)))⟩
end Go.Proofs.YtbceapeoknngnaaGreatDoor
