/-
  codec.How, bits, pack.
  wire.Open.
  codec.back.
  Package wire: Get.
-/
import Derived.Test.YtbceapeoknngnaaGreatDoorProg
import Derived.Test.YtbceapeoknngnaaGreatDoorDp05
import Derived.Test.YtbceapeoknngnaaGreatDoorDp13
import Derived.Test.YtbceapeoknngnaaGreatDoorDp14
import Derived.Test.YtbceapeoknngnaaGreatDoorDp03
import Derived.Outline
import Derived.Deep.DeepMust
import Derived.Test.YtbceapeoknngnaaGreatDoorDp02
import Derived.Test.YtbceapeoknngnaaGreatDoorDp01
set_option linter.unusedVariables false
namespace Go.Proofs.YtbceapeoknngnaaGreatDoor
open Go.RowKit
set_option maxRecDepth 100000 in
set_option maxHeartbeats 800000 in
theorem how_c (k : Int) (w : World) :
    Calls Tryz.prog 21 #[.int .i64 k] w fun e w' => e = .returned (.int .i64 (howC k)) ∧ w' = w := by
  obtain ⟨h, hh⟩ : ∃ h, howC k = h := ⟨_, rfl⟩
  rw [hh]
  unfold howC at hh
  by_cases h6 : k = 6
  · subst h6
    subst hh
    go_enter Tryz.func21, Tryz.ntmps21
    go_wp2_with fail
    go_ret
    exact ⟨rfl, rfl⟩
  by_cases h7 : k = 7
  · subst h7
    subst hh
    go_enter Tryz.func21, Tryz.ntmps21
    go_wp2_with fail
    go_ret
    exact ⟨rfl, rfl⟩
  by_cases h8 : k = 8
  · subst h8
    subst hh
    go_enter Tryz.func21, Tryz.ntmps21
    go_wp2_with fail
    go_ret
    exact ⟨rfl, rfl⟩
  by_cases h9 : k = 9
  · subst h9
    subst hh
    go_enter Tryz.func21, Tryz.ntmps21
    go_wp2_with fail
    go_ret
    exact ⟨rfl, rfl⟩
  by_cases h10 : k = 10
  · subst h10
    subst hh
    go_enter Tryz.func21, Tryz.ntmps21
    go_wp2_with fail
    go_ret
    exact ⟨rfl, rfl⟩
  rw [if_neg h6, if_neg h7, if_neg (by simp [h8, h9, h10])] at hh
  subst hh
  have b6 : (k == 6) = false := by simpa using h6
  have b7 : (k == 7) = false := by simpa using h7
  have b8 : (k == 8) = false := by simpa using h8
  have b9 : (k == 9) = false := by simpa using h9
  have b10 : (k == 10) = false := by simpa using h10
  clear h6 h7 h8 h9 h10
  go_enter Tryz.func21, Tryz.ntmps21
  go_wp2_with fail
  go_ret
  exact ⟨rfl, rfl⟩
theorem sgn_wrap (n : Nat) (hn : n < 18446744073709551616) : wrap64 (n : Int) = sgn n := by
  unfold sgn wrap64
  split <;> omega
set_option maxRecDepth 100000 in
set_option maxHeartbeats 800000 in
theorem bits_c (k : Int) (n : Nat) (w : World) (hn : n < 18446744073709551616) :
    Calls Tryz.prog 120 #[.int .i64 k, .int .u64 n] w fun e w' => e = .returned (.int .u64 (toldC k n : Int)) ∧ w' = w := by
  by_cases h2 : k = 2
  · subst h2
    have h0 : -9223372036854775808 ≤ sgn n ∧ sgn n ≤ 9223372036854775807 := by unfold sgn; split <;> omega
    have Hf := Lib.hid (fold_any (sgn n) w h0.1 h0.2)
    have Hs := Lib.hid (sgn_wrap n hn)
    clear h0
    go_enter Tryz.func120, Tryz.ntmps120
    go_wp2_with (go_at_call 31; go_must (rw [Hs.out]; refine Hf.out.mono ?_; rintro e w1 ⟨rfl, rfl⟩))
    go_ret
    have e : toldC 2 n = Lib.zigzag (sgn n) := if_pos rfl
    exact ⟨by rw [e]; rfl, rfl⟩
  · have b2 : (k == 2) = false := by simpa using h2
    have ht : toldC k n = n := by unfold toldC; rw [if_neg h2]
    rw [ht]
    go_enter Tryz.func120, Tryz.ntmps120
    go_wp2_with fail
    go_ret
    exact ⟨rfl, rfl⟩
theorem told_64 {k : Int} {n : Nat} (hn : n < 18446744073709551616) : toldC k n < 18446744073709551616 := by
  unfold toldC
  split
  · have h0 : -9223372036854775808 ≤ sgn n ∧ sgn n ≤ 9223372036854775807 := by unfold sgn; split <;> omega
    unfold Lib.zigzag
    split <;> omega
  · exact hn
theorem told_right {k : Int} {n : Nat} (num : Int) (h1 : 1 ≤ num) (h2 : num < 536870912) (hk : howC k ≠ 2) (h7 : k = 7 → n < 4294967296) : wrongRec ⟨num, howC k, toldC k n, []⟩ = 0 := by
  have hh : howC k = 0 ∨ howC k = 1 ∨ howC k = 5 := by
    unfold howC at hk ⊢
    by_cases h6 : k = 6
    · rw [if_pos h6]; omega
    by_cases g : k = 7
    · rw [if_neg h6, if_pos g]; omega
    rw [if_neg h6, if_neg g] at hk ⊢
    split at hk
    · exact absurd rfl hk
    · left; rw [if_neg (by assumption)]
  have h5 : howC k = 5 → toldC k n < 4294967296 := by
    intro h
    have e : k = 7 := by
      unfold howC at h
      by_cases h6 : k = 6
      · rw [if_pos h6] at h; cases h
      by_cases g : k = 7
      · exact g
      rw [if_neg h6, if_neg g] at h
      split at h <;> cases h
    subst e
    have := h7 rfl
    unfold toldC
    rw [if_neg (by decide)]
    exact this
  generalize howC k = hw at *
  generalize toldC k n = b at *
  unfold wrongRec
  simp only
  rw [if_pos (by omega), if_neg (by omega), if_neg (by intro h; rcases h with h | h | ⟨h, g⟩ <;> first | omega | (have := h5 h; omega)), if_neg (by simp; omega)]
theorem rdB_tail1 {w2 : World} {a2 : Option Addr} {c2 : Nat} {ob Y : List UInt8} (h0 : 0 < ob.length) (hY : ob.drop 1 = Y) (h : RdB All w2 (.slice a2 ob.length c2) ob) : Y.length = ob.length - 1 ∧ ((if c2 = 1 then a2 else a2.map (·.add 1)) = none → ob.length - 1 = 0 ∧ c2 - 1 = 0) ∧ (∀ ad, (if c2 = 1 then a2 else a2.map (·.add 1)) = some ad → ∀ j u, (B8 Y)[j]? = some u → w2.cell? (ad.add j) = some u) ∧ (B8 Y).length = (ob.length - 1) * 1 := by
  have h1 := RdB.drop h 1 (by omega) (ao' := if c2 = 1 then a2 else a2.map (·.add 1)) (fun g => by rw [if_neg g]) rfl rfl
  rw [hY] at h1
  obtain ⟨g1, g2, g3⟩ := RdB.news h1
  exact ⟨g1.symm, g2, g3, by simp [B8, g1]⟩
set_option maxRecDepth 100000 in
set_option maxHeartbeats 1600000 in
theorem pack_c (kind : Int) (v : Value) (l : List Nat) (w : World) (hk2 : howC kind ≠ 2) (hn : ∀ n ∈ l, n < 18446744073709551616 ∧ (kind = 7 → n < 4294967296)) (hll : (packC kind l).length ≤ 1099511627776) (hv : RdS DU64 1 All w v l) :
    Calls Tryz.prog 119 #[.int .i64 kind, v] w fun e w' => ∃ v', e = .returned v' ∧ w'.ownsRow w.heap.size 5 1 v' (packC kind l).length (B8 (packC kind l)) ∧ Up w w' := by
  obtain ⟨ao, cap, rfl, hc1, hc2⟩ := hv.val
  have Hv := Lib.hid hv; clear hv
  have Hn := Lib.hid hn; clear hn
  have Hk2 := Lib.hid hk2; clear hk2
  have Hll := Lib.hid hll; clear hll
  go_enter Tryz.func119, Tryz.ntmps119
  go_wp2_with fail
  go_loopw [5, 10] (fun o i wr => ∃ k : Nat, k ≤ l.length ∧ i = .int .i64 k ∧ wr.ownsRow w.heap.size 5 1 o (packC kind (l.take k)).length (B8 (packC kind (l.take k))) ∧ Up w wr)
    (fun _ i _ => l.length - (intOf i).toNat)
  case atStart => exact ⟨0, by omega, rfl, World.ownsRow_nil _ _ _ _, Up.refl w⟩
  case round =>
    obtain ⟨k, hk, rfl, how, hu⟩ := hrel
    have How := Lib.hid how; clear how
    by_cases hlt : k < l.length
    · obtain ⟨b, o, cs, rfl, _, _, hcs, hd⟩ := (Hv.out.up stable_u64 hu).at hlt
      obtain ⟨hd, _⟩ := hd
      subst hd
      have n0 := hcs 0 _ rfl
      simp only [Nat.add_zero, Nat.mul_one] at n0
      have hmem := Hn.out _ (List.getElem_mem hlt)
      have hpk : packC kind (l.take (k + 1)) = packC kind (l.take k) ++ (oneB ⟨1, howC kind, toldC kind l[k], []⟩).drop 1 := by
        rw [List.take_succ_eq_append_getElem hlt, packC, packC, List.flatMap_append]; simp
      have hle : (packC kind (l.take (k + 1))).length ≤ 1099511627776 := by
        refine Nat.le_trans ?_ Hll.out
        have : packC kind l = packC kind (l.take (k + 1)) ++ packC kind (l.drop (k + 1)) := by rw [packC, packC, packC, ← List.flatMap_append, List.take_append_drop]
        rw [this, List.length_append]; omega
      have Hpk := Lib.hid hpk; clear hpk
      have Hle := Lib.hid hle; clear hle
      have Hu := Lib.hid hu; clear hu hcs
      generalize l[k] = n at *
      have hbt := Lib.hid (bits_c kind n wr hmem.1)
      have hht := Lib.hid (how_c kind wr)
      have Hr := Lib.hid (told_right (n := n) 1 (by omega) (by omega) Hk2.out hmem.2)
      have Hb := Lib.hid (told_64 (k := kind) hmem.1)
      clear hmem
      generalize howC kind = hw at *
      generalize toldC kind n = bt at *
      have hop := oneB_pos ⟨1, hw, bt, []⟩
      obtain ⟨ob, hob⟩ : ∃ ob, oneB ⟨1, hw, bt, []⟩ = ob := ⟨_, rfl⟩
      rw [hob] at hop
      obtain ⟨Y, hY⟩ : ∃ Y, ob.drop 1 = Y := ⟨_, rfl⟩
      have hM : ob.length - 1 = Y.length := by rw [← hY, List.length_drop]
      have HM := Lib.hid hM; clear hM
      have HY := Lib.hid hY; clear hY
      have Hob := Lib.hid hob; clear hob
      have HL := Lib.hid (show (packC kind (l.take k)).length + (ob.length - 1) ≤ 1099511627776 by have h := Hle.out; rw [Hpk.out, Hob.out, HY.out, List.length_append] at h; rw [HM.out]; exact h)
      go_wp2_with (first
        | (go_at_call 21; go_must (refine hht.out.mono ?_; rintro e w1 ⟨rfl, rfl⟩))
        | (go_at_call 120; go_must (refine hbt.out.mono ?_; rintro e w1 ⟨rfl, rfl⟩))
        | (go_at_call 59; go_must (refine (add_own _ (.slice none 0 0) [] ⟨1, hw, bt, []⟩ (.slice none 0 0) _ (rdB_nil _ _) Hr.out Hb.out (by simp) (World.ownsRow_nil _ _ _ _) (Nat.le_refl _)).mono ?_; rintro e w2 ⟨v2, rfl, how2, hev2⟩; rw [List.nil_append, Hob.out] at how2; have hr2 := rdB_of_owns (S := All) how2 (fun _ _ => trivial); obtain ⟨a2, c2, rfl, hx1, hx2⟩ := hr2.val; have Hr2 := Lib.hid hr2; have How2 := Lib.hid how2; have HN := Lib.hid (rdB_tail1 hop HY.out hr2); have hz2 := hev2.grown.size; have hz1 := Hu.out.size; have HZ := Lib.hid (Nat.le_trans hz1 hz2); have Hev2 := Lib.hid hev2; clear hr2 how2 hev2 hz1 hz2))
        | (at_builtin; go_must (refine wpList_app eU8 _ (by rfl) _ _ (by rfl) w.heap.size _ _ _ (by rfl) (How.out.kept Hev2.out.grown (Classical.em _)) _ _ _ (by rfl) (B8 Y) HN.out.2.2.2 HN.out.2.1 HN.out.2.2.1 (B8_one _) (by have := HL.out; omega) (by have := HL.out; unfold maxLen; omega) HZ.out ?_; intro v3 w3 how3 hev3)))
      go_roundw
      case rel =>
        refine ⟨k + 1, by omega, by go_num, ?_, (Hu.out.evo Hev2.out (fun j hj => nomatch hj)).evo hev3 (fun j hj => (How.out.lt j hj).1)⟩
        rw [Hpk.out, Hob.out, HY.out, List.length_append, B8_append, ← HM.out]
        exact how3
      case measure => simp [intOf]; omega
    · go_wp2_with fail
      go_ret
      have : l.take k = l := List.take_of_length_le (by omega)
      have h := How.out
      rw [this] at h
      exact ⟨_, rfl, h, hu⟩
end Go.Proofs.YtbceapeoknngnaaGreatDoor
set_option linter.unusedVariables false
namespace Go.Proofs.YtbceapeoknngnaaGreatDoor
open Go.RowKit
set_option maxRecDepth 100000 in
set_option maxHeartbeats 400000 in
theorem open_any (n : Nat) (w : World) (h1 : n < 2 ^ 64) :
    Calls Tryz.prog 196 #[.int .u64 n] w fun e w' => e = .returned (.int .i64 (unzig n)) ∧ w' = w := by
  have H1 := Lib.hid h1; clear h1
  go_enter Tryz.func196, Tryz.ntmps196
  go_wp2_with fail
  go_ret
  exact ⟨by rw [← open_bits n H1.out]; rfl, rfl⟩
end Go.Proofs.YtbceapeoknngnaaGreatDoor
set_option linter.unusedVariables false
namespace Go.Proofs.YtbceapeoknngnaaGreatDoor
open Go.RowKit
theorem ret_u64 {a b : Int} (h : a = b) : Ending.returned (.int .u64 a) = Ending.returned (.int .u64 b) := by rw [h]
set_option maxRecDepth 100000 in
set_option maxHeartbeats 800000 in
theorem back_c (k : Int) (n : Nat) (w : World) (hn : n < 18446744073709551616) :
    Calls Tryz.prog 182 #[.int .i64 k, .int .u64 n] w fun e w' => e = .returned (.int .u64 (backC k n : Int)) ∧ w' = w := by
  by_cases h2 : k = 2
  · subst h2
    have e : backC 2 n = usg (unzig n) := if_pos rfl
    rw [e]
    have Ho := Lib.hid (open_any n w hn)
    go_enter Tryz.func182, Tryz.ntmps182
    go_wp2_with (go_at_call 196; go_must (refine Ho.out.mono ?_; rintro e w1 ⟨rfl, rfl⟩))
    all_goals
      go_ret
      refine ⟨ret_u64 ?_, rfl⟩
      rw [IntKind.wrap_u64]
      unfold usg unzig
      split <;> split <;> omega
  by_cases h4 : k = 4
  · subst h4
    have e : backC 4 n = min n 1 := by unfold backC; rw [if_neg (by decide), if_pos rfl]
    rw [e]
    go_enter Tryz.func182, Tryz.ntmps182
    go_wp2_with fail
    all_goals
      go_ret
      refine ⟨ret_u64 ?_, rfl⟩
      omega
  by_cases h5 : k = 5
  · subst h5
    have e : backC 5 n = (if n % 4294967296 < 2147483648 then n % 4294967296 else n % 4294967296 + 18446744069414584320) := by unfold backC; rw [if_neg (by decide), if_neg (by decide), if_pos rfl]
    rw [e]
    go_enter Tryz.func182, Tryz.ntmps182
    go_wp2_with fail
    all_goals
      go_ret
      refine ⟨ret_u64 ?_, rfl⟩
      rw [IntKind.wrap_u64]
      unfold wrap64 wrap32
      omega
  have b2 : (k == 2) = false := by simpa using h2
  have b4 : (k == 4) = false := by simpa using h4
  have b5 : (k == 5) = false := by simpa using h5
  have e : backC k n = n := by unfold backC; rw [if_neg h2, if_neg h4, if_neg h5]
  rw [e]
  clear h2 h4 h5
  go_enter Tryz.func182, Tryz.ntmps182
  go_wp2_with fail
  go_ret
  exact ⟨rfl, rfl⟩
end Go.Proofs.YtbceapeoknngnaaGreatDoor
namespace Go.Proofs.YtbceapeoknngnaaGreatDoor
open Go.RowKit
set_option maxRecDepth 100000 in
set_option maxHeartbeats 400000 in
theorem get_any (v : Value) (l : List UInt8) (w : World) (hv : RdB All w v l) :
    Calls Tryz.prog 105 #[v] w fun e w' => e = .returned (.tuple #[.int .u64 ((get l).1 : Int), .int .i64 ((get l).2.1 : Int), .int .i64 (get l).2.2]) ∧ w' = w := by
  obtain ⟨ao, cap, rfl, hc1, hc2⟩ := hv.val
  go_enter Tryz.func105, Tryz.ntmps105
  go_wp2_with fail
  go_loop [5, 10] (fun n i => ∃ k a : Nat, k ≤ l.length ∧ k ≤ 9 ∧ i = .int .i64 k ∧ n = .int .u64 a ∧ a < 2 ^ (7 * k) ∧ getF k a (l.drop k) = get l) (fun _ i => l.length - (intOf i).toNat)
  case atStart => exact ⟨0, 0, by omega, by omega, rfl, rfl, by simp, rfl⟩
  case round =>
    obtain ⟨k, a, hk, hk9, rfl, rfl, ha, hg⟩ := hrel
    by_cases hlt : k < l.length
    · obtain ⟨b, o, rfl, hcell⟩ := hv.cell hlt
      have hd : l.drop k = l[k] :: l.drop (k + 1) := List.drop_eq_getElem_cons hlt
      have hc256 : l[k].toNat < 256 := UInt8.toNat_lt _
      generalize l[k] = c at *
      rw [hd, getF] at hg
      by_cases h9 : k = 9 ∧ 1 < c.toNat
      · obtain ⟨rfl, h1⟩ := h9
        have Hg : Hid ((0, 0, 3) = get l) := by rw [← hg, if_pos ⟨rfl, h1⟩]; exact Lib.hid rfl
        clear hg hd ha
        go_wp2_with fail
        go_ret3
        rw [← Hg.out]
        exact ⟨rfl, rfl⟩
      · have hb := get_bits a k c.toNat ha hc256 hk9 (by omega)
        have hs := get_step a k c.toNat ha
        rw [if_neg h9] at hg
        have Hb := Lib.hid hb; clear hb
        have Hs := Lib.hid hs; clear hs
        have Hg := Lib.hid hg; clear hg
        have h91 : k = 9 → c.toNat ≤ 1 := by omega
        clear ha h9 hd
        by_cases h9 : k = 9
        · have h1 := h91 h9
          clear h91
          subst h9
          go_wp2_with fail
          go_ret3
          have hg := Hg.out
          rw [if_pos (by omega)] at hg
          have hb := Hb.out
          rw [← hg]
          simp only [Nat.reduceMul, Int.reducePow] at hb
          rw [hb]
          refine ⟨?_, rfl⟩
          rw [Nat.mod_eq_of_lt (by omega)]
          rfl
        · clear h91
          have h9b : ((k : Int) == 9) = false := by rw [beq_eq_false_iff_ne]; omega
          by_cases h128 : c.toNat < 128
          · go_wp2_with fail
            go_ret3
            have hg := Hg.out
            rw [if_pos h128] at hg
            rw [← hg, Hb.out]
            refine ⟨?_, rfl⟩
            rw [Nat.mod_eq_of_lt h128]
            rfl
          · go_wp2_with fail
            go_round
            case rel =>
              have hg := Hg.out
              rw [if_neg h128] at hg
              exact ⟨k + 1, _, by omega, by omega, by go_num, by rw [Hb.out], Hs.out, hg⟩
            case measure => simp [intOf]; omega
    · rw [List.drop_eq_nil_of_le (by omega), getF] at hg
      have Hg := Lib.hid hg; clear hg ha
      go_wp2_with fail
      go_ret3
      rw [← Hg.out]
      exact ⟨rfl, rfl⟩
theorem get_eq (v : Value) (l : List UInt8) (w : World) (x m : Nat) (e0 : Int) (h : get l = (x, m, e0)) (hv : RdB All w v l) :
    Calls Tryz.prog 105 #[v] w fun e w' => e = .returned (.tuple #[.int .u64 (x : Int), .int .i64 (m : Int), .int .i64 e0]) ∧ w' = w := by
  have := get_any v l w hv
  rw [h] at this
  exact this
end Go.Proofs.YtbceapeoknngnaaGreatDoor
