/-
  slices.Index, slices.Contains (written by gen_idx.py).
-/
import Derived.Test.YtplgegffapikoabDoorProg
import Derived.Test.YtplgegffapikoabDoorFile
import Derived.Outline
import Derived.Deep.DeepMust
import Derived.Deep.QuietTactic
import Derived.BigQuiet
set_option linter.unusedVariables false
namespace Go.Proofs.YtplgegffapikoabDoor
open Go.RowKit

set_option maxRecDepth 100000 in
set_option maxHeartbeats 800000 in
theorem index_str (v : Value) (l : List (List UInt8)) (s : List UInt8) (w : World) (hv : RdS DStr 1 All w v l) :
    Calls Tryd.prog 79 #[v, .string ⟨s.toArray⟩] w fun e w' => e = .returned (.int .i64 (idxP (fun x => s == x) l)) ∧ w' = w := by
  obtain ⟨ao, cap, rfl, hc1, hc2⟩ := hv.val
  have Hv := Lib.hid hv; clear hv
  go_enter Tryd.func79, Tryd.ntmps79
  go_wp2_with fail
  go_loopw [8] (fun i wr => ∃ k : Nat, k ≤ l.length ∧ i = .int .i64 k ∧ wr = w ∧ ∀ j, (hj : j < l.length) → j < k → (s == l[j]) = false) (fun i _ => l.length - (intOf i).toNat)
  case atStart => exact ⟨0, by omega, rfl, rfl, fun j _ h => absurd h (by omega)⟩
  case round =>
    obtain ⟨k, hk, rfl, rfl, hg⟩ := hrel
    have Hg := Lib.hid hg; clear hg
    by_cases hlt : k < l.length
    · obtain ⟨b, o, cs, rfl, hb, hl, hcs, hd⟩ := Hv.out.at hlt
      obtain ⟨hd, _⟩ := hd
      have hc := hcs 0 _ (by rw [hd]; rfl)
      simp only [Nat.mul_one, Nat.add_zero] at hc
      clear hcs hd hl
      have i0 : (0 : Int) ≤ (k : Int) := by omega
      have i1 : (k : Int) < (l.length : Int) := by omega
      have hgg := fun e => idxP_at (fun x => s == x) l k hlt Hg.out e
      have Hgg := Lib.hid hgg; clear hgg
      have Hgn := Lib.hid (fun e => no_more (p := fun x => s == x) hlt Hg.out e)
      generalize l[k] = x at *
      by_cases he : (s == x) = true
      · go_wp2_with fail
        go_ret
        exact ⟨ret_int (Hgg.out he).symm, rfl⟩
      · have he : (s == x) = false := by simpa using he
        go_wp2_with fail
        go_roundw
        case rel => exact ⟨k + 1, by omega, by go_num, trivial, Hgn.out he⟩
        case measure => simp [intOf]; omega
    · go_wp2_with fail
      go_ret
      exact ⟨ret_int (idxP_none _ _ (fun j hj => Hg.out j hj (by omega))).symm, rfl⟩
set_option maxRecDepth 100000 in
set_option maxHeartbeats 800000 in
theorem contains_str (v : Value) (l : List (List UInt8)) (s : List UInt8) (w : World) (hv : RdS DStr 1 All w v l) :
    Calls Tryd.prog 49 #[v, .string ⟨s.toArray⟩] w fun e w' => e = .returned (.bool (l.any (fun x => s == x))) ∧ w' = w := by
  go_enter Tryd.func49, Tryd.ntmps49
  go_wp2_with fail
  refine (index_str v l s w hv).mono ?_
  rintro e w1 ⟨rfl, rfl⟩
  have hi := idxP_any (fun x => s == x) l
  generalize idxP (fun x => s == x) l = i at *
  go_wp2_with fail
  go_ret
  exact ⟨rfl, rfl⟩

set_option maxRecDepth 100000 in
set_option maxHeartbeats 800000 in
theorem index_int (v : Value) (l : List (Int)) (s : Int) (w : World) (hv : RdS DInt 1 All w v l) :
    Calls Tryd.prog 110 #[v, .int .i64 s] w fun e w' => e = .returned (.int .i64 (idxP (fun x => s == x) l)) ∧ w' = w := by
  obtain ⟨ao, cap, rfl, hc1, hc2⟩ := hv.val
  have Hv := Lib.hid hv; clear hv
  go_enter Tryd.func110, Tryd.ntmps110
  go_wp2_with fail
  go_loopw [8] (fun i wr => ∃ k : Nat, k ≤ l.length ∧ i = .int .i64 k ∧ wr = w ∧ ∀ j, (hj : j < l.length) → j < k → (s == l[j]) = false) (fun i _ => l.length - (intOf i).toNat)
  case atStart => exact ⟨0, by omega, rfl, rfl, fun j _ h => absurd h (by omega)⟩
  case round =>
    obtain ⟨k, hk, rfl, rfl, hg⟩ := hrel
    have Hg := Lib.hid hg; clear hg
    by_cases hlt : k < l.length
    · obtain ⟨b, o, cs, rfl, hb, hl, hcs, hd⟩ := Hv.out.at hlt
      obtain ⟨hd, _⟩ := hd
      have hc := hcs 0 _ (by rw [hd]; rfl)
      simp only [Nat.mul_one, Nat.add_zero] at hc
      clear hcs hd hl
      have i0 : (0 : Int) ≤ (k : Int) := by omega
      have i1 : (k : Int) < (l.length : Int) := by omega
      have hgg := fun e => idxP_at (fun x => s == x) l k hlt Hg.out e
      have Hgg := Lib.hid hgg; clear hgg
      have Hgn := Lib.hid (fun e => no_more (p := fun x => s == x) hlt Hg.out e)
      generalize l[k] = x at *
      by_cases he : (s == x) = true
      · go_wp2_with fail
        go_ret
        exact ⟨ret_int (Hgg.out he).symm, rfl⟩
      · have he : (s == x) = false := by simpa using he
        go_wp2_with fail
        go_roundw
        case rel => exact ⟨k + 1, by omega, by go_num, trivial, Hgn.out he⟩
        case measure => simp [intOf]; omega
    · go_wp2_with fail
      go_ret
      exact ⟨ret_int (idxP_none _ _ (fun j hj => Hg.out j hj (by omega))).symm, rfl⟩
set_option maxRecDepth 100000 in
set_option maxHeartbeats 800000 in
theorem contains_int (v : Value) (l : List (Int)) (s : Int) (w : World) (hv : RdS DInt 1 All w v l) :
    Calls Tryd.prog 84 #[v, .int .i64 s] w fun e w' => e = .returned (.bool (l.any (fun x => s == x))) ∧ w' = w := by
  go_enter Tryd.func84, Tryd.ntmps84
  go_wp2_with fail
  refine (index_int v l s w hv).mono ?_
  rintro e w1 ⟨rfl, rfl⟩
  have hi := idxP_any (fun x => s == x) l
  generalize idxP (fun x => s == x) l = i at *
  go_wp2_with fail
  go_ret
  exact ⟨rfl, rfl⟩
end Go.Proofs.YtplgegffapikoabDoor
