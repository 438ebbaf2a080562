/-
  link.typed.
  How many choices begin: one field more.
-/
import Derived.Test.YtplgegffapikoabDoorLr33
import Derived.Test.YtplgegffapikoabDoorLr21
import Derived.Test.YtplgegffapikoabDoorLr09
import Derived.Outline
import Derived.Deep.DeepMust
import Derived.BigQuiet
import Derived.Deep.QuietTactic
import Derived.Deep.RegionHeld3
set_option linter.unusedVariables false
namespace Go.Proofs.YtplgegffapikoabDoor
open Go.RowKit

set_option maxRecDepth 100000 in
set_option maxHeartbeats 1600000 in
theorem typed_l (f : Fil) (x : Fld) (bf b o : Nat) (vm ve : Value) (w : World) (hf : FilV All w (.agg #[vm, ve]) f) (h0 : w.cell? ⟨bf, 0, none⟩ = some vm) (h1 : w.cell? ⟨bf, 1, none⟩ = some ve)
    (c2 : w.cell? ⟨b, o + 2, none⟩ = some (.int .i64 x.kind)) (c3 : w.cell? ⟨b, o + 3, none⟩ = some (.string ⟨x.type.toArray⟩)) (c4 : w.cell? ⟨b, o + 4, none⟩ = some (.bool x.many)) (c5 : w.cell? ⟨b, o + 5, none⟩ = some (.int .i64 x.choice)) :
    Calls Tryd.prog 86 #[.pointer (some ⟨bf, 0, none⟩), .pointer (some ⟨b, o, none⟩)] w fun e w' => e = .returned (.int .i64 (typedN f x)) ∧ Up w w' := by
  have Hf := Lib.hid hf; clear hf
  have hk : x.kind < 1 ∨ (1 ≤ x.kind ∧ 10 < x.kind) ∨ x.kind = 10 ∨ x.kind = 5 ∨ (1 ≤ x.kind ∧ x.kind ≤ 10 ∧ x.kind ≠ 10 ∧ x.kind ≠ 5) := by omega
  rcases hk with h | ⟨h, h'⟩ | h | h | ⟨k1, k2, k3, k4⟩
  case inl =>
    go_enter Tryd.func86, Tryd.ntmps86
    go_wp2_with fail
    go_ret
    exact ⟨ret_int (by rw [typedN, if_pos (by omega)]), Up.refl _⟩
  case inr.inl =>
    go_enter Tryd.func86, Tryd.ntmps86
    go_wp2_with fail
    go_ret
    exact ⟨ret_int (by rw [typedN, if_pos (by omega)]), Up.refl _⟩
  case inr.inr.inl =>
    have hfm := fun w1 (hu : Up w w1) => find_msg_l _ f x.type w1 (Hf.out.up hu)
    have Hfm := Lib.hid hfm; clear hfm
    have hty : typedN f x = if idxP (fun m => m.name == x.type) f.msgs < 0 then 6 else if 0 < x.choice ∧ x.many = true then 8 else 0 := by
      unfold typedN
      rw [h]
      simp
    have Hty := Lib.hid hty; clear hty
    generalize idxP (fun m => m.name == x.type) f.msgs = i at *
    rw [h] at c2
    go_enter Tryd.func86, Tryd.ntmps86
    go_wp2_with fail
    go_region_held3 (fun w' => w'.cell? ⟨b, o + 2, none⟩ = some (.int .i64 10) ∧ w'.cell? ⟨b, o + 3, none⟩ = some (.string ⟨x.type.toArray⟩) ∧ w'.cell? ⟨bf, 0, none⟩ = some vm ∧ w'.cell? ⟨bf, 1, none⟩ = some ve) (first | go_keep | exact ⟨c2, c3, h0, h1⟩ | exact ⟨hx2.cell_some c2, hx2.cell_some c3, hx2.cell_some h0, hx2.cell_some h1⟩)
      (first | (go_at_call 24; refine (Hfm.out _ (Up.drew (Up.refl _))).mono ?_; rintro e w2 ⟨rfl, hu2⟩; have hx2 := (Up.drew (Up.refl _)).trans hu2))
    have d2 := hx2.cell_some c2
    have d4 := hx2.cell_some c4
    have d5 := hx2.cell_some c5
    by_cases hi : i < 0
    · go_wp2_with fail
      go_ret
      exact ⟨ret_int (by rw [Hty.out, if_pos hi]), hx2⟩
    · have hi' : 0 ≤ i := by omega
      clear hi
      go_wp2_with fail
      go_quiet (fail)
      have hch : x.choice ≤ 0 ∨ 0 < x.choice := by omega
      rcases hch with hch | hch
      · go_wp2_with fail
        go_ret
        exact ⟨ret_int (by rw [Hty.out, if_neg (Int.not_lt.2 hi'), if_neg (by omega)]), hx2.drewN _⟩
      · cases hm : x.many
        all_goals
          rw [hm] at d4
          go_wp2_with fail
          go_ret
        · exact ⟨ret_int (by rw [Hty.out, if_neg (Int.not_lt.2 hi'), if_neg (by simp [hm])]), hx2.drewN _⟩
        · exact ⟨ret_int (by rw [Hty.out, if_neg (Int.not_lt.2 hi'), if_pos ⟨hch, hm⟩]), hx2.drewN _⟩
  case inr.inr.inr.inl =>
    have hfm := fun w1 (hu : Up w w1) => find_enu_l _ f x.type w1 (Hf.out.up hu)
    have Hfm := Lib.hid hfm; clear hfm
    have hty : typedN f x = if idxP (fun m => m.name == x.type) f.enums < 0 then 6 else if 0 < x.choice ∧ x.many = true then 8 else 0 := by
      unfold typedN
      rw [h]
      simp
    have Hty := Lib.hid hty; clear hty
    generalize idxP (fun m => m.name == x.type) f.enums = i at *
    rw [h] at c2
    go_enter Tryd.func86, Tryd.ntmps86
    go_wp2_with fail
    go_quiet (fail)
    go_wp2_with fail
    go_region_held3 (fun w' => w'.cell? ⟨b, o + 2, none⟩ = some (.int .i64 5) ∧ w'.cell? ⟨b, o + 3, none⟩ = some (.string ⟨x.type.toArray⟩) ∧ w'.cell? ⟨bf, 0, none⟩ = some vm ∧ w'.cell? ⟨bf, 1, none⟩ = some ve) (first | go_keep | exact ⟨c2, c3, h0, h1⟩ | exact ⟨hx2.cell_some c2, hx2.cell_some c3, hx2.cell_some h0, hx2.cell_some h1⟩)
      (first | (go_at_call 25; refine (Hfm.out _ (Up.drew ((Up.refl _).drewN _))).mono ?_; rintro e w2 ⟨rfl, hu2⟩; have hx2 := (Up.drew ((Up.refl _).drewN _)).trans hu2))
    have d2 := hx2.cell_some c2
    have d4 := hx2.cell_some c4
    have d5 := hx2.cell_some c5
    by_cases hi : i < 0
    · go_wp2_with fail
      go_ret
      exact ⟨ret_int (by rw [Hty.out, if_pos hi]), hx2⟩
    · have hi' : 0 ≤ i := by omega
      clear hi
      have hch : x.choice ≤ 0 ∨ 0 < x.choice := by omega
      rcases hch with hch | hch
      · go_wp2_with fail
        go_ret
        exact ⟨ret_int (by rw [Hty.out, if_neg (Int.not_lt.2 hi'), if_neg (by omega)]), hx2⟩
      · cases hm : x.many
        all_goals
          rw [hm] at d4
          go_wp2_with fail
          go_ret
        · exact ⟨ret_int (by rw [Hty.out, if_neg (Int.not_lt.2 hi'), if_neg (by simp [hm])]), hx2⟩
        · exact ⟨ret_int (by rw [Hty.out, if_neg (Int.not_lt.2 hi'), if_pos ⟨hch, hm⟩]), hx2⟩
  case inr.inr.inr.inr =>
    have e10 : (x.kind == 10) = false := by rw [beq_eq_false_iff_ne]; exact k3
    have e5 : (x.kind == 5) = false := by rw [beq_eq_false_iff_ne]; exact k4
    have n10 : (x.kind != 10) = true := by rw [bne_iff_ne]; exact k3
    have n5 : (x.kind != 5) = true := by rw [bne_iff_ne]; exact k4
    have hty : typedN f x = if x.type ≠ [] then 8 else if 0 < x.choice ∧ x.many = true then 8 else 0 := by
      unfold typedN
      rw [if_neg (by omega), if_neg (by omega)]
      by_cases ht : x.type = []
      · simp [ht]
      · rw [if_pos (.inl ⟨k3, k4, ht⟩), if_pos ht]
    have Hty := Lib.hid hty; clear hty
    have K3 := Lib.hid k3; have K4 := Lib.hid k4; clear k3 k4
    go_enter Tryd.func86, Tryd.ntmps86
    go_wp2_with fail
    go_quiet (fail)
    go_wp2_with fail
    go_quiet (fail)
    by_cases ht : x.type = []
    · rw [ht] at c3
      have d4 := c4
      have Ht := Lib.hid ht; clear ht
      have hch : x.choice ≤ 0 ∨ 0 < x.choice := by omega
      rcases hch with hch | hch
      · go_wp2_with fail
        go_ret
        exact ⟨ret_int (by rw [Hty.out, if_neg (not_not_intro Ht.out), if_neg (by omega)]), (Up.refl w).drewN _⟩
      · cases hm : x.many
        all_goals
          rw [hm] at c4 d4
          go_wp2_with fail
          go_ret
        · exact ⟨ret_int (by rw [Hty.out, if_neg (not_not_intro Ht.out), if_neg (by simp [hm])]), (Up.refl w).drewN _⟩
        · exact ⟨ret_int (by rw [Hty.out, if_neg (not_not_intro Ht.out), if_pos ⟨hch, hm⟩]), (Up.refl w).drewN _⟩
    · have hte : x.type.isEmpty = false := by simpa using ht
      have Ht := Lib.hid ht; clear ht
      go_wp2_with fail
      go_ret
      exact ⟨ret_int (by rw [Hty.out, if_pos Ht.out]), (Up.refl w).drewN _⟩
end Go.Proofs.YtplgegffapikoabDoor
set_option linter.unusedVariables false
namespace Go.Proofs.YtplgegffapikoabDoor
open Go.RowKit
def lastD : Int → List Fld → Int
  | last, [] => last
  | _, y :: l => lastD y.choice l
theorem begun_snoc : ∀ (l : List Fld) (last : Int) (y : Fld), begun last (l ++ [y]) = begun last l + (if y.choice ≠ 0 ∧ y.choice ≠ lastD last l then 1 else 0)
  | [], last, y => by
    simp only [List.nil_append, begun, lastD]
    omega
  | z :: l, last, y => by
    have ih := begun_snoc l z.choice y
    simp only [List.cons_append, begun, lastD]
    rw [ih]
    omega
theorem lastD_eq : ∀ (l : List Fld) (last : Int), lastD last l = match l.getLast? with | some z => z.choice | none => last
  | [], last => rfl
  | [z], last => rfl
  | z :: y :: l, last => by
    have ih := lastD_eq (y :: l) z.choice
    rw [lastD, ih, List.getLast?_cons_cons]
    cases h : (y :: l).getLast? with
    | none => simp at h
    | some u => rfl
theorem begun_take {l : List Fld} {k : Nat} (hk : k < l.length) : begun 0 (l.take (k + 1)) = begun 0 (l.take k) + (if l[k].choice ≠ 0 ∧ l[k].choice ≠ lastC (l.take k) then 1 else 0) := by
  rw [List.take_succ_eq_append_getElem hk, begun_snoc, lastD_eq]
  rfl
theorem begun_bd : ∀ (l : List Fld) (last : Int), 0 ≤ begun last l ∧ begun last l ≤ l.length
  | [], _ => by simp [begun]
  | z :: l, last => by
    have ih := begun_bd l z.choice
    simp only [begun, List.length_cons]
    split <;> omega
theorem lastC_take {l : List Fld} {k : Nat} (h0 : 0 < k) (hk : k ≤ l.length) : lastC (l.take k) = (l[k - 1]'(by omega)).choice := by
  unfold lastC
  rw [List.getLast?_eq_getElem?, List.length_take, Nat.min_eq_left hk, List.getElem?_take_of_lt (by omega), List.getElem?_eq_getElem (by omega)]
end Go.Proofs.YtplgegffapikoabDoor
