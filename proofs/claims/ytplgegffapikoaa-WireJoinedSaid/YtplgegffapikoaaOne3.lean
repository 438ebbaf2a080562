/-
  Package wire: one.
-/
import Derived.Test.YtplgegffapikoaaProg
import Derived.Test.YtplgegffapikoaaBase
import Derived.Test.YtplgegffapikoaaPlainWire
import Derived.Test.YtplgegffapikoaaGet
import Derived.Test.YtplgegffapikoaaOne
import Derived.Test.YtplgegffapikoaaOne2
import Derived.Outline
import Derived.Deep.DeepMust
set_option linter.unusedVariables false
set_option linter.unusedSimpArgs false
namespace Go.Proofs.Ytplgegffapikoaa
open Go.RowKit

set_option maxRecDepth 100000 in
set_option maxHeartbeats 1600000 in
theorem one_sized (l : List UInt8) (w : World) (ao : Option Addr) (cap tag at_ : Nat) (hl : l.length ≤ 1099511627776) (hv : RdB All w (.slice ao l.length cap) l) (hc1 : l.length ≤ cap) (hc2 : cap ≤ 9223372036854775807)
    (Hg : Hid (Calls Try.prog 12 #[.slice ao l.length cap] (w.alloc box0) fun e w' => e = .returned (.tuple #[.int .u64 (tag : Int), .int .i64 (at_ : Int), .int .i64 0]) ∧ w' = w.alloc box0)) (Htag : Hid (tag < 2 ^ 64)) (k1 : 0 < at_) (k2 : at_ ≤ l.length) (hn1 : 1 ≤ tag / 8) (hn2 : tag / 8 < 536870912) (h : tag % 8 = 2) (x m : Nat) (e0 : Int) (hgx : get (l.drop at_) = (x, m, e0)) (hm : e0 = 0 → 0 < m ∧ m ≤ l.length - at_) (Hx : Hid (x < 2 ^ 64)) (Hone : Hid (oneP l = if e0 ≠ 0 then (e0, rec0, 0) else if (l.drop at_).length - m < x then (2, rec0, 0) else (0, ⟨((tag / 8 : Nat) : Int), 2, 0, ((l.drop at_).drop m).take x⟩, at_ + m + x))) :
    Calls Try.prog 38 #[.slice ao l.length cap] w (OneP l w) := by
  have hv2 : RdB All w (.slice (if cap = at_ then ao else ao.map (·.add at_)) (l.length - at_) (cap - at_)) (l.drop at_) := RdB.drop hv at_ k2 (fun h => by rw [if_neg h]) rfl rfl
  have Hv2 := Lib.hid hv2; clear hv2
  have Hv := Lib.hid hv; clear hv
  have hb : bits .and .u64 (tag : Int) 7 = 2 := by rw [bits_and7]; omega
  have Hgx := Lib.hid hgx; clear hgx
  by_cases he : e0 = 0
  · subst he
    obtain ⟨hm0, hm⟩ := hm rfl
    by_cases hx : l.length - at_ - m < x
    · have hone := Hone.out
      rw [if_neg (by simp), if_pos (by rw [List.length_drop]; exact hx)] at hone
      have Hone := Lib.hid hone; clear hone
      go_enter Try.func38, Try.ntmps38
      go_wp2_with fail
      refine Hg.out.mono ?_
      rintro e w1 ⟨rfl, rfl⟩
      go_wp2_with (go_at_call 12; refine (get_eq _ (l.drop at_) _ x m _ Hgx.out (RdB.drop (Hv.out.up stable_u8 (by repeat (first | exact Up.refl _ | assumption | apply Up.alloc | refine Up.setCell ?_ (by simp) _))) at_ k2 (fun h => by first | rfl | (rw [if_neg h])) (by first | rfl | omega) (by first | rfl | omega))).mono ?_; rintro e w2 ⟨rfl, rfl⟩)
      all_goals
        refine bodyPost_ret (v := .tuple #[.agg #[.int .i64 0, .int .i64 0, .int .u64 0, .slice none 0 0], .int .i64 0, .int .i64 2]) (by simp [results, Try.results38, go_sem]) rfl ?_
        exact OneP.bad Hone.out (by repeat (first | exact Up.refl _ | assumption | apply Up.alloc | refine Up.setCell ?_ (by simp) _))
    · have hone := Hone.out
      rw [if_neg (by simp), if_neg (by rw [List.length_drop]; exact hx)] at hone
      have Hone := Lib.hid hone; clear hone
      have hv3 : RdB All w (.slice (if cap = at_ + m then ao else ao.map (·.add (at_ + m))) x (cap - (at_ + m))) ((((l.drop at_).drop m)).take x) := by
        rw [List.drop_drop]
        exact RdB.take (RdB.drop Hv.out (at_ + m) (by omega) (fun h => by rw [if_neg h]) rfl rfl) x (by omega)
      have htl : (((l.drop at_).drop m).take x).length = x := by simp; omega
      generalize htk : ((l.drop at_).drop m).take x = tk at *
      have Htk := Lib.hid htk; clear htk
      have Hv3 := Lib.hid hv3; clear hv3
      have Htl := Lib.hid htl; clear htl
      go_enter Try.func38, Try.ntmps38
      go_wp2_with fail
      refine Hg.out.mono ?_
      rintro e w1 ⟨rfl, rfl⟩
      go_wp2_with (first | (go_at_call 12; refine (get_eq _ (l.drop at_) _ x m _ Hgx.out (RdB.drop (Hv.out.up stable_u8 (by repeat (first | exact Up.refl _ | assumption | apply Up.alloc | refine Up.setCell ?_ (by simp) _))) at_ k2 (fun h => by first | rfl | (rw [if_neg h])) (by first | rfl | omega) (by first | rfl | omega))).mono ?_; rintro e w2 ⟨rfl, rfl⟩) | (go_at_call 66; go_must (refine (clone8_any _ _ _ (RdB.take (RdB.drop (Hv.out.up stable_u8 (by repeat (first | exact Up.refl _ | assumption | apply Up.alloc | refine Up.setCell ?_ (by simp) _))) (at_ + m) (by omega) (fun h => by first | rfl | (rw [if_neg h])) rfl (by first | rfl | omega)) x (by omega)) (by simp; omega)).mono ?_; rintro e w3 ⟨vb, rfl, how3, hu3⟩; rw [← List.drop_drop, Htk.out] at how3; have Hhow3 := Lib.hid how3; clear how3; obtain ⟨a3, c3, rfl, _, _⟩ := (rdB_of_owns (S := All) Hhow3.out (fun _ _ => trivial)).val; have hz : w.heap.size + 1 < w3.heap.size := (by have h9 := hu3.size; simp at h9; omega); have hk0 : w3.heap[w.heap.size]? = some box0 := hu3.blk ((Below.heap_alloc _ _ _ (by simp)).trans (heap_alloc_new w _)); have hk1 : w3.heap[w.heap.size + 1]? = some (.cells #[.int .i64 ((tag : Int) / 8), .int .i64 2, .int .u64 0, .slice none 0 0] 78) := hu3.blk (by have h9 := heap_alloc_new (w.alloc box0) (.cells #[.int .i64 ((tag : Int) / 8), .int .i64 2, .int .u64 0, .slice none 0 0] 78); simpa using h9); have q00 : w3.cell? ⟨w.heap.size, 0, none⟩ = some (.int .i64 0) := cell_of_row w3 _ 0 _ _ _ hk0; have q01 : w3.cell? ⟨w.heap.size, 1, none⟩ = some (.int .i64 0) := cell_of_row w3 _ 1 _ _ _ hk0; have q02 : w3.cell? ⟨w.heap.size, 2, none⟩ = some (.int .u64 0) := cell_of_row w3 _ 2 _ _ _ hk0; have q03 : w3.cell? ⟨w.heap.size, 3, none⟩ = some (.slice none 0 0) := cell_of_row w3 _ 3 _ _ _ hk0; have q10 : w3.cell? ⟨w.heap.size + 1, 0, none⟩ = some (.int .i64 ((tag : Int) / 8)) := cell_of_row w3 _ 0 _ _ _ hk1; have q11 : w3.cell? ⟨w.heap.size + 1, 1, none⟩ = some (.int .i64 2) := cell_of_row w3 _ 1 _ _ _ hk1; have q12 : w3.cell? ⟨w.heap.size + 1, 2, none⟩ = some (.int .u64 0) := cell_of_row w3 _ 2 _ _ _ hk1; have q13 : w3.cell? ⟨w.heap.size + 1, 3, none⟩ = some (.slice none 0 0) := cell_of_row w3 _ 3 _ _ _ hk1; have f0 : ∀ o, w3.frozen? ⟨w.heap.size, o, none⟩ = false := (fun o => frozen_of_row w3 _ o _ _ hk0); have f1 : ∀ o, w3.frozen? ⟨w.heap.size + 1, o, none⟩ = false := (fun o => frozen_of_row w3 _ o _ _ hk1); clear hk0 hk1)))
      all_goals
        refine bodyPost_ret (v := .tuple #[.agg #[.int .i64 ((tag : Int) / 8), .int .i64 2, .int .u64 0, .slice a3 tk.length c3], .int .i64 ((at_ : Int) + ((m : Int) + (x : Int))), .int .i64 0]) (by simp [results, Try.results38, go_sem, q00, q01, q02, q03, q10, q11, q12, q13]) rfl ?_
        have hr3 : RdB (fun k => w.heap.size + 2 ≤ k) w3 (.slice a3 tk.length c3) tk := rdB_of_owns Hhow3.out (fun k hk => by have h9 := (Hhow3.out.lt k hk).1; simp at h9; omega)
        unfold OneP
        rw [Hone.out]
        refine ⟨_, by simp [Int.add_assoc], hr3.keep stable_u8 ?_, ?_⟩
        · refine Keep.trans (S' := fun k => w.heap.size + 2 ≤ k) ?_ (Keep.weak (fun k hk => by omega))
          with_reducible refine Keep.trans ?_ (Keep.setCell ?_ _)
          with_reducible refine Keep.trans ?_ (Keep.setCell ?_ _)
          with_reducible refine Keep.trans ?_ (Keep.setCell ?_ _)
          with_reducible refine Keep.trans ?_ (Keep.setCell ?_ _)
          with_reducible refine Keep.setCell ?_ _
          all_goals (show ¬ (w.heap.size + 2 ≤ _); simp)
        · repeat (with_reducible refine Up.setCell ?_ ?_ _)
          · exact (Up.alloc (Up.alloc (Up.refl w) _) _).trans hu3
          all_goals simp
  · have he2 : (e0 == 0) = false := by rw [beq_eq_false_iff_ne]; exact he
    have he3 : (e0 != 0) = true := by rw [bne_iff_ne]; exact he
    go_enter Try.func38, Try.ntmps38
    go_wp2_with fail
    refine Hg.out.mono ?_
    rintro e w1 ⟨rfl, rfl⟩
    go_wp2_with (go_at_call 12; refine (get_eq _ (l.drop at_) _ x m _ Hgx.out (RdB.drop (Hv.out.up stable_u8 (by repeat (first | exact Up.refl _ | assumption | apply Up.alloc | refine Up.setCell ?_ (by simp) _))) at_ k2 (fun h => by first | rfl | (rw [if_neg h])) (by first | rfl | omega) (by first | rfl | omega))).mono ?_; rintro e w2 ⟨rfl, rfl⟩)
    all_goals
      refine bodyPost_ret (v := .tuple #[.agg #[.int .i64 0, .int .i64 0, .int .u64 0, .slice none 0 0], .int .i64 0, .int .i64 e0]) (by simp [results, Try.results38, go_sem]) rfl ?_
      have hone := Hone.out
      rw [if_pos he] at hone
      exact OneP.bad hone (by repeat (first | exact Up.refl _ | assumption | apply Up.alloc | refine Up.setCell ?_ (by simp) _))
end Go.Proofs.Ytplgegffapikoaa
