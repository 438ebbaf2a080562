/-
  codec.How, body.Field.
-/
import Derived.Test.YtplgegffapikoaaProg
import Derived.Test.YtplgegffapikoaaPressSpec
import Derived.Test.YtplgegffapikoaaIdxF
import Derived.Outline
import Derived.Deep.DeepMust
set_option linter.unusedVariables false
namespace Go.Proofs.Ytplgegffapikoaa
open Go.RowKit
set_option maxRecDepth 100000 in
set_option maxHeartbeats 800000 in
theorem how_any (k : Int) (w : World) :
    Calls Try.prog 35 #[.int .i64 k] w fun e w' => e = .returned (.int .i64 (howN k)) ∧ w' = w := by
  obtain ⟨h, hh⟩ : ∃ h, howN k = h := ⟨_, rfl⟩
  rw [hh]
  unfold howN at hh
  by_cases h6 : k = 6
  · subst h6
    subst hh
    go_enter Try.func35, Try.ntmps35
    go_wp2_with fail
    go_ret
    exact ⟨rfl, rfl⟩
  by_cases h7 : k = 7
  · subst h7
    subst hh
    go_enter Try.func35, Try.ntmps35
    go_wp2_with fail
    go_ret
    exact ⟨rfl, rfl⟩
  by_cases h8 : k = 8
  · subst h8
    subst hh
    go_enter Try.func35, Try.ntmps35
    go_wp2_with fail
    go_ret
    exact ⟨rfl, rfl⟩
  by_cases h9 : k = 9
  · subst h9
    subst hh
    go_enter Try.func35, Try.ntmps35
    go_wp2_with fail
    go_ret
    exact ⟨rfl, rfl⟩
  by_cases h10 : k = 10
  · subst h10
    subst hh
    go_enter Try.func35, Try.ntmps35
    go_wp2_with fail
    go_ret
    exact ⟨rfl, rfl⟩
  rw [if_neg h6, if_neg h7, if_neg (by simp [h8, h9, h10])] at hh
  subst hh
  have b6 : (k == 6) = false := by simpa using h6
  have b7 : (k == 7) = false := by simpa using h7
  have b8 : (k == 8) = false := by simpa using h8
  have b9 : (k == 9) = false := by simpa using h9
  have b10 : (k == 10) = false := by simpa using h10
  clear h6 h7 h8 h9 h10
  go_enter Try.func35, Try.ntmps35
  go_wp2_with fail
  go_ret
  exact ⟨rfl, rfl⟩
set_option maxRecDepth 100000 in
set_option maxHeartbeats 800000 in
theorem field_p (n : Int) (b : Nat) (x : Fld) (cs : List Value) (w : World) (hb : b < w.heap.size) (hc : w.cell? ⟨b, 0, none⟩ = some (.int .i64 n)) (hd : DFld All w x cs) :
    Calls Try.prog 105 (#[.agg cs.toArray] ++ #[.pointer (some ⟨b, 0, none⟩)]) w fun e w' => e = .returned (.bool (x.number == n)) ∧ Up w w' := by
  obtain ⟨hd, _⟩ := hd
  subst hd
  show Calls Try.prog 105 #[.agg #[.string ⟨x.name.toArray⟩, .int .i64 x.number, .int .i64 x.kind, .string ⟨x.type.toArray⟩, .bool x.many, .int .i64 x.choice], .pointer (some ⟨b, 0, none⟩)] w _
  have hne : b ≠ w.heap.size := by omega
  go_enter Try.func105, Try.ntmps105
  go_wp2_with fail
  go_ret
  exact ⟨ret_bool (by simp), (Up.refl w).alloc _⟩
set_option maxRecDepth 100000 in
set_option maxHeartbeats 800000 in
theorem field_any (s : Value) (vf vb : Value) (l : List Fld) (n : Int) (w : World) (hs : ∃ b, s = .string b) (hvb : ∃ a l c, vb = .slice a l c) (hv : RdS DFld 6 All w vf l) :
    Calls Try.prog 85 #[.agg #[s, vf, vb], .int .i64 n] w fun e w' => e = .returned (.int .i64 (idxP (fun x => x.number == n) l)) ∧ Up w w' := by
  obtain ⟨b, rfl⟩ := hs
  obtain ⟨x1, x2, x3, rfl⟩ := hvb
  obtain ⟨ao, cap, rfl, hc1, hc2⟩ := hv.val
  have Hv := Lib.hid hv; clear hv
  go_enter Try.func85, Try.ntmps85
  go_wp2_with fail
  have hu : Up w ((w.alloc (.cells #[.string b, .slice ao l.length cap, .slice x1 x2 x3] 70)).alloc (.cells #[.int .i64 n] 3)) := ((Up.refl w).alloc _).alloc _
  have hc : ((w.alloc (.cells #[.string b, .slice ao l.length cap, .slice x1 x2 x3] 70)).alloc (.cells #[.int .i64 n] 3)).cell? ⟨w.heap.size + 1, 0, none⟩ = some (.int .i64 n) :=
    cell_of_row _ _ 0 _ _ _ (blk_new (w.alloc (.cells #[.string b, .slice ao l.length cap, .slice x1 x2 x3] 70)) (.cells #[.int .i64 n] 3) (g := w.heap.size + 1) (by simp))
  have hz : w.heap.size + 1 < ((w.alloc (.cells #[.string b, .slice ao l.length cap, .slice x1 x2 x3] 70)).alloc (.cells #[.int .i64 n] 3)).heap.size := by simp
  generalize (w.alloc (.cells #[.string b, .slice ao l.length cap, .slice x1 x2 x3] 70)).alloc (.cells #[.int .i64 n] 3) = w1 at *
  refine (indexF_fld _ _ (fun x => x.number == n) 105 (enters_of Try.func105 (by kernel_rfl) rfl) #[.pointer (some ⟨w.heap.size + 1, 0, none⟩)] w1 (Hv.out.up stable_fld hu) (fun x cs wr _ hwr hd => field_p n _ x cs wr (Nat.lt_of_lt_of_le hz hwr.size) (hwr.cell_some hc) hd)).mono ?_
  rintro e w2 ⟨rfl, hu2⟩
  go_wp2_with fail
  go_ret
  exact ⟨rfl, hu.trans hu2⟩
end Go.Proofs.Ytplgegffapikoaa
