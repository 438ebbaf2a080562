/-
  syntax.kind; the parser's field.
-/
import Derived.Test.YtbceapeoknngnaaDoorSy17
set_option linter.unusedVariables false
namespace Go.Proofs.YtbceapeoknngnaaDoor
open Go.RowKit
set_option maxRecDepth 100000
open Lib (hid)
theorem idxP_le {α : Type} (p : α → Bool) : ∀ l : List α, idxP p l ≤ l.length
 | [] => by simp [idxP]
 | a :: l => by
   have := idxP_le p l; rw [idxP]; split
   · simp; omega
   · split
     · simp; omega
     · simp; omega
set_option maxHeartbeats 1600000 in
theorem kind_p (a : List UInt8) (w : World) :
   Calls Tryd.prog 46 #[.string ⟨a.toArray⟩] w fun e w' => e = .returned (.tuple #[.int .i64 (kindP a).1, .string ⟨(kindP a).2.toArray⟩]) ∧ Up w w' := by
 have hk : kindP a = if 0 ≤ idxP (fun x => a == x) words then (idxP (fun x => a == x) words + 1, []) else (10, a) := rfl; have Hk := hid hk; clear hk; have hi := fun w1 e => index_str (.slice (some ⟨w1.heap.size, 0, none⟩) 9 9) words a (w1.alloc (.cells wordsV.toArray e)) (words_rd w1 e)
 have hb : idxP (fun x => a == x) words ≤ 9 := by
   exact Int.le_trans (idxP_le (fun x => a == x) words) (by decide)
 generalize idxP (fun x => a == x) words = ix at hi Hk hb; have Hi := hid hi; clear hi
 go_enter Tryd.func46, Tryd.ntmps46
 by_cases h : 0 ≤ ix
 · go_wp2_with (first
     | (go_at_call 11; go_must (refine (words_s w).mono ?_; rintro e w2 ⟨rfl, rfl⟩))
     | (go_at_call 52; go_must (refine (Hi.out _ _).mono ?_; rintro e w3 ⟨rfl, rfl⟩)))
   have hk := Hk.out; rw [if_pos h] at hk; rw [hk]
   go_ret2
   exact ⟨by first | rfl | (congr 3; go_num), (Up.refl w).alloc _⟩
 · have h2 : ix < 0 := by omega
   go_wp2_with (first
     | (go_at_call 11; go_must (refine (words_s w).mono ?_; rintro e w2 ⟨rfl, rfl⟩))
     | (go_at_call 52; go_must (refine (Hi.out _ _).mono ?_; rintro e w3 ⟨rfl, rfl⟩)))
   have hk := Hk.out; rw [if_neg (by omega)] at hk; rw [hk]
   go_ret2
   exact ⟨rfl, (Up.refl w).alloc _⟩
end Go.Proofs.YtbceapeoknngnaaDoor
