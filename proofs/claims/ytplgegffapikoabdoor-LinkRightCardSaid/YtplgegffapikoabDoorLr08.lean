/-
  syntax.Words, link.free; pressref1.Words.
-/
import Derived.Test.YtplgegffapikoabDoorLr05
import Derived.Test.YtplgegffapikoabDoorLr06
import Derived.Test.YtplgegffapikoabDoorLr07
set_option linter.unusedVariables false
namespace Go.Proofs.YtplgegffapikoabDoor
open Go.RowKit
def wInt64 : List UInt8 := [105, 110, 116, 54, 52]
def wSint64 : List UInt8 := [115, 105, 110, 116, 54, 52]
def wUint64 : List UInt8 := [117, 105, 110, 116, 54, 52]
def wBool : List UInt8 := [98, 111, 111, 108]
def wFixed64 : List UInt8 := [102, 105, 120, 101, 100, 54, 52]
def wFixed32 : List UInt8 := [102, 105, 120, 101, 100, 51, 50]
def wString : List UInt8 := [115, 116, 114, 105, 110, 103]
def wBytes : List UInt8 := [98, 121, 116, 101, 115]
def wRepeated : List UInt8 := [114, 101, 112, 101, 97, 116, 101, 100]
def wReserved : List UInt8 := [114, 101, 115, 101, 114, 118, 101, 100]
def wOneof : List UInt8 := [111, 110, 101, 111, 102]
def words : List (List UInt8) := [wInt64, wSint64, wUint64, wBool, [], wFixed64, wFixed32, wString, wBytes]
def wordsV : List Value := words.map fun s => .string ⟨s.toArray⟩
def freeN (s : List UInt8) : Bool := named s && !(words ++ [wRepeated, wReserved, wOneof]).any (fun x => s == x)

theorem words_rd (w : World) (e : TypeId) : RdS DStr 1 All (w.alloc (.cells wordsV.toArray e)) (.slice (some ⟨w.heap.size, 0, none⟩) 9 9) words := by
  refine rdS_of_block words (words.map fun s => [.string ⟨s.toArray⟩]) (blk_new w _ rfl) ?_ trivial (by rfl) (fun i hi => ⟨[.string ⟨words[i].toArray⟩], by simp [hi], rfl, rfl, ?_⟩) rfl (Nat.le_refl _) (by unfold maxLen; omega)
  · rfl
  · have h : ∀ x ∈ words, x.length ≤ 140737488355328 := by decide
    exact h _ (List.getElem_mem hi)

set_option maxRecDepth 100000 in
set_option maxHeartbeats 800000 in
theorem words_s (w : World) :
    Calls Tryd.prog 16 #[] w fun e w' => e = .returned (.slice (some ⟨w.heap.size, 0, none⟩) 9 9) ∧ w' = w.alloc (.cells wordsV.toArray 9) := by
  go_enter Tryd.func16, Tryd.ntmps16
  go_wp2_with fail
  go_ret
  exact ⟨rfl, rfl⟩
set_option maxRecDepth 100000 in
set_option maxHeartbeats 800000 in
theorem words_r (w : World) :
    Calls Tryd.prog 17 #[] w fun e w' => e = .returned (.slice (some ⟨w.heap.size, 0, none⟩) 9 9) ∧ w' = w.alloc (.cells wordsV.toArray 9) := by
  go_enter Tryd.func17, Tryd.ntmps17
  go_wp2_with fail
  go_ret
  exact ⟨rfl, rfl⟩

set_option maxRecDepth 100000 in
set_option maxHeartbeats 800000 in
theorem free_l (s : List UInt8) (w : World) :
    Calls Tryd.prog 48 #[.string ⟨s.toArray⟩] w fun e w' => e = .returned (.bool (freeN s)) ∧ Up w w' := by
  have hn := named_s ⟨s.toArray⟩ w
  simp only at hn
  cases hnn : named s with
  | false =>
    rw [hnn] at hn
    have Hn := Lib.hid hn; clear hn
    go_enter Tryd.func48, Tryd.ntmps48
    go_wp2_with (first
      | (go_at_call 14; go_must (refine Hn.out.mono ?_; rintro e w1 ⟨rfl, hu1⟩)))
    go_ret
    exact ⟨ret_bool (by simp [freeN, hnn]), hu1⟩
  | true =>
    rw [hnn] at hn
    have Hn := Lib.hid hn; clear hn
    have hf : freeN s = (!(words.any (fun x => s == x)) && (!(s == wRepeated) && (!(s == wReserved) && !(s == wOneof)))) := by
      unfold freeN
      rw [hnn, List.any_append]
      simp only [List.any_cons, List.any_nil, Bool.true_and, Bool.or_false, Bool.not_or]
    have Hf := Lib.hid hf; clear hf
    go_enter Tryd.func48, Tryd.ntmps48
    go_wp2_with (first
      | (go_at_call 14; go_must (refine Hn.out.mono ?_; rintro e w1 ⟨rfl, hu1⟩))
      | (go_at_call 16; go_must (refine (words_s w1).mono ?_; rintro e w2 ⟨rfl, rfl⟩))
      | (go_at_call 49; go_must (refine (contains_str _ words s _ (words_rd w1 _)).mono ?_; rintro e w3 ⟨rfl, rfl⟩; generalize words.any (fun x => s == x) = c at *)))
    all_goals
      clear Hn
      go_ret
      refine ⟨ret_bool ?_, hu1.alloc _⟩
      rw [Hf.out]
      simp_all [wRepeated, wReserved, wOneof]
      try rw [Bool.and_assoc]

theorem eStr : Elem Tryd.prog 34 9 1 16 (.string .empty) := ⟨Tryd.underlying34, info_parts (by kernel_rfl), rfl, by decide⟩
end Go.Proofs.YtplgegffapikoabDoor
