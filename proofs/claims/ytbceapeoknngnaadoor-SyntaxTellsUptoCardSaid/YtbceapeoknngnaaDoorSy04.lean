/-
  Names: pressref1.Letter, More, Named; syntax.Named.
-/
import Derived.Test.YtbceapeoknngnaaDoorProg
import Derived.Test.YtbceapeoknngnaaDoorSy03
import Derived.Outline
import Derived.Deep.DeepMust
import Derived.Deep.QuietTactic
import Derived.BigQuiet
set_option linter.unusedVariables false
namespace Go.Proofs.YtbceapeoknngnaaDoor
open Go.RowKit
set_option maxRecDepth 100000
open Lib (hid)
def letterN (c : Nat) : Bool := decide (97 ≤ c ∧ c ≤ 122 ∨ 65 ≤ c ∧ c ≤ 90)
def moreN (c : Nat) : Bool := decide (97 ≤ c ∧ c ≤ 122 ∨ 65 ≤ c ∧ c ≤ 90 ∨ 48 ≤ c ∧ c ≤ 57 ∨ c = 95)
def partN (i c : Nat) : Bool := if i = 0 then letterN c else moreN c
set_option maxHeartbeats 800000 in
theorem letter_any (c : Nat) (w : World) :
   Calls Tryd.prog 30 #[.int .u8 c] w fun e w' => e = .returned (.bool (letterN c)) ∧ w' = w := by
 go_enter Tryd.func30, Tryd.ntmps30
 go_wp2_with fail
 all_goals
   go_ret
   refine ⟨ret_bool ?_, rfl⟩; unfold letterN
   (rw [Bool.eq_iff_iff]; simp only [Bool.or_eq_true, decide_eq_true_eq, true_iff, false_iff, Bool.false_eq_true]; omega)
set_option maxHeartbeats 800000 in
theorem more_any (c : Nat) (w : World) :
   Calls Tryd.prog 29 #[.int .u8 c] w fun e w' => e = .returned (.bool (moreN c)) ∧ w' = w := by
 by_cases hl : letterN c = true
 all_goals
   have Hl := hid hl; unfold letterN at hl
   go_enter Tryd.func29, Tryd.ntmps29
   (go_wp2_with fail); refine (letter_any c w).mono ?_; rintro e w' ⟨rfl, rfl⟩; (try simp only [Bool.not_eq_true] at Hl); rw [Hl.out]; simp only [decide_eq_true_eq] at hl; go_wp2_with fail
   all_goals
     go_ret
     refine ⟨ret_bool ?_, rfl⟩; unfold moreN
     (rw [Bool.eq_iff_iff]; simp only [Bool.or_eq_true, decide_eq_true_eq, beq_iff_eq, true_iff]; omega)
def named (l : List UInt8) : Bool := decide (0 < l.length ∧ l.length ≤ 16) && (List.range l.length).all fun i => partN i (l.getD i 0).toNat
theorem named_bad {l : List UInt8} {k : Nat} (hk : k < l.length) (h : partN k l[k].toNat = false) : named l = false := by
 have : (List.range l.length).all (fun i => partN i (l.getD i 0).toNat) = false := by
   rw [List.all_eq_false]; exact ⟨k, List.mem_range.2 hk, by simp [List.getD, hk, h]⟩
 unfold named; rw [this, Bool.and_false]
theorem named_good {l : List UInt8} (h : ∀ k, (hk : k < l.length) → partN k l[k].toNat = true) : named l = decide (0 < l.length ∧ l.length ≤ 16) := by
 have : (List.range l.length).all (fun i => partN i (l.getD i 0).toNat) = true := by
   rw [List.all_eq_true]; intro i hi; have hi := List.mem_range.1 hi; simpa [List.getD, hi] using h i hi
 unfold named; rw [this, Bool.and_true]
set_option maxHeartbeats 800000 in
theorem named_s (s : ByteArray) (w : World) :
   Calls Tryd.prog 9 #[.string s] w fun e w' => e = .returned (.bool (named s.data.toList)) ∧ Up w w' := by
 obtain ⟨l, hl⟩ : ∃ l, l = s.data.toList := ⟨_, rfl⟩; (have hsz : s.size = l.length := by rw [hl]; rfl); have Hsz := hid hsz; clear hsz; have Hl := hid hl; clear hl
 by_cases h1 : 0 < s.size ∧ s.size ≤ 16
 · (have i0 : 1 ≤ (s.size : Int) := by omega); (have i1 : (s.size : Int) ≤ 16 := by omega); have H1 := hid h1; clear h1
   go_enter Tryd.func9, Tryd.ntmps9
   (go_wp2_with fail); (go_loopw [16] (fun i wr => ∃ k : Nat, k ≤ s.size ∧ i = .int .i64 k ∧ wr = w ∧ ∀ j, (hj : j < l.length) → j < k → partN j l[j].toNat = true) (fun i _ => s.size - (intOf i).toNat)); case atStart => exact ⟨0, by omega, rfl, rfl, fun j _ h => absurd h (by omega)⟩
   case round =>
     obtain ⟨k, hk, rfl, rfl, hg⟩ := hrel
     by_cases hlt : k < s.size
     · have hp : partN k l[k].toNat = partN k s[k].toNat := by
         have hl := Hl.out; subst hl; rfl
       have Hp := hid hp; clear hp; have Hg := hid hg; clear hg; (have hcs : ((s[k].toNat : Int) < 48) ∨ (48 ≤ (s[k].toNat : Int) ∧ (s[k].toNat : Int) ≤ 57) ∨ (57 < (s[k].toNat : Int) ∧ (s[k].toNat : Int) < 65) ∨ (65 ≤ (s[k].toNat : Int) ∧ (s[k].toNat : Int) ≤ 90) ∨ (90 < (s[k].toNat : Int) ∧ (s[k].toNat : Int) < 95) ∨ (s[k].toNat : Int) = 95 ∨ (s[k].toNat : Int) = 96 ∨ (97 ≤ (s[k].toNat : Int) ∧ (s[k].toNat : Int) ≤ 122) ∨ 122 < (s[k].toNat : Int) := by omega); obtain ⟨c, hc⟩ : ∃ c, c = s[k].toNat := ⟨_, rfl⟩; rw [← hc] at hcs Hp; replace hc := hc.symm; have hkl : k < l.length := by have := Hsz.out; omega
       by_cases hk0 : k = 0
       · (have hk1 : ((k : Int) == 0) = true := by simp [hk0]); have Hk0 := hid hk0; clear hk0; rcases hcs with h | ⟨h, h'⟩ | ⟨h, h'⟩ | ⟨h, h'⟩ | ⟨h, h'⟩ | h | h | ⟨h, h'⟩ | h
         all_goals
           (go_wp2_with fail) <;> first
             | (exfalso; (simp only [Bool.not_eq_true', Bool.not_eq_false', decide_eq_true_eq, decide_eq_false_iff_not] at *) <;> omega)
             | (go_ret; refine ⟨ret_bool ?_, Up.refl _⟩; rw [← Hl.out, named_bad hkl (by rw [Hp.out, partN, if_pos Hk0.out, letterN]; (rw [Bool.eq_iff_iff]; simp only [decide_eq_true_eq, iff_false, Bool.false_eq_true]; omega))])
             | (go_roundw
                case rel =>
                  refine ⟨k + 1, by omega, by go_num, trivial, fun j hj hjk => ?_⟩; (obtain rfl : j = k := by have := Hk0.out; omega); rw [Hp.out, partN, if_pos Hk0.out, letterN]; (rw [Bool.eq_iff_iff]; simp only [decide_eq_true_eq, iff_true]; omega)
                case measure => simp [intOf]; omega)
       · (have hk1 : ((k : Int) == 0) = false := by rw [beq_eq_false_iff_ne]; omega); have Hk0 := hid hk0; clear hk0; rcases hcs with h | ⟨h, h'⟩ | ⟨h, h'⟩ | ⟨h, h'⟩ | ⟨h, h'⟩ | h | h | ⟨h, h'⟩ | h
         all_goals
           (go_wp2_with fail) <;> first
             | (exfalso; (simp only [Bool.not_eq_true', Bool.not_eq_false', bne_iff_ne, bne_eq_false_iff_eq, ne_eq, decide_eq_true_eq, decide_eq_false_iff_not] at *) <;> omega)
             | (go_ret; refine ⟨ret_bool ?_, Up.refl _⟩; rw [← Hl.out, named_bad hkl (by rw [Hp.out, partN, if_neg Hk0.out, moreN]; (rw [Bool.eq_iff_iff]; simp only [decide_eq_true_eq, iff_false, Bool.false_eq_true]; omega))])
             | (go_roundw
                case rel =>
                  refine ⟨k + 1, by omega, by go_num, trivial, fun j hj hjk => ?_⟩
                  by_cases hjk2 : j = k
                  · subst hjk2; rw [Hp.out, partN, if_neg Hk0.out, moreN]; (rw [Bool.eq_iff_iff]; simp only [decide_eq_true_eq, iff_true]; omega)
                  · exact Hg.out j hj (by omega)
                case measure => simp [intOf]; omega)
     · go_wp2_with fail
       go_ret
       refine ⟨ret_bool ?_, Up.refl _⟩; have hsz := Hsz.out; rw [← Hl.out, named_good (fun j hj => hg j hj (by omega))]
       symm; rw [decide_eq_true_iff]; omega
 · have hn : named s.data.toList = false := by
     unfold named; rw [← Hl.out, ← Hsz.out, decide_eq_false h1, Bool.false_and]
   rw [hn]; (have h2 : (s.size : Int) < 1 ∨ (1 ≤ (s.size : Int) ∧ 16 < (s.size : Int)) := by omega); have H1 := hid h1; clear h1; rcases h2 with h2 | ⟨h2, h3⟩
   all_goals
     go_enter Tryd.func9, Tryd.ntmps9
     go_wp2_with fail
     go_ret
     exact ⟨rfl, Up.refl _⟩
end Go.Proofs.YtbceapeoknngnaaDoor
