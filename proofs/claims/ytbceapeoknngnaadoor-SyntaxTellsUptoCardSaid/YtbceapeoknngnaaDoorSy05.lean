/-
  Names: pressref1.Named.
-/
import Derived.Test.YtbceapeoknngnaaDoorSy04
import Derived.Laws.IdiomStrings
set_option linter.unusedVariables false
namespace Go.Proofs.YtbceapeoknngnaaDoor
open Go.RowKit
set_option maxRecDepth 100000
open Lib (hid)
set_option maxHeartbeats 800000 in
theorem named_r (s : ByteArray) (w : World) (hs : s.size ≤ 9223372036854775807) :
   Calls Tryd.prog 10 #[.string s] w fun e w' => e = .returned (.bool (named s.data.toList)) ∧ Up w w' := by
 have hcv := run_bytes_of_string (P := Tryd.prog) w 9 62 5 s Tryd.underlying9 Tryd.underlying62 Tryd.underlying5
 have hc : ∀ k, (hk : k < s.size) → (w.drew.alloc (.cells (bytesRow s (grownCap w s.size 0 5)) 5 ((bytesRow s (grownCap w s.size 0 5)).size, (bytesRow s (grownCap w s.size 0 5)).size + 1))).cell? ⟨w.heap.size, k, none⟩ = some (.int .u8 (s[k].toNat : Int)) := by
   intro k hk; have hb : (w.drew.alloc (.cells (bytesRow s (grownCap w s.size 0 5)) 5 ((bytesRow s (grownCap w s.size 0 5)).size, (bytesRow s (grownCap w s.size 0 5)).size + 1))).heap[w.heap.size]? = some _ := heap_alloc_new w.drew _; rw [cell_of_row _ _ _ _ _ _ hb]; exact bytesRow_at s _ k hk
 have hu : Up w (w.drew.alloc (.cells (bytesRow s (grownCap w s.size 0 5)) 5 ((bytesRow s (grownCap w s.size 0 5)).size, (bytesRow s (grownCap w s.size 0 5)).size + 1))) := (Up.refl w).drew.alloc _; generalize w.drew.alloc (.cells (bytesRow s (grownCap w s.size 0 5)) 5 ((bytesRow s (grownCap w s.size 0 5)).size, (bytesRow s (grownCap w s.size 0 5)).size + 1)) = w1 at *; generalize grownCap w s.size 0 5 = cap at *; have Hc := hid hc; clear hc; have Hu := hid hu; clear hu
 go_enter Tryd.func10, Tryd.ntmps10
 (go_wp2_with fail); obtain ⟨l, hl⟩ : ∃ l, l = s.data.toList := ⟨_, rfl⟩; (have hsz : s.size = l.length := by rw [hl]; rfl); have Hsz := hid hsz; clear hsz; have Hl := hid hl; clear hl; clear hcv; (go_loopw [8] (fun i wr => ∃ k : Nat, k ≤ s.size ∧ i = .int .i64 k ∧ wr = w1 ∧ ∀ j, (hj : j < l.length) → j < k → partN j l[j].toNat = true) (fun i _ => s.size - (intOf i).toNat)); case atStart => exact ⟨0, by omega, rfl, rfl, fun j _ h => absurd h (by omega)⟩
 case round =>
   obtain ⟨k, hk, rfl, rfl, hg⟩ := hrel; have Hg := hid hg; clear hg
   by_cases hlt : k < s.size
   · have hp : partN k l[k]!.toNat = partN k s[k].toNat := by
       have hl := Hl.out; (have hkl : k < l.length := by have := Hsz.out; omega); rw [getElem!_pos l k hkl]; subst hl; rfl
     (have hkl : k < l.length := by have := Hsz.out; omega); rw [getElem!_pos l k hkl] at hp; have Hp := hid hp; clear hp; have hc := Hc.out k hlt; obtain ⟨c, hcc⟩ : ∃ c, c = s[k].toNat := ⟨_, rfl⟩; rw [← hcc] at hc Hp; clear hcc
     by_cases hk0 : k = 0
     · (have hk1 : ((k : Int) == 0) = true := by simp [hk0]); (have hpp : partN k c = letterN c := by rw [partN, if_pos hk0]); have Hk0 := hid hk0; have Hpp := hid hpp; clear hk0 hpp
       by_cases hl : letterN c = true
       · have hm : moreN c = true := by
           unfold letterN at hl; unfold moreN; rw [decide_eq_true_eq] at hl ⊢; omega
         go_wp2_with (first
           | (go_at_call 29; go_must (refine (more_any c _).mono ?_; rintro e w2 ⟨rfl, rfl⟩; rw [hm]))
           | (go_at_call 30; go_must (refine (letter_any c _).mono ?_; rintro e w2 ⟨rfl, rfl⟩; rw [hl])))
         go_roundw
         case rel =>
           refine ⟨k + 1, by omega, by go_num, trivial, fun j hj hjk => ?_⟩; (obtain rfl : j = k := by have := Hk0.out; omega); rw [Hp.out, Hpp.out, hl]
         case measure => simp [intOf]; omega
       · have hl : letterN c = false := by simpa using hl
         by_cases hm : moreN c = true
         · go_wp2_with (first
             | (go_at_call 29; go_must (refine (more_any c _).mono ?_; rintro e w2 ⟨rfl, rfl⟩; rw [hm]))
             | (go_at_call 30; go_must (refine (letter_any c _).mono ?_; rintro e w2 ⟨rfl, rfl⟩; rw [hl])))
           go_ret; refine ⟨ret_bool ?_, Hu.out⟩; rw [← Hl.out, named_bad hkl (by rw [Hp.out, Hpp.out, hl])]
         · have hm : moreN c = false := by simpa using hm
           go_wp2_with (first
             | (go_at_call 29; go_must (refine (more_any c _).mono ?_; rintro e w2 ⟨rfl, rfl⟩; rw [hm]))
             | (go_at_call 30; go_must (refine (letter_any c _).mono ?_; rintro e w2 ⟨rfl, rfl⟩; rw [hl])))
           go_ret; refine ⟨ret_bool ?_, Hu.out⟩; rw [← Hl.out, named_bad hkl (by rw [Hp.out, Hpp.out, hl])]
     · (have hk1 : ((k : Int) == 0) = false := by rw [beq_eq_false_iff_ne]; omega); (have hpp : partN k c = moreN c := by rw [partN, if_neg hk0]); have Hk0 := hid hk0; have Hpp := hid hpp; clear hk0 hpp
       by_cases hm : moreN c = true
       · go_wp2_with (first
           | (go_at_call 29; go_must (refine (more_any c _).mono ?_; rintro e w2 ⟨rfl, rfl⟩; rw [hm])))
         go_roundw
         case rel =>
           refine ⟨k + 1, by omega, by go_num, trivial, fun j hj hjk => ?_⟩
           by_cases hjk2 : j = k
           · subst hjk2; rw [Hp.out, Hpp.out, hm]
           · exact Hg.out j hj (by omega)
         case measure => simp [intOf]; omega
       · have hm : moreN c = false := by simpa using hm
         go_wp2_with (first
           | (go_at_call 29; go_must (refine (more_any c _).mono ?_; rintro e w2 ⟨rfl, rfl⟩; rw [hm])))
         go_ret; refine ⟨ret_bool ?_, Hu.out⟩; rw [← Hl.out, named_bad hkl (by rw [Hp.out, Hpp.out, hm])]
   · (have h2 : s.size = 0 ∨ 0 < s.size := by omega); have hn := hid (named_good (fun j hj => Hg.out j hj (by have := Hsz.out; omega))); rcases h2 with h2 | h2
     all_goals
       go_wp2_with fail
       go_ret
       refine ⟨ret_bool ?_, Hu.out⟩; rw [← Hl.out, hn.out, ← Hsz.out]
       (rw [Bool.eq_iff_iff]; simp only [decide_eq_true_eq, false_iff, Bool.false_eq_true]; omega)
end Go.Proofs.YtbceapeoknngnaaDoor
