/-
  SameRecords.
-/
import Derived.Test.YtplgegffapikoaaProg
import Derived.Test.YtplgegffapikoaaBase2
import Derived.Outline
import Derived.Deep.DeepMust
import Derived.Deep.QuietTactic
import Derived.BigQuiet
set_option linter.unusedVariables false
namespace Go.Proofs.Ytplgegffapikoaa
open Go.RowKit

theorem Up.drewN {a w : World} (h : Up a w) (n : Nat) : Up a (w.drewN n) := ⟨h.os, h.tape, h.output, h.size, h.block⟩

set_option maxRecDepth 100000 in
set_option maxHeartbeats 1600000 in
theorem same_any (va vb : Value) (a b : List Rec) (w : World) (hva : RdS DRec 4 All w va a) (hvb : RdS DRec 4 All w vb b) :
    Calls Try.prog 17 #[va, vb] w fun e w' => ∃ t : Bool, e = .returned (.bool t) ∧ (t = true ↔ a = b) ∧ Up w w' := by
  obtain ⟨ao, cap, rfl, hc1, hc2⟩ := hva.val
  obtain ⟨bo, bap, rfl, hd1, hd2⟩ := hvb.val
  have Ha := Lib.hid hva; clear hva
  have Hb := Lib.hid hvb; clear hvb
  by_cases hne : a.length = b.length
  · have hne2 : ((a.length : Int) != (b.length : Int)) = false := by simp [hne]
    have hne3 := Lib.hid hne; clear hne
    go_enter Try.func17, Try.ntmps17
    go_wp2_with fail
    go_loopw [13] (fun i wr => ∃ k : Nat, k ≤ a.length ∧ i = .int .i64 k ∧ a.take k = b.take k ∧ ∃ n, wr = w.drewN n) (fun i _ => a.length - (intOf i).toNat)
    case atStart => exact ⟨0, by omega, rfl, by simp, 0, rfl⟩
    case round =>
      obtain ⟨k, hk, rfl, ht, nw, rfl⟩ := hrel
      have Ht := Lib.hid ht; clear ht
      by_cases hlt : k < a.length
      · obtain ⟨ba, oa, a3, c3, rfl, hrb, h64, g0, g1, g2, g3⟩ := rdRec_cell Ha.out hlt
        have hltb : k < b.length := by have := hne3.out; omega
        obtain ⟨bb, ob, b3, d3, rfl, hrb2, h642, k0, k1, k2, k3⟩ := rdRec_cell Hb.out hltb
        have Hal := Lib.hid (show a.take (k + 1) = a.take k ++ [a[k]] from by rw [List.take_succ_eq_append_getElem hlt])
        have Hbl := Lib.hid (show b.take (k + 1) = b.take k ++ [b[k]] from by rw [List.take_succ_eq_append_getElem hltb])
        generalize hr : a[k] = r at *
        generalize hs : b[k] = s at *
        have i0 : (0 : Int) ≤ (k : Int) := by omega
        have i1 : (k : Int) < (a.length : Int) := by omega
        have i2 : (k : Int) < (b.length : Int) := by omega
        have hcr := fun n => run_conv (P := Try.prog) (w := w.drewN n) (hrb.up stable_u8 (Up.drewN (Up.refl w) n)) 23 5 9 Try.underlying23 Try.underlying5 Try.underlying9
        have hcs := fun n => run_conv (P := Try.prog) (w := w.drewN n) (hrb2.up stable_u8 (Up.drewN (Up.refl w) n)) 23 5 9 Try.underlying23 Try.underlying5 Try.underlying9
        have Hrs := Lib.hid hr; clear hr
        have Hss := Lib.hid hs; clear hs hrb hrb2 h64 h642
        by_cases e1 : r.number = s.number
        · have x1 : (r.number != s.number) = false := by simp [e1]
          by_cases e2 : r.how = s.how
          · have x2 : (r.how != s.how) = false := by simp [e2]
            by_cases e3 : r.bits = s.bits
            · have x3 : ((r.bits : Int) != (s.bits : Int)) = false := by simp [e3]
              have Hx1 := Lib.hid e1; have Hx2 := Lib.hid e2; have Hx3 := Lib.hid e3; clear e1 e2 e3
              by_cases e4 : r.bytes = s.bytes
              · have x4 := leq_true e4
                have Hx4 := Lib.hid e4; clear e4
                go_wp2_with fail
                go_quiet (fail)
                go_wp2_with fail
                go_roundw
                case rel =>
                  have hrs : r = s := by
                    have h1 := Hx1.out; have h2 := Hx2.out; have h3 := Hx3.out; have h4 := Hx4.out
                    cases r; cases s; simp at h1 h2 h3 h4; simp [h1, h2, h3, h4]
                  exact ⟨k + 1, by omega, by go_num, by rw [Hal.out, Hbl.out, Ht.out, hrs], _, rfl⟩
                case measure => simp [intOf]; omega
              · have x4 := leq_false e4
                go_wp2_with fail
                go_quiet (fail)
                go_wp2_with fail
                go_ret
                exact ⟨false, rfl, ⟨(fun h => nomatch h), fun h => by subst h; exact absurd (by rw [← Hrs.out, ← Hss.out]) e4⟩, by repeat (first | exact Up.refl _ | with_reducible refine Up.drewN ?_ _)⟩
            · have x3 : ((r.bits : Int) != (s.bits : Int)) = true := by rw [bne_iff_ne]; omega
              have Hx1 := Lib.hid e1; have Hx2 := Lib.hid e2; clear e1 e2
              go_wp2_with fail
              go_quiet (fail)
              go_wp2_with fail
              go_ret
              exact ⟨false, rfl, ⟨(fun h => nomatch h), fun h => by subst h; exact absurd (by rw [← Hrs.out, ← Hss.out]) e3⟩, by repeat (first | exact Up.refl _ | with_reducible refine Up.drewN ?_ _)⟩
          · have x2 : (r.how != s.how) = true := by rw [bne_iff_ne]; exact e2
            have Hx1 := Lib.hid e1; clear e1
            go_wp2_with fail
            go_quiet (fail)
            go_wp2_with fail
            go_ret
            exact ⟨false, rfl, ⟨(fun h => nomatch h), fun h => by subst h; exact absurd (by rw [← Hrs.out, ← Hss.out]) e2⟩, by repeat (first | exact Up.refl _ | with_reducible refine Up.drewN ?_ _)⟩
        · have x1 : (r.number != s.number) = true := by rw [bne_iff_ne]; exact e1
          go_wp2_with fail
          go_quiet (fail)
          go_wp2_with fail
          go_ret
          exact ⟨false, rfl, ⟨(fun h => nomatch h), fun h => by subst h; exact absurd (by rw [← Hrs.out, ← Hss.out]) e1⟩, by repeat (first | exact Up.refl _ | with_reducible refine Up.drewN ?_ _)⟩
      · go_wp2_with fail
        go_ret
        refine ⟨true, rfl, ⟨fun _ => ?_, fun _ => rfl⟩, Up.drewN (Up.refl w) _⟩
        have := Ht.out
        rwa [List.take_of_length_le (by omega), List.take_of_length_le (by have := hne3.out; omega)] at this
  · have hne2 : ((a.length : Int) != (b.length : Int)) = true := by rw [bne_iff_ne]; omega
    go_enter Try.func17, Try.ntmps17
    go_wp2_with fail
    go_ret
    exact ⟨false, rfl, by constructor; (intro h; cases h); (intro h; exact absurd (congrArg List.length h) hne), Up.refl _⟩
end Go.Proofs.Ytplgegffapikoaa
