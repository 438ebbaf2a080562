/-
  Package wire: number, one; slices.Clone of bytes.
-/
import Derived.Test.YtplgegffapikoaaProg
import Derived.Test.YtplgegffapikoaaBase
import Derived.Test.YtplgegffapikoaaPlainWire
import Derived.Test.YtplgegffapikoaaWire1
import Derived.Test.YtplgegffapikoaaGet
import Derived.Outline
import Derived.WalkSpells
namespace Go.Proofs.Ytplgegffapikoaa
open Go.RowKit

set_option maxRecDepth 100000 in
set_option maxHeartbeats 400000 in
theorem clone8_any (v : Value) (l : List UInt8) (w : World) (hv : RdB All w v l) (hl : l.length ≤ 1099511627776) :
    Calls Try.prog 66 #[v] w fun e w' => ∃ v', e = .returned v' ∧ w'.ownsRow w.heap.size 5 1 v' l.length (B8 l) ∧ Up w w' := by
  obtain ⟨ao, cap, rfl, hc1, hc2⟩ := hv.val
  have Hn := Lib.hid (RdB.news hv)
  clear hv
  have hnil := fun (w : World) (a : Option Addr) (n c : Nat) => Lib.run_eql_slice_nil (P := Try.prog) w 23 5 a n c 0 0 Try.underlying23
  cases ao with
  | none =>
    have h0 := Hn.out.2.1 rfl
    have : l = [] := List.eq_nil_of_length_eq_zero h0.1
    subst this
    obtain rfl := h0.2
    clear h0
    go_enter Try.func66, Try.ntmps66
    go_wp2_with fail
    go_ret
    exact ⟨_, rfl, World.ownsRow_nil _ _ _ _, Up.refl _⟩
  | some ad =>
    go_enter Try.func66, Try.ntmps66
    go_wp2_with (at_builtin; go_loud (refine wpList_app eU8 _ (by rfl) _ _ (by rfl) w.heap.size _ 0 [] (by rfl) (World.ownsRow_lit w #[] 0 (Nat.le_refl _) (by unfold maxLen; omega) (by simp)) (some ad) l.length cap (by rfl) (B8 l) (by simp [B8]) (by simp) (fun ad' h j u hu => ?_) (B8_one _) (by omega) (by unfold maxLen; omega) (by simp) ?_))
    · exact (Up.alloc (Up.refl w) _).cell_some (Hn.out.2.2 ad' h j u hu)
    · intro v1 w1 how1 hev1
      go_wp2_with fail
      go_ret
      exact ⟨_, rfl, by simpa using how1, (Up.alloc (Up.refl w) _).evo hev1 (fun k hk => by simp [Value.ownBlock] at hk; omega)⟩

set_option maxRecDepth 100000 in
set_option maxHeartbeats 400000 in
theorem number_any (v : Value) (l : List UInt8) (k : Nat) (w : World) (hv : RdB All w v l) (hk : k ≤ 8) :
    Calls Try.prog 65 #[v, .int .i64 k] w fun e w' => e = .returned (.tuple #[.int .u64 ((numB k l).1 : Int), .int .i64 (numB k l).2]) ∧ w' = w := by
  obtain ⟨ao, cap, rfl, hc1, hc2⟩ := hv.val
  by_cases hlk : l.length < k
  · go_enter Try.func65, Try.ntmps65
    go_wp2_with fail
    go_ret2
    unfold numB
    rw [if_pos hlk]
    exact ⟨rfl, rfl⟩
  · go_enter Try.func65, Try.ntmps65
    go_wp2_with fail
    go_loop [6, 17] (fun n i => ∃ j : Nat, j ≤ k ∧ i = .int .i64 j ∧ n = .int .u64 (lowVal (l.take j))) (fun _ i => k - (intOf i).toNat)
    case atStart => exact ⟨0, by omega, rfl, rfl⟩
    case round =>
      obtain ⟨j, hj, rfl, rfl⟩ := hrel
      by_cases hlt : j < k
      · obtain ⟨b, o, rfl, hcell⟩ := RdB.cell hv (i := j) (by omega)
        have hs : lowVal (l.take (j + 1)) = lowVal (l.take j) + (l[j]'(by omega)).toNat * 2 ^ (8 * j) := by
          rw [take_snoc l j (by omega), lowVal_snoc, List.length_take, Nat.min_eq_left (by omega)]
        have hlo : lowVal (l.take j) < 2 ^ (8 * j) := by
          have := lowVal_lt (l.take j)
          rwa [List.length_take, Nat.min_eq_left (by omega)] at this
        have hc256 : (l[j]'(by omega)).toNat < 256 := UInt8.toNat_lt _
        generalize l[j]'(by omega) = c at *
        have hb := num_bits _ j c.toNat hlo hc256 (by omega)
        have Hb := Lib.hid hb; clear hb
        have Hs := Lib.hid hs; clear hs hlo
        generalize lowVal (l.take j) = a at *
        go_wp2_with fail
        go_round
        case rel => exact ⟨j + 1, by omega, by go_num, by rw [Hs.out, ← Hb.out]⟩
        case measure => simp [intOf]; omega
      · go_wp2_with fail
        go_ret2
        unfold numB
        rw [if_neg hlk, show j = k by omega]
        exact ⟨rfl, rfl⟩
end Go.Proofs.Ytplgegffapikoaa
