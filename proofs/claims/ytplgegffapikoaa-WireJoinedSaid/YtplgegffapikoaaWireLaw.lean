/-
  presslaw1: alive; the laws.
-/
import Derived.Test.YtplgegffapikoaaProg
import Derived.Test.YtplgegffapikoaaBase2
import Derived.Test.YtplgegffapikoaaBase3
import Derived.Test.YtplgegffapikoaaFold
import Derived.Test.YtplgegffapikoaaParse
import Derived.Test.YtplgegffapikoaaBytes
import Derived.Test.YtplgegffapikoaaSame
import Derived.Outline
import Derived.Deep.DeepMust
import Derived.Deep.QuietTactic
import Derived.BigQuiet
set_option linter.unusedVariables false
namespace Go.Proofs.Ytplgegffapikoaa
open Go.RowKit

def aliveR : List Rec := [⟨1, 0, 300, []⟩, ⟨2, 2, 0, [7]⟩]
def aliveB : List UInt8 := [8, 172, 2, 18, 1, 7]
theorem alive_bytes : bytesP aliveR = (aliveB, 0, 0) := by
  simp [bytesP, aliveR, aliveB, bytesF, wrongRec, oneB, tagB, Lib.uvarint_small, Lib.uvarint_big]
theorem alive_parse : parse aliveB = (aliveR, 0, 0) := by rfl

set_option maxRecDepth 100000 in
set_option maxHeartbeats 800000 in
theorem alive_any (w : World) :
    Calls Try.prog 10 #[] w fun e w' => e = .returned (.bool true) ∧ Up w w' := by
  go_enter Try.func10, Try.ntmps10
  go_wp2_with fail
  have hb0 := blk_new w (.cells #[.int .u8 7] 5) rfl
  generalize hw1 : w.alloc (.cells #[.int .u8 7] 5) = w1 at *
  have hs1 : w.heap.size + 1 = w1.heap.size := by rw [← hw1]; simp
  have hu1 : Up w w1 := by rw [← hw1]; exact Up.alloc (Up.refl w) _
  clear hw1
  rw [hs1]
  have hb1 := blk_new w1 (.cells #[.int .i64 1, .int .i64 0, .int .u64 300, .slice none 0 0, .int .i64 2, .int .i64 2, .int .u64 0, .slice (some ⟨w.heap.size, 0, none⟩) 1 1] 78) rfl
  have hb2 := blk_old (.cells #[.int .i64 1, .int .i64 0, .int .u64 300, .slice none 0 0, .int .i64 2, .int .i64 2, .int .u64 0, .slice (some ⟨w.heap.size, 0, none⟩) 1 1] 78) hb0
  have hu2 := hu1.alloc (.cells #[.int .i64 1, .int .i64 0, .int .u64 300, .slice none 0 0, .int .i64 2, .int .i64 2, .int .u64 0, .slice (some ⟨w.heap.size, 0, none⟩) 1 1] 78)
  generalize w1.alloc (.cells #[.int .i64 1, .int .i64 0, .int .u64 300, .slice none 0 0, .int .i64 2, .int .i64 2, .int .u64 0, .slice (some ⟨w.heap.size, 0, none⟩) 1 1] 78) = w2 at *
  have hr : RdS DRec 4 All w2 (.slice (some ⟨w1.heap.size, 0, none⟩) 2 2) aliveR := by
    refine rdS_of_block aliveR [[.int .i64 1, .int .i64 0, .int .u64 300, .slice none 0 0], [.int .i64 2, .int .i64 2, .int .u64 0, .slice (some ⟨w.heap.size, 0, none⟩) 1 1]] hb1 rfl trivial rfl (fun i hi => ?_) rfl (by omega) (by unfold maxLen; omega)
    match i, hi with
    | 0, _ => exact ⟨_, rfl, rfl, _, rfl, rdB_nil _ _, (by decide : (300 : Nat) < 2 ^ 64)⟩
    | 1, _ => exact ⟨_, rfl, rfl, _, rfl, rdB_of_block [7] hb2 rfl trivial rfl (by omega) (by unfold maxLen; omega), (by decide : (0 : Nat) < 2 ^ 64)⟩
  have hby := bytes_any _ _ _ hr
  rw [alive_bytes] at hby
  have Hby := Lib.hid hby; clear hby hr hb0 hb1 hb2
  have Hu2 := Lib.hid hu2; clear hu2 hu1 hs1
  refine Hby.out.mono ?_
  rintro e w3 ⟨vb, rfl, how, hu3⟩
  have hrb : RdB All w3 vb aliveB := rdB_of_owns how (fun _ _ => trivial)
  have Hu3 := Lib.hid (Hu2.out.trans hu3); clear hu3
  have Hrb := Lib.hid hrb; clear hrb how
  obtain ⟨a3, c3, rfl, hc31, hc32⟩ := Hrb.out.val
  go_wp2_with fail
  have hpa := parse_any _ aliveB _ (Hrb.out.up stable_u8 (Up.alloc (Up.refl _) (.cells #[.int .i64 0, .int .i64 0] 34)))
  rw [alive_parse] at hpa
  have Hpa := Lib.hid hpa; clear hpa
  refine Hpa.out.mono ?_
  rintro e w4 ⟨vl, rfl, howl, hu4⟩
  obtain ⟨a4, c4, hvl, _, _⟩ := (howl.rd (S' := All) stable_rec (fun _ _ => trivial) (fun _ _ => trivial)).val
  replace hvl : vl = .slice a4 2 c4 := hvl
  subst hvl
  clear howl
  have hbx := hu4.blk (blk_new w3 (.cells #[.int .i64 0, .int .i64 0] 34) rfl)
  have q0 : w4.cell? ⟨w3.heap.size, 0, none⟩ = some (.int .i64 0) := cell_of_row w4 _ 0 _ _ _ hbx
  have hz4 := lt_of_block hbx
  clear hbx
  have Hu4 := Lib.hid ((Hu3.out.trans (Up.alloc (Up.refl _) _)).trans hu4)
  have Hu34 := Lib.hid ((Up.alloc (Up.refl w3) _).trans hu4)
  clear hu4
  have hcr := run_conv (P := Try.prog) (w := w4.alloc (.cells #[.int .i64 0, .int .i64 0] 34)) (Hrb.out.up stable_u8 (Hu34.out.alloc _)) 23 5 9 Try.underlying23 Try.underlying5 Try.underlying9
  have hcs := run_conv (P := Try.prog) (rdB_of_block (S := All) aliveB (blk_new (w4.alloc (.cells #[.int .i64 0, .int .i64 0] 34)) (.cells #[.int .u8 8, .int .u8 172, .int .u8 2, .int .u8 18, .int .u8 1, .int .u8 7] 5) (g := w4.heap.size + 1) (by simp)) rfl trivial (n := 6) (cap := 6) rfl (by omega) (by unfold maxLen; omega)) 23 5 9 Try.underlying23 Try.underlying5 Try.underlying9
  go_wp2_with (first
    | (go_at_call 14; refine (fold_any _ _ (by omega) (by omega)).mono ?_; rintro e w5 ⟨rfl, rfl⟩)
    | (go_at_call 13; refine (open_any 5 _ (by decide)).mono ?_; rintro e w5 ⟨rfl, rfl⟩))
  go_ret
  refine ⟨by rfl, ?_⟩
  exact (Hu4.out.alloc _).alloc _
end Go.Proofs.Ytplgegffapikoaa
