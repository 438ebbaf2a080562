/-
  presslaw6: alive.
-/
import Derived.Test.YtplgegffapikoaaMake
import Derived.Test.YtplgegffapikoaaPrWrong
import Derived.Test.YtplgegffapikoaaPrFile
import Derived.Test.YtplgegffapikoaaPrRunA
import Derived.Test.YtplgegffapikoaaRightPlain2
set_option linter.unusedVariables false
namespace Go.Proofs.Ytplgegffapikoaa
open Go.RowKit
theorem alive_named : named [65] = true ∧ named [120] = true ∧ named [121] = true := by decide
theorem alive_right : wrongN aliveF = (0, 0) := by decide +kernel
theorem alive_nums : numsN ⟨[65], aliveFl, []⟩ = [1, 2] := by
  unfold numsN aliveFl
  simp [List.mergeSort]
theorem alive_make : makeN aliveF = [aliveP] := by
  unfold makeN aliveF aliveMs prgN
  simp only [List.map_cons, List.map_nil, alive_nums]
  rfl
theorem alive_ok : ∀ p ∈ [aliveP], PrgOk 1 p := fun p hp => by
  have h : p ∈ makeN aliveF := by rw [alive_make]; exact hp
  obtain ⟨m, hm, rfl⟩ := List.mem_map.1 h
  exact prg_ok (f := aliveF) ((wrongN_ok (f := aliveF) (by rw [alive_right])).2.2.2.1 m hm)
set_option maxRecDepth 100000 in
set_option maxHeartbeats 1600000 in
theorem prRun_alive (vl vv vb : Value) (w : World) (hl : RdS DPrg 1 All w vl [aliveP]) (hvb : RdS DU64 1 All w vb [1, 2]) (hvv : RdS DVal4 4 All w vv [(1, vb, .slice none 0 0, .slice none 0 0)]) :
    Calls Try.prog 32 #[vl, .int .i64 0, .agg #[vv, .slice none 0 0]] w fun e w' => ∃ v', e = .returned (.tuple #[v', .int .i64 0]) ∧ RdB All w' v' [10, 2, 2, 4] ∧ Up w w' := by
  have hpw := fun wx (u : Up w wx) => prwrong_ok vl [aliveP] wx (hl.up stable_prg u) (by decide) alive_ok
  have hrun := fun M X wx (u : Up w wx) h0 h1 h2 h3 => run_alive M X vl vv vb wx h0 h1 h2 h3 (hl.up stable_prg u) (hvb.up stable_u64 u) (hvv.up stable_val4 u)
  obtain ⟨lo, lc, rfl, _, _⟩ := hl.val
  obtain ⟨vo, vc, rfl, _, _⟩ := hvv.val
  have Hpw := Lib.hid hpw; have Hrun := Lib.hid hrun
  clear hpw hrun hl hvb hvv
  go_enter Try.func32, Try.ntmps32
  go_wp2_with fail
  have hb0 := blk_new w (.cells #[.slice vo 1 vc, .slice none 0 0] 57) rfl
  have hu0 := (Up.refl w).alloc (.cells #[.slice vo 1 vc, .slice none 0 0] 57)
  refine (Hpw.out _ hu0).mono ?_
  rintro e w1 ⟨rfl, hu1⟩
  have hb1 := hu1.blk hb0
  have Hu1 := Lib.hid (hu0.trans hu1)
  clear hu1 hu0 hb0 Hpw
  go_upto_region 7 with (fail)
  have hb2 : ((w1.alloc (.cells #[.int .i64 0, .int .i64 0] 34)).alloc (.cells #[.slice lo 1 lc, .int .i64 0] 112)).heap[w.heap.size]? = _ := blk_old _ (blk_old _ hb1)
  have hb3 : ((w1.alloc (.cells #[.int .i64 0, .int .i64 0] 34)).alloc (.cells #[.slice lo 1 lc, .int .i64 0] 112)).heap[w1.heap.size + 1]? = some (.cells #[.slice lo 1 lc, .int .i64 0] 112 (0, 0)) := blk_new (w1.alloc _) _ (by simp)
  have hu2 := (Hu1.out.alloc (.cells #[.int .i64 0, .int .i64 0] 34)).alloc (.cells #[.slice lo 1 lc, .int .i64 0] 112)
  generalize (w1.alloc (.cells #[.int .i64 0, .int .i64 0] 34)).alloc (.cells #[.slice lo 1 lc, .int .i64 0] 112) = w2 at *
  have hr := Hrun.out (w1.heap.size + 1) w.heap.size w2 hu2 (cell_of_row w2 _ 0 _ _ _ hb3) (cell_of_row w2 _ 1 _ _ _ hb3) (cell_of_row w2 _ 0 _ _ _ hb2) (cell_of_row w2 _ 1 _ _ _ hb2)
  have Hr := Lib.hid hr; have Hb3 := Lib.hid hb3; have Hu2 := Lib.hid hu2
  clear hr hb1 hb2 hb3 hu2 Hrun
  go_wp2_with fail
  (with_reducible refine Hr.out.mono ?_)
  rintro e w3 ⟨v3, rfl, hr3, hu3⟩
  obtain ⟨a3, c3, rfl, _, _⟩ := hr3.val
  have m1 : w3.cell? ⟨w1.heap.size + 1, 1, none⟩ = some (.int .i64 0) := cell_of_row w3 _ 1 _ _ _ (hu3.blk Hb3.out)
  have Hr3 := Lib.hid hr3; have Hu3 := Lib.hid (Hu2.out.trans hu3)
  clear hr3 hu3
  go_wp2_with fail
  refine bodyPost_ret (v := .tuple #[.slice a3 4 c3, .int .i64 0]) (by simp [results, Try.results32, go_sem]) rfl ?_
  exact ⟨_, rfl, Hr3.out, Hu3.out⟩
set_option maxRecDepth 100000 in
set_option maxHeartbeats 3200000 in
theorem pralive_any (w : World) :
    Calls Try.prog 34 #[] w fun e w' => e = .returned (.bool true) ∧ Up w w' := by
  have Hfile := Lib.hid (prfile_any w)
  have Hmk := Lib.hid (fun v wx (h : FilV All wx v aliveF) => make_any v aliveF wx h ⟨by decide, by decide, by unfold aliveF aliveMs aliveFl; simp, by unfold aliveF; simp⟩)
  have Hrun := Lib.hid prRun_alive
  go_enter Try.func34, Try.ntmps34
  go_wp2_with fail
  refine Hfile.out.mono ?_
  rintro e w1 ⟨v1, rfl, hf1, hu1⟩
  go_wp2_with fail
  refine (Hmk.out _ _ hf1).mono ?_
  rw [alive_right]
  rintro e w2 ⟨v2, rfl, hr2, hu2⟩
  rw [if_pos rfl, alive_make] at hr2
  obtain ⟨a2, c2, rfl, _, _⟩ := hr2.val
  have Hr2 := Lib.hid hr2; have Hu2 := Lib.hid (hu1.trans hu2)
  clear hf1 hr2 hu1 hu2 Hfile Hmk
  go_wp2_with fail
  have hb0 : (((w2.alloc (.cells #[.int .i64 0, .int .i64 0] 34)).alloc (.cells #[.int .u64 1, .int .u64 2] 22)).alloc (.cells #[.int .i64 1, .slice (some ⟨w2.heap.size + 1, 0, none⟩) 2 2, .slice none 0 0, .slice none 0 0] 121)).heap[w2.heap.size]? = some (.cells #[.int .i64 0, .int .i64 0] 34 (0, 0)) := blk_old _ (blk_old _ (blk_new w2 _ rfl))
  have hb1 : (((w2.alloc (.cells #[.int .i64 0, .int .i64 0] 34)).alloc (.cells #[.int .u64 1, .int .u64 2] 22)).alloc (.cells #[.int .i64 1, .slice (some ⟨w2.heap.size + 1, 0, none⟩) 2 2, .slice none 0 0, .slice none 0 0] 121)).heap[w2.heap.size + 1]? = some (.cells ([[.int .u64 1], [.int .u64 2]] : List (List Value)).flatten.toArray 22 (0, 0)) := blk_old _ (blk_new (w2.alloc _) _ (by simp))
  have hb2 : (((w2.alloc (.cells #[.int .i64 0, .int .i64 0] 34)).alloc (.cells #[.int .u64 1, .int .u64 2] 22)).alloc (.cells #[.int .i64 1, .slice (some ⟨w2.heap.size + 1, 0, none⟩) 2 2, .slice none 0 0, .slice none 0 0] 121)).heap[w2.heap.size + 1 + 1]? = some (.cells ([[.int .i64 1, .slice (some ⟨w2.heap.size + 1, 0, none⟩) 2 2, .slice none 0 0, .slice none 0 0]] : List (List Value)).flatten.toArray 121 (0, 0)) := blk_new ((w2.alloc _).alloc _) _ (by simp)
  have hu23 : Up w2 (((w2.alloc (.cells #[.int .i64 0, .int .i64 0] 34)).alloc (.cells #[.int .u64 1, .int .u64 2] 22)).alloc (.cells #[.int .i64 1, .slice (some ⟨w2.heap.size + 1, 0, none⟩) 2 2, .slice none 0 0, .slice none 0 0] 121)) := (((Up.refl w2).alloc _).alloc _).alloc _
  generalize (((w2.alloc (.cells #[.int .i64 0, .int .i64 0] 34)).alloc (.cells #[.int .u64 1, .int .u64 2] 22)).alloc (.cells #[.int .i64 1, .slice (some ⟨w2.heap.size + 1, 0, none⟩) 2 2, .slice none 0 0, .slice none 0 0] 121)) = w3 at *
  have hvb : RdS DU64 1 All w3 (.slice (some ⟨w2.heap.size + 1, 0, none⟩) 2 2) [1, 2] := by
    refine rdS_of_block (α := Nat) (D := DU64) (size := 1) (S := All) [1, 2] [[.int .u64 1], [.int .u64 2]] hb1 rfl trivial rfl (fun i hi => ?_) rfl (by omega) (by unfold maxLen; omega)
    match i, hi with
    | 0, _ => exact ⟨_, rfl, rfl, rfl, by simp⟩
    | 1, _ => exact ⟨_, rfl, rfl, rfl, by simp⟩
  have hvv : RdS DVal4 4 All w3 (.slice (some ⟨w2.heap.size + 1 + 1, 0, none⟩) 1 1) [(1, .slice (some ⟨w2.heap.size + 1, 0, none⟩) 2 2, .slice none 0 0, .slice none 0 0)] := by
    refine rdS_of_block (S := All) [(1, Value.slice (some ⟨w2.heap.size + 1, 0, none⟩) 2 2, Value.slice none 0 0, Value.slice none 0 0)] [[.int .i64 1, .slice (some ⟨w2.heap.size + 1, 0, none⟩) 2 2, .slice none 0 0, .slice none 0 0]] hb2 rfl trivial rfl (fun i hi => ?_) rfl (by omega) (by unfold maxLen; omega)
    match i, hi with
    | 0, _ => exact ⟨_, rfl, rfl, rfl, ⟨_, _, _, rfl⟩, ⟨_, _, _, rfl⟩, ⟨_, _, _, rfl⟩⟩
  have hr3 := Hrun.out _ _ _ w3 (Hr2.out.up stable_prg hu23) hvb hvv
  have Hr3 := Lib.hid hr3; have Hb0 := Lib.hid hb0; have Hu23 := Lib.hid hu23
  clear hr3 hb0 hb1 hb2 hu23 hvb hvv Hrun
  refine Hr3.out.mono ?_
  rintro e w4 ⟨v4, rfl, hr4, hu4⟩
  obtain ⟨a4, c4, rfl, hc41, hc42⟩ := hr4.val
  have e0 : w4.cell? ⟨w2.heap.size, 0, none⟩ = some (.int .i64 0) := cell_of_row w4 _ 0 _ _ _ (hu4.blk Hb0.out)
  have hr24 := Hr2.out.up stable_prg (Hu23.out.trans hu4)
  obtain ⟨b, o, cs, rfl, hb, _, hcs, hd⟩ := hr24.at (i := 0) (by decide)
  obtain ⟨vp, hd, hp⟩ := hd
  subst hd
  have p0 := hcs 0 _ rfl
  simp only [Nat.add_zero, Nat.zero_mul] at p0
  change RdS DStp 5 All w4 vp aliveP at hp
  obtain ⟨po, pc, rfl, hp1, hp2⟩ := hp.val
  obtain ⟨b2, o2, cs, rfl, hb2, _, hcs1, hd⟩ := hp.at (i := 1) (by decide)
  obtain ⟨hd, _⟩ := hd
  subst hd
  have u4 : w4.cell? ⟨b2, o2 + 5 + 4, none⟩ = some (.int .i64 0) := by have h := hcs1 4 _ rfl; simpa [aliveP] using h
  change w4.cell? ⟨b, o, none⟩ = some (.slice (some ⟨b2, o2, none⟩) 2 pc) at p0
  have hc1 := run_conv (P := Try.prog) (w := w4) hr4 23 5 9 Try.underlying23 Try.underlying5 Try.underlying9
  have hrb : RdB All (w4.alloc (.cells #[.int .u8 10, .int .u8 2, .int .u8 2, .int .u8 4] 5)) (.slice (some ⟨w4.heap.size, 0, none⟩) 4 4) [10, 2, 2, 4] := rdB_of_block [10, 2, 2, 4] (blk_new w4 _ rfl) rfl trivial rfl (by omega) (by unfold maxLen; omega)
  have hc2 := run_conv (P := Try.prog) hrb 23 5 9 Try.underlying23 Try.underlying5 Try.underlying9
  have Hu4 := Lib.hid (Hu2.out.trans (Hu23.out.trans hu4))
  clear hr24 hcs hcs1 hp hr4 hrb hu4 Hr2 Hr3 hp1 hp2 hc41 hc42
  change (convert 23 9 (.slice a4 4 c4)).run Try.prog w4 = _ at hc1
  go_wp2_with fail
  go_ret
  exact ⟨rfl, Hu4.out.alloc _⟩
end Go.Proofs.Ytplgegffapikoaa
