/-
  presslaw4.alive (written by gen_alive.py).
-/
import Derived.Test.YtplgegffapikoaaDoorAlive
import Derived.Test.YtplgegffapikoaaDoorPt12
import Derived.Test.YtplgegffapikoaaDoorPt11
set_option linter.unusedVariables false
namespace Go.Proofs.YtplgegffapikoaaDoor
open Go.RowKit
theorem unk_A : UnkLe 1 12 bodA := ⟨Nat.zero_le _, fun v hv s hs => by
  have h : v.2.2.2 = [] := by
    have hv' : v ∈ [((1 : Int), [5], ([] : List (List UInt8)), ([] : List Bod)), (2, [], [[113]], [])] := hv
    rcases List.mem_cons.1 hv' with rfl | hv'
    · rfl
    · rcases List.mem_cons.1 hv' with rfl | hv'
      · rfl
      · cases hv'
  rw [h] at hs; cases hs⟩
theorem valid_q : Lib.validD [113] = true := by decide +kernel
theorem wrong_A : wrongA fileA 0 bodA = 0 := by decide +kernel
theorem wrong_B : wrongA fileA 0 bodB = 0 := by decide +kernel
theorem join_A : joinA fileA 0 bodA bodA = (bodB, 0) := by
  have e : joinB fileA 12 0 bodA bodA = bodB := by rfl
  unfold joinA
  rw [wrong_A, e, wrong_B]
  rfl
set_option maxRecDepth 100000 in
set_option maxHeartbeats 6400000 in
theorem alive_true (w : World) (hT : Tabs w) : Calls Tryd.prog 21 #[] w fun e w' => e = .returned (.bool true) ∧ Up w w' := by
  have HT := Lib.hid hT
  clear hT
  go_enter Tryd.func21, Tryd.ntmps21
  go_upto_region 2 with (fail)
  generalize hW : ((((w.alloc (.cells #[.int .u64 5] 35)).alloc (.cells #[.int .u8 113] 5)).alloc (.cells #[.slice (some ⟨w.heap.size + 1, 0, none⟩) 1 1] 73)).alloc (.cells #[.int .i64 1, .slice (some ⟨w.heap.size, 0, none⟩) 1 1, .slice none 0 0, .slice none 0 0, .int .i64 2, .slice none 0 0, .slice (some ⟨w.heap.size + 1 + 1, 0, none⟩) 1 1, .slice none 0 0] 34)).alloc (.cells #[.slice (some ⟨w.heap.size + 1 + 1 + 1, 0, none⟩) 2 2, .slice none 0 0] 29) = w1
  have hb0 : w1.heap[w.heap.size]? = some (.cells #[.int .u64 5] 35 (0, 0)) := by rw [← hW]; exact blk_old _ (blk_old _ (blk_old _ (blk_old _ (blk_new w _ rfl))))
  have hb1 : w1.heap[w.heap.size + 1]? = some (.cells #[.int .u8 113] 5 (0, 0)) := by rw [← hW]; exact blk_old _ (blk_old _ (blk_old _ (blk_new (w.alloc _) _ (by simp))))
  have hb2 : w1.heap[w.heap.size + 2]? = some (.cells #[.slice (some ⟨w.heap.size + 1, 0, none⟩) 1 1] 73 (0, 0)) := by rw [← hW]; exact blk_old _ (blk_old _ (blk_new ((w.alloc _).alloc _) _ (by simp)))
  have hb3 : w1.heap[w.heap.size + 3]? = some (.cells #[.int .i64 1, .slice (some ⟨w.heap.size, 0, none⟩) 1 1, .slice none 0 0, .slice none 0 0, .int .i64 2, .slice none 0 0, .slice (some ⟨w.heap.size + 1 + 1, 0, none⟩) 1 1, .slice none 0 0] 34 (0, 0)) := by rw [← hW]; exact blk_old _ (blk_new (((w.alloc _).alloc _).alloc _) _ (by simp))
  have hb4 : w1.heap[w.heap.size + 4]? = some (.cells #[.slice (some ⟨w.heap.size + 1 + 1 + 1, 0, none⟩) 2 2, .slice none 0 0] 29 (0, 0)) := by rw [← hW]; exact blk_new ((((w.alloc _).alloc _).alloc _).alloc _) _ (by simp)
  have hu1 : Up w w1 := by rw [← hW]; exact ((((((Up.refl w).alloc _).alloc _).alloc _).alloc _).alloc _)
  clear hW
  have hda : DBodF 2 All w1 bodA [.slice (some ⟨w.heap.size + 3, 0, none⟩) 2 2, .slice none 0 0] := by
    refine ⟨_, _, rfl, rds_block (l := bodA.values) hb3 trivial (by decide) (fun i hi => ?_), rdS_nil _ _ _ _, by unfold BodSz; decide⟩
    have hi2 : i < 2 := hi
    rcases i with _ | _ | i
    · exact ⟨rfl, ⟨_, _, _, rfl, (show okI 1 by unfold okI; decide), rds_block (l := [5]) hb0 trivial (by decide) (fun j hj => by
        have : j = 0 := by have h : j < 1 := hj; omega
        subst this
        exact ⟨rfl, rfl, (show (5 : Nat) < 2 ^ 64 by decide)⟩), rdS_nil _ _ _ _, rdS_nil _ _ _ _, (show ValSz ((1 : Int), [5], [], []) by unfold ValSz; decide)⟩⟩
    · exact ⟨rfl, ⟨_, _, _, rfl, (show okI 2 by unfold okI; decide), rdS_nil _ _ _ _, rds_block (l := [[113]]) hb2 trivial (by decide) (fun j hj => by
        have : j = 0 := by have h : j < 1 := hj; omega
        subst this
        exact ⟨rfl, _, rfl, rds_block (D := DU8) (l := [113]) hb1 trivial (by decide) (fun k hk => by
          have : k = 0 := by have h : k < 1 := hk; omega
          subst this
          exact ⟨rfl, rfl⟩), (show (1 : Nat) ≤ 140737488355328 by decide)⟩), rdS_nil _ _ _ _, (show ValSz ((2 : Int), [], [[113]], []) by unfold ValSz; decide)⟩⟩
    · omega
  have HD := Lib.hid (fun W (u : Up w1 W) => stable_bod _ _ _ _ _ _ _ (Keep.upS u) hda)
  have Hu1 := Lib.hid hu1
  have hq4 : w.heap.size + 4 < w1.heap.size := lt_of_block hb4
  have t10 : w1.cell? ⟨w.heap.size + 1 + 1 + 1 + 1, 0, none⟩ = some (.slice (some ⟨w.heap.size + 1 + 1 + 1, 0, none⟩) 2 2) := cell_of_row w1 _ 0 _ _ _ hb4
  have t11 : w1.cell? ⟨w.heap.size + 1 + 1 + 1 + 1, 1, none⟩ = some (.slice none 0 0) := cell_of_row w1 _ 1 _ _ _ hb4
  have DD := Lib.hid (fun W (u : Up w1 W) => (⟨u.cell_some t10, u.cell_some t11⟩ : W.cell? ⟨w.heap.size + 1 + 1 + 1 + 1, 0, none⟩ = some (.slice (some ⟨w.heap.size + 1 + 1 + 1, 0, none⟩) 2 2) ∧ W.cell? ⟨w.heap.size + 1 + 1 + 1 + 1, 1, none⟩ = some (.slice none 0 0)))
  clear hb0 hb1 hb2 hb3 hb4 hu1 hda
  go_cut [2, 3] (fun p e wc => ∃ (G : Nat) (vv vu : Value), p = .pointer (some ⟨G, 0, none⟩) ∧ e = .int .i64 0 ∧ wc.heap[G]? = some (.cells #[vv, vu] 29 (0, 0)) ∧ DBodF 2 All wc bodB [vv, vu] ∧ Up w1 wc)
  case first =>
    refine wp_region_held_drew (S := fun w' => w'.cell? ⟨w.heap.size + 1 + 1 + 1 + 1, 0, none⟩ = some (.slice (some ⟨w.heap.size + 1 + 1 + 1, 0, none⟩) 2 2) ∧ w'.cell? ⟨w.heap.size + 1 + 1 + 1 + 1, 1, none⟩ = some (.slice none 0 0)) (by kernel_rfl) (DD.out _ (Up.refl w1).drew) (fun hHeld => ?_)
    have hu := (Up.refl w1).drew
    have hHeld := DD.out _ hu
    clear t10 t11
    refine wpAnyH_take (i := 1) (v := ?_) (by simp only [List.getElem?_toArray, List.getElem?_cons_succ, List.getElem?_cons_zero] <;> rfl) (by kernel_rfl) (by kernel_rfl) (by kernel_rfl) (fun _ _ _ h => by exact h) (Or.inl ⟨by rfl, ?_⟩) (by assumption) ?_
    rotate_left
    · (intro w hSw; (try dsimp only at hSw); go_simp)
      try with_reducible rfl
    rotate_left
    try simp only [Act.put, List.setIfInBounds_toArray, List.set_cons_zero, List.set_cons_succ]
    refine wpAnyH_take (i := 2) (v := ?_) (by simp only [List.getElem?_toArray, List.getElem?_cons_succ, List.getElem?_cons_zero] <;> rfl) (by kernel_rfl) (by kernel_rfl) (by kernel_rfl) (fun _ _ _ h => by exact h) (Or.inl ⟨by rfl, ?_⟩) (by assumption) ?_
    rotate_left
    · (intro w hSw; (try dsimp only at hSw); go_simp)
      try with_reducible rfl
    rotate_left
    try simp only [Act.put, List.setIfInBounds_toArray, List.set_cons_zero, List.set_cons_succ]
    refine wpAnyH_ready (rs := [0, 7]) (by kernel_rfl) (by simp) ?_
    refine AllReadyH.cons (by simp only [List.getElem?_toArray, List.getElem?_cons_zero] <;> rfl) (fun K hK => ?_) (AllReadyH.cons (by simp only [List.getElem?_toArray, List.getElem?_cons_succ, List.getElem?_cons_zero] <;> rfl) (fun K hK => ?_) AllReadyH.nil)
    · go_simp
      refine (file_a _).mono ?_
      rintro e w5 ⟨mb, rfl, hfa, hs⟩
      have hu := hu.trans hs
      refine hK.out _ _ (DD.out _ hu) (fun hHeld => ?_)
      clear hK K hHeld hs
      have hHeld := DD.out _ hu
      try simp only [Act.put, List.setIfInBounds_toArray, List.set_cons_zero, List.set_cons_succ]
      refine wpAnyH_ready (rs := [3, 7]) (by kernel_rfl) (by simp) ?_
      refine AllReadyH.cons (by simp only [List.getElem?_toArray, List.getElem?_cons_succ, List.getElem?_cons_zero] <;> rfl) (fun K hK => ?_) (AllReadyH.cons (by simp only [List.getElem?_toArray, List.getElem?_cons_succ, List.getElem?_cons_zero] <;> rfl) (fun K hK => ?_) AllReadyH.nil)
      · go_simp
        have hjc := join_any 1 2 (by decide) fileA (.agg #[.slice (some ⟨mb, 0, none⟩) 1 1, .slice none 0 0]) (.slice (some ⟨w.heap.size + 1 + 1 + 1, 0, none⟩) 2 2) (.slice none 0 0) (.slice (some ⟨w.heap.size + 1 + 1 + 1, 0, none⟩) 2 2) (.slice none 0 0) 0 bodA bodA w5 hfa (HD.out _ hu) (HD.out _ hu) (HT.out.up (Hu1.out.trans hu)) unk_A unk_A
        rw [join_A] at hjc
        refine hjc.mono ?_
        rintro e w6 ⟨vv, vu, rfl, hd, hs⟩
        obtain ⟨x1, y1, z1, x2, y2, z2, hxy⟩ := bod_two hd
        simp only [List.cons.injEq, and_true] at hxy
        obtain ⟨rfl, rfl⟩ := hxy
        have H7 := Lib.hid (bod_all hd)
        have hfa := hfa.up hs
        have hu := hu.trans hs
        refine hK.out _ _ (DD.out _ hu) (fun hHeld => ?_)
        clear hK K hHeld hs hd hjc
        have hHeld := DD.out _ hu
        try simp only [Act.put, List.setIfInBounds_toArray, List.set_cons_zero, List.set_cons_succ]
        refine wpAnyH_take (i := 4) (v := ?_) (by simp only [List.getElem?_toArray, List.getElem?_cons_succ, List.getElem?_cons_zero] <;> rfl) (by kernel_rfl) (by kernel_rfl) (by kernel_rfl) (fun _ _ _ h => by exact h) (Or.inl ⟨by rfl, ?_⟩) (by assumption) ?_
        rotate_left
        · (intro w hSw; (try dsimp only at hSw); go_simp)
          try with_reducible rfl
        rotate_left
        try simp only [Act.put, List.setIfInBounds_toArray, List.set_cons_zero, List.set_cons_succ]
        refine wpAnyH_take (i := 5) (v := ?_) (by simp only [List.getElem?_toArray, List.getElem?_cons_succ, List.getElem?_cons_zero] <;> rfl) (by kernel_rfl) (by kernel_rfl) (by kernel_rfl) (fun _ _ _ h => by exact h) (Or.inl ⟨by rfl, ?_⟩) (by assumption) ?_
        rotate_left
        · (intro w hSw; (try dsimp only at hSw); go_simp)
          try with_reducible rfl
        rotate_left
        try simp only [Act.put, List.setIfInBounds_toArray, List.set_cons_zero, List.set_cons_succ]
        refine wpAnyH_take (i := 6) (v := ?_) (by simp only [List.getElem?_toArray, List.getElem?_cons_succ, List.getElem?_cons_zero] <;> rfl) (by kernel_rfl) (by kernel_rfl) (by kernel_rfl) (fun _ _ _ h => by exact h) (Or.inl ⟨by rfl, ?_⟩) (by assumption) ?_
        rotate_left
        · (intro w hSw; (try dsimp only at hSw); go_simp)
          try with_reducible rfl
        rotate_left
        try simp only [Act.put, List.setIfInBounds_toArray, List.set_cons_zero, List.set_cons_succ]
        refine wpAnyH_ready (rs := [7]) (by kernel_rfl) (by simp) ?_
        refine AllReadyH.cons (by simp only [List.getElem?_toArray, List.getElem?_cons_succ, List.getElem?_cons_zero] <;> rfl) (fun K hK => ?_) AllReadyH.nil
        go_simp
        have hs : Up w6 (w6.alloc (.cells #[.slice none 0 0, .slice none 0 0] 29)) := (Up.refl w6).alloc _
        have hka : Keep All w6 (fun b : Nat => b ≠ w6.heap.size) (w6.alloc (.cells #[.slice none 0 0, .slice none 0 0] 29)) := fun k _ hk => ⟨hs.block k hk, Nat.ne_of_lt hk⟩
        have hbg : (w6.alloc (.cells #[.slice none 0 0, .slice none 0 0] 29)).heap[w6.heap.size]? = some (.cells #[.slice none 0 0, .slice none 0 0] 29 (0, 0)) := blk_new w6 (.cells #[.slice none 0 0, .slice none 0 0] 29) rfl
        have hqg0 : ∀ x, w6.heap.size = x → w1.heap.size ≤ x := fun x e => e ▸ hu.size
        have hu : Up w1 (w6.alloc (.cells #[.slice none 0 0, .slice none 0 0] 29)) := hu.trans hs
        refine hK.out _ _ (DD.out _ hu) (fun hHeld => ?_)
        clear hK K hHeld
        obtain ⟨G, hG⟩ : ∃ G, w6.heap.size = G := ⟨_, rfl⟩
        have hqg := hqg0 G hG
        clear hqg0
        rw [hG] at hka hbg
        have hHeld := DD.out _ hu
        have hfa := hfa.up hs
        have H7 := Lib.hid (stable_bod _ _ _ _ _ _ _ hka H7.out)
        obtain ⟨w7, hww7⟩ : ∃ x, w6.alloc (.cells #[.slice none 0 0, .slice none 0 0] 29) = x := ⟨_, rfl⟩
        rw [hww7] at hu hbg hHeld hs hka H7 hfa ⊢
        try rw [hG]
        clear hww7 hka
        try simp only [Act.put, List.setIfInBounds_toArray, List.set_cons_zero, List.set_cons_succ]
        have q0 : w7.cell? ⟨G, 0, none⟩ = some (.slice none 0 0) := cell_of_row w7 G 0 _ _ _ hbg
        have q1 : w7.cell? ⟨G, 1, none⟩ = some (.slice none 0 0) := cell_of_row w7 G 1 _ _ _ hbg
        have tf : ∀ o, w7.frozen? ⟨G, o, none⟩ = false := fun o => frozen_of_row w7 G o _ _ hbg
        have tz : G < w7.heap.size := lt_of_block hbg
        have hfin := Up.setCell (Up.setCell hu (p := ⟨G, 0, none⟩) hqg (.slice x1 y1 z1)) (p := ⟨G, 1, none⟩) hqg (.slice x2 y2 z2)
        have hboxed := box2_set hbg (.slice x1 y1 z1) (.slice x2 y2 z2)
        have hlast := stable_bod _ _ _ _ _ _ _ (((Keep.setCell (S := (fun b : Nat => b ≠ G)) (w := w7) (p := ⟨G, 0, none⟩) (fun h => h rfl) (.slice x1 y1 z1)).trans (Keep.setCell (p := ⟨G, 1, none⟩) (fun h => h rfl) (.slice x2 y2 z2))).trans Keep.all) H7.out
        have Hfin := Lib.hid hfin; have Hboxed := Lib.hid hboxed; have Hlast := Lib.hid hlast
        clear hfin hboxed hlast hbg hqg hu H7
        refine wpAnyH_ready (rs := [8]) (by kernel_rfl) (by simp) ?_
        refine AllReadyH.cons (by simp only [List.getElem?_toArray, List.getElem?_cons_succ, List.getElem?_cons_zero] <;> rfl) (fun K hK => ?_) AllReadyH.nil
        go_simp
        refine hK.out _ _ (DD.out _ Hfin.out) (fun hHeld => ?_)
        clear hK K hHeld q0 q1 tf tz
        have hHeld := DD.out _ Hfin.out
        try simp only [Act.put, List.setIfInBounds_toArray, List.set_cons_zero, List.set_cons_succ]
        refine wpAnyH_take (i := 9) (v := ?_) (by simp only [List.getElem?_toArray, List.getElem?_cons_succ, List.getElem?_cons_zero] <;> rfl) (by kernel_rfl) (by kernel_rfl) (by kernel_rfl) (fun _ _ _ h => by exact h) (Or.inl ⟨by rfl, ?_⟩) (by assumption) ?_
        rotate_left
        · (intro w hSw; (try dsimp only at hSw); go_simp)
          try with_reducible rfl
        rotate_left
        try simp only [Act.put, List.setIfInBounds_toArray, List.set_cons_zero, List.set_cons_succ]
        refine wpAnyH_done (by kernel_rfl) ?_ _
        go_wp2_with fail
        go_meet
        exact ⟨G, _, _, rfl, rfl, Hboxed.out, Hlast.out, Hfin.out⟩
      · go_simp
        have hs : Up w5 (w5.alloc (.cells #[.slice none 0 0, .slice none 0 0] 29)) := (Up.refl w5).alloc _
        have hka : Keep All w5 (fun b : Nat => b ≠ w5.heap.size) (w5.alloc (.cells #[.slice none 0 0, .slice none 0 0] 29)) := fun k _ hk => ⟨hs.block k hk, Nat.ne_of_lt hk⟩
        have hbg : (w5.alloc (.cells #[.slice none 0 0, .slice none 0 0] 29)).heap[w5.heap.size]? = some (.cells #[.slice none 0 0, .slice none 0 0] 29 (0, 0)) := blk_new w5 (.cells #[.slice none 0 0, .slice none 0 0] 29) rfl
        have hqg0 : ∀ x, w5.heap.size = x → w1.heap.size ≤ x := fun x e => e ▸ hu.size
        have hu : Up w1 (w5.alloc (.cells #[.slice none 0 0, .slice none 0 0] 29)) := hu.trans hs
        refine hK.out _ _ (DD.out _ hu) (fun hHeld => ?_)
        clear hK K hHeld
        obtain ⟨G, hG⟩ : ∃ G, w5.heap.size = G := ⟨_, rfl⟩
        have hqg := hqg0 G hG
        clear hqg0
        rw [hG] at hka hbg
        have hHeld := DD.out _ hu
        have hfa := hfa.up hs
        obtain ⟨w6, hww6⟩ : ∃ x, w5.alloc (.cells #[.slice none 0 0, .slice none 0 0] 29) = x := ⟨_, rfl⟩
        rw [hww6] at hu hbg hHeld hs hka  hfa ⊢
        try rw [hG]
        clear hww6 hka
        try simp only [Act.put, List.setIfInBounds_toArray, List.set_cons_zero, List.set_cons_succ]
        refine wpAnyH_ready (rs := [3]) (by kernel_rfl) (by simp) ?_
        refine AllReadyH.cons (by simp only [List.getElem?_toArray, List.getElem?_cons_succ, List.getElem?_cons_zero] <;> rfl) (fun K hK => ?_) AllReadyH.nil
        go_simp
        have hjc := join_any 1 2 (by decide) fileA (.agg #[.slice (some ⟨mb, 0, none⟩) 1 1, .slice none 0 0]) (.slice (some ⟨w.heap.size + 1 + 1 + 1, 0, none⟩) 2 2) (.slice none 0 0) (.slice (some ⟨w.heap.size + 1 + 1 + 1, 0, none⟩) 2 2) (.slice none 0 0) 0 bodA bodA w6 hfa (HD.out _ hu) (HD.out _ hu) (HT.out.up (Hu1.out.trans hu)) unk_A unk_A
        rw [join_A] at hjc
        refine hjc.mono ?_
        rintro e w7 ⟨vv, vu, rfl, hd, hs⟩
        obtain ⟨x1, y1, z1, x2, y2, z2, hxy⟩ := bod_two hd
        simp only [List.cons.injEq, and_true] at hxy
        obtain ⟨rfl, rfl⟩ := hxy
        have H7 := Lib.hid (stable_bod 2 _ _ (fun b : Nat => b ≠ G) _ _ _ (Keep.weak (fun b (hb : From _ b) e => by have h1 : _ ≤ b := hb; have := lt_of_block hbg; omega)) hd)
        have hbg := hs.blk hbg
        have hfa := hfa.up hs
        have hu := hu.trans hs
        refine hK.out _ _ (DD.out _ hu) (fun hHeld => ?_)
        clear hK K hHeld hs hd hjc
        have hHeld := DD.out _ hu
        try simp only [Act.put, List.setIfInBounds_toArray, List.set_cons_zero, List.set_cons_succ]
        refine wpAnyH_take (i := 4) (v := ?_) (by simp only [List.getElem?_toArray, List.getElem?_cons_succ, List.getElem?_cons_zero] <;> rfl) (by kernel_rfl) (by kernel_rfl) (by kernel_rfl) (fun _ _ _ h => by exact h) (Or.inl ⟨by rfl, ?_⟩) (by assumption) ?_
        rotate_left
        · (intro w hSw; (try dsimp only at hSw); go_simp)
          try with_reducible rfl
        rotate_left
        try simp only [Act.put, List.setIfInBounds_toArray, List.set_cons_zero, List.set_cons_succ]
        refine wpAnyH_take (i := 5) (v := ?_) (by simp only [List.getElem?_toArray, List.getElem?_cons_succ, List.getElem?_cons_zero] <;> rfl) (by kernel_rfl) (by kernel_rfl) (by kernel_rfl) (fun _ _ _ h => by exact h) (Or.inl ⟨by rfl, ?_⟩) (by assumption) ?_
        rotate_left
        · (intro w hSw; (try dsimp only at hSw); go_simp)
          try with_reducible rfl
        rotate_left
        try simp only [Act.put, List.setIfInBounds_toArray, List.set_cons_zero, List.set_cons_succ]
        refine wpAnyH_take (i := 6) (v := ?_) (by simp only [List.getElem?_toArray, List.getElem?_cons_succ, List.getElem?_cons_zero] <;> rfl) (by kernel_rfl) (by kernel_rfl) (by kernel_rfl) (fun _ _ _ h => by exact h) (Or.inl ⟨by rfl, ?_⟩) (by assumption) ?_
        rotate_left
        · (intro w hSw; (try dsimp only at hSw); go_simp)
          try with_reducible rfl
        rotate_left
        try simp only [Act.put, List.setIfInBounds_toArray, List.set_cons_zero, List.set_cons_succ]
        have q0 : w7.cell? ⟨G, 0, none⟩ = some (.slice none 0 0) := cell_of_row w7 G 0 _ _ _ hbg
        have q1 : w7.cell? ⟨G, 1, none⟩ = some (.slice none 0 0) := cell_of_row w7 G 1 _ _ _ hbg
        have tf : ∀ o, w7.frozen? ⟨G, o, none⟩ = false := fun o => frozen_of_row w7 G o _ _ hbg
        have tz : G < w7.heap.size := lt_of_block hbg
        have hfin := Up.setCell (Up.setCell hu (p := ⟨G, 0, none⟩) hqg (.slice x1 y1 z1)) (p := ⟨G, 1, none⟩) hqg (.slice x2 y2 z2)
        have hboxed := box2_set hbg (.slice x1 y1 z1) (.slice x2 y2 z2)
        have hlast := stable_bod _ _ _ _ _ _ _ (((Keep.setCell (S := (fun b : Nat => b ≠ G)) (w := w7) (p := ⟨G, 0, none⟩) (fun h => h rfl) (.slice x1 y1 z1)).trans (Keep.setCell (p := ⟨G, 1, none⟩) (fun h => h rfl) (.slice x2 y2 z2))).trans Keep.all) H7.out
        have Hfin := Lib.hid hfin; have Hboxed := Lib.hid hboxed; have Hlast := Lib.hid hlast
        clear hfin hboxed hlast hbg hqg hu H7
        refine wpAnyH_ready (rs := [8]) (by kernel_rfl) (by simp) ?_
        refine AllReadyH.cons (by simp only [List.getElem?_toArray, List.getElem?_cons_succ, List.getElem?_cons_zero] <;> rfl) (fun K hK => ?_) AllReadyH.nil
        go_simp
        refine hK.out _ _ (DD.out _ Hfin.out) (fun hHeld => ?_)
        clear hK K hHeld q0 q1 tf tz
        have hHeld := DD.out _ Hfin.out
        try simp only [Act.put, List.setIfInBounds_toArray, List.set_cons_zero, List.set_cons_succ]
        refine wpAnyH_take (i := 9) (v := ?_) (by simp only [List.getElem?_toArray, List.getElem?_cons_succ, List.getElem?_cons_zero] <;> rfl) (by kernel_rfl) (by kernel_rfl) (by kernel_rfl) (fun _ _ _ h => by exact h) (Or.inl ⟨by rfl, ?_⟩) (by assumption) ?_
        rotate_left
        · (intro w hSw; (try dsimp only at hSw); go_simp)
          try with_reducible rfl
        rotate_left
        try simp only [Act.put, List.setIfInBounds_toArray, List.set_cons_zero, List.set_cons_succ]
        refine wpAnyH_done (by kernel_rfl) ?_ _
        go_wp2_with fail
        go_meet
        exact ⟨G, _, _, rfl, rfl, Hboxed.out, Hlast.out, Hfin.out⟩
    · go_simp
      have hs : Up w1 ((w1.alloc (.cells #[.slice none 0 0, .slice none 0 0] 29)).drew) := ((Up.refl w1).alloc _).drew
      have hka : Keep All w1 (fun b : Nat => b ≠ w1.heap.size) ((w1.alloc (.cells #[.slice none 0 0, .slice none 0 0] 29)).drew) := fun k _ hk => ⟨hs.block k hk, Nat.ne_of_lt hk⟩
      have hbg : ((w1.alloc (.cells #[.slice none 0 0, .slice none 0 0] 29)).drew).heap[w1.heap.size]? = some (.cells #[.slice none 0 0, .slice none 0 0] 29 (0, 0)) := blk_new w1 (.cells #[.slice none 0 0, .slice none 0 0] 29) rfl
      have hqg0 : ∀ x, w1.heap.size = x → w1.heap.size ≤ x := fun x e => Nat.le_of_eq e
      have hu : Up w1 ((w1.alloc (.cells #[.slice none 0 0, .slice none 0 0] 29)).drew) := hs
      refine hK.out _ _ (DD.out _ hu) (fun hHeld => ?_)
      clear hK K hHeld
      obtain ⟨G, hG⟩ : ∃ G, w1.heap.size = G := ⟨_, rfl⟩
      have hqg := hqg0 G hG
      clear hqg0
      rw [hG] at hka hbg
      have hHeld := DD.out _ hu
      obtain ⟨w5, hww5⟩ : ∃ x, (w1.alloc (.cells #[.slice none 0 0, .slice none 0 0] 29)).drew = x := ⟨_, rfl⟩
      rw [hww5] at hu hbg hHeld hs hka  ⊢
      try rw [hG]
      clear hww5 hka
      try simp only [Act.put, List.setIfInBounds_toArray, List.set_cons_zero, List.set_cons_succ]
      refine wpAnyH_ready (rs := [0]) (by kernel_rfl) (by simp) ?_
      refine AllReadyH.cons (by simp only [List.getElem?_toArray, List.getElem?_cons_zero] <;> rfl) (fun K hK => ?_) AllReadyH.nil
      go_simp
      refine (file_a _).mono ?_
      rintro e w6 ⟨mb, rfl, hfa, hs⟩
      have hbg := hs.blk hbg
      have hu := hu.trans hs
      refine hK.out _ _ (DD.out _ hu) (fun hHeld => ?_)
      clear hK K hHeld hs
      have hHeld := DD.out _ hu
      try simp only [Act.put, List.setIfInBounds_toArray, List.set_cons_zero, List.set_cons_succ]
      refine wpAnyH_ready (rs := [3]) (by kernel_rfl) (by simp) ?_
      refine AllReadyH.cons (by simp only [List.getElem?_toArray, List.getElem?_cons_succ, List.getElem?_cons_zero] <;> rfl) (fun K hK => ?_) AllReadyH.nil
      go_simp
      have hjc := join_any 1 2 (by decide) fileA (.agg #[.slice (some ⟨mb, 0, none⟩) 1 1, .slice none 0 0]) (.slice (some ⟨w.heap.size + 1 + 1 + 1, 0, none⟩) 2 2) (.slice none 0 0) (.slice (some ⟨w.heap.size + 1 + 1 + 1, 0, none⟩) 2 2) (.slice none 0 0) 0 bodA bodA w6 hfa (HD.out _ hu) (HD.out _ hu) (HT.out.up (Hu1.out.trans hu)) unk_A unk_A
      rw [join_A] at hjc
      refine hjc.mono ?_
      rintro e w7 ⟨vv, vu, rfl, hd, hs⟩
      obtain ⟨x1, y1, z1, x2, y2, z2, hxy⟩ := bod_two hd
      simp only [List.cons.injEq, and_true] at hxy
      obtain ⟨rfl, rfl⟩ := hxy
      have H7 := Lib.hid (stable_bod 2 _ _ (fun b : Nat => b ≠ G) _ _ _ (Keep.weak (fun b (hb : From _ b) e => by have h1 : _ ≤ b := hb; have := lt_of_block hbg; omega)) hd)
      have hbg := hs.blk hbg
      have hfa := hfa.up hs
      have hu := hu.trans hs
      refine hK.out _ _ (DD.out _ hu) (fun hHeld => ?_)
      clear hK K hHeld hs hd hjc
      have hHeld := DD.out _ hu
      try simp only [Act.put, List.setIfInBounds_toArray, List.set_cons_zero, List.set_cons_succ]
      refine wpAnyH_take (i := 4) (v := ?_) (by simp only [List.getElem?_toArray, List.getElem?_cons_succ, List.getElem?_cons_zero] <;> rfl) (by kernel_rfl) (by kernel_rfl) (by kernel_rfl) (fun _ _ _ h => by exact h) (Or.inl ⟨by rfl, ?_⟩) (by assumption) ?_
      rotate_left
      · (intro w hSw; (try dsimp only at hSw); go_simp)
        try with_reducible rfl
      rotate_left
      try simp only [Act.put, List.setIfInBounds_toArray, List.set_cons_zero, List.set_cons_succ]
      refine wpAnyH_take (i := 5) (v := ?_) (by simp only [List.getElem?_toArray, List.getElem?_cons_succ, List.getElem?_cons_zero] <;> rfl) (by kernel_rfl) (by kernel_rfl) (by kernel_rfl) (fun _ _ _ h => by exact h) (Or.inl ⟨by rfl, ?_⟩) (by assumption) ?_
      rotate_left
      · (intro w hSw; (try dsimp only at hSw); go_simp)
        try with_reducible rfl
      rotate_left
      try simp only [Act.put, List.setIfInBounds_toArray, List.set_cons_zero, List.set_cons_succ]
      refine wpAnyH_take (i := 6) (v := ?_) (by simp only [List.getElem?_toArray, List.getElem?_cons_succ, List.getElem?_cons_zero] <;> rfl) (by kernel_rfl) (by kernel_rfl) (by kernel_rfl) (fun _ _ _ h => by exact h) (Or.inl ⟨by rfl, ?_⟩) (by assumption) ?_
      rotate_left
      · (intro w hSw; (try dsimp only at hSw); go_simp)
        try with_reducible rfl
      rotate_left
      try simp only [Act.put, List.setIfInBounds_toArray, List.set_cons_zero, List.set_cons_succ]
      have q0 : w7.cell? ⟨G, 0, none⟩ = some (.slice none 0 0) := cell_of_row w7 G 0 _ _ _ hbg
      have q1 : w7.cell? ⟨G, 1, none⟩ = some (.slice none 0 0) := cell_of_row w7 G 1 _ _ _ hbg
      have tf : ∀ o, w7.frozen? ⟨G, o, none⟩ = false := fun o => frozen_of_row w7 G o _ _ hbg
      have tz : G < w7.heap.size := lt_of_block hbg
      have hfin := Up.setCell (Up.setCell hu (p := ⟨G, 0, none⟩) hqg (.slice x1 y1 z1)) (p := ⟨G, 1, none⟩) hqg (.slice x2 y2 z2)
      have hboxed := box2_set hbg (.slice x1 y1 z1) (.slice x2 y2 z2)
      have hlast := stable_bod _ _ _ _ _ _ _ (((Keep.setCell (S := (fun b : Nat => b ≠ G)) (w := w7) (p := ⟨G, 0, none⟩) (fun h => h rfl) (.slice x1 y1 z1)).trans (Keep.setCell (p := ⟨G, 1, none⟩) (fun h => h rfl) (.slice x2 y2 z2))).trans Keep.all) H7.out
      have Hfin := Lib.hid hfin; have Hboxed := Lib.hid hboxed; have Hlast := Lib.hid hlast
      clear hfin hboxed hlast hbg hqg hu H7
      refine wpAnyH_ready (rs := [8]) (by kernel_rfl) (by simp) ?_
      refine AllReadyH.cons (by simp only [List.getElem?_toArray, List.getElem?_cons_succ, List.getElem?_cons_zero] <;> rfl) (fun K hK => ?_) AllReadyH.nil
      go_simp
      refine hK.out _ _ (DD.out _ Hfin.out) (fun hHeld => ?_)
      clear hK K hHeld q0 q1 tf tz
      have hHeld := DD.out _ Hfin.out
      try simp only [Act.put, List.setIfInBounds_toArray, List.set_cons_zero, List.set_cons_succ]
      refine wpAnyH_take (i := 9) (v := ?_) (by simp only [List.getElem?_toArray, List.getElem?_cons_succ, List.getElem?_cons_zero] <;> rfl) (by kernel_rfl) (by kernel_rfl) (by kernel_rfl) (fun _ _ _ h => by exact h) (Or.inl ⟨by rfl, ?_⟩) (by assumption) ?_
      rotate_left
      · (intro w hSw; (try dsimp only at hSw); go_simp)
        try with_reducible rfl
      rotate_left
      try simp only [Act.put, List.setIfInBounds_toArray, List.set_cons_zero, List.set_cons_succ]
      refine wpAnyH_done (by kernel_rfl) ?_ _
      go_wp2_with fail
      go_meet
      exact ⟨G, _, _, rfl, rfl, Hboxed.out, Hlast.out, Hfin.out⟩
  case rest =>
  obtain ⟨G, vv, vu, rfl, rfl, hbg, hdb, huc⟩ := hcut
  obtain ⟨x1, y1, z1, x2, y2, z2, hxy⟩ := bod_two hdb
  simp only [List.cons.injEq, and_true] at hxy
  obtain ⟨rfl, rfl⟩ := hxy
  have g0 : wc.cell? ⟨G, 0, none⟩ = some (.slice x1 y1 z1) := cell_of_row wc _ 0 _ _ _ hbg
  have g1 : wc.cell? ⟨G, 1, none⟩ = some (.slice x2 y2 z2) := cell_of_row wc _ 1 _ _ _ hbg
  obtain ⟨v1, v2, hvv, hvals, _, _⟩ := id hdb
  simp only [List.cons.injEq, and_true] at hvv
  obtain ⟨rfl, rfl⟩ := hvv
  have hget := get_v 1 (.slice x1 y1 z1) (.slice x2 y2 z2) bodB.values 2 wc hvals ⟨_, _, _, rfl⟩
  rw [show (findV bodB.values 2).getD val0 = ((2 : Int), ([] : List Nat), [[113], [113]], ([] : List Bod)) from rfl, show (findV bodB.values 2).isSome = true from rfl] at hget
  have Hget := Lib.hid hget
  have Huc := Lib.hid huc
  clear hget hvals hdb hbg huc t10 t11
  go_wp2_with fail
  refine Hget.out.mono ?_
  rintro e w5 ⟨s1, t1, s2, t2, s3, t3, rfl, _, hu5⟩
  have Hu5 := Lib.hid (Huc.out.trans hu5)
  clear hu5 g0 g1 Hget
  go_upto_region 4 with (fail)
  have hbv := blk_new w5 (.cells #[.int .i64 2, .slice s1 0 t1, .slice s2 2 t2, .slice s3 0 t3] 34) (g := w5.heap.size) rfl
  have hu6 := Hu5.out.trans ((Up.refl w5).alloc (.cells #[.int .i64 2, .slice s1 0 t1, .slice s2 2 t2, .slice s3 0 t3] 34))
  obtain ⟨V, hV⟩ : ∃ V, w5.heap.size = V := ⟨_, rfl⟩
  rw [hV] at hbv ⊢
  generalize hw6 : w5.alloc (.cells #[.int .i64 2, .slice s1 0 t1, .slice s2 2 t2, .slice s3 0 t3] 34) = w6 at *
  clear hw6
  have HV := Lib.hid (fun W (u : Up w6 W) => (cell_of_row W _ 2 _ _ _ (u.blk hbv) : W.cell? ⟨V, 2, none⟩ = some (.slice s2 2 t2)))
  have Hu6 := Lib.hid hu6
  have DD2 : Hid (∀ W, Up w6 W → W.cell? ⟨w.heap.size + 1 + 1 + 1 + 1, 0, none⟩ = some (.slice (some ⟨w.heap.size + 1 + 1 + 1, 0, none⟩) 2 2) ∧ W.cell? ⟨w.heap.size + 1 + 1 + 1 + 1, 1, none⟩ = some (.slice none 0 0) ∧ W.cell? ⟨V, 2, none⟩ = some (.slice s2 2 t2)) := Lib.hid (fun W u => ⟨(DD.out _ (Hu6.out.trans u)).1, (DD.out _ (Hu6.out.trans u)).2, HV.out _ u⟩)
  clear hu6 hbv DD
  refine wp_region_held_drew (S := fun w' => w'.cell? ⟨w.heap.size + 1 + 1 + 1 + 1, 0, none⟩ = some (.slice (some ⟨w.heap.size + 1 + 1 + 1, 0, none⟩) 2 2) ∧ w'.cell? ⟨w.heap.size + 1 + 1 + 1 + 1, 1, none⟩ = some (.slice none 0 0) ∧ w'.cell? ⟨V, 2, none⟩ = some (.slice s2 2 t2)) (by kernel_rfl) (DD2.out _ (Up.refl w6).drew) (fun hHeld => ?_)
  have hu := (Up.refl w6).drew
  have hHeld := DD2.out _ hu
  refine wpAnyH_take (i := 0) (v := ?_) (by simp only [List.getElem?_toArray, List.getElem?_cons_zero] <;> rfl) (by kernel_rfl) (by kernel_rfl) (by kernel_rfl) (fun _ _ _ h => by exact h) (Or.inl ⟨by rfl, ?_⟩) (by assumption) ?_
  rotate_left
  · (intro w hSw; (try dsimp only at hSw); go_simp)
    try with_reducible rfl
  rotate_left
  try simp only [Act.put, List.setIfInBounds_toArray, List.set_cons_zero, List.set_cons_succ]
  refine wpAnyH_take (i := 1) (v := ?_) (by simp only [List.getElem?_toArray, List.getElem?_cons_succ, List.getElem?_cons_zero] <;> rfl) (by kernel_rfl) (by kernel_rfl) (by kernel_rfl) (fun _ _ _ h => by exact h) (Or.inl ⟨by rfl, ?_⟩) (by assumption) ?_
  rotate_left
  · (intro w hSw; (try dsimp only at hSw); go_simp)
    try with_reducible rfl
  rotate_left
  try simp only [Act.put, List.setIfInBounds_toArray, List.set_cons_zero, List.set_cons_succ]
  refine wpAnyH_take (i := 2) (v := ?_) (by simp only [List.getElem?_toArray, List.getElem?_cons_succ, List.getElem?_cons_zero] <;> rfl) (by kernel_rfl) (by kernel_rfl) (by kernel_rfl) (fun _ _ _ h => by exact h) (Or.inl ⟨by rfl, ?_⟩) (by assumption) ?_
  rotate_left
  · (intro w hSw; (try dsimp only at hSw); go_simp)
    try with_reducible rfl
  rotate_left
  try simp only [Act.put, List.setIfInBounds_toArray, List.set_cons_zero, List.set_cons_succ]
  refine wpAnyH_take (i := 3) (v := ?_) (by simp only [List.getElem?_toArray, List.getElem?_cons_succ, List.getElem?_cons_zero] <;> rfl) (by kernel_rfl) (by kernel_rfl) (by kernel_rfl) (fun _ _ _ h => by exact h) (Or.inl ⟨by rfl, ?_⟩) (by assumption) ?_
  rotate_left
  · (intro w hSw; (try dsimp only at hSw); go_simp)
    try with_reducible rfl
  rotate_left
  try simp only [Act.put, List.setIfInBounds_toArray, List.set_cons_zero, List.set_cons_succ]
  refine wpAnyH_take (i := 4) (v := ?_) (by simp only [List.getElem?_toArray, List.getElem?_cons_succ, List.getElem?_cons_zero] <;> rfl) (by kernel_rfl) (by kernel_rfl) (by kernel_rfl) (fun _ _ _ h => by exact h) (Or.inl ⟨by rfl, ?_⟩) (by assumption) ?_
  rotate_left
  · (intro w hSw; (try dsimp only at hSw); go_simp)
    try with_reducible rfl
  rotate_left
  try simp only [Act.put, List.setIfInBounds_toArray, List.set_cons_zero, List.set_cons_succ]
  refine wpAnyH_take (i := 5) (v := ?_) (by simp only [List.getElem?_toArray, List.getElem?_cons_succ, List.getElem?_cons_zero] <;> rfl) (by kernel_rfl) (by kernel_rfl) (by kernel_rfl) (fun _ _ _ h => by exact h) (Or.inl ⟨by rfl, ?_⟩) (by assumption) ?_
  rotate_left
  · (intro w hSw; (try dsimp only at hSw); go_simp)
    try with_reducible rfl
  rotate_left
  try simp only [Act.put, List.setIfInBounds_toArray, List.set_cons_zero, List.set_cons_succ]
  refine wpAnyH_take (i := 6) (v := ?_) (by simp only [List.getElem?_toArray, List.getElem?_cons_succ, List.getElem?_cons_zero] <;> rfl) (by kernel_rfl) (by kernel_rfl) (by kernel_rfl) (fun _ _ _ h => by exact h) (Or.inl ⟨by rfl, ?_⟩) (by assumption) ?_
  rotate_left
  · (intro w hSw; (try dsimp only at hSw); go_simp)
    try with_reducible rfl
  rotate_left
  try simp only [Act.put, List.setIfInBounds_toArray, List.set_cons_zero, List.set_cons_succ]
  refine wpAnyH_take (i := 7) (v := ?_) (by simp only [List.getElem?_toArray, List.getElem?_cons_succ, List.getElem?_cons_zero] <;> rfl) (by kernel_rfl) (by kernel_rfl) (by kernel_rfl) (fun _ _ _ h => by exact h) (Or.inl ⟨by rfl, ?_⟩) (by assumption) ?_
  rotate_left
  · (intro w hSw; (try dsimp only at hSw); go_simp)
    try with_reducible rfl
  rotate_left
  try simp only [Act.put, List.setIfInBounds_toArray, List.set_cons_zero, List.set_cons_succ]
  refine wpAnyH_take (i := 8) (v := ?_) (by simp only [List.getElem?_toArray, List.getElem?_cons_succ, List.getElem?_cons_zero] <;> rfl) (by kernel_rfl) (by kernel_rfl) (by kernel_rfl) (fun _ _ _ h => by exact h) (Or.inl ⟨by rfl, ?_⟩) (by assumption) ?_
  rotate_left
  · (intro w hSw; (try dsimp only at hSw); go_simp)
    try with_reducible rfl
  rotate_left
  try simp only [Act.put, List.setIfInBounds_toArray, List.set_cons_zero, List.set_cons_succ]
  refine wpAnyH_take (i := 9) (v := ?_) (by simp only [List.getElem?_toArray, List.getElem?_cons_succ, List.getElem?_cons_zero] <;> rfl) (by kernel_rfl) (by kernel_rfl) (by kernel_rfl) (fun _ _ _ h => by exact h) (Or.inl ⟨by rfl, ?_⟩) (by assumption) ?_
  rotate_left
  · (intro w hSw; (try dsimp only at hSw); go_simp)
    try with_reducible rfl
  rotate_left
  try simp only [Act.put, List.setIfInBounds_toArray, List.set_cons_zero, List.set_cons_succ]
  refine wpAnyH_take (i := 10) (v := ?_) (by simp only [List.getElem?_toArray, List.getElem?_cons_succ, List.getElem?_cons_zero] <;> rfl) (by kernel_rfl) (by kernel_rfl) (by kernel_rfl) (fun _ _ _ h => by exact h) (Or.inl ⟨by rfl, ?_⟩) (by assumption) ?_
  rotate_left
  · (intro w hSw; (try dsimp only at hSw); go_simp)
    try with_reducible rfl
  rotate_left
  try simp only [Act.put, List.setIfInBounds_toArray, List.set_cons_zero, List.set_cons_succ]
  refine wpAnyH_take (i := 11) (v := ?_) (by simp only [List.getElem?_toArray, List.getElem?_cons_succ, List.getElem?_cons_zero] <;> rfl) (by kernel_rfl) (by kernel_rfl) (by kernel_rfl) (fun _ _ _ h => by exact h) (Or.inl ⟨by rfl, ?_⟩) (by assumption) ?_
  rotate_left
  · (intro w hSw; (try dsimp only at hSw); go_simp)
    try with_reducible rfl
  rotate_left
  try simp only [Act.put, List.setIfInBounds_toArray, List.set_cons_zero, List.set_cons_succ]
  refine wpAnyH_take (i := 13) (v := ?_) (by simp only [List.getElem?_toArray, List.getElem?_cons_succ, List.getElem?_cons_zero] <;> rfl) (by kernel_rfl) (by kernel_rfl) (by kernel_rfl) (fun _ _ _ h => by exact h) (Or.inl ⟨by rfl, ?_⟩) (by assumption) ?_
  rotate_left
  · (intro w hSw; (try dsimp only at hSw); go_simp)
    try with_reducible rfl
  rotate_left
  try simp only [Act.put, List.setIfInBounds_toArray, List.set_cons_zero, List.set_cons_succ]
  refine wpAnyH_ready (rs := [12]) (by kernel_rfl) (by simp) ?_
  refine AllReadyH.cons (by simp only [List.getElem?_toArray, List.getElem?_cons_succ, List.getElem?_cons_zero] <;> rfl) (fun K hK => ?_) AllReadyH.nil
  go_simp
  refine (file_a _).mono ?_
  rintro e w7 ⟨mb7, rfl, hfa7, hs7⟩
  have hu := hu.trans hs7
  refine hK.out _ _ (DD2.out _ hu) (fun hHeld => ?_)
  clear hK K hHeld
  have hHeld := DD2.out _ hu
  try simp only [Act.put, List.setIfInBounds_toArray, List.set_cons_zero, List.set_cons_succ]
  refine wpAnyH_ready (rs := [14]) (by kernel_rfl) (by simp) ?_
  refine AllReadyH.cons (by simp only [List.getElem?_toArray, List.getElem?_cons_succ, List.getElem?_cons_zero] <;> rfl) (fun K hK => ?_) AllReadyH.nil
  go_simp
  have hwc := wrong_bod 2 (.agg #[.slice (some ⟨mb7, 0, none⟩) 1 1, .slice none 0 0]) (.slice (some ⟨w.heap.size + 1 + 1 + 1, 0, none⟩) 2 2) (.slice none 0 0) fileA 0 bodA w7 hfa7 (HD.out _ (Hu6.out.trans hu)) (HT.out.up (Hu1.out.trans (Hu6.out.trans hu)))
  rw [wrong_A] at hwc
  refine hwc.mono ?_
  rintro e w8 ⟨rfl, hs8⟩
  clear hwc
  have hu := hu.trans hs8
  refine hK.out _ _ (DD2.out _ hu) (fun hHeld => ?_)
  clear hK K hHeld
  have hHeld := DD2.out _ hu
  try simp only [Act.put, List.setIfInBounds_toArray, List.set_cons_zero, List.set_cons_succ]
  refine wpAnyH_take (i := 15) (v := ?_) (by simp only [List.getElem?_toArray, List.getElem?_cons_succ, List.getElem?_cons_zero] <;> rfl) (by kernel_rfl) (by kernel_rfl) (by kernel_rfl) (fun _ _ _ h => by exact h) (Or.inl ⟨by rfl, ?_⟩) (by assumption) ?_
  rotate_left
  · (intro w hSw; (try dsimp only at hSw); go_simp)
    try with_reducible rfl
  rotate_left
  try simp only [Act.put, List.setIfInBounds_toArray, List.set_cons_zero, List.set_cons_succ]
  refine wpAnyH_take (i := 16) (v := ?_) (by simp only [List.getElem?_toArray, List.getElem?_cons_succ, List.getElem?_cons_zero] <;> rfl) (by kernel_rfl) (by kernel_rfl) (by kernel_rfl) (fun _ _ _ h => by exact h) (Or.inl ⟨by rfl, ?_⟩) (by assumption) ?_
  rotate_left
  · (intro w hSw; (try dsimp only at hSw); go_simp)
    try with_reducible rfl
  rotate_left
  try simp only [Act.put, List.setIfInBounds_toArray, List.set_cons_zero, List.set_cons_succ]
  refine wpAnyH_take (i := 17) (v := ?_) (by simp only [List.getElem?_toArray, List.getElem?_cons_succ, List.getElem?_cons_zero] <;> rfl) (by kernel_rfl) (by kernel_rfl) (by kernel_rfl) (fun _ _ _ h => by exact h) (Or.inl ⟨by rfl, ?_⟩) (by assumption) ?_
  rotate_left
  · (intro w hSw; (try dsimp only at hSw); go_simp)
    try with_reducible rfl
  rotate_left
  try simp only [Act.put, List.setIfInBounds_toArray, List.set_cons_zero, List.set_cons_succ]
  refine wpAnyH_ready (rs := [18]) (by kernel_rfl) (by simp) ?_
  refine AllReadyH.cons (by simp only [List.getElem?_toArray, List.getElem?_cons_succ, List.getElem?_cons_zero] <;> rfl) (fun K hK => ?_) AllReadyH.nil
  go_simp
  refine (file_a _).mono ?_
  rintro e w9 ⟨mb9, rfl, hfa9, hs9⟩
  have hu := hu.trans hs9
  refine hK.out _ _ (DD2.out _ hu) (fun hHeld => ?_)
  clear hK K hHeld
  have hHeld := DD2.out _ hu
  try simp only [Act.put, List.setIfInBounds_toArray, List.set_cons_zero, List.set_cons_succ]
  obtain ⟨vm, ve, e9, hm9, _⟩ := hfa9
  simp only [Value.agg.injEq, Array.mk.injEq, List.cons.injEq, and_true] at e9
  obtain ⟨rfl, rfl⟩ := e9
  obtain ⟨mb, mo, cs, e9, _, _, hcs, hd9⟩ := hm9.at (i := 0) (by decide)
  simp only [Value.slice.injEq, Option.some.injEq, Addr.mk.injEq, and_true] at e9
  obtain ⟨hmb, hmo⟩ := e9
  subst hmb
  obtain rfl : mo = 0 := hmo.symm
  obtain ⟨vf, vb, hd9, hfs9, hbs9, _⟩ := hd9
  subst hd9
  obtain ⟨fa9, fc9, rfl, _, _⟩ := hfs9.val
  obtain ⟨ba9, bc9, rfl, _, _⟩ := hbs9.val
  have c0 : w9.cell? ⟨mb9, 0, none⟩ = some (.string ⟨#[65]⟩) := hcs 0 _ rfl
  have c1 : w9.cell? ⟨mb9, 1, none⟩ = some (.slice fa9 2 fc9) := hcs 1 _ rfl
  have c2 : w9.cell? ⟨mb9, 2, none⟩ = some (.slice ba9 0 bc9) := hcs 2 _ rfl
  have Hfs9 := Lib.hid hfs9
  clear hcs hm9 hbs9 hfs9
  have hfd : ∀ w : World, (Instr.field 25 (.agg #[.slice (some ⟨mb9, 0, none⟩) 1 1, .slice none 0 0]) 0).run Tryd.prog w = .ok (.slice (some ⟨mb9, 0, none⟩) 1 1) w := fun _ => by kernel_rfl
  refine wpAnyH_take (i := 19) (v := ?_) (by simp only [List.getElem?_toArray, List.getElem?_cons_succ, List.getElem?_cons_zero] <;> rfl) (by kernel_rfl) (by kernel_rfl) (by kernel_rfl) (fun _ _ _ h => by exact h) (Or.inl ⟨by rfl, ?_⟩) (by assumption) ?_
  rotate_left
  · (intro w hSw; (try dsimp only at hSw); go_simp)
    try with_reducible rfl
  rotate_left
  try simp only [Act.put, List.setIfInBounds_toArray, List.set_cons_zero, List.set_cons_succ]
  refine wpAnyH_take (i := 20) (v := ?_) (by simp only [List.getElem?_toArray, List.getElem?_cons_succ, List.getElem?_cons_zero] <;> rfl) (by kernel_rfl) (by kernel_rfl) (by kernel_rfl) (fun _ _ _ h => by exact h) (Or.inl ⟨by rfl, ?_⟩) (by assumption) ?_
  rotate_left
  · (intro w hSw; (try dsimp only at hSw); go_simp)
    try with_reducible rfl
  rotate_left
  try simp only [Act.put, List.setIfInBounds_toArray, List.set_cons_zero, List.set_cons_succ]
  refine wpAnyH_ready (rs := [21]) (by kernel_rfl) (by simp) ?_
  refine AllReadyH.cons (by simp only [List.getElem?_toArray, List.getElem?_cons_succ, List.getElem?_cons_zero] <;> rfl) (fun K hK => ?_) AllReadyH.nil
  go_simp
  refine hK.out _ _ (DD2.out _ hu) (fun hHeld => ?_)
  clear hK K hHeld
  have hHeld := DD2.out _ hu
  try simp only [Act.put, List.setIfInBounds_toArray, List.set_cons_zero, List.set_cons_succ]
  refine wpAnyH_ready (rs := [22]) (by kernel_rfl) (by simp) ?_
  refine AllReadyH.cons (by simp only [List.getElem?_toArray, List.getElem?_cons_succ, List.getElem?_cons_zero] <;> rfl) (fun K hK => ?_) AllReadyH.nil
  go_simp
  have hfc := field_any (.string ⟨[65].toArray⟩) (.slice fa9 2 fc9) (.slice ba9 0 bc9) (fileA.msgs[0]).fields 2 w9 ⟨_, rfl⟩ ⟨_, _, _, rfl⟩ Hfs9.out
  rw [show idxP (fun x : Fld => x.number == 2) (fileA.msgs[0]).fields = 1 from rfl] at hfc
  refine hfc.mono ?_
  rintro e w10 ⟨rfl, hs10⟩
  clear hfc
  have hu := hu.trans hs10
  refine hK.out _ _ (DD2.out _ hu) (fun hHeld => ?_)
  clear hK K hHeld
  have hHeld := DD2.out _ hu
  try simp only [Act.put, List.setIfInBounds_toArray, List.set_cons_zero, List.set_cons_succ]
  refine wpAnyH_take (i := 23) (v := ?_) (by simp only [List.getElem?_toArray, List.getElem?_cons_succ, List.getElem?_cons_zero] <;> rfl) (by kernel_rfl) (by kernel_rfl) (by kernel_rfl) (fun _ _ _ h => by exact h) (Or.inl ⟨by rfl, ?_⟩) (by assumption) ?_
  rotate_left
  · (intro w hSw; (try dsimp only at hSw); go_simp)
    try with_reducible rfl
  rotate_left
  try simp only [Act.put, List.setIfInBounds_toArray, List.set_cons_zero, List.set_cons_succ]
  refine wpAnyH_take (i := 24) (v := ?_) (by simp only [List.getElem?_toArray, List.getElem?_cons_succ, List.getElem?_cons_zero] <;> rfl) (by kernel_rfl) (by kernel_rfl) (by kernel_rfl) (fun _ _ _ h => by exact h) (Or.inl ⟨by rfl, ?_⟩) (by assumption) ?_
  rotate_left
  · (intro w hSw; (try dsimp only at hSw); go_simp)
    try with_reducible rfl
  rotate_left
  try simp only [Act.put, List.setIfInBounds_toArray, List.set_cons_zero, List.set_cons_succ]
  refine wpAnyH_take (i := 25) (v := ?_) (by simp only [List.getElem?_toArray, List.getElem?_cons_succ, List.getElem?_cons_zero] <;> rfl) (by kernel_rfl) (by kernel_rfl) (by kernel_rfl) (fun _ _ _ h => by exact h) (Or.inl ⟨by rfl, ?_⟩) (by assumption) ?_
  rotate_left
  · (intro w hSw; (try dsimp only at hSw); go_simp)
    try with_reducible rfl
  rotate_left
  try simp only [Act.put, List.setIfInBounds_toArray, List.set_cons_zero, List.set_cons_succ]
  refine wpAnyH_ready (rs := [26]) (by kernel_rfl) (by simp) ?_
  refine AllReadyH.cons (by simp only [List.getElem?_toArray, List.getElem?_cons_succ, List.getElem?_cons_zero] <;> rfl) (fun K hK => ?_) AllReadyH.nil
  go_simp
  refine (fits_any 4 2 _ (by decide)).mono ?_
  rintro e w11 ⟨rfl, rfl⟩
  rw [show fitsN 4 2 = 3 from rfl]
  have hu := hu
  refine hK.out _ _ (DD2.out _ hu) (fun hHeld => ?_)
  clear hK K hHeld
  have hHeld := DD2.out _ hu
  try simp only [Act.put, List.setIfInBounds_toArray, List.set_cons_zero, List.set_cons_succ]
  refine wpAnyH_take (i := 27) (v := ?_) (by simp only [List.getElem?_toArray, List.getElem?_cons_succ, List.getElem?_cons_zero] <;> rfl) (by kernel_rfl) (by kernel_rfl) (by kernel_rfl) (fun _ _ _ h => by exact h) (Or.inl ⟨by rfl, ?_⟩) (by assumption) ?_
  rotate_left
  · (intro w hSw; (try dsimp only at hSw); go_simp)
    try with_reducible rfl
  rotate_left
  try simp only [Act.put, List.setIfInBounds_toArray, List.set_cons_zero, List.set_cons_succ]
  refine wpAnyH_take (i := 28) (v := ?_) (by simp only [List.getElem?_toArray, List.getElem?_cons_succ, List.getElem?_cons_zero] <;> rfl) (by kernel_rfl) (by kernel_rfl) (by kernel_rfl) (fun _ _ _ h => by exact h) (Or.inl ⟨by rfl, ?_⟩) (by assumption) ?_
  rotate_left
  · (intro w hSw; (try dsimp only at hSw); go_simp)
    try with_reducible rfl
  rotate_left
  try simp only [Act.put, List.setIfInBounds_toArray, List.set_cons_zero, List.set_cons_succ]
  refine wpAnyH_take (i := 29) (v := ?_) (by simp only [List.getElem?_toArray, List.getElem?_cons_succ, List.getElem?_cons_zero] <;> rfl) (by kernel_rfl) (by kernel_rfl) (by kernel_rfl) (fun _ _ _ h => by exact h) (Or.inl ⟨by rfl, ?_⟩) (by assumption) ?_
  rotate_left
  · (intro w hSw; (try dsimp only at hSw); go_simp)
    try with_reducible rfl
  rotate_left
  try simp only [Act.put, List.setIfInBounds_toArray, List.set_cons_zero, List.set_cons_succ]
  refine wpAnyH_done (by kernel_rfl) ?_ _
  go_wp2_with fail
  go_ret
  exact ⟨rfl, Hu1.out.trans (Hu6.out.trans hu)⟩
end Go.Proofs.YtplgegffapikoaaDoor
