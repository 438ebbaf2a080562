/-
  (*reader).add: many behind those that are there.
-/
import Derived.Test.YtbceapeoknngnaaGreatDoorDp30
import Derived.Deep.RegionHeld3
import Derived.Deep.DeepCutAuto
import Derived.Deep.CutBlock
set_option linter.unusedVariables false
namespace Go.Proofs.YtbceapeoknngnaaGreatDoor
open Go.RowKit
set_option maxRecDepth 100000 in
set_option maxHeartbeats 12800000 in
theorem radd_many (d : Nat) (S : Nat → Prop) (f : Fil) (fs : List Fld) (b : Bod) (x : Fld) (v : Val) (sm : ByteArray) (fa ba va ua e1 e2 e3 : Option Addr) (nf fc nb bc vc uc h1 h2 h3 cb fb bf fo : Nat) (w : World) (H : AddH d S f fs b x v sm fa ba va ua e1 e2 e3 nf fc nb bc vc uc h1 h2 h3 cb fb bf fo w) (o : Val) (hp : findV b.values x.number = some o) (hm : x.many = true) :
    Calls Tryz.prog 71 #[.pointer (some ⟨cb, 0, none⟩), .agg #[.string sm, .slice fa nf fc, .slice ba nb bc], .agg #[.slice va b.values.length vc, .slice ua b.unknown.length uc], .pointer (some ⟨bf, fo, none⟩), .agg #[.int .i64 v.1, .slice e1 v.2.1.length h1, .slice e2 v.2.2.1.length h2, .slice e3 v.2.2.2.length h3]] w fun e w' => ∃ vv vu, e = .returned (.tuple #[.agg #[vv, vu], .int .i64 (finC fs b (v.1, o.2.1 ++ v.2.1, o.2.2.1 ++ v.2.2.1, o.2.2.2 ++ v.2.2.2)).2]) ∧ ((finC fs b (v.1, o.2.1 ++ v.2.1, o.2.2.1 ++ v.2.2.1, o.2.2.2 ++ v.2.2.2)).2 = 0 → vu = .slice ua b.unknown.length uc) ∧ RdS (DValD d) 4 (Sx S w) w' vv (finC fs b (v.1, o.2.1 ++ v.2.1, o.2.2.1 ++ v.2.2.1, o.2.2.2 ++ v.2.2.2)).1.values ∧ ((finC fs b (v.1, o.2.1 ++ v.2.1, o.2.2.1 ++ v.2.2.1, o.2.2.2 ++ v.2.2.2)).2 ≠ 0 → vu = .slice none 0 0) ∧ Up w w' := by
  obtain ⟨ANS, hANS⟩ : ∃ ANS, finC fs b (v.1, o.2.1 ++ v.2.1, o.2.2.1 ++ v.2.2.1, o.2.2.2 ++ v.2.2.2) = ANS := ⟨_, rfl⟩
  rw [hANS]
  have HANS := Lib.hid hANS
  clear hANS
  obtain ⟨hchk, hflds, hvals, hbsz, hfld, hval, hnum, hvlen, holen, hris, hb16⟩ := H
  obtain ⟨OV, hOV⟩ : ∃ OV, (findV b.values x.number).getD val0 = OV := ⟨_, rfl⟩
  obtain ⟨ok, hok⟩ : ∃ ok, (findV b.values x.number).isSome = ok := ⟨_, rfl⟩
  have hxb : bf < w.heap.size := hfld.1
  have xn := hfld.2.1.2.1
  have xk := hfld.2.1.2.2.1
  have xm := hfld.2.1.2.2.2.2.1
  have Hx := Lib.hid (⟨xn, xk, xm⟩ : w.cell? ⟨bf, fo + 1, none⟩ = some (.int .i64 x.number) ∧ w.cell? ⟨bf, fo + 2, none⟩ = some (.int .i64 x.kind) ∧ w.cell? ⟨bf, fo + 4, none⟩ = some (.bool x.many))
  have Hchk := Lib.hid hchk; have Hflds := Lib.hid hflds; have Hvals := Lib.hid hvals; have Hbsz := Lib.hid hbsz; have Hfld := Lib.hid hfld; have Hval := Lib.hid hval; have Hnum := Lib.hid hnum; have Hvlen := Lib.hid hvlen; have Holen := Lib.hid holen; have Hris := Lib.hid hris; have Hb16 := Lib.hid hb16; have Hok := Lib.hid hok; have HOV := Lib.hid hOV
  clear hchk hflds hvals hbsz hfld hval hnum hvlen holen hris hb16 xn xk xm
  go_enter Tryz.func71, Tryz.ntmps71
  go_upto_region 1 with (fail)
  generalize hW : (((w.alloc (.cells #[.string sm, .slice fa nf fc, .slice ba nb bc] 38)).alloc (.cells #[.slice va b.values.length vc, .slice ua b.unknown.length uc] 29)).alloc (.cells #[.int .i64 v.1, .slice e1 v.2.1.length h1, .slice e2 v.2.2.1.length h2, .slice e3 v.2.2.2.length h3] 53)).alloc (.cells #[.slice none 0 0, .slice none 0 0] 29) = w1
  have hbm : w1.heap[w.heap.size]? = some (.cells #[.string sm, .slice fa nf fc, .slice ba nb bc] 38 (0, 0)) := by rw [← hW]; exact blk_old _ (blk_old _ (blk_old _ (blk_new w _ rfl)))
  have hbb : w1.heap[w.heap.size + 1]? = some (.cells #[.slice va b.values.length vc, .slice ua b.unknown.length uc] 29 (0, 0)) := by rw [← hW]; exact blk_old _ (blk_old _ (blk_new (w.alloc _) _ (by simp)))
  have hbv : w1.heap[w.heap.size + 1 + 1]? = some (.cells #[.int .i64 v.1, .slice e1 v.2.1.length h1, .slice e2 v.2.2.1.length h2, .slice e3 v.2.2.2.length h3] 53 (0, 0)) := by rw [← hW]; exact blk_old _ (blk_new ((w.alloc _).alloc _) _ (by simp))
  have hbr : w1.heap[w.heap.size + 1 + 1 + 1]? = some (.cells #[.slice none 0 0, .slice none 0 0] 29 (0, 0)) := by rw [← hW]; exact blk_new (((w.alloc _).alloc _).alloc _) _ (by simp)
  have hu1 : Up w w1 := by rw [← hW]; exact ((((Up.refl w).alloc _).alloc _).alloc _).alloc _
  have Hz1 := Lib.hid (show w1.heap.size = w.heap.size + 4 by rw [← hW]; simp)
  clear hW
  have l0 : w1.cell? ⟨w.heap.size + 1, 0, none⟩ = some (.slice va b.values.length vc) := cell_of_row w1 _ 0 _ _ _ hbb
  have l1 : w1.cell? ⟨w.heap.size + 1, 1, none⟩ = some (.slice ua b.unknown.length uc) := cell_of_row w1 _ 1 _ _ _ hbb
  have l2 : w1.cell? ⟨bf, fo + 1, none⟩ = some (.int .i64 x.number) := hu1.cell_some Hx.out.1
  have Hbm := Lib.hid hbm; have Hbb := Lib.hid hbb; have Hbv := Lib.hid hbv; have Hbr := Lib.hid hbr; have Hu1 := Lib.hid hu1
  clear hbm hbb hbv hbr hu1
  have Hget := Lib.hid (fun W (u : Up w1 W) => get_v d (S := fun k => S k ∧ k < w.heap.size) (.slice va b.values.length vc) (.slice ua b.unknown.length uc) b.values x.number W (Hvals.out.keep (stable_val d) (S' := fun k => S k ∧ k < w.heap.size) (w' := W) (fun k hs hk => ⟨(Hu1.out.trans u).block k hk, hs, hk⟩)) ⟨_, _, _, rfl⟩)
  rw [hOV, hok] at Hget
  clear hOV hok
  have dd : w1.drew.cell? ⟨w.heap.size + 1, 0, none⟩ = some (.slice va b.values.length vc) ∧ w1.drew.cell? ⟨w.heap.size + 1, 1, none⟩ = some (.slice ua b.unknown.length uc) ∧ w1.drew.cell? ⟨bf, fo + 1, none⟩ = some (.int .i64 x.number) := ⟨l0, l1, l2⟩
  have DD := Lib.hid (fun W (u : Up w1 W) => (⟨u.cell_some l0, u.cell_some l1, u.cell_some l2⟩ : W.cell? ⟨w.heap.size + 1, 0, none⟩ = some (.slice va b.values.length vc) ∧ W.cell? ⟨w.heap.size + 1, 1, none⟩ = some (.slice ua b.unknown.length uc) ∧ W.cell? ⟨bf, fo + 1, none⟩ = some (.int .i64 x.number)))
  clear l0 l1 l2
  go_cut [12, 13] (fun p o wc => ∃ (O : Nat) (y1 y2 y3 : Option Addr) (z1 z2 z3 : Nat), p = .pointer (some ⟨O, 0, none⟩) ∧ o = .bool ok ∧ wc.heap[O]? = some (.cells #[.int .i64 OV.1, .slice y1 OV.2.1.length z1, .slice y2 OV.2.2.1.length z2, .slice y3 OV.2.2.2.length z3] 53 (0, 0)) ∧ DValD d (fun k => S k ∧ k < w.heap.size) wc OV [.int .i64 OV.1, .slice y1 OV.2.1.length z1, .slice y2 OV.2.2.1.length z2, .slice y3 OV.2.2.2.length z3] ∧ w.heap.size + 4 ≤ O ∧ Up w1 wc)
  case first =>
    go_region_held3 (fun w' => w'.cell? ⟨w.heap.size + 1, 0, none⟩ = some (.slice va b.values.length vc) ∧ w'.cell? ⟨w.heap.size + 1, 1, none⟩ = some (.slice ua b.unknown.length uc) ∧ w'.cell? ⟨bf, fo + 1, none⟩ = some (.int .i64 x.number))
      (first | with_reducible exact dd | with_reducible exact DD.out _ (Up.setCell (Up.setCell (Up.setCell (Up.setCell (hu6.alloc _) (show w1.heap.size ≤ w6.heap.size from hu6.size) _) (show w1.heap.size ≤ w6.heap.size from hu6.size) _) (show w1.heap.size ≤ w6.heap.size from hu6.size) _) (show w1.heap.size ≤ w6.heap.size from hu6.size) _) | with_reducible exact DD.out _ (Up.setCell (Up.setCell (Up.setCell (Up.setCell hu6 (Nat.le_refl w1.heap.size) _) (Nat.le_refl w1.heap.size) _) (Nat.le_refl w1.heap.size) _) (Nat.le_refl w1.heap.size) _) | with_reducible exact DD.out _ (hu6.alloc _) | with_reducible exact DD.out _ hu6 | with_reducible exact DD.out _ ((Up.refl w1).alloc _).drew)
      (first | (go_at_call 19; first
         | (refine (Hget.out _ (Up.refl w1).drew).mono ?_; rintro e w6 ⟨y1, z1, y2, z2, y3, z3, rfl, hod, hu6'⟩; have hu6 := (Up.refl w1).drew.trans hu6')
         | (refine (Hget.out _ ((Up.refl w1).alloc _).drew).mono ?_; rintro e w6 ⟨y1, z1, y2, z2, y3, z3, rfl, hod, hu6'⟩; have hu6 := ((Up.refl w1).alloc _).drew.trans hu6'; have hg6 : w6.heap[w1.heap.size]? = some (.cells #[.int .i64 0, .slice none 0 0, .slice none 0 0, .slice none 0 0] 53 (0, 0)) := hu6'.blk (blk_new w1 _ rfl); have q0 : w6.cell? ⟨w1.heap.size, 0, none⟩ = some (.int .i64 0) := cell_of_row w6 _ 0 _ _ _ hg6; have q1 : w6.cell? ⟨w1.heap.size, 1, none⟩ = some (.slice none 0 0) := cell_of_row w6 _ 1 _ _ _ hg6; have q2 : w6.cell? ⟨w1.heap.size, 2, none⟩ = some (.slice none 0 0) := cell_of_row w6 _ 2 _ _ _ hg6; have q3 : w6.cell? ⟨w1.heap.size, 3, none⟩ = some (.slice none 0 0) := cell_of_row w6 _ 3 _ _ _ hg6; have qf : ∀ o, w6.frozen? ⟨w1.heap.size, o, none⟩ = false := (fun o => frozen_of_row w6 _ o _ _ hg6); have qz : w1.heap.size < w6.heap.size := lt_of_block hg6)))
    all_goals
      go_wp2_with fail
      go_meet
    · exact ⟨w6.heap.size, y1, y2, y3, z1, z2, z3, rfl, rfl, blk_new w6 _ rfl, stable_val d _ _ _ _ _ _ (fun k hs hk => ⟨((Up.refl w6).alloc _).block k hk, hs⟩) hod, by have := hu6.size; have := Hz1.out; omega, hu6.alloc _⟩
    · refine ⟨w1.heap.size, y1, y2, y3, z1, z2, z3, rfl, rfl, heap_setCell_same _ _ 3 _ _ _ (heap_setCell_same _ _ 2 _ _ _ (heap_setCell_same _ _ 1 _ _ _ (heap_setCell_same _ _ 0 _ _ _ hg6))), stable_val d _ _ _ _ _ _ (fun k hs hk => ⟨?_, hs⟩) hod, by have := Hz1.out; omega, Up.setCell (Up.setCell (Up.setCell (Up.setCell hu6 (Nat.le_refl w1.heap.size) _) (Nat.le_refl w1.heap.size) _) (Nat.le_refl w1.heap.size) _) (Nat.le_refl w1.heap.size) _⟩
      have hne : k ≠ w1.heap.size := by have := Hz1.out; have := hs.2; omega
      rw [heap_setCell_other _ _ _ _ hne, heap_setCell_other _ _ _ _ hne, heap_setCell_other _ _ _ _ hne, heap_setCell_other _ _ _ _ hne]
  case rest =>
  obtain ⟨O, y1, y2, y3, z1, z2, z3, rfl, rfl, hbo, hod, hOz, hu2⟩ := hcut
  have Hbo := Lib.hid hbo; have Hod := Lib.hid hod; have HOz := Lib.hid hOz; have Hu2 := Lib.hid hu2
  have Hbm2 := Lib.hid (hu2.blk Hbm.out); have Hbb2 := Lib.hid (hu2.blk Hbb.out); have Hbv2 := Lib.hid (hu2.blk Hbv.out); have Hbr2 := Lib.hid (hu2.blk Hbr.out)
  have Hu02 := Lib.hid (Hu1.out.trans hu2)
  have mn : wc.cell? ⟨bf, fo + 4, none⟩ = some (.bool x.many) := Hu02.out.cell_some Hx.out.2.2
  have kd : wc.cell? ⟨bf, fo + 2, none⟩ = some (.int .i64 x.kind) := Hu02.out.cell_some Hx.out.2.1
  have Hzc := Lib.hid (show w.heap.size + 4 ≤ wc.heap.size by have := hu2.size; have := Hz1.out; omega)
  clear hbo hod hOz hu2 Hget DD dd Hbm Hbb Hbv Hbr
  obtain ⟨on, ob, oy, os⟩ := OV
  simp only at Hod Hbo
  generalize hT : w.heap.size + 1 + 1 = T at *
  have HT := Lib.hid hT
  clear hT
  obtain ⟨wd, rfl⟩ : ∃ wd : World, wd = wc := ⟨_, rfl⟩
  obtain rfl : o = (on, ob, oy, os) := by have := HOV.out; rw [hp] at this; exact this
  obtain rfl : ok = true := by have := Hok.out; rw [hp] at this; exact this.symm
  rw [hm] at mn
  have Ho60 := Lib.hid (show ob.length ≤ 60 ∧ oy.length ≤ 60 ∧ os.length ≤ 60 from Holen.out _ hp)
  obtain ⟨_, _, _, _, _, _, he, hon, ox1, ox2, ox3, ozx⟩ := val_cells Hod.out
  simp only [List.cons.injEq, Value.slice.injEq, true_and, and_true] at he
  obtain ⟨⟨rfl, rfl⟩, ⟨rfl, rfl⟩, rfl, rfl⟩ := he
  have hdv : DValD d (fun k => S k ∧ k < w.heap.size) wd v [.int .i64 v.1, .slice e1 v.2.1.length h1, .slice e2 v.2.2.1.length h2, .slice e3 v.2.2.2.length h3] := stable_val d _ _ _ _ _ _ (fun k hs hk => ⟨Hu02.out.block k hk, hs, hk⟩) Hval.out
  obtain ⟨_, _, _, _, _, _, he, hvn, vx1, vx2, vx3, vzx⟩ := val_cells hdv
  simp only [List.cons.injEq, Value.slice.injEq, true_and, and_true] at he
  obtain ⟨⟨rfl, rfl⟩, ⟨rfl, rfl⟩, rfl, rfl⟩ := he
  have Hox1 := Lib.hid ox1; have Hox2 := Lib.hid ox2; have Hox3 := Lib.hid ox3; have Hvx1 := Lib.hid vx1; have Hvx2 := Lib.hid vx2; have Hvx3 := Lib.hid vx3; have Hvn := Lib.hid hvn
  have HhTO := Lib.hid (show T < O by have := HOz.out; have := HT.out; omega)
  clear ox1 ox2 ox3 vx1 vx2 vx3 ozx vzx hdv hon hvn hm HOz Hod
  have Hsa := Lib.hid (fun (W : World) (u : Up wd W) k (h : Sx (fun k => S k ∧ k < w.heap.size) W k) => (by
    have := u.size; have := Hzc.out
    rcases h with h | h
    · exact .inl h
    · exact .inr (by omega) : SA S w.heap.size k))
  go_upto_block 0 with (fail)
  go_cut [] (fun wt => ∃ (V : Val) (E1 E2 E3 : Option Addr) (N1 N2 N3 : Nat), (v.1, ob ++ v.2.1, oy ++ v.2.2.1, os ++ v.2.2.2) = V ∧ wt.heap[T]? = some (.cells #[.int .i64 V.1, .slice E1 V.2.1.length N1, .slice E2 V.2.2.1.length N2, .slice E3 V.2.2.2.length N3] 53 (0, 0)) ∧ DValD d (SA S w.heap.size) wt V [.int .i64 V.1, .slice E1 V.2.1.length N1, .slice E2 V.2.2.1.length N2, .slice E3 V.2.2.2.length N3] ∧ Up w wt ∧ (∀ k, k < wd.heap.size → k ≠ T → wt.heap[k]? = wd.heap[k]?))
  case first =>
    go_upto_region 3 with (fail)
    have o1 : wd.cell? ⟨O, 1, none⟩ = some (.slice y1 ob.length z1) := cell_of_row wd _ 1 _ _ _ Hbo.out
    have o2 : wd.cell? ⟨O, 2, none⟩ = some (.slice y2 oy.length z2) := cell_of_row wd _ 2 _ _ _ Hbo.out
    have o3 : wd.cell? ⟨O, 3, none⟩ = some (.slice y3 os.length z3) := cell_of_row wd _ 3 _ _ _ Hbo.out
    have t1 : wd.cell? ⟨T, 1, none⟩ = some (.slice e1 v.2.1.length h1) := cell_of_row wd _ 1 _ _ _ Hbv2.out
    have t2 : wd.cell? ⟨T, 2, none⟩ = some (.slice e2 v.2.2.1.length h2) := cell_of_row wd _ 2 _ _ _ Hbv2.out
    have t3 : wd.cell? ⟨T, 3, none⟩ = some (.slice e3 v.2.2.2.length h3) := cell_of_row wd _ 3 _ _ _ Hbv2.out
    have DD := Lib.hid (fun W (u : Up wd W) => (⟨u.cell_some o1, u.cell_some o2, u.cell_some o3, u.cell_some t1, u.cell_some t2, u.cell_some t3⟩ : W.cell? ⟨O, 1, none⟩ = some (.slice y1 ob.length z1) ∧ W.cell? ⟨O, 2, none⟩ = some (.slice y2 oy.length z2) ∧ W.cell? ⟨O, 3, none⟩ = some (.slice y3 os.length z3) ∧ W.cell? ⟨T, 1, none⟩ = some (.slice e1 v.2.1.length h1) ∧ W.cell? ⟨T, 2, none⟩ = some (.slice e2 v.2.2.1.length h2) ∧ W.cell? ⟨T, 3, none⟩ = some (.slice e3 v.2.2.2.length h3)))
    have LEAF := Lib.hid (fun (W : World) (s0 s1 s2 : Option Addr) (n0 n1 n2 : Nat) (c0 : RdS DU64 1 (SA S w.heap.size) W (.slice s0 (ob ++ v.2.1).length n0) (ob ++ v.2.1)) (c1 : RdS DBytes 1 (SA S w.heap.size) W (.slice s1 (oy ++ v.2.2.1).length n1) (oy ++ v.2.2.1)) (c2 : RdS (DBodF d) 2 (SA S w.heap.size) W (.slice s2 (os ++ v.2.2.2).length n2) (os ++ v.2.2.2))
      (hT : W.heap[T]? = some (.cells #[.int .i64 v.1, .slice e1 v.2.1.length h1, .slice e2 v.2.2.1.length h2, .slice e3 v.2.2.2.length h3] 53 (0, 0))) (hu : Up wd W) => (by
        simp only [List.length_append] at c0 c1 c2
        have hnT : ¬ SA S w.heap.size T := by
          have := HT.out
          rintro (⟨_, h⟩ | h) <;> omega
        have kp : ∀ (X : World) (i : Nat) (u : Value), Keep (SA S w.heap.size) X (SA S w.heap.size) (X.setCell ⟨T, i, none⟩ u) := fun X i u => Keep.setCell (p := ⟨T, i, none⟩) hnT u
        have k3 := ((kp W 1 (.slice s0 (ob.length + v.2.1.length) n0)).trans (kp _ 2 (.slice s1 (oy.length + v.2.2.1.length) n1))).trans (kp _ 3 (.slice s2 (os.length + v.2.2.2.length) n2))
        have g60 := Ho60.out
        have l60 := Hvlen.out
        refine ⟨(v.1, ob ++ v.2.1, oy ++ v.2.2.1, os ++ v.2.2.2), s0, s1, s2, n0, n1, n2, rfl, ?_, ⟨_, _, _, rfl, Hvn.out, ?_, ?_, ?_, ?_⟩, ?_, ?_⟩
        · simp only [List.length_append]
          exact box4_3 (box4_2 (box4_1 hT _) _) _
        · simp only [List.length_append]; exact c0.keep stable_u64 k3
        · simp only [List.length_append]; exact c1.keep stable_bytes k3
        · simp only [List.length_append]; exact c2.keep (stable_bod d) k3
        · unfold ValSz
          simp only [List.length_append]
          omega
        · have hle : w.heap.size ≤ T := by have := HT.out; omega
          exact Up.setCell (Up.setCell (Up.setCell (Hu02.out.trans hu) (p := ⟨T, 1, none⟩) hle _) (p := ⟨T, 2, none⟩) hle _) (p := ⟨T, 3, none⟩) hle _
        · intro k hk hne
          rw [heap_setCell_other _ ⟨T, 3, none⟩ k _ hne, heap_setCell_other _ ⟨T, 2, none⟩ k _ hne, heap_setCell_other _ ⟨T, 1, none⟩ k _ hne]
          exact hu.block k hk :
        ∃ (V : Val) (E1 E2 E3 : Option Addr) (N1 N2 N3 : Nat), (v.1, ob ++ v.2.1, oy ++ v.2.2.1, os ++ v.2.2.2) = V ∧ (((W.setCell ⟨T, 1, none⟩ (.slice s0 (ob.length + v.2.1.length) n0)).setCell ⟨T, 2, none⟩ (.slice s1 (oy.length + v.2.2.1.length) n1)).setCell ⟨T, 3, none⟩ (.slice s2 (os.length + v.2.2.2.length) n2)).heap[T]? = some (.cells #[.int .i64 V.1, .slice E1 V.2.1.length N1, .slice E2 V.2.2.1.length N2, .slice E3 V.2.2.2.length N3] 53 (0, 0)) ∧
          DValD d (SA S w.heap.size) (((W.setCell ⟨T, 1, none⟩ (.slice s0 (ob.length + v.2.1.length) n0)).setCell ⟨T, 2, none⟩ (.slice s1 (oy.length + v.2.2.1.length) n1)).setCell ⟨T, 3, none⟩ (.slice s2 (os.length + v.2.2.2.length) n2)) V [.int .i64 V.1, .slice E1 V.2.1.length N1, .slice E2 V.2.2.1.length N2, .slice E3 V.2.2.2.length N3] ∧
          Up w (((W.setCell ⟨T, 1, none⟩ (.slice s0 (ob.length + v.2.1.length) n0)).setCell ⟨T, 2, none⟩ (.slice s1 (oy.length + v.2.2.1.length) n1)).setCell ⟨T, 3, none⟩ (.slice s2 (os.length + v.2.2.2.length) n2)) ∧
          (∀ k, k < wd.heap.size → k ≠ T → (((W.setCell ⟨T, 1, none⟩ (.slice s0 (ob.length + v.2.1.length) n0)).setCell ⟨T, 2, none⟩ (.slice s1 (oy.length + v.2.2.1.length) n1)).setCell ⟨T, 3, none⟩ (.slice s2 (os.length + v.2.2.2.length) n2)).heap[k]? = wd.heap[k]?)))
    refine wp_region_tail 5 (m := 19) (by kernel_rfl) (by rfl) (by decide) (by kernel_rfl) (by kernel_rfl) (by kernel_rfl) (S := fun w' => w'.cell? ⟨O, 1, none⟩ = some (.slice y1 ob.length z1) ∧ w'.cell? ⟨O, 2, none⟩ = some (.slice y2 oy.length z2) ∧ w'.cell? ⟨O, 3, none⟩ = some (.slice y3 os.length z3) ∧ w'.cell? ⟨T, 1, none⟩ = some (.slice e1 v.2.1.length h1) ∧ w'.cell? ⟨T, 2, none⟩ = some (.slice e2 v.2.2.1.length h2) ∧ w'.cell? ⟨T, 3, none⟩ = some (.slice e3 v.2.2.2.length h3)) ?_
    have hHeld : (fun w' : World => w'.cell? ⟨O, 1, none⟩ = some (.slice y1 ob.length z1) ∧ w'.cell? ⟨O, 2, none⟩ = some (.slice y2 oy.length z2) ∧ w'.cell? ⟨O, 3, none⟩ = some (.slice y3 os.length z3) ∧ w'.cell? ⟨T, 1, none⟩ = some (.slice e1 v.2.1.length h1) ∧ w'.cell? ⟨T, 2, none⟩ = some (.slice e2 v.2.2.1.length h2) ∧ w'.cell? ⟨T, 3, none⟩ = some (.slice e3 v.2.2.2.length h3)) wd.drew := ⟨o1, o2, o3, t1, t2, t3⟩
    change wpAnyH _ _ _ _ _ _ _ _ wd.drew
    have hu := (Up.refl wd).drew
    clear o1 o2 o3 t1 t2 t3 mn kd
    refine wpAnyH_take (i := 0) (v := ?_) rfl (by kernel_rfl) (by kernel_rfl) (by kernel_rfl) (fun _ _ _ h => h) (Or.inl ⟨by rfl, ?_⟩) (by assumption) ?_
    rotate_left
    · (intro w hSw; (try dsimp only at hSw); go_simp)
      try with_reducible rfl
    rotate_left
    try simp only [Act.put, List.setIfInBounds_toArray]
    refine wpAnyH_take (i := 1) (v := ?_) rfl (by kernel_rfl) (by kernel_rfl) (by kernel_rfl) (fun _ _ _ h => h) (Or.inl ⟨by rfl, ?_⟩) (by assumption) ?_
    rotate_left
    · (intro w hSw; (try dsimp only at hSw); go_simp)
      try with_reducible rfl
    rotate_left
    try simp only [Act.put]
    refine wpAnyH_take (i := 2) (v := ?_) rfl (by kernel_rfl) (by kernel_rfl) (by kernel_rfl) (fun _ _ _ h => h) (Or.inl ⟨by rfl, ?_⟩) (by assumption) ?_
    rotate_left
    · (intro w hSw; (try dsimp only at hSw); go_simp)
      try with_reducible rfl
    rotate_left
    try simp only [Act.put]
    refine wpAnyH_take (i := 3) (v := ?_) rfl (by kernel_rfl) (by kernel_rfl) (by kernel_rfl) (fun _ _ _ h => h) (Or.inl ⟨by rfl, ?_⟩) (by assumption) ?_
    rotate_left
    · (intro w hSw; (try dsimp only at hSw); go_simp)
      try with_reducible rfl
    rotate_left
    try simp only [Act.put]
    refine wpAnyH_take (i := 6) (v := ?_) rfl (by kernel_rfl) (by kernel_rfl) (by kernel_rfl) (fun _ _ _ h => h) (Or.inl ⟨by rfl, ?_⟩) (by assumption) ?_
    rotate_left
    · (intro w hSw; (try dsimp only at hSw); go_simp)
      try with_reducible rfl
    rotate_left
    try simp only [Act.put]
    refine wpAnyH_take (i := 7) (v := ?_) rfl (by kernel_rfl) (by kernel_rfl) (by kernel_rfl) (fun _ _ _ h => h) (Or.inl ⟨by rfl, ?_⟩) (by assumption) ?_
    rotate_left
    · (intro w hSw; (try dsimp only at hSw); go_simp)
      try with_reducible rfl
    rotate_left
    try simp only [Act.put]
    refine wpAnyH_take (i := 8) (v := ?_) rfl (by kernel_rfl) (by kernel_rfl) (by kernel_rfl) (fun _ _ _ h => h) (Or.inl ⟨by rfl, ?_⟩) (by assumption) ?_
    rotate_left
    · (intro w hSw; (try dsimp only at hSw); go_simp)
      try with_reducible rfl
    rotate_left
    try simp only [Act.put]
    refine wpAnyH_take (i := 9) (v := ?_) rfl (by kernel_rfl) (by kernel_rfl) (by kernel_rfl) (fun _ _ _ h => h) (Or.inl ⟨by rfl, ?_⟩) (by assumption) ?_
    rotate_left
    · (intro w hSw; (try dsimp only at hSw); go_simp)
      try with_reducible rfl
    rotate_left
    try simp only [Act.put]
    refine wpAnyH_take (i := 12) (v := ?_) rfl (by kernel_rfl) (by kernel_rfl) (by kernel_rfl) (fun _ _ _ h => h) (Or.inl ⟨by rfl, ?_⟩) (by assumption) ?_
    rotate_left
    · (intro w hSw; (try dsimp only at hSw); go_simp)
      try with_reducible rfl
    rotate_left
    try simp only [Act.put]
    refine wpAnyH_take (i := 13) (v := ?_) rfl (by kernel_rfl) (by kernel_rfl) (by kernel_rfl) (fun _ _ _ h => h) (Or.inl ⟨by rfl, ?_⟩) (by assumption) ?_
    rotate_left
    · (intro w hSw; (try dsimp only at hSw); go_simp)
      try with_reducible rfl
    rotate_left
    try simp only [Act.put]
    refine wpAnyH_take (i := 14) (v := ?_) rfl (by kernel_rfl) (by kernel_rfl) (by kernel_rfl) (fun _ _ _ h => h) (Or.inl ⟨by rfl, ?_⟩) (by assumption) ?_
    rotate_left
    · (intro w hSw; (try dsimp only at hSw); go_simp)
      try with_reducible rfl
    rotate_left
    try simp only [Act.put]
    refine wpAnyH_take (i := 15) (v := ?_) rfl (by kernel_rfl) (by kernel_rfl) (by kernel_rfl) (fun _ _ _ h => h) (Or.inl ⟨by rfl, ?_⟩) (by assumption) ?_
    rotate_left
    · (intro w hSw; (try dsimp only at hSw); go_simp)
      try with_reducible rfl
    rotate_left
    try simp only [Act.put]
    --[
    refine wpAnyH_ready (rs := [4, 10, 16]) (by kernel_rfl) (by simp) ?_
    refine AllReadyH.cons rfl (fun K hK => ?_) (AllReadyH.cons rfl (fun K hK => ?_) (AllReadyH.cons rfl (fun K hK => ?_) (AllReadyH.nil)))
    · go_simp
      have hs : Up wd ((wd.alloc (.cells #[.slice y1 ob.length z1, .slice e1 v.2.1.length h1] 50)).drew) := ((Up.refl wd).alloc _).drew
      have hg0 : ((wd.alloc (.cells #[.slice y1 ob.length z1, .slice e1 v.2.1.length h1] 50)).drew).heap[wd.heap.size]? = some (.cells #[.slice y1 ob.length z1, .slice e1 v.2.1.length h1] 50 (0, 0)) := blk_new wd (.cells #[.slice y1 ob.length z1, .slice e1 v.2.1.length h1] 50) rfl
      have hu : Up wd ((wd.alloc (.cells #[.slice y1 ob.length z1, .slice e1 v.2.1.length h1] 50)).drew) := hs
      refine hK.out _ _ (DD.out _ hu) (fun hHeld => ?_)
      clear hK K hHeld
      obtain ⟨G0, hG⟩ : ∃ G, wd.heap.size = G := ⟨_, rfl⟩
      rw [hG] at hg0
      have hHeld := DD.out _ hu
      obtain ⟨w5, hww5⟩ : ∃ x, (wd.alloc (.cells #[.slice y1 ob.length z1, .slice e1 v.2.1.length h1] 50)).drew = x := ⟨_, rfl⟩
      rw [hww5] at hu hHeld hs hg0   ⊢
      try rw [hG]
      clear hww5 hG hs
      try simp only [Act.put, List.setIfInBounds_toArray, List.set_cons_zero, List.set_cons_succ]
      refine wpAnyH_ready (rs := [5, 10, 16]) (by kernel_rfl) (by simp) ?_
      refine AllReadyH.cons rfl (fun K hK => ?_) (AllReadyH.cons rfl (fun K hK => ?_) (AllReadyH.cons rfl (fun K hK => ?_) (AllReadyH.nil)))
      · go_simp
        refine (concat_u64 _ _ ob v.2.1 G0 _ w5 (Hox1.out.up stable_u64 hu) (Hvx1.out.up stable_u64 hu) hg0 (by have h60 := Ho60.out; have l60 := Hvlen.out; omega)).mono ?_
        rintro e w6 ⟨v0, rfl, hc, hs⟩
        have Hc0 := Lib.hid (hc.keep stable_u64 (Keep.weak (Hsa.out _ hu)))
        obtain ⟨s0, n0, rfl, _, _⟩ := hc.val
        have hu := hu.trans hs
        refine hK.out _ _ (DD.out _ hu) (fun hHeld => ?_)
        clear hK K hHeld hc hs hg0
        have hHeld := DD.out _ hu
        try simp only [Act.put, List.setIfInBounds_toArray, List.set_cons_zero, List.set_cons_succ]
        refine wpAnyH_take (i := 18) (v := ?_) rfl (by kernel_rfl) (by kernel_rfl) (by kernel_rfl) (fun _ _ _ h => h) (Or.inl ⟨by rfl, ?_⟩) (by assumption) ?_
        rotate_left
        · (intro w hSw; (try dsimp only at hSw); go_simp)
          try with_reducible rfl
        rotate_left
        try simp only [Act.put, List.setIfInBounds_toArray]
        refine wpAnyH_ready (rs := [10, 16]) (by kernel_rfl) (by simp) ?_
        refine AllReadyH.cons rfl (fun K hK => ?_) (AllReadyH.cons rfl (fun K hK => ?_) (AllReadyH.nil))
        · go_simp
          have hs : Up w6 (w6.alloc (.cells #[.slice y2 oy.length z2, .slice e2 v.2.2.1.length h2] 49)) := (Up.refl w6).alloc _
          have hg1 : (w6.alloc (.cells #[.slice y2 oy.length z2, .slice e2 v.2.2.1.length h2] 49)).heap[w6.heap.size]? = some (.cells #[.slice y2 oy.length z2, .slice e2 v.2.2.1.length h2] 49 (0, 0)) := blk_new w6 (.cells #[.slice y2 oy.length z2, .slice e2 v.2.2.1.length h2] 49) rfl
          have hu : Up wd (w6.alloc (.cells #[.slice y2 oy.length z2, .slice e2 v.2.2.1.length h2] 49)) := hu.trans hs
          refine hK.out _ _ (DD.out _ hu) (fun hHeld => ?_)
          clear hK K hHeld
          obtain ⟨G1, hG⟩ : ∃ G, w6.heap.size = G := ⟨_, rfl⟩
          rw [hG] at hg1
          have hHeld := DD.out _ hu
          have Hc0 := Lib.hid (Hc0.out.keep stable_u64 (Keep.upS hs))
          obtain ⟨w7, hww7⟩ : ∃ x, w6.alloc (.cells #[.slice y2 oy.length z2, .slice e2 v.2.2.1.length h2] 49) = x := ⟨_, rfl⟩
          rw [hww7] at hu hHeld hs hg1  Hc0 ⊢
          try rw [hG]
          clear hww7 hG hs
          try simp only [Act.put, List.setIfInBounds_toArray, List.set_cons_zero, List.set_cons_succ]
          refine wpAnyH_ready (rs := [11, 16]) (by kernel_rfl) (by simp) ?_
          refine AllReadyH.cons rfl (fun K hK => ?_) (AllReadyH.cons rfl (fun K hK => ?_) (AllReadyH.nil))
          · go_simp
            refine (concat_byt _ _ oy v.2.2.1 G1 _ w7 (Hox2.out.up stable_bytes hu) (Hvx2.out.up stable_bytes hu) hg1 (by have h60 := Ho60.out; have l60 := Hvlen.out; omega)).mono ?_
            rintro e w8 ⟨v1, rfl, hc, hs⟩
            have Hc1 := Lib.hid (hc.keep stable_bytes (Keep.weak (Hsa.out _ hu)))
            obtain ⟨s1, n1, rfl, _, _⟩ := hc.val
            have Hc0 := Lib.hid (Hc0.out.keep stable_u64 (Keep.upS hs))
            have hu := hu.trans hs
            refine hK.out _ _ (DD.out _ hu) (fun hHeld => ?_)
            clear hK K hHeld hc hs hg1
            have hHeld := DD.out _ hu
            try simp only [Act.put, List.setIfInBounds_toArray, List.set_cons_zero, List.set_cons_succ]
            refine wpAnyH_ready (rs := [16]) (by kernel_rfl) (by simp) ?_
            refine AllReadyH.cons rfl (fun K hK => ?_) (AllReadyH.nil)
            go_simp
            have hs : Up w8 (w8.alloc (.cells #[.slice y3 os.length z3, .slice e3 v.2.2.2.length h3] 51)) := (Up.refl w8).alloc _
            have hg2 : (w8.alloc (.cells #[.slice y3 os.length z3, .slice e3 v.2.2.2.length h3] 51)).heap[w8.heap.size]? = some (.cells #[.slice y3 os.length z3, .slice e3 v.2.2.2.length h3] 51 (0, 0)) := blk_new w8 (.cells #[.slice y3 os.length z3, .slice e3 v.2.2.2.length h3] 51) rfl
            have hu : Up wd (w8.alloc (.cells #[.slice y3 os.length z3, .slice e3 v.2.2.2.length h3] 51)) := hu.trans hs
            refine hK.out _ _ (DD.out _ hu) (fun hHeld => ?_)
            clear hK K hHeld
            obtain ⟨G2, hG⟩ : ∃ G, w8.heap.size = G := ⟨_, rfl⟩
            rw [hG] at hg2
            have hHeld := DD.out _ hu
            have Hc0 := Lib.hid (Hc0.out.keep stable_u64 (Keep.upS hs))
            have Hc1 := Lib.hid (Hc1.out.keep stable_bytes (Keep.upS hs))
            obtain ⟨w9, hww9⟩ : ∃ x, w8.alloc (.cells #[.slice y3 os.length z3, .slice e3 v.2.2.2.length h3] 51) = x := ⟨_, rfl⟩
            rw [hww9] at hu hHeld hs hg2  Hc0 Hc1 ⊢
            try rw [hG]
            clear hww9 hG hs
            try simp only [Act.put, List.setIfInBounds_toArray, List.set_cons_zero, List.set_cons_succ]
            refine wpAnyH_ready (rs := [17]) (by kernel_rfl) (by simp) ?_
            refine AllReadyH.cons rfl (fun K hK => ?_) (AllReadyH.nil)
            go_simp
            refine (concat_bod d _ _ os v.2.2.2 G2 _ w9 (Hox3.out.up (stable_bod d) hu) (Hvx3.out.up (stable_bod d) hu) hg2 (by have h60 := Ho60.out; have l60 := Hvlen.out; omega)).mono ?_
            rintro e w10 ⟨v2, rfl, hc, hs⟩
            have Hc2 := Lib.hid (hc.keep (stable_bod d) (Keep.weak (Hsa.out _ hu)))
            obtain ⟨s2, n2, rfl, _, _⟩ := hc.val
            have Hc0 := Lib.hid (Hc0.out.keep stable_u64 (Keep.upS hs))
            have Hc1 := Lib.hid (Hc1.out.keep stable_bytes (Keep.upS hs))
            have hu := hu.trans hs
            refine hK.out _ _ (DD.out _ hu) (fun hHeld => ?_)
            clear hK K hHeld hc hs hg2
            have hHeld := DD.out _ hu
            try simp only [Act.put, List.setIfInBounds_toArray, List.set_cons_zero, List.set_cons_succ]
            refine wpAnyH_done (by kernel_rfl) ?_ _
            have hbT := hu.blk Hbv2.out
            have q1 : w10.cell? ⟨T, 1, none⟩ = some (.slice e1 v.2.1.length h1) := cell_of_row w10 _ 1 _ _ _ hbT
            have q2 : w10.cell? ⟨T, 2, none⟩ = some (.slice e2 v.2.2.1.length h2) := cell_of_row w10 _ 2 _ _ _ hbT
            have q3 : w10.cell? ⟨T, 3, none⟩ = some (.slice e3 v.2.2.2.length h3) := cell_of_row w10 _ 3 _ _ _ hbT
            have tf : ∀ o, w10.frozen? ⟨T, o, none⟩ = false := fun o => frozen_of_row w10 _ o _ _ hbT
            have tz : T < w10.heap.size := lt_of_block hbT
            have HbT := Lib.hid hbT; have Hu := Lib.hid hu
            clear hbT hu hHeld DD
            refine AskTail.normal ?_
            rw [runTail]
            refine wpOp_step rfl (fun K' hK' => ?_)
            go_simp
            refine hK' _ _ ?_
            clear hK'
            rw [runTail]
            refine wpOp_step rfl (fun K' hK' => ?_)
            go_simp
            refine hK' _ _ ?_
            clear hK'
            rw [runTail]
            refine wpOp_step rfl (fun K' hK' => ?_)
            go_simp
            refine hK' _ _ ?_
            clear hK'
            rw [runTail]
            refine wpOp_step rfl (fun K' hK' => ?_)
            go_simp
            refine hK' _ _ ?_
            clear hK'
            rw [runTail]
            refine wpOp_step rfl (fun K' hK' => ?_)
            go_simp
            refine hK' _ _ ?_
            clear hK'
            rw [runTail]
            go_wp2_with fail
            go_meet
            exact LEAF.out _ _ _ _ _ _ _ Hc0.out Hc1.out Hc2.out HbT.out Hu.out
          · go_simp
            have hs : Up w7 (w7.alloc (.cells #[.slice y3 os.length z3, .slice e3 v.2.2.2.length h3] 51)) := (Up.refl w7).alloc _
            have hg2 : (w7.alloc (.cells #[.slice y3 os.length z3, .slice e3 v.2.2.2.length h3] 51)).heap[w7.heap.size]? = some (.cells #[.slice y3 os.length z3, .slice e3 v.2.2.2.length h3] 51 (0, 0)) := blk_new w7 (.cells #[.slice y3 os.length z3, .slice e3 v.2.2.2.length h3] 51) rfl
            have hu : Up wd (w7.alloc (.cells #[.slice y3 os.length z3, .slice e3 v.2.2.2.length h3] 51)) := hu.trans hs
            refine hK.out _ _ (DD.out _ hu) (fun hHeld => ?_)
            clear hK K hHeld
            obtain ⟨G2, hG⟩ : ∃ G, w7.heap.size = G := ⟨_, rfl⟩
            rw [hG] at hg2
            have hHeld := DD.out _ hu
            have Hc0 := Lib.hid (Hc0.out.keep stable_u64 (Keep.upS hs))
            have hg1 := hs.blk hg1
            obtain ⟨w8, hww8⟩ : ∃ x, w7.alloc (.cells #[.slice y3 os.length z3, .slice e3 v.2.2.2.length h3] 51) = x := ⟨_, rfl⟩
            rw [hww8] at hu hHeld hs hg2 hg1 Hc0 ⊢
            try rw [hG]
            clear hww8 hG hs
            try simp only [Act.put, List.setIfInBounds_toArray, List.set_cons_zero, List.set_cons_succ]
            refine wpAnyH_ready (rs := [11]) (by kernel_rfl) (by simp) ?_
            refine AllReadyH.cons rfl (fun K hK => ?_) (AllReadyH.nil)
            go_simp
            refine (concat_byt _ _ oy v.2.2.1 G1 _ w8 (Hox2.out.up stable_bytes hu) (Hvx2.out.up stable_bytes hu) hg1 (by have h60 := Ho60.out; have l60 := Hvlen.out; omega)).mono ?_
            rintro e w9 ⟨v1, rfl, hc, hs⟩
            have Hc1 := Lib.hid (hc.keep stable_bytes (Keep.weak (Hsa.out _ hu)))
            obtain ⟨s1, n1, rfl, _, _⟩ := hc.val
            have Hc0 := Lib.hid (Hc0.out.keep stable_u64 (Keep.upS hs))
            have hg2 := hs.blk hg2
            have hu := hu.trans hs
            refine hK.out _ _ (DD.out _ hu) (fun hHeld => ?_)
            clear hK K hHeld hc hs hg1
            have hHeld := DD.out _ hu
            try simp only [Act.put, List.setIfInBounds_toArray, List.set_cons_zero, List.set_cons_succ]
            refine wpAnyH_ready (rs := [17]) (by kernel_rfl) (by simp) ?_
            refine AllReadyH.cons rfl (fun K hK => ?_) (AllReadyH.nil)
            go_simp
            refine (concat_bod d _ _ os v.2.2.2 G2 _ w9 (Hox3.out.up (stable_bod d) hu) (Hvx3.out.up (stable_bod d) hu) hg2 (by have h60 := Ho60.out; have l60 := Hvlen.out; omega)).mono ?_
            rintro e w10 ⟨v2, rfl, hc, hs⟩
            have Hc2 := Lib.hid (hc.keep (stable_bod d) (Keep.weak (Hsa.out _ hu)))
            obtain ⟨s2, n2, rfl, _, _⟩ := hc.val
            have Hc0 := Lib.hid (Hc0.out.keep stable_u64 (Keep.upS hs))
            have Hc1 := Lib.hid (Hc1.out.keep stable_bytes (Keep.upS hs))
            have hu := hu.trans hs
            refine hK.out _ _ (DD.out _ hu) (fun hHeld => ?_)
            clear hK K hHeld hc hs hg2
            have hHeld := DD.out _ hu
            try simp only [Act.put, List.setIfInBounds_toArray, List.set_cons_zero, List.set_cons_succ]
            refine wpAnyH_done (by kernel_rfl) ?_ _
            have hbT := hu.blk Hbv2.out
            have q1 : w10.cell? ⟨T, 1, none⟩ = some (.slice e1 v.2.1.length h1) := cell_of_row w10 _ 1 _ _ _ hbT
            have q2 : w10.cell? ⟨T, 2, none⟩ = some (.slice e2 v.2.2.1.length h2) := cell_of_row w10 _ 2 _ _ _ hbT
            have q3 : w10.cell? ⟨T, 3, none⟩ = some (.slice e3 v.2.2.2.length h3) := cell_of_row w10 _ 3 _ _ _ hbT
            have tf : ∀ o, w10.frozen? ⟨T, o, none⟩ = false := fun o => frozen_of_row w10 _ o _ _ hbT
            have tz : T < w10.heap.size := lt_of_block hbT
            have HbT := Lib.hid hbT; have Hu := Lib.hid hu
            clear hbT hu hHeld DD
            refine AskTail.normal ?_
            rw [runTail]
            refine wpOp_step rfl (fun K' hK' => ?_)
            go_simp
            refine hK' _ _ ?_
            clear hK'
            rw [runTail]
            refine wpOp_step rfl (fun K' hK' => ?_)
            go_simp
            refine hK' _ _ ?_
            clear hK'
            rw [runTail]
            refine wpOp_step rfl (fun K' hK' => ?_)
            go_simp
            refine hK' _ _ ?_
            clear hK'
            rw [runTail]
            refine wpOp_step rfl (fun K' hK' => ?_)
            go_simp
            refine hK' _ _ ?_
            clear hK'
            rw [runTail]
            refine wpOp_step rfl (fun K' hK' => ?_)
            go_simp
            refine hK' _ _ ?_
            clear hK'
            rw [runTail]
            go_wp2_with fail
            go_meet
            exact LEAF.out _ _ _ _ _ _ _ Hc0.out Hc1.out Hc2.out HbT.out Hu.out
        · go_simp
          have hs : Up w6 (w6.alloc (.cells #[.slice y3 os.length z3, .slice e3 v.2.2.2.length h3] 51)) := (Up.refl w6).alloc _
          have hg2 : (w6.alloc (.cells #[.slice y3 os.length z3, .slice e3 v.2.2.2.length h3] 51)).heap[w6.heap.size]? = some (.cells #[.slice y3 os.length z3, .slice e3 v.2.2.2.length h3] 51 (0, 0)) := blk_new w6 (.cells #[.slice y3 os.length z3, .slice e3 v.2.2.2.length h3] 51) rfl
          have hu : Up wd (w6.alloc (.cells #[.slice y3 os.length z3, .slice e3 v.2.2.2.length h3] 51)) := hu.trans hs
          refine hK.out _ _ (DD.out _ hu) (fun hHeld => ?_)
          clear hK K hHeld
          obtain ⟨G2, hG⟩ : ∃ G, w6.heap.size = G := ⟨_, rfl⟩
          rw [hG] at hg2
          have hHeld := DD.out _ hu
          have Hc0 := Lib.hid (Hc0.out.keep stable_u64 (Keep.upS hs))
          obtain ⟨w7, hww7⟩ : ∃ x, w6.alloc (.cells #[.slice y3 os.length z3, .slice e3 v.2.2.2.length h3] 51) = x := ⟨_, rfl⟩
          rw [hww7] at hu hHeld hs hg2  Hc0 ⊢
          try rw [hG]
          clear hww7 hG hs
          try simp only [Act.put, List.setIfInBounds_toArray, List.set_cons_zero, List.set_cons_succ]
          refine wpAnyH_ready (rs := [10]) (by kernel_rfl) (by simp) ?_
          refine AllReadyH.cons rfl (fun K hK => ?_) (AllReadyH.nil)
          go_simp
          have hs : Up w7 (w7.alloc (.cells #[.slice y2 oy.length z2, .slice e2 v.2.2.1.length h2] 49)) := (Up.refl w7).alloc _
          have hg1 : (w7.alloc (.cells #[.slice y2 oy.length z2, .slice e2 v.2.2.1.length h2] 49)).heap[w7.heap.size]? = some (.cells #[.slice y2 oy.length z2, .slice e2 v.2.2.1.length h2] 49 (0, 0)) := blk_new w7 (.cells #[.slice y2 oy.length z2, .slice e2 v.2.2.1.length h2] 49) rfl
          have hu : Up wd (w7.alloc (.cells #[.slice y2 oy.length z2, .slice e2 v.2.2.1.length h2] 49)) := hu.trans hs
          refine hK.out _ _ (DD.out _ hu) (fun hHeld => ?_)
          clear hK K hHeld
          obtain ⟨G1, hG⟩ : ∃ G, w7.heap.size = G := ⟨_, rfl⟩
          rw [hG] at hg1
          have hHeld := DD.out _ hu
          have Hc0 := Lib.hid (Hc0.out.keep stable_u64 (Keep.upS hs))
          have hg2 := hs.blk hg2
          obtain ⟨w8, hww8⟩ : ∃ x, w7.alloc (.cells #[.slice y2 oy.length z2, .slice e2 v.2.2.1.length h2] 49) = x := ⟨_, rfl⟩
          rw [hww8] at hu hHeld hs hg1 hg2 Hc0 ⊢
          try rw [hG]
          clear hww8 hG hs
          try simp only [Act.put, List.setIfInBounds_toArray, List.set_cons_zero, List.set_cons_succ]
          refine wpAnyH_ready (rs := [11]) (by kernel_rfl) (by simp) ?_
          refine AllReadyH.cons rfl (fun K hK => ?_) (AllReadyH.nil)
          go_simp
          refine (concat_byt _ _ oy v.2.2.1 G1 _ w8 (Hox2.out.up stable_bytes hu) (Hvx2.out.up stable_bytes hu) hg1 (by have h60 := Ho60.out; have l60 := Hvlen.out; omega)).mono ?_
          rintro e w9 ⟨v1, rfl, hc, hs⟩
          have Hc1 := Lib.hid (hc.keep stable_bytes (Keep.weak (Hsa.out _ hu)))
          obtain ⟨s1, n1, rfl, _, _⟩ := hc.val
          have Hc0 := Lib.hid (Hc0.out.keep stable_u64 (Keep.upS hs))
          have hg2 := hs.blk hg2
          have hu := hu.trans hs
          refine hK.out _ _ (DD.out _ hu) (fun hHeld => ?_)
          clear hK K hHeld hc hs hg1
          have hHeld := DD.out _ hu
          try simp only [Act.put, List.setIfInBounds_toArray, List.set_cons_zero, List.set_cons_succ]
          refine wpAnyH_ready (rs := [17]) (by kernel_rfl) (by simp) ?_
          refine AllReadyH.cons rfl (fun K hK => ?_) (AllReadyH.nil)
          go_simp
          refine (concat_bod d _ _ os v.2.2.2 G2 _ w9 (Hox3.out.up (stable_bod d) hu) (Hvx3.out.up (stable_bod d) hu) hg2 (by have h60 := Ho60.out; have l60 := Hvlen.out; omega)).mono ?_
          rintro e w10 ⟨v2, rfl, hc, hs⟩
          have Hc2 := Lib.hid (hc.keep (stable_bod d) (Keep.weak (Hsa.out _ hu)))
          obtain ⟨s2, n2, rfl, _, _⟩ := hc.val
          have Hc0 := Lib.hid (Hc0.out.keep stable_u64 (Keep.upS hs))
          have Hc1 := Lib.hid (Hc1.out.keep stable_bytes (Keep.upS hs))
          have hu := hu.trans hs
          refine hK.out _ _ (DD.out _ hu) (fun hHeld => ?_)
          clear hK K hHeld hc hs hg2
          have hHeld := DD.out _ hu
          try simp only [Act.put, List.setIfInBounds_toArray, List.set_cons_zero, List.set_cons_succ]
          refine wpAnyH_done (by kernel_rfl) ?_ _
          have hbT := hu.blk Hbv2.out
          have q1 : w10.cell? ⟨T, 1, none⟩ = some (.slice e1 v.2.1.length h1) := cell_of_row w10 _ 1 _ _ _ hbT
          have q2 : w10.cell? ⟨T, 2, none⟩ = some (.slice e2 v.2.2.1.length h2) := cell_of_row w10 _ 2 _ _ _ hbT
          have q3 : w10.cell? ⟨T, 3, none⟩ = some (.slice e3 v.2.2.2.length h3) := cell_of_row w10 _ 3 _ _ _ hbT
          have tf : ∀ o, w10.frozen? ⟨T, o, none⟩ = false := fun o => frozen_of_row w10 _ o _ _ hbT
          have tz : T < w10.heap.size := lt_of_block hbT
          have HbT := Lib.hid hbT; have Hu := Lib.hid hu
          clear hbT hu hHeld DD
          refine AskTail.normal ?_
          rw [runTail]
          refine wpOp_step rfl (fun K' hK' => ?_)
          go_simp
          refine hK' _ _ ?_
          clear hK'
          rw [runTail]
          refine wpOp_step rfl (fun K' hK' => ?_)
          go_simp
          refine hK' _ _ ?_
          clear hK'
          rw [runTail]
          refine wpOp_step rfl (fun K' hK' => ?_)
          go_simp
          refine hK' _ _ ?_
          clear hK'
          rw [runTail]
          refine wpOp_step rfl (fun K' hK' => ?_)
          go_simp
          refine hK' _ _ ?_
          clear hK'
          rw [runTail]
          refine wpOp_step rfl (fun K' hK' => ?_)
          go_simp
          refine hK' _ _ ?_
          clear hK'
          rw [runTail]
          go_wp2_with fail
          go_meet
          exact LEAF.out _ _ _ _ _ _ _ Hc0.out Hc1.out Hc2.out HbT.out Hu.out
      · go_simp
        have hs : Up w5 (w5.alloc (.cells #[.slice y2 oy.length z2, .slice e2 v.2.2.1.length h2] 49)) := (Up.refl w5).alloc _
        have hg1 : (w5.alloc (.cells #[.slice y2 oy.length z2, .slice e2 v.2.2.1.length h2] 49)).heap[w5.heap.size]? = some (.cells #[.slice y2 oy.length z2, .slice e2 v.2.2.1.length h2] 49 (0, 0)) := blk_new w5 (.cells #[.slice y2 oy.length z2, .slice e2 v.2.2.1.length h2] 49) rfl
        have hu : Up wd (w5.alloc (.cells #[.slice y2 oy.length z2, .slice e2 v.2.2.1.length h2] 49)) := hu.trans hs
        refine hK.out _ _ (DD.out _ hu) (fun hHeld => ?_)
        clear hK K hHeld
        obtain ⟨G1, hG⟩ : ∃ G, w5.heap.size = G := ⟨_, rfl⟩
        rw [hG] at hg1
        have hHeld := DD.out _ hu
        have hg0 := hs.blk hg0
        obtain ⟨w6, hww6⟩ : ∃ x, w5.alloc (.cells #[.slice y2 oy.length z2, .slice e2 v.2.2.1.length h2] 49) = x := ⟨_, rfl⟩
        rw [hww6] at hu hHeld hs hg1 hg0  ⊢
        try rw [hG]
        clear hww6 hG hs
        try simp only [Act.put, List.setIfInBounds_toArray, List.set_cons_zero, List.set_cons_succ]
        refine wpAnyH_ready (rs := [5, 16]) (by kernel_rfl) (by simp) ?_
        refine AllReadyH.cons rfl (fun K hK => ?_) (AllReadyH.cons rfl (fun K hK => ?_) (AllReadyH.nil))
        · go_simp
          refine (concat_u64 _ _ ob v.2.1 G0 _ w6 (Hox1.out.up stable_u64 hu) (Hvx1.out.up stable_u64 hu) hg0 (by have h60 := Ho60.out; have l60 := Hvlen.out; omega)).mono ?_
          rintro e w7 ⟨v0, rfl, hc, hs⟩
          have Hc0 := Lib.hid (hc.keep stable_u64 (Keep.weak (Hsa.out _ hu)))
          obtain ⟨s0, n0, rfl, _, _⟩ := hc.val
          have hg1 := hs.blk hg1
          have hu := hu.trans hs
          refine hK.out _ _ (DD.out _ hu) (fun hHeld => ?_)
          clear hK K hHeld hc hs hg0
          have hHeld := DD.out _ hu
          try simp only [Act.put, List.setIfInBounds_toArray, List.set_cons_zero, List.set_cons_succ]
          refine wpAnyH_take (i := 18) (v := ?_) rfl (by kernel_rfl) (by kernel_rfl) (by kernel_rfl) (fun _ _ _ h => h) (Or.inl ⟨by rfl, ?_⟩) (by assumption) ?_
          rotate_left
          · (intro w hSw; (try dsimp only at hSw); go_simp)
            try with_reducible rfl
          rotate_left
          try simp only [Act.put, List.setIfInBounds_toArray]
          refine wpAnyH_ready (rs := [11, 16]) (by kernel_rfl) (by simp) ?_
          refine AllReadyH.cons rfl (fun K hK => ?_) (AllReadyH.cons rfl (fun K hK => ?_) (AllReadyH.nil))
          · go_simp
            refine (concat_byt _ _ oy v.2.2.1 G1 _ w7 (Hox2.out.up stable_bytes hu) (Hvx2.out.up stable_bytes hu) hg1 (by have h60 := Ho60.out; have l60 := Hvlen.out; omega)).mono ?_
            rintro e w8 ⟨v1, rfl, hc, hs⟩
            have Hc1 := Lib.hid (hc.keep stable_bytes (Keep.weak (Hsa.out _ hu)))
            obtain ⟨s1, n1, rfl, _, _⟩ := hc.val
            have Hc0 := Lib.hid (Hc0.out.keep stable_u64 (Keep.upS hs))
            have hu := hu.trans hs
            refine hK.out _ _ (DD.out _ hu) (fun hHeld => ?_)
            clear hK K hHeld hc hs hg1
            have hHeld := DD.out _ hu
            try simp only [Act.put, List.setIfInBounds_toArray, List.set_cons_zero, List.set_cons_succ]
            refine wpAnyH_ready (rs := [16]) (by kernel_rfl) (by simp) ?_
            refine AllReadyH.cons rfl (fun K hK => ?_) (AllReadyH.nil)
            go_simp
            have hs : Up w8 (w8.alloc (.cells #[.slice y3 os.length z3, .slice e3 v.2.2.2.length h3] 51)) := (Up.refl w8).alloc _
            have hg2 : (w8.alloc (.cells #[.slice y3 os.length z3, .slice e3 v.2.2.2.length h3] 51)).heap[w8.heap.size]? = some (.cells #[.slice y3 os.length z3, .slice e3 v.2.2.2.length h3] 51 (0, 0)) := blk_new w8 (.cells #[.slice y3 os.length z3, .slice e3 v.2.2.2.length h3] 51) rfl
            have hu : Up wd (w8.alloc (.cells #[.slice y3 os.length z3, .slice e3 v.2.2.2.length h3] 51)) := hu.trans hs
            refine hK.out _ _ (DD.out _ hu) (fun hHeld => ?_)
            clear hK K hHeld
            obtain ⟨G2, hG⟩ : ∃ G, w8.heap.size = G := ⟨_, rfl⟩
            rw [hG] at hg2
            have hHeld := DD.out _ hu
            have Hc0 := Lib.hid (Hc0.out.keep stable_u64 (Keep.upS hs))
            have Hc1 := Lib.hid (Hc1.out.keep stable_bytes (Keep.upS hs))
            obtain ⟨w9, hww9⟩ : ∃ x, w8.alloc (.cells #[.slice y3 os.length z3, .slice e3 v.2.2.2.length h3] 51) = x := ⟨_, rfl⟩
            rw [hww9] at hu hHeld hs hg2  Hc0 Hc1 ⊢
            try rw [hG]
            clear hww9 hG hs
            try simp only [Act.put, List.setIfInBounds_toArray, List.set_cons_zero, List.set_cons_succ]
            refine wpAnyH_ready (rs := [17]) (by kernel_rfl) (by simp) ?_
            refine AllReadyH.cons rfl (fun K hK => ?_) (AllReadyH.nil)
            go_simp
            refine (concat_bod d _ _ os v.2.2.2 G2 _ w9 (Hox3.out.up (stable_bod d) hu) (Hvx3.out.up (stable_bod d) hu) hg2 (by have h60 := Ho60.out; have l60 := Hvlen.out; omega)).mono ?_
            rintro e w10 ⟨v2, rfl, hc, hs⟩
            have Hc2 := Lib.hid (hc.keep (stable_bod d) (Keep.weak (Hsa.out _ hu)))
            obtain ⟨s2, n2, rfl, _, _⟩ := hc.val
            have Hc0 := Lib.hid (Hc0.out.keep stable_u64 (Keep.upS hs))
            have Hc1 := Lib.hid (Hc1.out.keep stable_bytes (Keep.upS hs))
            have hu := hu.trans hs
            refine hK.out _ _ (DD.out _ hu) (fun hHeld => ?_)
            clear hK K hHeld hc hs hg2
            have hHeld := DD.out _ hu
            try simp only [Act.put, List.setIfInBounds_toArray, List.set_cons_zero, List.set_cons_succ]
            refine wpAnyH_done (by kernel_rfl) ?_ _
            have hbT := hu.blk Hbv2.out
            have q1 : w10.cell? ⟨T, 1, none⟩ = some (.slice e1 v.2.1.length h1) := cell_of_row w10 _ 1 _ _ _ hbT
            have q2 : w10.cell? ⟨T, 2, none⟩ = some (.slice e2 v.2.2.1.length h2) := cell_of_row w10 _ 2 _ _ _ hbT
            have q3 : w10.cell? ⟨T, 3, none⟩ = some (.slice e3 v.2.2.2.length h3) := cell_of_row w10 _ 3 _ _ _ hbT
            have tf : ∀ o, w10.frozen? ⟨T, o, none⟩ = false := fun o => frozen_of_row w10 _ o _ _ hbT
            have tz : T < w10.heap.size := lt_of_block hbT
            have HbT := Lib.hid hbT; have Hu := Lib.hid hu
            clear hbT hu hHeld DD
            refine AskTail.normal ?_
            rw [runTail]
            refine wpOp_step rfl (fun K' hK' => ?_)
            go_simp
            refine hK' _ _ ?_
            clear hK'
            rw [runTail]
            refine wpOp_step rfl (fun K' hK' => ?_)
            go_simp
            refine hK' _ _ ?_
            clear hK'
            rw [runTail]
            refine wpOp_step rfl (fun K' hK' => ?_)
            go_simp
            refine hK' _ _ ?_
            clear hK'
            rw [runTail]
            refine wpOp_step rfl (fun K' hK' => ?_)
            go_simp
            refine hK' _ _ ?_
            clear hK'
            rw [runTail]
            refine wpOp_step rfl (fun K' hK' => ?_)
            go_simp
            refine hK' _ _ ?_
            clear hK'
            rw [runTail]
            go_wp2_with fail
            go_meet
            exact LEAF.out _ _ _ _ _ _ _ Hc0.out Hc1.out Hc2.out HbT.out Hu.out
          · go_simp
            have hs : Up w7 (w7.alloc (.cells #[.slice y3 os.length z3, .slice e3 v.2.2.2.length h3] 51)) := (Up.refl w7).alloc _
            have hg2 : (w7.alloc (.cells #[.slice y3 os.length z3, .slice e3 v.2.2.2.length h3] 51)).heap[w7.heap.size]? = some (.cells #[.slice y3 os.length z3, .slice e3 v.2.2.2.length h3] 51 (0, 0)) := blk_new w7 (.cells #[.slice y3 os.length z3, .slice e3 v.2.2.2.length h3] 51) rfl
            have hu : Up wd (w7.alloc (.cells #[.slice y3 os.length z3, .slice e3 v.2.2.2.length h3] 51)) := hu.trans hs
            refine hK.out _ _ (DD.out _ hu) (fun hHeld => ?_)
            clear hK K hHeld
            obtain ⟨G2, hG⟩ : ∃ G, w7.heap.size = G := ⟨_, rfl⟩
            rw [hG] at hg2
            have hHeld := DD.out _ hu
            have Hc0 := Lib.hid (Hc0.out.keep stable_u64 (Keep.upS hs))
            have hg1 := hs.blk hg1
            obtain ⟨w8, hww8⟩ : ∃ x, w7.alloc (.cells #[.slice y3 os.length z3, .slice e3 v.2.2.2.length h3] 51) = x := ⟨_, rfl⟩
            rw [hww8] at hu hHeld hs hg2 hg1 Hc0 ⊢
            try rw [hG]
            clear hww8 hG hs
            try simp only [Act.put, List.setIfInBounds_toArray, List.set_cons_zero, List.set_cons_succ]
            refine wpAnyH_ready (rs := [11]) (by kernel_rfl) (by simp) ?_
            refine AllReadyH.cons rfl (fun K hK => ?_) (AllReadyH.nil)
            go_simp
            refine (concat_byt _ _ oy v.2.2.1 G1 _ w8 (Hox2.out.up stable_bytes hu) (Hvx2.out.up stable_bytes hu) hg1 (by have h60 := Ho60.out; have l60 := Hvlen.out; omega)).mono ?_
            rintro e w9 ⟨v1, rfl, hc, hs⟩
            have Hc1 := Lib.hid (hc.keep stable_bytes (Keep.weak (Hsa.out _ hu)))
            obtain ⟨s1, n1, rfl, _, _⟩ := hc.val
            have Hc0 := Lib.hid (Hc0.out.keep stable_u64 (Keep.upS hs))
            have hg2 := hs.blk hg2
            have hu := hu.trans hs
            refine hK.out _ _ (DD.out _ hu) (fun hHeld => ?_)
            clear hK K hHeld hc hs hg1
            have hHeld := DD.out _ hu
            try simp only [Act.put, List.setIfInBounds_toArray, List.set_cons_zero, List.set_cons_succ]
            refine wpAnyH_ready (rs := [17]) (by kernel_rfl) (by simp) ?_
            refine AllReadyH.cons rfl (fun K hK => ?_) (AllReadyH.nil)
            go_simp
            refine (concat_bod d _ _ os v.2.2.2 G2 _ w9 (Hox3.out.up (stable_bod d) hu) (Hvx3.out.up (stable_bod d) hu) hg2 (by have h60 := Ho60.out; have l60 := Hvlen.out; omega)).mono ?_
            rintro e w10 ⟨v2, rfl, hc, hs⟩
            have Hc2 := Lib.hid (hc.keep (stable_bod d) (Keep.weak (Hsa.out _ hu)))
            obtain ⟨s2, n2, rfl, _, _⟩ := hc.val
            have Hc0 := Lib.hid (Hc0.out.keep stable_u64 (Keep.upS hs))
            have Hc1 := Lib.hid (Hc1.out.keep stable_bytes (Keep.upS hs))
            have hu := hu.trans hs
            refine hK.out _ _ (DD.out _ hu) (fun hHeld => ?_)
            clear hK K hHeld hc hs hg2
            have hHeld := DD.out _ hu
            try simp only [Act.put, List.setIfInBounds_toArray, List.set_cons_zero, List.set_cons_succ]
            refine wpAnyH_done (by kernel_rfl) ?_ _
            have hbT := hu.blk Hbv2.out
            have q1 : w10.cell? ⟨T, 1, none⟩ = some (.slice e1 v.2.1.length h1) := cell_of_row w10 _ 1 _ _ _ hbT
            have q2 : w10.cell? ⟨T, 2, none⟩ = some (.slice e2 v.2.2.1.length h2) := cell_of_row w10 _ 2 _ _ _ hbT
            have q3 : w10.cell? ⟨T, 3, none⟩ = some (.slice e3 v.2.2.2.length h3) := cell_of_row w10 _ 3 _ _ _ hbT
            have tf : ∀ o, w10.frozen? ⟨T, o, none⟩ = false := fun o => frozen_of_row w10 _ o _ _ hbT
            have tz : T < w10.heap.size := lt_of_block hbT
            have HbT := Lib.hid hbT; have Hu := Lib.hid hu
            clear hbT hu hHeld DD
            refine AskTail.normal ?_
            rw [runTail]
            refine wpOp_step rfl (fun K' hK' => ?_)
            go_simp
            refine hK' _ _ ?_
            clear hK'
            rw [runTail]
            refine wpOp_step rfl (fun K' hK' => ?_)
            go_simp
            refine hK' _ _ ?_
            clear hK'
            rw [runTail]
            refine wpOp_step rfl (fun K' hK' => ?_)
            go_simp
            refine hK' _ _ ?_
            clear hK'
            rw [runTail]
            refine wpOp_step rfl (fun K' hK' => ?_)
            go_simp
            refine hK' _ _ ?_
            clear hK'
            rw [runTail]
            refine wpOp_step rfl (fun K' hK' => ?_)
            go_simp
            refine hK' _ _ ?_
            clear hK'
            rw [runTail]
            go_wp2_with fail
            go_meet
            exact LEAF.out _ _ _ _ _ _ _ Hc0.out Hc1.out Hc2.out HbT.out Hu.out
        · go_simp
          have hs : Up w6 (w6.alloc (.cells #[.slice y3 os.length z3, .slice e3 v.2.2.2.length h3] 51)) := (Up.refl w6).alloc _
          have hg2 : (w6.alloc (.cells #[.slice y3 os.length z3, .slice e3 v.2.2.2.length h3] 51)).heap[w6.heap.size]? = some (.cells #[.slice y3 os.length z3, .slice e3 v.2.2.2.length h3] 51 (0, 0)) := blk_new w6 (.cells #[.slice y3 os.length z3, .slice e3 v.2.2.2.length h3] 51) rfl
          have hu : Up wd (w6.alloc (.cells #[.slice y3 os.length z3, .slice e3 v.2.2.2.length h3] 51)) := hu.trans hs
          refine hK.out _ _ (DD.out _ hu) (fun hHeld => ?_)
          clear hK K hHeld
          obtain ⟨G2, hG⟩ : ∃ G, w6.heap.size = G := ⟨_, rfl⟩
          rw [hG] at hg2
          have hHeld := DD.out _ hu
          have hg0 := hs.blk hg0
          have hg1 := hs.blk hg1
          obtain ⟨w7, hww7⟩ : ∃ x, w6.alloc (.cells #[.slice y3 os.length z3, .slice e3 v.2.2.2.length h3] 51) = x := ⟨_, rfl⟩
          rw [hww7] at hu hHeld hs hg2 hg0 hg1  ⊢
          try rw [hG]
          clear hww7 hG hs
          try simp only [Act.put, List.setIfInBounds_toArray, List.set_cons_zero, List.set_cons_succ]
          refine wpAnyH_ready (rs := [5]) (by kernel_rfl) (by simp) ?_
          refine AllReadyH.cons rfl (fun K hK => ?_) (AllReadyH.nil)
          go_simp
          refine (concat_u64 _ _ ob v.2.1 G0 _ w7 (Hox1.out.up stable_u64 hu) (Hvx1.out.up stable_u64 hu) hg0 (by have h60 := Ho60.out; have l60 := Hvlen.out; omega)).mono ?_
          rintro e w8 ⟨v0, rfl, hc, hs⟩
          have Hc0 := Lib.hid (hc.keep stable_u64 (Keep.weak (Hsa.out _ hu)))
          obtain ⟨s0, n0, rfl, _, _⟩ := hc.val
          have hg1 := hs.blk hg1
          have hg2 := hs.blk hg2
          have hu := hu.trans hs
          refine hK.out _ _ (DD.out _ hu) (fun hHeld => ?_)
          clear hK K hHeld hc hs hg0
          have hHeld := DD.out _ hu
          try simp only [Act.put, List.setIfInBounds_toArray, List.set_cons_zero, List.set_cons_succ]
          refine wpAnyH_take (i := 18) (v := ?_) rfl (by kernel_rfl) (by kernel_rfl) (by kernel_rfl) (fun _ _ _ h => h) (Or.inl ⟨by rfl, ?_⟩) (by assumption) ?_
          rotate_left
          · (intro w hSw; (try dsimp only at hSw); go_simp)
            try with_reducible rfl
          rotate_left
          try simp only [Act.put, List.setIfInBounds_toArray]
          refine wpAnyH_ready (rs := [11]) (by kernel_rfl) (by simp) ?_
          refine AllReadyH.cons rfl (fun K hK => ?_) (AllReadyH.nil)
          go_simp
          refine (concat_byt _ _ oy v.2.2.1 G1 _ w8 (Hox2.out.up stable_bytes hu) (Hvx2.out.up stable_bytes hu) hg1 (by have h60 := Ho60.out; have l60 := Hvlen.out; omega)).mono ?_
          rintro e w9 ⟨v1, rfl, hc, hs⟩
          have Hc1 := Lib.hid (hc.keep stable_bytes (Keep.weak (Hsa.out _ hu)))
          obtain ⟨s1, n1, rfl, _, _⟩ := hc.val
          have Hc0 := Lib.hid (Hc0.out.keep stable_u64 (Keep.upS hs))
          have hg2 := hs.blk hg2
          have hu := hu.trans hs
          refine hK.out _ _ (DD.out _ hu) (fun hHeld => ?_)
          clear hK K hHeld hc hs hg1
          have hHeld := DD.out _ hu
          try simp only [Act.put, List.setIfInBounds_toArray, List.set_cons_zero, List.set_cons_succ]
          refine wpAnyH_ready (rs := [17]) (by kernel_rfl) (by simp) ?_
          refine AllReadyH.cons rfl (fun K hK => ?_) (AllReadyH.nil)
          go_simp
          refine (concat_bod d _ _ os v.2.2.2 G2 _ w9 (Hox3.out.up (stable_bod d) hu) (Hvx3.out.up (stable_bod d) hu) hg2 (by have h60 := Ho60.out; have l60 := Hvlen.out; omega)).mono ?_
          rintro e w10 ⟨v2, rfl, hc, hs⟩
          have Hc2 := Lib.hid (hc.keep (stable_bod d) (Keep.weak (Hsa.out _ hu)))
          obtain ⟨s2, n2, rfl, _, _⟩ := hc.val
          have Hc0 := Lib.hid (Hc0.out.keep stable_u64 (Keep.upS hs))
          have Hc1 := Lib.hid (Hc1.out.keep stable_bytes (Keep.upS hs))
          have hu := hu.trans hs
          refine hK.out _ _ (DD.out _ hu) (fun hHeld => ?_)
          clear hK K hHeld hc hs hg2
          have hHeld := DD.out _ hu
          try simp only [Act.put, List.setIfInBounds_toArray, List.set_cons_zero, List.set_cons_succ]
          refine wpAnyH_done (by kernel_rfl) ?_ _
          have hbT := hu.blk Hbv2.out
          have q1 : w10.cell? ⟨T, 1, none⟩ = some (.slice e1 v.2.1.length h1) := cell_of_row w10 _ 1 _ _ _ hbT
          have q2 : w10.cell? ⟨T, 2, none⟩ = some (.slice e2 v.2.2.1.length h2) := cell_of_row w10 _ 2 _ _ _ hbT
          have q3 : w10.cell? ⟨T, 3, none⟩ = some (.slice e3 v.2.2.2.length h3) := cell_of_row w10 _ 3 _ _ _ hbT
          have tf : ∀ o, w10.frozen? ⟨T, o, none⟩ = false := fun o => frozen_of_row w10 _ o _ _ hbT
          have tz : T < w10.heap.size := lt_of_block hbT
          have HbT := Lib.hid hbT; have Hu := Lib.hid hu
          clear hbT hu hHeld DD
          refine AskTail.normal ?_
          rw [runTail]
          refine wpOp_step rfl (fun K' hK' => ?_)
          go_simp
          refine hK' _ _ ?_
          clear hK'
          rw [runTail]
          refine wpOp_step rfl (fun K' hK' => ?_)
          go_simp
          refine hK' _ _ ?_
          clear hK'
          rw [runTail]
          refine wpOp_step rfl (fun K' hK' => ?_)
          go_simp
          refine hK' _ _ ?_
          clear hK'
          rw [runTail]
          refine wpOp_step rfl (fun K' hK' => ?_)
          go_simp
          refine hK' _ _ ?_
          clear hK'
          rw [runTail]
          refine wpOp_step rfl (fun K' hK' => ?_)
          go_simp
          refine hK' _ _ ?_
          clear hK'
          rw [runTail]
          go_wp2_with fail
          go_meet
          exact LEAF.out _ _ _ _ _ _ _ Hc0.out Hc1.out Hc2.out HbT.out Hu.out
      · go_simp
        have hs : Up w5 (w5.alloc (.cells #[.slice y3 os.length z3, .slice e3 v.2.2.2.length h3] 51)) := (Up.refl w5).alloc _
        have hg2 : (w5.alloc (.cells #[.slice y3 os.length z3, .slice e3 v.2.2.2.length h3] 51)).heap[w5.heap.size]? = some (.cells #[.slice y3 os.length z3, .slice e3 v.2.2.2.length h3] 51 (0, 0)) := blk_new w5 (.cells #[.slice y3 os.length z3, .slice e3 v.2.2.2.length h3] 51) rfl
        have hu : Up wd (w5.alloc (.cells #[.slice y3 os.length z3, .slice e3 v.2.2.2.length h3] 51)) := hu.trans hs
        refine hK.out _ _ (DD.out _ hu) (fun hHeld => ?_)
        clear hK K hHeld
        obtain ⟨G2, hG⟩ : ∃ G, w5.heap.size = G := ⟨_, rfl⟩
        rw [hG] at hg2
        have hHeld := DD.out _ hu
        have hg0 := hs.blk hg0
        obtain ⟨w6, hww6⟩ : ∃ x, w5.alloc (.cells #[.slice y3 os.length z3, .slice e3 v.2.2.2.length h3] 51) = x := ⟨_, rfl⟩
        rw [hww6] at hu hHeld hs hg2 hg0  ⊢
        try rw [hG]
        clear hww6 hG hs
        try simp only [Act.put, List.setIfInBounds_toArray, List.set_cons_zero, List.set_cons_succ]
        refine wpAnyH_ready (rs := [5, 10]) (by kernel_rfl) (by simp) ?_
        refine AllReadyH.cons rfl (fun K hK => ?_) (AllReadyH.cons rfl (fun K hK => ?_) (AllReadyH.nil))
        · go_simp
          refine (concat_u64 _ _ ob v.2.1 G0 _ w6 (Hox1.out.up stable_u64 hu) (Hvx1.out.up stable_u64 hu) hg0 (by have h60 := Ho60.out; have l60 := Hvlen.out; omega)).mono ?_
          rintro e w7 ⟨v0, rfl, hc, hs⟩
          have Hc0 := Lib.hid (hc.keep stable_u64 (Keep.weak (Hsa.out _ hu)))
          obtain ⟨s0, n0, rfl, _, _⟩ := hc.val
          have hg2 := hs.blk hg2
          have hu := hu.trans hs
          refine hK.out _ _ (DD.out _ hu) (fun hHeld => ?_)
          clear hK K hHeld hc hs hg0
          have hHeld := DD.out _ hu
          try simp only [Act.put, List.setIfInBounds_toArray, List.set_cons_zero, List.set_cons_succ]
          refine wpAnyH_take (i := 18) (v := ?_) rfl (by kernel_rfl) (by kernel_rfl) (by kernel_rfl) (fun _ _ _ h => h) (Or.inl ⟨by rfl, ?_⟩) (by assumption) ?_
          rotate_left
          · (intro w hSw; (try dsimp only at hSw); go_simp)
            try with_reducible rfl
          rotate_left
          try simp only [Act.put, List.setIfInBounds_toArray]
          refine wpAnyH_ready (rs := [10]) (by kernel_rfl) (by simp) ?_
          refine AllReadyH.cons rfl (fun K hK => ?_) (AllReadyH.nil)
          go_simp
          have hs : Up w7 (w7.alloc (.cells #[.slice y2 oy.length z2, .slice e2 v.2.2.1.length h2] 49)) := (Up.refl w7).alloc _
          have hg1 : (w7.alloc (.cells #[.slice y2 oy.length z2, .slice e2 v.2.2.1.length h2] 49)).heap[w7.heap.size]? = some (.cells #[.slice y2 oy.length z2, .slice e2 v.2.2.1.length h2] 49 (0, 0)) := blk_new w7 (.cells #[.slice y2 oy.length z2, .slice e2 v.2.2.1.length h2] 49) rfl
          have hu : Up wd (w7.alloc (.cells #[.slice y2 oy.length z2, .slice e2 v.2.2.1.length h2] 49)) := hu.trans hs
          refine hK.out _ _ (DD.out _ hu) (fun hHeld => ?_)
          clear hK K hHeld
          obtain ⟨G1, hG⟩ : ∃ G, w7.heap.size = G := ⟨_, rfl⟩
          rw [hG] at hg1
          have hHeld := DD.out _ hu
          have Hc0 := Lib.hid (Hc0.out.keep stable_u64 (Keep.upS hs))
          have hg2 := hs.blk hg2
          obtain ⟨w8, hww8⟩ : ∃ x, w7.alloc (.cells #[.slice y2 oy.length z2, .slice e2 v.2.2.1.length h2] 49) = x := ⟨_, rfl⟩
          rw [hww8] at hu hHeld hs hg1 hg2 Hc0 ⊢
          try rw [hG]
          clear hww8 hG hs
          try simp only [Act.put, List.setIfInBounds_toArray, List.set_cons_zero, List.set_cons_succ]
          refine wpAnyH_ready (rs := [11]) (by kernel_rfl) (by simp) ?_
          refine AllReadyH.cons rfl (fun K hK => ?_) (AllReadyH.nil)
          go_simp
          refine (concat_byt _ _ oy v.2.2.1 G1 _ w8 (Hox2.out.up stable_bytes hu) (Hvx2.out.up stable_bytes hu) hg1 (by have h60 := Ho60.out; have l60 := Hvlen.out; omega)).mono ?_
          rintro e w9 ⟨v1, rfl, hc, hs⟩
          have Hc1 := Lib.hid (hc.keep stable_bytes (Keep.weak (Hsa.out _ hu)))
          obtain ⟨s1, n1, rfl, _, _⟩ := hc.val
          have Hc0 := Lib.hid (Hc0.out.keep stable_u64 (Keep.upS hs))
          have hg2 := hs.blk hg2
          have hu := hu.trans hs
          refine hK.out _ _ (DD.out _ hu) (fun hHeld => ?_)
          clear hK K hHeld hc hs hg1
          have hHeld := DD.out _ hu
          try simp only [Act.put, List.setIfInBounds_toArray, List.set_cons_zero, List.set_cons_succ]
          refine wpAnyH_ready (rs := [17]) (by kernel_rfl) (by simp) ?_
          refine AllReadyH.cons rfl (fun K hK => ?_) (AllReadyH.nil)
          go_simp
          refine (concat_bod d _ _ os v.2.2.2 G2 _ w9 (Hox3.out.up (stable_bod d) hu) (Hvx3.out.up (stable_bod d) hu) hg2 (by have h60 := Ho60.out; have l60 := Hvlen.out; omega)).mono ?_
          rintro e w10 ⟨v2, rfl, hc, hs⟩
          have Hc2 := Lib.hid (hc.keep (stable_bod d) (Keep.weak (Hsa.out _ hu)))
          obtain ⟨s2, n2, rfl, _, _⟩ := hc.val
          have Hc0 := Lib.hid (Hc0.out.keep stable_u64 (Keep.upS hs))
          have Hc1 := Lib.hid (Hc1.out.keep stable_bytes (Keep.upS hs))
          have hu := hu.trans hs
          refine hK.out _ _ (DD.out _ hu) (fun hHeld => ?_)
          clear hK K hHeld hc hs hg2
          have hHeld := DD.out _ hu
          try simp only [Act.put, List.setIfInBounds_toArray, List.set_cons_zero, List.set_cons_succ]
          refine wpAnyH_done (by kernel_rfl) ?_ _
          have hbT := hu.blk Hbv2.out
          have q1 : w10.cell? ⟨T, 1, none⟩ = some (.slice e1 v.2.1.length h1) := cell_of_row w10 _ 1 _ _ _ hbT
          have q2 : w10.cell? ⟨T, 2, none⟩ = some (.slice e2 v.2.2.1.length h2) := cell_of_row w10 _ 2 _ _ _ hbT
          have q3 : w10.cell? ⟨T, 3, none⟩ = some (.slice e3 v.2.2.2.length h3) := cell_of_row w10 _ 3 _ _ _ hbT
          have tf : ∀ o, w10.frozen? ⟨T, o, none⟩ = false := fun o => frozen_of_row w10 _ o _ _ hbT
          have tz : T < w10.heap.size := lt_of_block hbT
          have HbT := Lib.hid hbT; have Hu := Lib.hid hu
          clear hbT hu hHeld DD
          refine AskTail.normal ?_
          rw [runTail]
          refine wpOp_step rfl (fun K' hK' => ?_)
          go_simp
          refine hK' _ _ ?_
          clear hK'
          rw [runTail]
          refine wpOp_step rfl (fun K' hK' => ?_)
          go_simp
          refine hK' _ _ ?_
          clear hK'
          rw [runTail]
          refine wpOp_step rfl (fun K' hK' => ?_)
          go_simp
          refine hK' _ _ ?_
          clear hK'
          rw [runTail]
          refine wpOp_step rfl (fun K' hK' => ?_)
          go_simp
          refine hK' _ _ ?_
          clear hK'
          rw [runTail]
          refine wpOp_step rfl (fun K' hK' => ?_)
          go_simp
          refine hK' _ _ ?_
          clear hK'
          rw [runTail]
          go_wp2_with fail
          go_meet
          exact LEAF.out _ _ _ _ _ _ _ Hc0.out Hc1.out Hc2.out HbT.out Hu.out
        · go_simp
          have hs : Up w6 (w6.alloc (.cells #[.slice y2 oy.length z2, .slice e2 v.2.2.1.length h2] 49)) := (Up.refl w6).alloc _
          have hg1 : (w6.alloc (.cells #[.slice y2 oy.length z2, .slice e2 v.2.2.1.length h2] 49)).heap[w6.heap.size]? = some (.cells #[.slice y2 oy.length z2, .slice e2 v.2.2.1.length h2] 49 (0, 0)) := blk_new w6 (.cells #[.slice y2 oy.length z2, .slice e2 v.2.2.1.length h2] 49) rfl
          have hu : Up wd (w6.alloc (.cells #[.slice y2 oy.length z2, .slice e2 v.2.2.1.length h2] 49)) := hu.trans hs
          refine hK.out _ _ (DD.out _ hu) (fun hHeld => ?_)
          clear hK K hHeld
          obtain ⟨G1, hG⟩ : ∃ G, w6.heap.size = G := ⟨_, rfl⟩
          rw [hG] at hg1
          have hHeld := DD.out _ hu
          have hg0 := hs.blk hg0
          have hg2 := hs.blk hg2
          obtain ⟨w7, hww7⟩ : ∃ x, w6.alloc (.cells #[.slice y2 oy.length z2, .slice e2 v.2.2.1.length h2] 49) = x := ⟨_, rfl⟩
          rw [hww7] at hu hHeld hs hg1 hg0 hg2  ⊢
          try rw [hG]
          clear hww7 hG hs
          try simp only [Act.put, List.setIfInBounds_toArray, List.set_cons_zero, List.set_cons_succ]
          refine wpAnyH_ready (rs := [5]) (by kernel_rfl) (by simp) ?_
          refine AllReadyH.cons rfl (fun K hK => ?_) (AllReadyH.nil)
          go_simp
          refine (concat_u64 _ _ ob v.2.1 G0 _ w7 (Hox1.out.up stable_u64 hu) (Hvx1.out.up stable_u64 hu) hg0 (by have h60 := Ho60.out; have l60 := Hvlen.out; omega)).mono ?_
          rintro e w8 ⟨v0, rfl, hc, hs⟩
          have Hc0 := Lib.hid (hc.keep stable_u64 (Keep.weak (Hsa.out _ hu)))
          obtain ⟨s0, n0, rfl, _, _⟩ := hc.val
          have hg2 := hs.blk hg2
          have hg1 := hs.blk hg1
          have hu := hu.trans hs
          refine hK.out _ _ (DD.out _ hu) (fun hHeld => ?_)
          clear hK K hHeld hc hs hg0
          have hHeld := DD.out _ hu
          try simp only [Act.put, List.setIfInBounds_toArray, List.set_cons_zero, List.set_cons_succ]
          refine wpAnyH_take (i := 18) (v := ?_) rfl (by kernel_rfl) (by kernel_rfl) (by kernel_rfl) (fun _ _ _ h => h) (Or.inl ⟨by rfl, ?_⟩) (by assumption) ?_
          rotate_left
          · (intro w hSw; (try dsimp only at hSw); go_simp)
            try with_reducible rfl
          rotate_left
          try simp only [Act.put, List.setIfInBounds_toArray]
          refine wpAnyH_ready (rs := [11]) (by kernel_rfl) (by simp) ?_
          refine AllReadyH.cons rfl (fun K hK => ?_) (AllReadyH.nil)
          go_simp
          refine (concat_byt _ _ oy v.2.2.1 G1 _ w8 (Hox2.out.up stable_bytes hu) (Hvx2.out.up stable_bytes hu) hg1 (by have h60 := Ho60.out; have l60 := Hvlen.out; omega)).mono ?_
          rintro e w9 ⟨v1, rfl, hc, hs⟩
          have Hc1 := Lib.hid (hc.keep stable_bytes (Keep.weak (Hsa.out _ hu)))
          obtain ⟨s1, n1, rfl, _, _⟩ := hc.val
          have Hc0 := Lib.hid (Hc0.out.keep stable_u64 (Keep.upS hs))
          have hg2 := hs.blk hg2
          have hu := hu.trans hs
          refine hK.out _ _ (DD.out _ hu) (fun hHeld => ?_)
          clear hK K hHeld hc hs hg1
          have hHeld := DD.out _ hu
          try simp only [Act.put, List.setIfInBounds_toArray, List.set_cons_zero, List.set_cons_succ]
          refine wpAnyH_ready (rs := [17]) (by kernel_rfl) (by simp) ?_
          refine AllReadyH.cons rfl (fun K hK => ?_) (AllReadyH.nil)
          go_simp
          refine (concat_bod d _ _ os v.2.2.2 G2 _ w9 (Hox3.out.up (stable_bod d) hu) (Hvx3.out.up (stable_bod d) hu) hg2 (by have h60 := Ho60.out; have l60 := Hvlen.out; omega)).mono ?_
          rintro e w10 ⟨v2, rfl, hc, hs⟩
          have Hc2 := Lib.hid (hc.keep (stable_bod d) (Keep.weak (Hsa.out _ hu)))
          obtain ⟨s2, n2, rfl, _, _⟩ := hc.val
          have Hc0 := Lib.hid (Hc0.out.keep stable_u64 (Keep.upS hs))
          have Hc1 := Lib.hid (Hc1.out.keep stable_bytes (Keep.upS hs))
          have hu := hu.trans hs
          refine hK.out _ _ (DD.out _ hu) (fun hHeld => ?_)
          clear hK K hHeld hc hs hg2
          have hHeld := DD.out _ hu
          try simp only [Act.put, List.setIfInBounds_toArray, List.set_cons_zero, List.set_cons_succ]
          refine wpAnyH_done (by kernel_rfl) ?_ _
          have hbT := hu.blk Hbv2.out
          have q1 : w10.cell? ⟨T, 1, none⟩ = some (.slice e1 v.2.1.length h1) := cell_of_row w10 _ 1 _ _ _ hbT
          have q2 : w10.cell? ⟨T, 2, none⟩ = some (.slice e2 v.2.2.1.length h2) := cell_of_row w10 _ 2 _ _ _ hbT
          have q3 : w10.cell? ⟨T, 3, none⟩ = some (.slice e3 v.2.2.2.length h3) := cell_of_row w10 _ 3 _ _ _ hbT
          have tf : ∀ o, w10.frozen? ⟨T, o, none⟩ = false := fun o => frozen_of_row w10 _ o _ _ hbT
          have tz : T < w10.heap.size := lt_of_block hbT
          have HbT := Lib.hid hbT; have Hu := Lib.hid hu
          clear hbT hu hHeld DD
          refine AskTail.normal ?_
          rw [runTail]
          refine wpOp_step rfl (fun K' hK' => ?_)
          go_simp
          refine hK' _ _ ?_
          clear hK'
          rw [runTail]
          refine wpOp_step rfl (fun K' hK' => ?_)
          go_simp
          refine hK' _ _ ?_
          clear hK'
          rw [runTail]
          refine wpOp_step rfl (fun K' hK' => ?_)
          go_simp
          refine hK' _ _ ?_
          clear hK'
          rw [runTail]
          refine wpOp_step rfl (fun K' hK' => ?_)
          go_simp
          refine hK' _ _ ?_
          clear hK'
          rw [runTail]
          refine wpOp_step rfl (fun K' hK' => ?_)
          go_simp
          refine hK' _ _ ?_
          clear hK'
          rw [runTail]
          go_wp2_with fail
          go_meet
          exact LEAF.out _ _ _ _ _ _ _ Hc0.out Hc1.out Hc2.out HbT.out Hu.out
    · go_simp
      have hs : Up wd ((wd.alloc (.cells #[.slice y2 oy.length z2, .slice e2 v.2.2.1.length h2] 49)).drew) := ((Up.refl wd).alloc _).drew
      have hg1 : ((wd.alloc (.cells #[.slice y2 oy.length z2, .slice e2 v.2.2.1.length h2] 49)).drew).heap[wd.heap.size]? = some (.cells #[.slice y2 oy.length z2, .slice e2 v.2.2.1.length h2] 49 (0, 0)) := blk_new wd (.cells #[.slice y2 oy.length z2, .slice e2 v.2.2.1.length h2] 49) rfl
      have hu : Up wd ((wd.alloc (.cells #[.slice y2 oy.length z2, .slice e2 v.2.2.1.length h2] 49)).drew) := hs
      refine hK.out _ _ (DD.out _ hu) (fun hHeld => ?_)
      clear hK K hHeld
      obtain ⟨G1, hG⟩ : ∃ G, wd.heap.size = G := ⟨_, rfl⟩
      rw [hG] at hg1
      have hHeld := DD.out _ hu
      obtain ⟨w5, hww5⟩ : ∃ x, (wd.alloc (.cells #[.slice y2 oy.length z2, .slice e2 v.2.2.1.length h2] 49)).drew = x := ⟨_, rfl⟩
      rw [hww5] at hu hHeld hs hg1   ⊢
      try rw [hG]
      clear hww5 hG hs
      try simp only [Act.put, List.setIfInBounds_toArray, List.set_cons_zero, List.set_cons_succ]
      refine wpAnyH_ready (rs := [4, 16]) (by kernel_rfl) (by simp) ?_
      refine AllReadyH.cons rfl (fun K hK => ?_) (AllReadyH.cons rfl (fun K hK => ?_) (AllReadyH.nil))
      · go_simp
        have hs : Up w5 (w5.alloc (.cells #[.slice y1 ob.length z1, .slice e1 v.2.1.length h1] 50)) := (Up.refl w5).alloc _
        have hg0 : (w5.alloc (.cells #[.slice y1 ob.length z1, .slice e1 v.2.1.length h1] 50)).heap[w5.heap.size]? = some (.cells #[.slice y1 ob.length z1, .slice e1 v.2.1.length h1] 50 (0, 0)) := blk_new w5 (.cells #[.slice y1 ob.length z1, .slice e1 v.2.1.length h1] 50) rfl
        have hu : Up wd (w5.alloc (.cells #[.slice y1 ob.length z1, .slice e1 v.2.1.length h1] 50)) := hu.trans hs
        refine hK.out _ _ (DD.out _ hu) (fun hHeld => ?_)
        clear hK K hHeld
        obtain ⟨G0, hG⟩ : ∃ G, w5.heap.size = G := ⟨_, rfl⟩
        rw [hG] at hg0
        have hHeld := DD.out _ hu
        have hg1 := hs.blk hg1
        obtain ⟨w6, hww6⟩ : ∃ x, w5.alloc (.cells #[.slice y1 ob.length z1, .slice e1 v.2.1.length h1] 50) = x := ⟨_, rfl⟩
        rw [hww6] at hu hHeld hs hg0 hg1  ⊢
        try rw [hG]
        clear hww6 hG hs
        try simp only [Act.put, List.setIfInBounds_toArray, List.set_cons_zero, List.set_cons_succ]
        refine wpAnyH_ready (rs := [5, 16]) (by kernel_rfl) (by simp) ?_
        refine AllReadyH.cons rfl (fun K hK => ?_) (AllReadyH.cons rfl (fun K hK => ?_) (AllReadyH.nil))
        · go_simp
          refine (concat_u64 _ _ ob v.2.1 G0 _ w6 (Hox1.out.up stable_u64 hu) (Hvx1.out.up stable_u64 hu) hg0 (by have h60 := Ho60.out; have l60 := Hvlen.out; omega)).mono ?_
          rintro e w7 ⟨v0, rfl, hc, hs⟩
          have Hc0 := Lib.hid (hc.keep stable_u64 (Keep.weak (Hsa.out _ hu)))
          obtain ⟨s0, n0, rfl, _, _⟩ := hc.val
          have hg1 := hs.blk hg1
          have hu := hu.trans hs
          refine hK.out _ _ (DD.out _ hu) (fun hHeld => ?_)
          clear hK K hHeld hc hs hg0
          have hHeld := DD.out _ hu
          try simp only [Act.put, List.setIfInBounds_toArray, List.set_cons_zero, List.set_cons_succ]
          refine wpAnyH_take (i := 18) (v := ?_) rfl (by kernel_rfl) (by kernel_rfl) (by kernel_rfl) (fun _ _ _ h => h) (Or.inl ⟨by rfl, ?_⟩) (by assumption) ?_
          rotate_left
          · (intro w hSw; (try dsimp only at hSw); go_simp)
            try with_reducible rfl
          rotate_left
          try simp only [Act.put, List.setIfInBounds_toArray]
          refine wpAnyH_ready (rs := [11, 16]) (by kernel_rfl) (by simp) ?_
          refine AllReadyH.cons rfl (fun K hK => ?_) (AllReadyH.cons rfl (fun K hK => ?_) (AllReadyH.nil))
          · go_simp
            refine (concat_byt _ _ oy v.2.2.1 G1 _ w7 (Hox2.out.up stable_bytes hu) (Hvx2.out.up stable_bytes hu) hg1 (by have h60 := Ho60.out; have l60 := Hvlen.out; omega)).mono ?_
            rintro e w8 ⟨v1, rfl, hc, hs⟩
            have Hc1 := Lib.hid (hc.keep stable_bytes (Keep.weak (Hsa.out _ hu)))
            obtain ⟨s1, n1, rfl, _, _⟩ := hc.val
            have Hc0 := Lib.hid (Hc0.out.keep stable_u64 (Keep.upS hs))
            have hu := hu.trans hs
            refine hK.out _ _ (DD.out _ hu) (fun hHeld => ?_)
            clear hK K hHeld hc hs hg1
            have hHeld := DD.out _ hu
            try simp only [Act.put, List.setIfInBounds_toArray, List.set_cons_zero, List.set_cons_succ]
            refine wpAnyH_ready (rs := [16]) (by kernel_rfl) (by simp) ?_
            refine AllReadyH.cons rfl (fun K hK => ?_) (AllReadyH.nil)
            go_simp
            have hs : Up w8 (w8.alloc (.cells #[.slice y3 os.length z3, .slice e3 v.2.2.2.length h3] 51)) := (Up.refl w8).alloc _
            have hg2 : (w8.alloc (.cells #[.slice y3 os.length z3, .slice e3 v.2.2.2.length h3] 51)).heap[w8.heap.size]? = some (.cells #[.slice y3 os.length z3, .slice e3 v.2.2.2.length h3] 51 (0, 0)) := blk_new w8 (.cells #[.slice y3 os.length z3, .slice e3 v.2.2.2.length h3] 51) rfl
            have hu : Up wd (w8.alloc (.cells #[.slice y3 os.length z3, .slice e3 v.2.2.2.length h3] 51)) := hu.trans hs
            refine hK.out _ _ (DD.out _ hu) (fun hHeld => ?_)
            clear hK K hHeld
            obtain ⟨G2, hG⟩ : ∃ G, w8.heap.size = G := ⟨_, rfl⟩
            rw [hG] at hg2
            have hHeld := DD.out _ hu
            have Hc0 := Lib.hid (Hc0.out.keep stable_u64 (Keep.upS hs))
            have Hc1 := Lib.hid (Hc1.out.keep stable_bytes (Keep.upS hs))
            obtain ⟨w9, hww9⟩ : ∃ x, w8.alloc (.cells #[.slice y3 os.length z3, .slice e3 v.2.2.2.length h3] 51) = x := ⟨_, rfl⟩
            rw [hww9] at hu hHeld hs hg2  Hc0 Hc1 ⊢
            try rw [hG]
            clear hww9 hG hs
            try simp only [Act.put, List.setIfInBounds_toArray, List.set_cons_zero, List.set_cons_succ]
            refine wpAnyH_ready (rs := [17]) (by kernel_rfl) (by simp) ?_
            refine AllReadyH.cons rfl (fun K hK => ?_) (AllReadyH.nil)
            go_simp
            refine (concat_bod d _ _ os v.2.2.2 G2 _ w9 (Hox3.out.up (stable_bod d) hu) (Hvx3.out.up (stable_bod d) hu) hg2 (by have h60 := Ho60.out; have l60 := Hvlen.out; omega)).mono ?_
            rintro e w10 ⟨v2, rfl, hc, hs⟩
            have Hc2 := Lib.hid (hc.keep (stable_bod d) (Keep.weak (Hsa.out _ hu)))
            obtain ⟨s2, n2, rfl, _, _⟩ := hc.val
            have Hc0 := Lib.hid (Hc0.out.keep stable_u64 (Keep.upS hs))
            have Hc1 := Lib.hid (Hc1.out.keep stable_bytes (Keep.upS hs))
            have hu := hu.trans hs
            refine hK.out _ _ (DD.out _ hu) (fun hHeld => ?_)
            clear hK K hHeld hc hs hg2
            have hHeld := DD.out _ hu
            try simp only [Act.put, List.setIfInBounds_toArray, List.set_cons_zero, List.set_cons_succ]
            refine wpAnyH_done (by kernel_rfl) ?_ _
            have hbT := hu.blk Hbv2.out
            have q1 : w10.cell? ⟨T, 1, none⟩ = some (.slice e1 v.2.1.length h1) := cell_of_row w10 _ 1 _ _ _ hbT
            have q2 : w10.cell? ⟨T, 2, none⟩ = some (.slice e2 v.2.2.1.length h2) := cell_of_row w10 _ 2 _ _ _ hbT
            have q3 : w10.cell? ⟨T, 3, none⟩ = some (.slice e3 v.2.2.2.length h3) := cell_of_row w10 _ 3 _ _ _ hbT
            have tf : ∀ o, w10.frozen? ⟨T, o, none⟩ = false := fun o => frozen_of_row w10 _ o _ _ hbT
            have tz : T < w10.heap.size := lt_of_block hbT
            have HbT := Lib.hid hbT; have Hu := Lib.hid hu
            clear hbT hu hHeld DD
            refine AskTail.normal ?_
            rw [runTail]
            refine wpOp_step rfl (fun K' hK' => ?_)
            go_simp
            refine hK' _ _ ?_
            clear hK'
            rw [runTail]
            refine wpOp_step rfl (fun K' hK' => ?_)
            go_simp
            refine hK' _ _ ?_
            clear hK'
            rw [runTail]
            refine wpOp_step rfl (fun K' hK' => ?_)
            go_simp
            refine hK' _ _ ?_
            clear hK'
            rw [runTail]
            refine wpOp_step rfl (fun K' hK' => ?_)
            go_simp
            refine hK' _ _ ?_
            clear hK'
            rw [runTail]
            refine wpOp_step rfl (fun K' hK' => ?_)
            go_simp
            refine hK' _ _ ?_
            clear hK'
            rw [runTail]
            go_wp2_with fail
            go_meet
            exact LEAF.out _ _ _ _ _ _ _ Hc0.out Hc1.out Hc2.out HbT.out Hu.out
          · go_simp
            have hs : Up w7 (w7.alloc (.cells #[.slice y3 os.length z3, .slice e3 v.2.2.2.length h3] 51)) := (Up.refl w7).alloc _
            have hg2 : (w7.alloc (.cells #[.slice y3 os.length z3, .slice e3 v.2.2.2.length h3] 51)).heap[w7.heap.size]? = some (.cells #[.slice y3 os.length z3, .slice e3 v.2.2.2.length h3] 51 (0, 0)) := blk_new w7 (.cells #[.slice y3 os.length z3, .slice e3 v.2.2.2.length h3] 51) rfl
            have hu : Up wd (w7.alloc (.cells #[.slice y3 os.length z3, .slice e3 v.2.2.2.length h3] 51)) := hu.trans hs
            refine hK.out _ _ (DD.out _ hu) (fun hHeld => ?_)
            clear hK K hHeld
            obtain ⟨G2, hG⟩ : ∃ G, w7.heap.size = G := ⟨_, rfl⟩
            rw [hG] at hg2
            have hHeld := DD.out _ hu
            have Hc0 := Lib.hid (Hc0.out.keep stable_u64 (Keep.upS hs))
            have hg1 := hs.blk hg1
            obtain ⟨w8, hww8⟩ : ∃ x, w7.alloc (.cells #[.slice y3 os.length z3, .slice e3 v.2.2.2.length h3] 51) = x := ⟨_, rfl⟩
            rw [hww8] at hu hHeld hs hg2 hg1 Hc0 ⊢
            try rw [hG]
            clear hww8 hG hs
            try simp only [Act.put, List.setIfInBounds_toArray, List.set_cons_zero, List.set_cons_succ]
            refine wpAnyH_ready (rs := [11]) (by kernel_rfl) (by simp) ?_
            refine AllReadyH.cons rfl (fun K hK => ?_) (AllReadyH.nil)
            go_simp
            refine (concat_byt _ _ oy v.2.2.1 G1 _ w8 (Hox2.out.up stable_bytes hu) (Hvx2.out.up stable_bytes hu) hg1 (by have h60 := Ho60.out; have l60 := Hvlen.out; omega)).mono ?_
            rintro e w9 ⟨v1, rfl, hc, hs⟩
            have Hc1 := Lib.hid (hc.keep stable_bytes (Keep.weak (Hsa.out _ hu)))
            obtain ⟨s1, n1, rfl, _, _⟩ := hc.val
            have Hc0 := Lib.hid (Hc0.out.keep stable_u64 (Keep.upS hs))
            have hg2 := hs.blk hg2
            have hu := hu.trans hs
            refine hK.out _ _ (DD.out _ hu) (fun hHeld => ?_)
            clear hK K hHeld hc hs hg1
            have hHeld := DD.out _ hu
            try simp only [Act.put, List.setIfInBounds_toArray, List.set_cons_zero, List.set_cons_succ]
            refine wpAnyH_ready (rs := [17]) (by kernel_rfl) (by simp) ?_
            refine AllReadyH.cons rfl (fun K hK => ?_) (AllReadyH.nil)
            go_simp
            refine (concat_bod d _ _ os v.2.2.2 G2 _ w9 (Hox3.out.up (stable_bod d) hu) (Hvx3.out.up (stable_bod d) hu) hg2 (by have h60 := Ho60.out; have l60 := Hvlen.out; omega)).mono ?_
            rintro e w10 ⟨v2, rfl, hc, hs⟩
            have Hc2 := Lib.hid (hc.keep (stable_bod d) (Keep.weak (Hsa.out _ hu)))
            obtain ⟨s2, n2, rfl, _, _⟩ := hc.val
            have Hc0 := Lib.hid (Hc0.out.keep stable_u64 (Keep.upS hs))
            have Hc1 := Lib.hid (Hc1.out.keep stable_bytes (Keep.upS hs))
            have hu := hu.trans hs
            refine hK.out _ _ (DD.out _ hu) (fun hHeld => ?_)
            clear hK K hHeld hc hs hg2
            have hHeld := DD.out _ hu
            try simp only [Act.put, List.setIfInBounds_toArray, List.set_cons_zero, List.set_cons_succ]
            refine wpAnyH_done (by kernel_rfl) ?_ _
            have hbT := hu.blk Hbv2.out
            have q1 : w10.cell? ⟨T, 1, none⟩ = some (.slice e1 v.2.1.length h1) := cell_of_row w10 _ 1 _ _ _ hbT
            have q2 : w10.cell? ⟨T, 2, none⟩ = some (.slice e2 v.2.2.1.length h2) := cell_of_row w10 _ 2 _ _ _ hbT
            have q3 : w10.cell? ⟨T, 3, none⟩ = some (.slice e3 v.2.2.2.length h3) := cell_of_row w10 _ 3 _ _ _ hbT
            have tf : ∀ o, w10.frozen? ⟨T, o, none⟩ = false := fun o => frozen_of_row w10 _ o _ _ hbT
            have tz : T < w10.heap.size := lt_of_block hbT
            have HbT := Lib.hid hbT; have Hu := Lib.hid hu
            clear hbT hu hHeld DD
            refine AskTail.normal ?_
            rw [runTail]
            refine wpOp_step rfl (fun K' hK' => ?_)
            go_simp
            refine hK' _ _ ?_
            clear hK'
            rw [runTail]
            refine wpOp_step rfl (fun K' hK' => ?_)
            go_simp
            refine hK' _ _ ?_
            clear hK'
            rw [runTail]
            refine wpOp_step rfl (fun K' hK' => ?_)
            go_simp
            refine hK' _ _ ?_
            clear hK'
            rw [runTail]
            refine wpOp_step rfl (fun K' hK' => ?_)
            go_simp
            refine hK' _ _ ?_
            clear hK'
            rw [runTail]
            refine wpOp_step rfl (fun K' hK' => ?_)
            go_simp
            refine hK' _ _ ?_
            clear hK'
            rw [runTail]
            go_wp2_with fail
            go_meet
            exact LEAF.out _ _ _ _ _ _ _ Hc0.out Hc1.out Hc2.out HbT.out Hu.out
        · go_simp
          have hs : Up w6 (w6.alloc (.cells #[.slice y3 os.length z3, .slice e3 v.2.2.2.length h3] 51)) := (Up.refl w6).alloc _
          have hg2 : (w6.alloc (.cells #[.slice y3 os.length z3, .slice e3 v.2.2.2.length h3] 51)).heap[w6.heap.size]? = some (.cells #[.slice y3 os.length z3, .slice e3 v.2.2.2.length h3] 51 (0, 0)) := blk_new w6 (.cells #[.slice y3 os.length z3, .slice e3 v.2.2.2.length h3] 51) rfl
          have hu : Up wd (w6.alloc (.cells #[.slice y3 os.length z3, .slice e3 v.2.2.2.length h3] 51)) := hu.trans hs
          refine hK.out _ _ (DD.out _ hu) (fun hHeld => ?_)
          clear hK K hHeld
          obtain ⟨G2, hG⟩ : ∃ G, w6.heap.size = G := ⟨_, rfl⟩
          rw [hG] at hg2
          have hHeld := DD.out _ hu
          have hg1 := hs.blk hg1
          have hg0 := hs.blk hg0
          obtain ⟨w7, hww7⟩ : ∃ x, w6.alloc (.cells #[.slice y3 os.length z3, .slice e3 v.2.2.2.length h3] 51) = x := ⟨_, rfl⟩
          rw [hww7] at hu hHeld hs hg2 hg1 hg0  ⊢
          try rw [hG]
          clear hww7 hG hs
          try simp only [Act.put, List.setIfInBounds_toArray, List.set_cons_zero, List.set_cons_succ]
          refine wpAnyH_ready (rs := [5]) (by kernel_rfl) (by simp) ?_
          refine AllReadyH.cons rfl (fun K hK => ?_) (AllReadyH.nil)
          go_simp
          refine (concat_u64 _ _ ob v.2.1 G0 _ w7 (Hox1.out.up stable_u64 hu) (Hvx1.out.up stable_u64 hu) hg0 (by have h60 := Ho60.out; have l60 := Hvlen.out; omega)).mono ?_
          rintro e w8 ⟨v0, rfl, hc, hs⟩
          have Hc0 := Lib.hid (hc.keep stable_u64 (Keep.weak (Hsa.out _ hu)))
          obtain ⟨s0, n0, rfl, _, _⟩ := hc.val
          have hg1 := hs.blk hg1
          have hg2 := hs.blk hg2
          have hu := hu.trans hs
          refine hK.out _ _ (DD.out _ hu) (fun hHeld => ?_)
          clear hK K hHeld hc hs hg0
          have hHeld := DD.out _ hu
          try simp only [Act.put, List.setIfInBounds_toArray, List.set_cons_zero, List.set_cons_succ]
          refine wpAnyH_take (i := 18) (v := ?_) rfl (by kernel_rfl) (by kernel_rfl) (by kernel_rfl) (fun _ _ _ h => h) (Or.inl ⟨by rfl, ?_⟩) (by assumption) ?_
          rotate_left
          · (intro w hSw; (try dsimp only at hSw); go_simp)
            try with_reducible rfl
          rotate_left
          try simp only [Act.put, List.setIfInBounds_toArray]
          refine wpAnyH_ready (rs := [11]) (by kernel_rfl) (by simp) ?_
          refine AllReadyH.cons rfl (fun K hK => ?_) (AllReadyH.nil)
          go_simp
          refine (concat_byt _ _ oy v.2.2.1 G1 _ w8 (Hox2.out.up stable_bytes hu) (Hvx2.out.up stable_bytes hu) hg1 (by have h60 := Ho60.out; have l60 := Hvlen.out; omega)).mono ?_
          rintro e w9 ⟨v1, rfl, hc, hs⟩
          have Hc1 := Lib.hid (hc.keep stable_bytes (Keep.weak (Hsa.out _ hu)))
          obtain ⟨s1, n1, rfl, _, _⟩ := hc.val
          have Hc0 := Lib.hid (Hc0.out.keep stable_u64 (Keep.upS hs))
          have hg2 := hs.blk hg2
          have hu := hu.trans hs
          refine hK.out _ _ (DD.out _ hu) (fun hHeld => ?_)
          clear hK K hHeld hc hs hg1
          have hHeld := DD.out _ hu
          try simp only [Act.put, List.setIfInBounds_toArray, List.set_cons_zero, List.set_cons_succ]
          refine wpAnyH_ready (rs := [17]) (by kernel_rfl) (by simp) ?_
          refine AllReadyH.cons rfl (fun K hK => ?_) (AllReadyH.nil)
          go_simp
          refine (concat_bod d _ _ os v.2.2.2 G2 _ w9 (Hox3.out.up (stable_bod d) hu) (Hvx3.out.up (stable_bod d) hu) hg2 (by have h60 := Ho60.out; have l60 := Hvlen.out; omega)).mono ?_
          rintro e w10 ⟨v2, rfl, hc, hs⟩
          have Hc2 := Lib.hid (hc.keep (stable_bod d) (Keep.weak (Hsa.out _ hu)))
          obtain ⟨s2, n2, rfl, _, _⟩ := hc.val
          have Hc0 := Lib.hid (Hc0.out.keep stable_u64 (Keep.upS hs))
          have Hc1 := Lib.hid (Hc1.out.keep stable_bytes (Keep.upS hs))
          have hu := hu.trans hs
          refine hK.out _ _ (DD.out _ hu) (fun hHeld => ?_)
          clear hK K hHeld hc hs hg2
          have hHeld := DD.out _ hu
          try simp only [Act.put, List.setIfInBounds_toArray, List.set_cons_zero, List.set_cons_succ]
          refine wpAnyH_done (by kernel_rfl) ?_ _
          have hbT := hu.blk Hbv2.out
          have q1 : w10.cell? ⟨T, 1, none⟩ = some (.slice e1 v.2.1.length h1) := cell_of_row w10 _ 1 _ _ _ hbT
          have q2 : w10.cell? ⟨T, 2, none⟩ = some (.slice e2 v.2.2.1.length h2) := cell_of_row w10 _ 2 _ _ _ hbT
          have q3 : w10.cell? ⟨T, 3, none⟩ = some (.slice e3 v.2.2.2.length h3) := cell_of_row w10 _ 3 _ _ _ hbT
          have tf : ∀ o, w10.frozen? ⟨T, o, none⟩ = false := fun o => frozen_of_row w10 _ o _ _ hbT
          have tz : T < w10.heap.size := lt_of_block hbT
          have HbT := Lib.hid hbT; have Hu := Lib.hid hu
          clear hbT hu hHeld DD
          refine AskTail.normal ?_
          rw [runTail]
          refine wpOp_step rfl (fun K' hK' => ?_)
          go_simp
          refine hK' _ _ ?_
          clear hK'
          rw [runTail]
          refine wpOp_step rfl (fun K' hK' => ?_)
          go_simp
          refine hK' _ _ ?_
          clear hK'
          rw [runTail]
          refine wpOp_step rfl (fun K' hK' => ?_)
          go_simp
          refine hK' _ _ ?_
          clear hK'
          rw [runTail]
          refine wpOp_step rfl (fun K' hK' => ?_)
          go_simp
          refine hK' _ _ ?_
          clear hK'
          rw [runTail]
          refine wpOp_step rfl (fun K' hK' => ?_)
          go_simp
          refine hK' _ _ ?_
          clear hK'
          rw [runTail]
          go_wp2_with fail
          go_meet
          exact LEAF.out _ _ _ _ _ _ _ Hc0.out Hc1.out Hc2.out HbT.out Hu.out
      · go_simp
        have hs : Up w5 (w5.alloc (.cells #[.slice y3 os.length z3, .slice e3 v.2.2.2.length h3] 51)) := (Up.refl w5).alloc _
        have hg2 : (w5.alloc (.cells #[.slice y3 os.length z3, .slice e3 v.2.2.2.length h3] 51)).heap[w5.heap.size]? = some (.cells #[.slice y3 os.length z3, .slice e3 v.2.2.2.length h3] 51 (0, 0)) := blk_new w5 (.cells #[.slice y3 os.length z3, .slice e3 v.2.2.2.length h3] 51) rfl
        have hu : Up wd (w5.alloc (.cells #[.slice y3 os.length z3, .slice e3 v.2.2.2.length h3] 51)) := hu.trans hs
        refine hK.out _ _ (DD.out _ hu) (fun hHeld => ?_)
        clear hK K hHeld
        obtain ⟨G2, hG⟩ : ∃ G, w5.heap.size = G := ⟨_, rfl⟩
        rw [hG] at hg2
        have hHeld := DD.out _ hu
        have hg1 := hs.blk hg1
        obtain ⟨w6, hww6⟩ : ∃ x, w5.alloc (.cells #[.slice y3 os.length z3, .slice e3 v.2.2.2.length h3] 51) = x := ⟨_, rfl⟩
        rw [hww6] at hu hHeld hs hg2 hg1  ⊢
        try rw [hG]
        clear hww6 hG hs
        try simp only [Act.put, List.setIfInBounds_toArray, List.set_cons_zero, List.set_cons_succ]
        refine wpAnyH_ready (rs := [4]) (by kernel_rfl) (by simp) ?_
        refine AllReadyH.cons rfl (fun K hK => ?_) (AllReadyH.nil)
        go_simp
        have hs : Up w6 (w6.alloc (.cells #[.slice y1 ob.length z1, .slice e1 v.2.1.length h1] 50)) := (Up.refl w6).alloc _
        have hg0 : (w6.alloc (.cells #[.slice y1 ob.length z1, .slice e1 v.2.1.length h1] 50)).heap[w6.heap.size]? = some (.cells #[.slice y1 ob.length z1, .slice e1 v.2.1.length h1] 50 (0, 0)) := blk_new w6 (.cells #[.slice y1 ob.length z1, .slice e1 v.2.1.length h1] 50) rfl
        have hu : Up wd (w6.alloc (.cells #[.slice y1 ob.length z1, .slice e1 v.2.1.length h1] 50)) := hu.trans hs
        refine hK.out _ _ (DD.out _ hu) (fun hHeld => ?_)
        clear hK K hHeld
        obtain ⟨G0, hG⟩ : ∃ G, w6.heap.size = G := ⟨_, rfl⟩
        rw [hG] at hg0
        have hHeld := DD.out _ hu
        have hg1 := hs.blk hg1
        have hg2 := hs.blk hg2
        obtain ⟨w7, hww7⟩ : ∃ x, w6.alloc (.cells #[.slice y1 ob.length z1, .slice e1 v.2.1.length h1] 50) = x := ⟨_, rfl⟩
        rw [hww7] at hu hHeld hs hg0 hg1 hg2  ⊢
        try rw [hG]
        clear hww7 hG hs
        try simp only [Act.put, List.setIfInBounds_toArray, List.set_cons_zero, List.set_cons_succ]
        refine wpAnyH_ready (rs := [5]) (by kernel_rfl) (by simp) ?_
        refine AllReadyH.cons rfl (fun K hK => ?_) (AllReadyH.nil)
        go_simp
        refine (concat_u64 _ _ ob v.2.1 G0 _ w7 (Hox1.out.up stable_u64 hu) (Hvx1.out.up stable_u64 hu) hg0 (by have h60 := Ho60.out; have l60 := Hvlen.out; omega)).mono ?_
        rintro e w8 ⟨v0, rfl, hc, hs⟩
        have Hc0 := Lib.hid (hc.keep stable_u64 (Keep.weak (Hsa.out _ hu)))
        obtain ⟨s0, n0, rfl, _, _⟩ := hc.val
        have hg1 := hs.blk hg1
        have hg2 := hs.blk hg2
        have hu := hu.trans hs
        refine hK.out _ _ (DD.out _ hu) (fun hHeld => ?_)
        clear hK K hHeld hc hs hg0
        have hHeld := DD.out _ hu
        try simp only [Act.put, List.setIfInBounds_toArray, List.set_cons_zero, List.set_cons_succ]
        refine wpAnyH_take (i := 18) (v := ?_) rfl (by kernel_rfl) (by kernel_rfl) (by kernel_rfl) (fun _ _ _ h => h) (Or.inl ⟨by rfl, ?_⟩) (by assumption) ?_
        rotate_left
        · (intro w hSw; (try dsimp only at hSw); go_simp)
          try with_reducible rfl
        rotate_left
        try simp only [Act.put, List.setIfInBounds_toArray]
        refine wpAnyH_ready (rs := [11]) (by kernel_rfl) (by simp) ?_
        refine AllReadyH.cons rfl (fun K hK => ?_) (AllReadyH.nil)
        go_simp
        refine (concat_byt _ _ oy v.2.2.1 G1 _ w8 (Hox2.out.up stable_bytes hu) (Hvx2.out.up stable_bytes hu) hg1 (by have h60 := Ho60.out; have l60 := Hvlen.out; omega)).mono ?_
        rintro e w9 ⟨v1, rfl, hc, hs⟩
        have Hc1 := Lib.hid (hc.keep stable_bytes (Keep.weak (Hsa.out _ hu)))
        obtain ⟨s1, n1, rfl, _, _⟩ := hc.val
        have Hc0 := Lib.hid (Hc0.out.keep stable_u64 (Keep.upS hs))
        have hg2 := hs.blk hg2
        have hu := hu.trans hs
        refine hK.out _ _ (DD.out _ hu) (fun hHeld => ?_)
        clear hK K hHeld hc hs hg1
        have hHeld := DD.out _ hu
        try simp only [Act.put, List.setIfInBounds_toArray, List.set_cons_zero, List.set_cons_succ]
        refine wpAnyH_ready (rs := [17]) (by kernel_rfl) (by simp) ?_
        refine AllReadyH.cons rfl (fun K hK => ?_) (AllReadyH.nil)
        go_simp
        refine (concat_bod d _ _ os v.2.2.2 G2 _ w9 (Hox3.out.up (stable_bod d) hu) (Hvx3.out.up (stable_bod d) hu) hg2 (by have h60 := Ho60.out; have l60 := Hvlen.out; omega)).mono ?_
        rintro e w10 ⟨v2, rfl, hc, hs⟩
        have Hc2 := Lib.hid (hc.keep (stable_bod d) (Keep.weak (Hsa.out _ hu)))
        obtain ⟨s2, n2, rfl, _, _⟩ := hc.val
        have Hc0 := Lib.hid (Hc0.out.keep stable_u64 (Keep.upS hs))
        have Hc1 := Lib.hid (Hc1.out.keep stable_bytes (Keep.upS hs))
        have hu := hu.trans hs
        refine hK.out _ _ (DD.out _ hu) (fun hHeld => ?_)
        clear hK K hHeld hc hs hg2
        have hHeld := DD.out _ hu
        try simp only [Act.put, List.setIfInBounds_toArray, List.set_cons_zero, List.set_cons_succ]
        refine wpAnyH_done (by kernel_rfl) ?_ _
        have hbT := hu.blk Hbv2.out
        have q1 : w10.cell? ⟨T, 1, none⟩ = some (.slice e1 v.2.1.length h1) := cell_of_row w10 _ 1 _ _ _ hbT
        have q2 : w10.cell? ⟨T, 2, none⟩ = some (.slice e2 v.2.2.1.length h2) := cell_of_row w10 _ 2 _ _ _ hbT
        have q3 : w10.cell? ⟨T, 3, none⟩ = some (.slice e3 v.2.2.2.length h3) := cell_of_row w10 _ 3 _ _ _ hbT
        have tf : ∀ o, w10.frozen? ⟨T, o, none⟩ = false := fun o => frozen_of_row w10 _ o _ _ hbT
        have tz : T < w10.heap.size := lt_of_block hbT
        have HbT := Lib.hid hbT; have Hu := Lib.hid hu
        clear hbT hu hHeld DD
        refine AskTail.normal ?_
        rw [runTail]
        refine wpOp_step rfl (fun K' hK' => ?_)
        go_simp
        refine hK' _ _ ?_
        clear hK'
        rw [runTail]
        refine wpOp_step rfl (fun K' hK' => ?_)
        go_simp
        refine hK' _ _ ?_
        clear hK'
        rw [runTail]
        refine wpOp_step rfl (fun K' hK' => ?_)
        go_simp
        refine hK' _ _ ?_
        clear hK'
        rw [runTail]
        refine wpOp_step rfl (fun K' hK' => ?_)
        go_simp
        refine hK' _ _ ?_
        clear hK'
        rw [runTail]
        refine wpOp_step rfl (fun K' hK' => ?_)
        go_simp
        refine hK' _ _ ?_
        clear hK'
        rw [runTail]
        go_wp2_with fail
        go_meet
        exact LEAF.out _ _ _ _ _ _ _ Hc0.out Hc1.out Hc2.out HbT.out Hu.out
    · go_simp
      have hs : Up wd ((wd.alloc (.cells #[.slice y3 os.length z3, .slice e3 v.2.2.2.length h3] 51)).drew) := ((Up.refl wd).alloc _).drew
      have hg2 : ((wd.alloc (.cells #[.slice y3 os.length z3, .slice e3 v.2.2.2.length h3] 51)).drew).heap[wd.heap.size]? = some (.cells #[.slice y3 os.length z3, .slice e3 v.2.2.2.length h3] 51 (0, 0)) := blk_new wd (.cells #[.slice y3 os.length z3, .slice e3 v.2.2.2.length h3] 51) rfl
      have hu : Up wd ((wd.alloc (.cells #[.slice y3 os.length z3, .slice e3 v.2.2.2.length h3] 51)).drew) := hs
      refine hK.out _ _ (DD.out _ hu) (fun hHeld => ?_)
      clear hK K hHeld
      obtain ⟨G2, hG⟩ : ∃ G, wd.heap.size = G := ⟨_, rfl⟩
      rw [hG] at hg2
      have hHeld := DD.out _ hu
      obtain ⟨w5, hww5⟩ : ∃ x, (wd.alloc (.cells #[.slice y3 os.length z3, .slice e3 v.2.2.2.length h3] 51)).drew = x := ⟨_, rfl⟩
      rw [hww5] at hu hHeld hs hg2   ⊢
      try rw [hG]
      clear hww5 hG hs
      try simp only [Act.put, List.setIfInBounds_toArray, List.set_cons_zero, List.set_cons_succ]
      refine wpAnyH_ready (rs := [4, 10]) (by kernel_rfl) (by simp) ?_
      refine AllReadyH.cons rfl (fun K hK => ?_) (AllReadyH.cons rfl (fun K hK => ?_) (AllReadyH.nil))
      · go_simp
        have hs : Up w5 (w5.alloc (.cells #[.slice y1 ob.length z1, .slice e1 v.2.1.length h1] 50)) := (Up.refl w5).alloc _
        have hg0 : (w5.alloc (.cells #[.slice y1 ob.length z1, .slice e1 v.2.1.length h1] 50)).heap[w5.heap.size]? = some (.cells #[.slice y1 ob.length z1, .slice e1 v.2.1.length h1] 50 (0, 0)) := blk_new w5 (.cells #[.slice y1 ob.length z1, .slice e1 v.2.1.length h1] 50) rfl
        have hu : Up wd (w5.alloc (.cells #[.slice y1 ob.length z1, .slice e1 v.2.1.length h1] 50)) := hu.trans hs
        refine hK.out _ _ (DD.out _ hu) (fun hHeld => ?_)
        clear hK K hHeld
        obtain ⟨G0, hG⟩ : ∃ G, w5.heap.size = G := ⟨_, rfl⟩
        rw [hG] at hg0
        have hHeld := DD.out _ hu
        have hg2 := hs.blk hg2
        obtain ⟨w6, hww6⟩ : ∃ x, w5.alloc (.cells #[.slice y1 ob.length z1, .slice e1 v.2.1.length h1] 50) = x := ⟨_, rfl⟩
        rw [hww6] at hu hHeld hs hg0 hg2  ⊢
        try rw [hG]
        clear hww6 hG hs
        try simp only [Act.put, List.setIfInBounds_toArray, List.set_cons_zero, List.set_cons_succ]
        refine wpAnyH_ready (rs := [5, 10]) (by kernel_rfl) (by simp) ?_
        refine AllReadyH.cons rfl (fun K hK => ?_) (AllReadyH.cons rfl (fun K hK => ?_) (AllReadyH.nil))
        · go_simp
          refine (concat_u64 _ _ ob v.2.1 G0 _ w6 (Hox1.out.up stable_u64 hu) (Hvx1.out.up stable_u64 hu) hg0 (by have h60 := Ho60.out; have l60 := Hvlen.out; omega)).mono ?_
          rintro e w7 ⟨v0, rfl, hc, hs⟩
          have Hc0 := Lib.hid (hc.keep stable_u64 (Keep.weak (Hsa.out _ hu)))
          obtain ⟨s0, n0, rfl, _, _⟩ := hc.val
          have hg2 := hs.blk hg2
          have hu := hu.trans hs
          refine hK.out _ _ (DD.out _ hu) (fun hHeld => ?_)
          clear hK K hHeld hc hs hg0
          have hHeld := DD.out _ hu
          try simp only [Act.put, List.setIfInBounds_toArray, List.set_cons_zero, List.set_cons_succ]
          refine wpAnyH_take (i := 18) (v := ?_) rfl (by kernel_rfl) (by kernel_rfl) (by kernel_rfl) (fun _ _ _ h => h) (Or.inl ⟨by rfl, ?_⟩) (by assumption) ?_
          rotate_left
          · (intro w hSw; (try dsimp only at hSw); go_simp)
            try with_reducible rfl
          rotate_left
          try simp only [Act.put, List.setIfInBounds_toArray]
          refine wpAnyH_ready (rs := [10]) (by kernel_rfl) (by simp) ?_
          refine AllReadyH.cons rfl (fun K hK => ?_) (AllReadyH.nil)
          go_simp
          have hs : Up w7 (w7.alloc (.cells #[.slice y2 oy.length z2, .slice e2 v.2.2.1.length h2] 49)) := (Up.refl w7).alloc _
          have hg1 : (w7.alloc (.cells #[.slice y2 oy.length z2, .slice e2 v.2.2.1.length h2] 49)).heap[w7.heap.size]? = some (.cells #[.slice y2 oy.length z2, .slice e2 v.2.2.1.length h2] 49 (0, 0)) := blk_new w7 (.cells #[.slice y2 oy.length z2, .slice e2 v.2.2.1.length h2] 49) rfl
          have hu : Up wd (w7.alloc (.cells #[.slice y2 oy.length z2, .slice e2 v.2.2.1.length h2] 49)) := hu.trans hs
          refine hK.out _ _ (DD.out _ hu) (fun hHeld => ?_)
          clear hK K hHeld
          obtain ⟨G1, hG⟩ : ∃ G, w7.heap.size = G := ⟨_, rfl⟩
          rw [hG] at hg1
          have hHeld := DD.out _ hu
          have Hc0 := Lib.hid (Hc0.out.keep stable_u64 (Keep.upS hs))
          have hg2 := hs.blk hg2
          obtain ⟨w8, hww8⟩ : ∃ x, w7.alloc (.cells #[.slice y2 oy.length z2, .slice e2 v.2.2.1.length h2] 49) = x := ⟨_, rfl⟩
          rw [hww8] at hu hHeld hs hg1 hg2 Hc0 ⊢
          try rw [hG]
          clear hww8 hG hs
          try simp only [Act.put, List.setIfInBounds_toArray, List.set_cons_zero, List.set_cons_succ]
          refine wpAnyH_ready (rs := [11]) (by kernel_rfl) (by simp) ?_
          refine AllReadyH.cons rfl (fun K hK => ?_) (AllReadyH.nil)
          go_simp
          refine (concat_byt _ _ oy v.2.2.1 G1 _ w8 (Hox2.out.up stable_bytes hu) (Hvx2.out.up stable_bytes hu) hg1 (by have h60 := Ho60.out; have l60 := Hvlen.out; omega)).mono ?_
          rintro e w9 ⟨v1, rfl, hc, hs⟩
          have Hc1 := Lib.hid (hc.keep stable_bytes (Keep.weak (Hsa.out _ hu)))
          obtain ⟨s1, n1, rfl, _, _⟩ := hc.val
          have Hc0 := Lib.hid (Hc0.out.keep stable_u64 (Keep.upS hs))
          have hg2 := hs.blk hg2
          have hu := hu.trans hs
          refine hK.out _ _ (DD.out _ hu) (fun hHeld => ?_)
          clear hK K hHeld hc hs hg1
          have hHeld := DD.out _ hu
          try simp only [Act.put, List.setIfInBounds_toArray, List.set_cons_zero, List.set_cons_succ]
          refine wpAnyH_ready (rs := [17]) (by kernel_rfl) (by simp) ?_
          refine AllReadyH.cons rfl (fun K hK => ?_) (AllReadyH.nil)
          go_simp
          refine (concat_bod d _ _ os v.2.2.2 G2 _ w9 (Hox3.out.up (stable_bod d) hu) (Hvx3.out.up (stable_bod d) hu) hg2 (by have h60 := Ho60.out; have l60 := Hvlen.out; omega)).mono ?_
          rintro e w10 ⟨v2, rfl, hc, hs⟩
          have Hc2 := Lib.hid (hc.keep (stable_bod d) (Keep.weak (Hsa.out _ hu)))
          obtain ⟨s2, n2, rfl, _, _⟩ := hc.val
          have Hc0 := Lib.hid (Hc0.out.keep stable_u64 (Keep.upS hs))
          have Hc1 := Lib.hid (Hc1.out.keep stable_bytes (Keep.upS hs))
          have hu := hu.trans hs
          refine hK.out _ _ (DD.out _ hu) (fun hHeld => ?_)
          clear hK K hHeld hc hs hg2
          have hHeld := DD.out _ hu
          try simp only [Act.put, List.setIfInBounds_toArray, List.set_cons_zero, List.set_cons_succ]
          refine wpAnyH_done (by kernel_rfl) ?_ _
          have hbT := hu.blk Hbv2.out
          have q1 : w10.cell? ⟨T, 1, none⟩ = some (.slice e1 v.2.1.length h1) := cell_of_row w10 _ 1 _ _ _ hbT
          have q2 : w10.cell? ⟨T, 2, none⟩ = some (.slice e2 v.2.2.1.length h2) := cell_of_row w10 _ 2 _ _ _ hbT
          have q3 : w10.cell? ⟨T, 3, none⟩ = some (.slice e3 v.2.2.2.length h3) := cell_of_row w10 _ 3 _ _ _ hbT
          have tf : ∀ o, w10.frozen? ⟨T, o, none⟩ = false := fun o => frozen_of_row w10 _ o _ _ hbT
          have tz : T < w10.heap.size := lt_of_block hbT
          have HbT := Lib.hid hbT; have Hu := Lib.hid hu
          clear hbT hu hHeld DD
          refine AskTail.normal ?_
          rw [runTail]
          refine wpOp_step rfl (fun K' hK' => ?_)
          go_simp
          refine hK' _ _ ?_
          clear hK'
          rw [runTail]
          refine wpOp_step rfl (fun K' hK' => ?_)
          go_simp
          refine hK' _ _ ?_
          clear hK'
          rw [runTail]
          refine wpOp_step rfl (fun K' hK' => ?_)
          go_simp
          refine hK' _ _ ?_
          clear hK'
          rw [runTail]
          refine wpOp_step rfl (fun K' hK' => ?_)
          go_simp
          refine hK' _ _ ?_
          clear hK'
          rw [runTail]
          refine wpOp_step rfl (fun K' hK' => ?_)
          go_simp
          refine hK' _ _ ?_
          clear hK'
          rw [runTail]
          go_wp2_with fail
          go_meet
          exact LEAF.out _ _ _ _ _ _ _ Hc0.out Hc1.out Hc2.out HbT.out Hu.out
        · go_simp
          have hs : Up w6 (w6.alloc (.cells #[.slice y2 oy.length z2, .slice e2 v.2.2.1.length h2] 49)) := (Up.refl w6).alloc _
          have hg1 : (w6.alloc (.cells #[.slice y2 oy.length z2, .slice e2 v.2.2.1.length h2] 49)).heap[w6.heap.size]? = some (.cells #[.slice y2 oy.length z2, .slice e2 v.2.2.1.length h2] 49 (0, 0)) := blk_new w6 (.cells #[.slice y2 oy.length z2, .slice e2 v.2.2.1.length h2] 49) rfl
          have hu : Up wd (w6.alloc (.cells #[.slice y2 oy.length z2, .slice e2 v.2.2.1.length h2] 49)) := hu.trans hs
          refine hK.out _ _ (DD.out _ hu) (fun hHeld => ?_)
          clear hK K hHeld
          obtain ⟨G1, hG⟩ : ∃ G, w6.heap.size = G := ⟨_, rfl⟩
          rw [hG] at hg1
          have hHeld := DD.out _ hu
          have hg2 := hs.blk hg2
          have hg0 := hs.blk hg0
          obtain ⟨w7, hww7⟩ : ∃ x, w6.alloc (.cells #[.slice y2 oy.length z2, .slice e2 v.2.2.1.length h2] 49) = x := ⟨_, rfl⟩
          rw [hww7] at hu hHeld hs hg1 hg2 hg0  ⊢
          try rw [hG]
          clear hww7 hG hs
          try simp only [Act.put, List.setIfInBounds_toArray, List.set_cons_zero, List.set_cons_succ]
          refine wpAnyH_ready (rs := [5]) (by kernel_rfl) (by simp) ?_
          refine AllReadyH.cons rfl (fun K hK => ?_) (AllReadyH.nil)
          go_simp
          refine (concat_u64 _ _ ob v.2.1 G0 _ w7 (Hox1.out.up stable_u64 hu) (Hvx1.out.up stable_u64 hu) hg0 (by have h60 := Ho60.out; have l60 := Hvlen.out; omega)).mono ?_
          rintro e w8 ⟨v0, rfl, hc, hs⟩
          have Hc0 := Lib.hid (hc.keep stable_u64 (Keep.weak (Hsa.out _ hu)))
          obtain ⟨s0, n0, rfl, _, _⟩ := hc.val
          have hg2 := hs.blk hg2
          have hg1 := hs.blk hg1
          have hu := hu.trans hs
          refine hK.out _ _ (DD.out _ hu) (fun hHeld => ?_)
          clear hK K hHeld hc hs hg0
          have hHeld := DD.out _ hu
          try simp only [Act.put, List.setIfInBounds_toArray, List.set_cons_zero, List.set_cons_succ]
          refine wpAnyH_take (i := 18) (v := ?_) rfl (by kernel_rfl) (by kernel_rfl) (by kernel_rfl) (fun _ _ _ h => h) (Or.inl ⟨by rfl, ?_⟩) (by assumption) ?_
          rotate_left
          · (intro w hSw; (try dsimp only at hSw); go_simp)
            try with_reducible rfl
          rotate_left
          try simp only [Act.put, List.setIfInBounds_toArray]
          refine wpAnyH_ready (rs := [11]) (by kernel_rfl) (by simp) ?_
          refine AllReadyH.cons rfl (fun K hK => ?_) (AllReadyH.nil)
          go_simp
          refine (concat_byt _ _ oy v.2.2.1 G1 _ w8 (Hox2.out.up stable_bytes hu) (Hvx2.out.up stable_bytes hu) hg1 (by have h60 := Ho60.out; have l60 := Hvlen.out; omega)).mono ?_
          rintro e w9 ⟨v1, rfl, hc, hs⟩
          have Hc1 := Lib.hid (hc.keep stable_bytes (Keep.weak (Hsa.out _ hu)))
          obtain ⟨s1, n1, rfl, _, _⟩ := hc.val
          have Hc0 := Lib.hid (Hc0.out.keep stable_u64 (Keep.upS hs))
          have hg2 := hs.blk hg2
          have hu := hu.trans hs
          refine hK.out _ _ (DD.out _ hu) (fun hHeld => ?_)
          clear hK K hHeld hc hs hg1
          have hHeld := DD.out _ hu
          try simp only [Act.put, List.setIfInBounds_toArray, List.set_cons_zero, List.set_cons_succ]
          refine wpAnyH_ready (rs := [17]) (by kernel_rfl) (by simp) ?_
          refine AllReadyH.cons rfl (fun K hK => ?_) (AllReadyH.nil)
          go_simp
          refine (concat_bod d _ _ os v.2.2.2 G2 _ w9 (Hox3.out.up (stable_bod d) hu) (Hvx3.out.up (stable_bod d) hu) hg2 (by have h60 := Ho60.out; have l60 := Hvlen.out; omega)).mono ?_
          rintro e w10 ⟨v2, rfl, hc, hs⟩
          have Hc2 := Lib.hid (hc.keep (stable_bod d) (Keep.weak (Hsa.out _ hu)))
          obtain ⟨s2, n2, rfl, _, _⟩ := hc.val
          have Hc0 := Lib.hid (Hc0.out.keep stable_u64 (Keep.upS hs))
          have Hc1 := Lib.hid (Hc1.out.keep stable_bytes (Keep.upS hs))
          have hu := hu.trans hs
          refine hK.out _ _ (DD.out _ hu) (fun hHeld => ?_)
          clear hK K hHeld hc hs hg2
          have hHeld := DD.out _ hu
          try simp only [Act.put, List.setIfInBounds_toArray, List.set_cons_zero, List.set_cons_succ]
          refine wpAnyH_done (by kernel_rfl) ?_ _
          have hbT := hu.blk Hbv2.out
          have q1 : w10.cell? ⟨T, 1, none⟩ = some (.slice e1 v.2.1.length h1) := cell_of_row w10 _ 1 _ _ _ hbT
          have q2 : w10.cell? ⟨T, 2, none⟩ = some (.slice e2 v.2.2.1.length h2) := cell_of_row w10 _ 2 _ _ _ hbT
          have q3 : w10.cell? ⟨T, 3, none⟩ = some (.slice e3 v.2.2.2.length h3) := cell_of_row w10 _ 3 _ _ _ hbT
          have tf : ∀ o, w10.frozen? ⟨T, o, none⟩ = false := fun o => frozen_of_row w10 _ o _ _ hbT
          have tz : T < w10.heap.size := lt_of_block hbT
          have HbT := Lib.hid hbT; have Hu := Lib.hid hu
          clear hbT hu hHeld DD
          refine AskTail.normal ?_
          rw [runTail]
          refine wpOp_step rfl (fun K' hK' => ?_)
          go_simp
          refine hK' _ _ ?_
          clear hK'
          rw [runTail]
          refine wpOp_step rfl (fun K' hK' => ?_)
          go_simp
          refine hK' _ _ ?_
          clear hK'
          rw [runTail]
          refine wpOp_step rfl (fun K' hK' => ?_)
          go_simp
          refine hK' _ _ ?_
          clear hK'
          rw [runTail]
          refine wpOp_step rfl (fun K' hK' => ?_)
          go_simp
          refine hK' _ _ ?_
          clear hK'
          rw [runTail]
          refine wpOp_step rfl (fun K' hK' => ?_)
          go_simp
          refine hK' _ _ ?_
          clear hK'
          rw [runTail]
          go_wp2_with fail
          go_meet
          exact LEAF.out _ _ _ _ _ _ _ Hc0.out Hc1.out Hc2.out HbT.out Hu.out
      · go_simp
        have hs : Up w5 (w5.alloc (.cells #[.slice y2 oy.length z2, .slice e2 v.2.2.1.length h2] 49)) := (Up.refl w5).alloc _
        have hg1 : (w5.alloc (.cells #[.slice y2 oy.length z2, .slice e2 v.2.2.1.length h2] 49)).heap[w5.heap.size]? = some (.cells #[.slice y2 oy.length z2, .slice e2 v.2.2.1.length h2] 49 (0, 0)) := blk_new w5 (.cells #[.slice y2 oy.length z2, .slice e2 v.2.2.1.length h2] 49) rfl
        have hu : Up wd (w5.alloc (.cells #[.slice y2 oy.length z2, .slice e2 v.2.2.1.length h2] 49)) := hu.trans hs
        refine hK.out _ _ (DD.out _ hu) (fun hHeld => ?_)
        clear hK K hHeld
        obtain ⟨G1, hG⟩ : ∃ G, w5.heap.size = G := ⟨_, rfl⟩
        rw [hG] at hg1
        have hHeld := DD.out _ hu
        have hg2 := hs.blk hg2
        obtain ⟨w6, hww6⟩ : ∃ x, w5.alloc (.cells #[.slice y2 oy.length z2, .slice e2 v.2.2.1.length h2] 49) = x := ⟨_, rfl⟩
        rw [hww6] at hu hHeld hs hg1 hg2  ⊢
        try rw [hG]
        clear hww6 hG hs
        try simp only [Act.put, List.setIfInBounds_toArray, List.set_cons_zero, List.set_cons_succ]
        refine wpAnyH_ready (rs := [4]) (by kernel_rfl) (by simp) ?_
        refine AllReadyH.cons rfl (fun K hK => ?_) (AllReadyH.nil)
        go_simp
        have hs : Up w6 (w6.alloc (.cells #[.slice y1 ob.length z1, .slice e1 v.2.1.length h1] 50)) := (Up.refl w6).alloc _
        have hg0 : (w6.alloc (.cells #[.slice y1 ob.length z1, .slice e1 v.2.1.length h1] 50)).heap[w6.heap.size]? = some (.cells #[.slice y1 ob.length z1, .slice e1 v.2.1.length h1] 50 (0, 0)) := blk_new w6 (.cells #[.slice y1 ob.length z1, .slice e1 v.2.1.length h1] 50) rfl
        have hu : Up wd (w6.alloc (.cells #[.slice y1 ob.length z1, .slice e1 v.2.1.length h1] 50)) := hu.trans hs
        refine hK.out _ _ (DD.out _ hu) (fun hHeld => ?_)
        clear hK K hHeld
        obtain ⟨G0, hG⟩ : ∃ G, w6.heap.size = G := ⟨_, rfl⟩
        rw [hG] at hg0
        have hHeld := DD.out _ hu
        have hg2 := hs.blk hg2
        have hg1 := hs.blk hg1
        obtain ⟨w7, hww7⟩ : ∃ x, w6.alloc (.cells #[.slice y1 ob.length z1, .slice e1 v.2.1.length h1] 50) = x := ⟨_, rfl⟩
        rw [hww7] at hu hHeld hs hg0 hg2 hg1  ⊢
        try rw [hG]
        clear hww7 hG hs
        try simp only [Act.put, List.setIfInBounds_toArray, List.set_cons_zero, List.set_cons_succ]
        refine wpAnyH_ready (rs := [5]) (by kernel_rfl) (by simp) ?_
        refine AllReadyH.cons rfl (fun K hK => ?_) (AllReadyH.nil)
        go_simp
        refine (concat_u64 _ _ ob v.2.1 G0 _ w7 (Hox1.out.up stable_u64 hu) (Hvx1.out.up stable_u64 hu) hg0 (by have h60 := Ho60.out; have l60 := Hvlen.out; omega)).mono ?_
        rintro e w8 ⟨v0, rfl, hc, hs⟩
        have Hc0 := Lib.hid (hc.keep stable_u64 (Keep.weak (Hsa.out _ hu)))
        obtain ⟨s0, n0, rfl, _, _⟩ := hc.val
        have hg2 := hs.blk hg2
        have hg1 := hs.blk hg1
        have hu := hu.trans hs
        refine hK.out _ _ (DD.out _ hu) (fun hHeld => ?_)
        clear hK K hHeld hc hs hg0
        have hHeld := DD.out _ hu
        try simp only [Act.put, List.setIfInBounds_toArray, List.set_cons_zero, List.set_cons_succ]
        refine wpAnyH_take (i := 18) (v := ?_) rfl (by kernel_rfl) (by kernel_rfl) (by kernel_rfl) (fun _ _ _ h => h) (Or.inl ⟨by rfl, ?_⟩) (by assumption) ?_
        rotate_left
        · (intro w hSw; (try dsimp only at hSw); go_simp)
          try with_reducible rfl
        rotate_left
        try simp only [Act.put, List.setIfInBounds_toArray]
        refine wpAnyH_ready (rs := [11]) (by kernel_rfl) (by simp) ?_
        refine AllReadyH.cons rfl (fun K hK => ?_) (AllReadyH.nil)
        go_simp
        refine (concat_byt _ _ oy v.2.2.1 G1 _ w8 (Hox2.out.up stable_bytes hu) (Hvx2.out.up stable_bytes hu) hg1 (by have h60 := Ho60.out; have l60 := Hvlen.out; omega)).mono ?_
        rintro e w9 ⟨v1, rfl, hc, hs⟩
        have Hc1 := Lib.hid (hc.keep stable_bytes (Keep.weak (Hsa.out _ hu)))
        obtain ⟨s1, n1, rfl, _, _⟩ := hc.val
        have Hc0 := Lib.hid (Hc0.out.keep stable_u64 (Keep.upS hs))
        have hg2 := hs.blk hg2
        have hu := hu.trans hs
        refine hK.out _ _ (DD.out _ hu) (fun hHeld => ?_)
        clear hK K hHeld hc hs hg1
        have hHeld := DD.out _ hu
        try simp only [Act.put, List.setIfInBounds_toArray, List.set_cons_zero, List.set_cons_succ]
        refine wpAnyH_ready (rs := [17]) (by kernel_rfl) (by simp) ?_
        refine AllReadyH.cons rfl (fun K hK => ?_) (AllReadyH.nil)
        go_simp
        refine (concat_bod d _ _ os v.2.2.2 G2 _ w9 (Hox3.out.up (stable_bod d) hu) (Hvx3.out.up (stable_bod d) hu) hg2 (by have h60 := Ho60.out; have l60 := Hvlen.out; omega)).mono ?_
        rintro e w10 ⟨v2, rfl, hc, hs⟩
        have Hc2 := Lib.hid (hc.keep (stable_bod d) (Keep.weak (Hsa.out _ hu)))
        obtain ⟨s2, n2, rfl, _, _⟩ := hc.val
        have Hc0 := Lib.hid (Hc0.out.keep stable_u64 (Keep.upS hs))
        have Hc1 := Lib.hid (Hc1.out.keep stable_bytes (Keep.upS hs))
        have hu := hu.trans hs
        refine hK.out _ _ (DD.out _ hu) (fun hHeld => ?_)
        clear hK K hHeld hc hs hg2
        have hHeld := DD.out _ hu
        try simp only [Act.put, List.setIfInBounds_toArray, List.set_cons_zero, List.set_cons_succ]
        refine wpAnyH_done (by kernel_rfl) ?_ _
        have hbT := hu.blk Hbv2.out
        have q1 : w10.cell? ⟨T, 1, none⟩ = some (.slice e1 v.2.1.length h1) := cell_of_row w10 _ 1 _ _ _ hbT
        have q2 : w10.cell? ⟨T, 2, none⟩ = some (.slice e2 v.2.2.1.length h2) := cell_of_row w10 _ 2 _ _ _ hbT
        have q3 : w10.cell? ⟨T, 3, none⟩ = some (.slice e3 v.2.2.2.length h3) := cell_of_row w10 _ 3 _ _ _ hbT
        have tf : ∀ o, w10.frozen? ⟨T, o, none⟩ = false := fun o => frozen_of_row w10 _ o _ _ hbT
        have tz : T < w10.heap.size := lt_of_block hbT
        have HbT := Lib.hid hbT; have Hu := Lib.hid hu
        clear hbT hu hHeld DD
        refine AskTail.normal ?_
        rw [runTail]
        refine wpOp_step rfl (fun K' hK' => ?_)
        go_simp
        refine hK' _ _ ?_
        clear hK'
        rw [runTail]
        refine wpOp_step rfl (fun K' hK' => ?_)
        go_simp
        refine hK' _ _ ?_
        clear hK'
        rw [runTail]
        refine wpOp_step rfl (fun K' hK' => ?_)
        go_simp
        refine hK' _ _ ?_
        clear hK'
        rw [runTail]
        refine wpOp_step rfl (fun K' hK' => ?_)
        go_simp
        refine hK' _ _ ?_
        clear hK'
        rw [runTail]
        refine wpOp_step rfl (fun K' hK' => ?_)
        go_simp
        refine hK' _ _ ?_
        clear hK'
        rw [runTail]
        go_wp2_with fail
        go_meet
        exact LEAF.out _ _ _ _ _ _ _ Hc0.out Hc1.out Hc2.out HbT.out Hu.out
    --]
  case rest =>
  obtain ⟨V, E1, E2, E3, N1, N2, N3, hV, hvt, hdt, hut, hot⟩ := hcut
  have HVt := Lib.hid hvt; have HDt := Lib.hid hdt; have HUt := Lib.hid hut
  have HMt := Lib.hid ((hot _ (lt_of_block Hbm2.out) (by have := HT.out; omega)).trans Hbm2.out)
  have HBt := Lib.hid ((hot _ (lt_of_block Hbb2.out) (by have := HT.out; omega)).trans Hbb2.out)
  have HRt := Lib.hid ((hot _ (lt_of_block Hbr2.out) (by have := HT.out; omega)).trans Hbr2.out)
  have Hans := Lib.hid (show finC fs b V = ANS from (congrArg (finC fs b) hV).symm.trans HANS.out)
  clear hV hvt hdt hut hot Hbo Hbm2 Hbb2 Hbv2 Hbr2 Hox1 Hox2 Hox3 Hvx1 Hvx2 Hvx3
  obtain ⟨wt, rfl⟩ : ∃ y : World, y = wc := ⟨_, rfl⟩
  have t0 : wt.cell? ⟨T, 0, none⟩ = some (.int .i64 V.1) := cell_of_row wt _ 0 _ _ _ HVt.out
  have t1 : wt.cell? ⟨T, 1, none⟩ = some (.slice E1 V.2.1.length N1) := cell_of_row wt _ 1 _ _ _ HVt.out
  have t2 : wt.cell? ⟨T, 2, none⟩ = some (.slice E2 V.2.2.1.length N2) := cell_of_row wt _ 2 _ _ _ HVt.out
  have t3 : wt.cell? ⟨T, 3, none⟩ = some (.slice E3 V.2.2.2.length N3) := cell_of_row wt _ 3 _ _ _ HVt.out
  obtain ⟨MX, hMX⟩ : ∃ MX, maxV V = MX := ⟨_, rfl⟩
  have hmx : ∀ (W : World) (ts : Array TypeId) (t : TypeId), (Builtin.max_ ts t #[.int .i64 (V.2.1.length : Int), .int .i64 (V.2.2.1.length : Int), .int .i64 (V.2.2.2.length : Int)]).run Tryz.prog W = .ok (.int .i64 (MX : Int)) W := fun W ts t => by rw [run_max3, ← hMX]; rfl
  have r0 : wt.cell? ⟨T + 1, 0, none⟩ = some (.slice none 0 0) := cell_of_row wt _ 0 _ _ _ HRt.out
  have r1 : wt.cell? ⟨T + 1, 1, none⟩ = some (.slice none 0 0) := cell_of_row wt _ 1 _ _ _ HRt.out
  have rf' : ∀ o, wt.frozen? ⟨T + 1, o, none⟩ = false := fun o => frozen_of_row wt _ o _ _ HRt.out
  have rz : T + 1 < wt.heap.size := lt_of_block HRt.out
  have HMX := Lib.hid hMX
  clear hMX
  by_cases h60 : 60 < MX
  · have hfin : finC fs b V = (bod0, 5) := by unfold finC; rw [if_pos (by rw [HMX.out]; exact h60)]
    have Hfin := Lib.hid hfin
    have i60 : (60 : Int) < (MX : Int) := by omega
    clear h60 hfin
    go_wp2_with fail
    refine bodyPost_ret (v := .tuple #[.agg #[.slice none 0 0, .slice none 0 0], .int .i64 5]) (by simp [results, Tryz.results71, go_sem, r0, r1]) rfl ?_
    rw [← Hans.out, Hfin.out]
    refine ⟨_, _, rfl, (fun h => by cases h), rdS_nil _ _ _ _, (fun _ => rfl), ?_⟩
    · exact Up.setCell (Up.setCell HUt.out (p := ⟨T + 1, 0, none⟩) (show w.heap.size ≤ T + 1 by have := HT.out; omega) _) (p := ⟨T + 1, 1, none⟩) (show w.heap.size ≤ T + 1 by have := HT.out; omega) _
  · have hfin : finC fs b V = (.mk (setV fs b.values V) b.unknown, 0) := by unfold finC; rw [if_neg (by rw [HMX.out]; exact h60)]
    have Hfin := Lib.hid hfin
    have i60 : ¬ (60 : Int) < (MX : Int) := by omega
    clear h60 hfin
    have m0 : wt.cell? ⟨w.heap.size, 0, none⟩ = some (.string sm) := cell_of_row wt _ 0 _ _ _ HMt.out
    have m1 : wt.cell? ⟨w.heap.size, 1, none⟩ = some (.slice fa nf fc) := cell_of_row wt _ 1 _ _ _ HMt.out
    have m2 : wt.cell? ⟨w.heap.size, 2, none⟩ = some (.slice ba nb bc) := cell_of_row wt _ 2 _ _ _ HMt.out
    have b0 : wt.cell? ⟨w.heap.size + 1, 0, none⟩ = some (.slice va b.values.length vc) := cell_of_row wt _ 0 _ _ _ HBt.out
    have b1 : wt.cell? ⟨w.heap.size + 1, 1, none⟩ = some (.slice ua b.unknown.length uc) := cell_of_row wt _ 1 _ _ _ HBt.out
    have Hset := Lib.hid (set_v d (S := SA S w.heap.size) (.string sm) (.slice fa nf fc) (.slice ba nb bc) (.slice va b.values.length vc) (.slice ua b.unknown.length uc) fs b.values V E1 E2 E3 N1 N2 N3 wt ⟨_, rfl⟩ ⟨_, _, _, rfl⟩ ⟨_, _, _, rfl⟩ (Hflds.out.up stable_fld HUt.out) (Hvals.out.keep (stable_val d) (fun k hs hk => ⟨HUt.out.block k hk, .inl ⟨hs, hk⟩⟩)) Hris.out (by have := Hb16.out; omega) HDt.out)
    go_wp2_with (go_at_call 18; go_must (refine Hset.out.mono ?_; rintro e w8 ⟨vv', rfl, hrd8, hu8⟩; obtain ⟨v8a, v8c, rfl, _, _⟩ := hrd8.val; have Hrd8 := Lib.hid hrd8; have Hu8 := Lib.hid (HUt.out.trans hu8); have hbr8 := hu8.blk HRt.out; have rr0 : w8.cell? ⟨T + 1, 0, none⟩ = some (.slice none 0 0) := cell_of_row w8 _ 0 _ _ _ hbr8; have rr1 : w8.cell? ⟨T + 1, 1, none⟩ = some (.slice none 0 0) := cell_of_row w8 _ 1 _ _ _ hbr8; have rrf : ∀ o, w8.frozen? ⟨T + 1, o, none⟩ = false := (fun o => frozen_of_row w8 _ o _ _ hbr8); have rrz : T + 1 < w8.heap.size := lt_of_block hbr8; clear m0 m1 m2 b0 b1 r0 r1 rf' hrd8 hu8 hbr8))
    refine bodyPost_ret (v := .tuple #[.agg #[.slice v8a (setV fs b.values V).length v8c, .slice ua b.unknown.length uc], .int .i64 0]) (by simp [results, Tryz.results71, go_sem, rr0, rr1]) rfl ?_
    rw [← Hans.out, Hfin.out]
    have huf := Up.setCell (Up.setCell Hu8.out (p := ⟨T + 1, 0, none⟩) (show w.heap.size ≤ T + 1 by have := HT.out; omega) (.slice v8a (setV fs b.values V).length v8c)) (p := ⟨T + 1, 1, none⟩) (show w.heap.size ≤ T + 1 by have := HT.out; omega) (.slice ua b.unknown.length uc)
    have hnS : ¬ Sx (SA S w.heap.size) wt (T + 1) := by
      have := HT.out
      rintro (h | h)
      · rcases h with ⟨_, h⟩ | h <;> omega
      · omega
    refine ⟨_, _, rfl, fun _ => rfl, ?_, (fun h => absurd rfl h), huf⟩
    · refine RdS.keep (stable_val d) (((Hrd8.out.keep (stable_val d) (Keep.setCell (p := ⟨T + 1, 0, none⟩) hnS _)).keep (stable_val d) (Keep.setCell (p := ⟨T + 1, 1, none⟩) hnS _))) (Keep.weak fun k hk => ?_)
      have := HUt.out.size
      rcases hk with (⟨h, _⟩ | h) | h
      · exact .inl h
      · exact .inr (by omega)
      · exact .inr (by omega)
end Go.Proofs.YtbceapeoknngnaaGreatDoor
