/-
  (*reader).add: a value comes to a body as it is.
-/
import Derived.Test.YtbceapeoknngnaaGreatDoorDp29
import Derived.Lib.MinMax
import Derived.Deep.RegionHeld3
import Derived.Deep.DeepCutAuto
import Derived.Deep.CutBlock
set_option linter.unusedVariables false
namespace Go.Proofs.YtbceapeoknngnaaGreatDoor
open Go.RowKit
structure AddH (d : Nat) (S : Nat → Prop) (f : Fil) (fs : List Fld) (b : Bod) (x : Fld) (v : Val) (sm : ByteArray) (fa ba va ua e1 e2 e3 : Option Addr) (nf fc nb bc vc uc h1 h2 h3 cb fb bf fo : Nat) (w : World) : Prop where
  chk : ChkAt w cb fb f
  flds : RdS DFld 6 All w (.slice fa nf fc) fs
  vals : RdS (DValD d) 4 S w (.slice va b.values.length vc) b.values
  bsz : BodSz b
  fld : FldAt w bf fo x
  val : DValD d S w v [.int .i64 v.1, .slice e1 v.2.1.length h1, .slice e2 v.2.2.1.length h2, .slice e3 v.2.2.2.length h3]
  num : v.1 = x.number
  vlen : v.2.1.length ≤ 5000 ∧ v.2.2.1.length ≤ 5000 ∧ v.2.2.2.length ≤ 5000
  olen : ∀ o, findV b.values x.number = some o → o.2.1.length ≤ 60 ∧ o.2.2.1.length ≤ 60 ∧ o.2.2.2.length ≤ 60
  ris : RisingV b.values
  b16 : b.values.length ≤ 16
theorem run_max3 {P : Program} (w : World) (ts : Array TypeId) (t : TypeId) (x y z : Nat) :
    (Builtin.max_ ts t #[.int .i64 (x : Int), .int .i64 (y : Int), .int .i64 (z : Int)]).run P w = .ok (.int .i64 ((max (max x y) z : Nat) : Int)) w := by
  have e2 : ((max (max x y) z : Nat) : Int) = max (max (x : Int) (y : Int)) (z : Int) := by omega
  rw [e2]
  simp [Builtin.max_, Builtin.max2]
  repeat' split
  all_goals omega
set_option maxRecDepth 100000 in
set_option maxHeartbeats 6400000 in
theorem radd_plain (d : Nat) (S : Nat → Prop) (f : Fil) (fs : List Fld) (b : Bod) (x : Fld) (v : Val) (sm : ByteArray) (fa ba va ua e1 e2 e3 : Option Addr) (nf fc nb bc vc uc h1 h2 h3 cb fb bf fo : Nat) (w : World) (H : AddH d S f fs b x v sm fa ba va ua e1 e2 e3 nf fc nb bc vc uc h1 h2 h3 cb fb bf fo w) (hp : findV b.values x.number = none ∨ (x.many = false ∧ x.kind ≠ 10)) :
    Calls Tryz.prog 71 #[.pointer (some ⟨cb, 0, none⟩), .agg #[.string sm, .slice fa nf fc, .slice ba nb bc], .agg #[.slice va b.values.length vc, .slice ua b.unknown.length uc], .pointer (some ⟨bf, fo, none⟩), .agg #[.int .i64 v.1, .slice e1 v.2.1.length h1, .slice e2 v.2.2.1.length h2, .slice e3 v.2.2.2.length h3]] w fun e w' => ∃ vv vu, e = .returned (.tuple #[.agg #[vv, vu], .int .i64 (finC fs b v).2]) ∧ ((finC fs b v).2 = 0 → vu = .slice ua b.unknown.length uc) ∧ RdS (DValD d) 4 (Sx S w) w' vv (finC fs b v).1.values ∧ ((finC fs b v).2 ≠ 0 → vu = .slice none 0 0) ∧ Up w w' := by
  obtain ⟨hchk, hflds, hvals, hbsz, hfld, hval, hnum, hvlen, holen, hris, hb16⟩ := H
  obtain ⟨OV, hOV⟩ : ∃ OV, (findV b.values x.number).getD val0 = OV := ⟨_, rfl⟩
  obtain ⟨ok, hok⟩ : ∃ ok, (findV b.values x.number).isSome = ok := ⟨_, rfl⟩
  have hxb : bf < w.heap.size := hfld.1
  have xn := hfld.2.1.2.1
  have xk := hfld.2.1.2.2.1
  have xm := hfld.2.1.2.2.2.2.1
  have Hx := Lib.hid (⟨xn, xk, xm⟩ : w.cell? ⟨bf, fo + 1, none⟩ = some (.int .i64 x.number) ∧ w.cell? ⟨bf, fo + 2, none⟩ = some (.int .i64 x.kind) ∧ w.cell? ⟨bf, fo + 4, none⟩ = some (.bool x.many))
  have Hchk := Lib.hid hchk; have Hflds := Lib.hid hflds; have Hvals := Lib.hid hvals; have Hbsz := Lib.hid hbsz; have Hfld := Lib.hid hfld; have Hval := Lib.hid hval; have Hnum := Lib.hid hnum; have Hvlen := Lib.hid hvlen; have Holen := Lib.hid holen; have Hris := Lib.hid hris; have Hb16 := Lib.hid hb16; have Hok := Lib.hid hok; have HOV := Lib.hid hOV
  clear hchk hflds hvals hbsz hfld hval hnum hvlen holen hris hb16 xn xk xm
  go_enter Tryz.func71, Tryz.ntmps71
  go_upto_region 1 with (fail)
  generalize hW : (((w.alloc (.cells #[.string sm, .slice fa nf fc, .slice ba nb bc] 38)).alloc (.cells #[.slice va b.values.length vc, .slice ua b.unknown.length uc] 29)).alloc (.cells #[.int .i64 v.1, .slice e1 v.2.1.length h1, .slice e2 v.2.2.1.length h2, .slice e3 v.2.2.2.length h3] 53)).alloc (.cells #[.slice none 0 0, .slice none 0 0] 29) = w1
  have hbm : w1.heap[w.heap.size]? = some (.cells #[.string sm, .slice fa nf fc, .slice ba nb bc] 38 (0, 0)) := by rw [← hW]; exact blk_old _ (blk_old _ (blk_old _ (blk_new w _ rfl)))
  have hbb : w1.heap[w.heap.size + 1]? = some (.cells #[.slice va b.values.length vc, .slice ua b.unknown.length uc] 29 (0, 0)) := by rw [← hW]; exact blk_old _ (blk_old _ (blk_new (w.alloc _) _ (by simp)))
  have hbv : w1.heap[w.heap.size + 1 + 1]? = some (.cells #[.int .i64 v.1, .slice e1 v.2.1.length h1, .slice e2 v.2.2.1.length h2, .slice e3 v.2.2.2.length h3] 53 (0, 0)) := by rw [← hW]; exact blk_old _ (blk_new ((w.alloc _).alloc _) _ (by simp))
  have hbr : w1.heap[w.heap.size + 1 + 1 + 1]? = some (.cells #[.slice none 0 0, .slice none 0 0] 29 (0, 0)) := by rw [← hW]; exact blk_new (((w.alloc _).alloc _).alloc _) _ (by simp)
  have hu1 : Up w w1 := by rw [← hW]; exact ((((Up.refl w).alloc _).alloc _).alloc _).alloc _
  have Hz1 := Lib.hid (show w1.heap.size = w.heap.size + 4 by rw [← hW]; simp)
  clear hW
  have l0 : w1.cell? ⟨w.heap.size + 1, 0, none⟩ = some (.slice va b.values.length vc) := cell_of_row w1 _ 0 _ _ _ hbb
  have l1 : w1.cell? ⟨w.heap.size + 1, 1, none⟩ = some (.slice ua b.unknown.length uc) := cell_of_row w1 _ 1 _ _ _ hbb
  have l2 : w1.cell? ⟨bf, fo + 1, none⟩ = some (.int .i64 x.number) := hu1.cell_some Hx.out.1
  have Hbm := Lib.hid hbm; have Hbb := Lib.hid hbb; have Hbv := Lib.hid hbv; have Hbr := Lib.hid hbr; have Hu1 := Lib.hid hu1
  clear hbm hbb hbv hbr hu1
  have Hget := Lib.hid (fun W (u : Up w1 W) => get_v d (S := fun k => S k ∧ k < w.heap.size) (.slice va b.values.length vc) (.slice ua b.unknown.length uc) b.values x.number W (Hvals.out.keep (stable_val d) (S' := fun k => S k ∧ k < w.heap.size) (w' := W) (fun k hs hk => ⟨(Hu1.out.trans u).block k hk, hs, hk⟩)) ⟨_, _, _, rfl⟩)
  rw [hOV, hok] at Hget
  clear hOV hok
  have dd : w1.drew.cell? ⟨w.heap.size + 1, 0, none⟩ = some (.slice va b.values.length vc) ∧ w1.drew.cell? ⟨w.heap.size + 1, 1, none⟩ = some (.slice ua b.unknown.length uc) ∧ w1.drew.cell? ⟨bf, fo + 1, none⟩ = some (.int .i64 x.number) := ⟨l0, l1, l2⟩
  have DD := Lib.hid (fun W (u : Up w1 W) => (⟨u.cell_some l0, u.cell_some l1, u.cell_some l2⟩ : W.cell? ⟨w.heap.size + 1, 0, none⟩ = some (.slice va b.values.length vc) ∧ W.cell? ⟨w.heap.size + 1, 1, none⟩ = some (.slice ua b.unknown.length uc) ∧ W.cell? ⟨bf, fo + 1, none⟩ = some (.int .i64 x.number)))
  clear l0 l1 l2
  go_cut [12, 13] (fun p o wc => ∃ (O : Nat) (y1 y2 y3 : Option Addr) (z1 z2 z3 : Nat), p = .pointer (some ⟨O, 0, none⟩) ∧ o = .bool ok ∧ wc.heap[O]? = some (.cells #[.int .i64 OV.1, .slice y1 OV.2.1.length z1, .slice y2 OV.2.2.1.length z2, .slice y3 OV.2.2.2.length z3] 53 (0, 0)) ∧ DValD d (fun k => S k ∧ k < w.heap.size) wc OV [.int .i64 OV.1, .slice y1 OV.2.1.length z1, .slice y2 OV.2.2.1.length z2, .slice y3 OV.2.2.2.length z3] ∧ w.heap.size + 4 ≤ O ∧ Up w1 wc)
  case first =>
    go_region_held3 (fun w' => w'.cell? ⟨w.heap.size + 1, 0, none⟩ = some (.slice va b.values.length vc) ∧ w'.cell? ⟨w.heap.size + 1, 1, none⟩ = some (.slice ua b.unknown.length uc) ∧ w'.cell? ⟨bf, fo + 1, none⟩ = some (.int .i64 x.number))
      (first | with_reducible exact dd | with_reducible exact DD.out _ (Up.setCell (Up.setCell (Up.setCell (Up.setCell (hu6.alloc _) (show w1.heap.size ≤ w6.heap.size from hu6.size) _) (show w1.heap.size ≤ w6.heap.size from hu6.size) _) (show w1.heap.size ≤ w6.heap.size from hu6.size) _) (show w1.heap.size ≤ w6.heap.size from hu6.size) _) | with_reducible exact DD.out _ (Up.setCell (Up.setCell (Up.setCell (Up.setCell hu6 (Nat.le_refl w1.heap.size) _) (Nat.le_refl w1.heap.size) _) (Nat.le_refl w1.heap.size) _) (Nat.le_refl w1.heap.size) _) | with_reducible exact DD.out _ (hu6.alloc _) | with_reducible exact DD.out _ hu6 | with_reducible exact DD.out _ ((Up.refl w1).alloc _).drew)
      (first | (go_at_call 19; first
         | (refine (Hget.out _ (Up.refl w1).drew).mono ?_; rintro e w6 ⟨y1, z1, y2, z2, y3, z3, rfl, hod, hu6'⟩; have hu6 := (Up.refl w1).drew.trans hu6')
         | (refine (Hget.out _ ((Up.refl w1).alloc _).drew).mono ?_; rintro e w6 ⟨y1, z1, y2, z2, y3, z3, rfl, hod, hu6'⟩; have hu6 := ((Up.refl w1).alloc _).drew.trans hu6'; have hg6 : w6.heap[w1.heap.size]? = some (.cells #[.int .i64 0, .slice none 0 0, .slice none 0 0, .slice none 0 0] 53 (0, 0)) := hu6'.blk (blk_new w1 _ rfl); have q0 : w6.cell? ⟨w1.heap.size, 0, none⟩ = some (.int .i64 0) := cell_of_row w6 _ 0 _ _ _ hg6; have q1 : w6.cell? ⟨w1.heap.size, 1, none⟩ = some (.slice none 0 0) := cell_of_row w6 _ 1 _ _ _ hg6; have q2 : w6.cell? ⟨w1.heap.size, 2, none⟩ = some (.slice none 0 0) := cell_of_row w6 _ 2 _ _ _ hg6; have q3 : w6.cell? ⟨w1.heap.size, 3, none⟩ = some (.slice none 0 0) := cell_of_row w6 _ 3 _ _ _ hg6; have qf : ∀ o, w6.frozen? ⟨w1.heap.size, o, none⟩ = false := (fun o => frozen_of_row w6 _ o _ _ hg6); have qz : w1.heap.size < w6.heap.size := lt_of_block hg6)))
    all_goals
      go_wp2_with fail
      go_meet
    · exact ⟨w6.heap.size, y1, y2, y3, z1, z2, z3, rfl, rfl, blk_new w6 _ rfl, stable_val d _ _ _ _ _ _ (fun k hs hk => ⟨((Up.refl w6).alloc _).block k hk, hs⟩) hod, by have := hu6.size; have := Hz1.out; omega, hu6.alloc _⟩
    · refine ⟨w1.heap.size, y1, y2, y3, z1, z2, z3, rfl, rfl, heap_setCell_same _ _ 3 _ _ _ (heap_setCell_same _ _ 2 _ _ _ (heap_setCell_same _ _ 1 _ _ _ (heap_setCell_same _ _ 0 _ _ _ hg6))), stable_val d _ _ _ _ _ _ (fun k hs hk => ⟨?_, hs⟩) hod, by have := Hz1.out; omega, Up.setCell (Up.setCell (Up.setCell (Up.setCell hu6 (Nat.le_refl w1.heap.size) _) (Nat.le_refl w1.heap.size) _) (Nat.le_refl w1.heap.size) _) (Nat.le_refl w1.heap.size) _⟩
      have hne : k ≠ w1.heap.size := by have := Hz1.out; have := hs.2; omega
      rw [heap_setCell_other _ _ _ _ hne, heap_setCell_other _ _ _ _ hne, heap_setCell_other _ _ _ _ hne, heap_setCell_other _ _ _ _ hne]
  case rest =>
  obtain ⟨O, y1, y2, y3, z1, z2, z3, rfl, rfl, hbo, hod, hOz, hu2⟩ := hcut
  have Hbo := Lib.hid hbo; have Hod := Lib.hid hod; have HOz := Lib.hid hOz; have Hu2 := Lib.hid hu2
  have Hbm2 := Lib.hid (hu2.blk Hbm.out); have Hbb2 := Lib.hid (hu2.blk Hbb.out); have Hbv2 := Lib.hid (hu2.blk Hbv.out); have Hbr2 := Lib.hid (hu2.blk Hbr.out)
  have Hu02 := Lib.hid (Hu1.out.trans hu2)
  have mn : wc.cell? ⟨bf, fo + 4, none⟩ = some (.bool x.many) := Hu02.out.cell_some Hx.out.2.2
  have kd : wc.cell? ⟨bf, fo + 2, none⟩ = some (.int .i64 x.kind) := Hu02.out.cell_some Hx.out.2.1
  have Hzc := Lib.hid (show w.heap.size + 4 ≤ wc.heap.size by have := hu2.size; have := Hz1.out; omega)
  clear hbo hod hOz hu2 Hget DD dd Hbm Hbb Hbv Hbr
  obtain ⟨on, ob, oy, os⟩ := OV
  simp only at Hod Hbo
  generalize hT : w.heap.size + 1 + 1 = T at *
  have HT := Lib.hid hT
  clear hT
  have HMt := Lib.hid Hbm2.out; have HBt := Lib.hid Hbb2.out; have HVt := Lib.hid Hbv2.out; have HRt := Lib.hid Hbr2.out; have HUt := Lib.hid Hu02.out
  have HDt := Lib.hid (stable_val d _ _ (SA S w.heap.size) _ _ _ (fun k hs hk => ⟨Hu02.out.block k hk, .inl ⟨hs, hk⟩⟩) Hval.out)
  clear Hbo Hod HOz Hu2 Hbm2 Hbb2 Hbv2 Hbr2
  have hcase : ok = false ∨ (x.many = false ∧ (x.kind == 10) = false) := by
    rcases hp with h | ⟨h1, h2⟩
    · have := Hok.out; rw [h] at this; exact .inl this.symm
    · exact .inr ⟨h1, by rw [beq_eq_false_iff_ne]; exact h2⟩
  rcases hcase with rfl | ⟨hmany, hk10⟩
  · have t0 : wc.cell? ⟨T, 0, none⟩ = some (.int .i64 v.1) := cell_of_row wc _ 0 _ _ _ HVt.out
    have t1 : wc.cell? ⟨T, 1, none⟩ = some (.slice e1 v.2.1.length h1) := cell_of_row wc _ 1 _ _ _ HVt.out
    have t2 : wc.cell? ⟨T, 2, none⟩ = some (.slice e2 v.2.2.1.length h2) := cell_of_row wc _ 2 _ _ _ HVt.out
    have t3 : wc.cell? ⟨T, 3, none⟩ = some (.slice e3 v.2.2.2.length h3) := cell_of_row wc _ 3 _ _ _ HVt.out
    obtain ⟨MX, hMX⟩ : ∃ MX, maxV v = MX := ⟨_, rfl⟩
    have hmx : ∀ (W : World) (ts : Array TypeId) (t : TypeId), (Builtin.max_ ts t #[.int .i64 (v.2.1.length : Int), .int .i64 (v.2.2.1.length : Int), .int .i64 (v.2.2.2.length : Int)]).run Tryz.prog W = .ok (.int .i64 (MX : Int)) W := fun W ts t => by rw [run_max3, ← hMX]; rfl
    have r0 : wc.cell? ⟨T + 1, 0, none⟩ = some (.slice none 0 0) := cell_of_row wc _ 0 _ _ _ HRt.out
    have r1 : wc.cell? ⟨T + 1, 1, none⟩ = some (.slice none 0 0) := cell_of_row wc _ 1 _ _ _ HRt.out
    have rf' : ∀ o, wc.frozen? ⟨T + 1, o, none⟩ = false := fun o => frozen_of_row wc _ o _ _ HRt.out
    have rz : T + 1 < wc.heap.size := lt_of_block HRt.out
    have HMX := Lib.hid hMX
    clear hMX
    by_cases h60 : 60 < MX
    · have hfin : finC fs b v = (bod0, 5) := by unfold finC; rw [if_pos (by rw [HMX.out]; exact h60)]
      have Hfin := Lib.hid hfin
      have i60 : (60 : Int) < (MX : Int) := by omega
      clear h60 hfin
      go_wp2_with fail
      refine bodyPost_ret (v := .tuple #[.agg #[.slice none 0 0, .slice none 0 0], .int .i64 5]) (by simp [results, Tryz.results71, go_sem, r0, r1]) rfl ?_
      rw [Hfin.out]
      refine ⟨_, _, rfl, (fun h => by cases h), rdS_nil _ _ _ _, (fun _ => rfl), ?_⟩
      · exact Up.setCell (Up.setCell HUt.out (p := ⟨T + 1, 0, none⟩) (show w.heap.size ≤ T + 1 by have := HT.out; omega) _) (p := ⟨T + 1, 1, none⟩) (show w.heap.size ≤ T + 1 by have := HT.out; omega) _
    · have hfin : finC fs b v = (.mk (setV fs b.values v) b.unknown, 0) := by unfold finC; rw [if_neg (by rw [HMX.out]; exact h60)]
      have Hfin := Lib.hid hfin
      have i60 : ¬ (60 : Int) < (MX : Int) := by omega
      clear h60 hfin
      have m0 : wc.cell? ⟨w.heap.size, 0, none⟩ = some (.string sm) := cell_of_row wc _ 0 _ _ _ HMt.out
      have m1 : wc.cell? ⟨w.heap.size, 1, none⟩ = some (.slice fa nf fc) := cell_of_row wc _ 1 _ _ _ HMt.out
      have m2 : wc.cell? ⟨w.heap.size, 2, none⟩ = some (.slice ba nb bc) := cell_of_row wc _ 2 _ _ _ HMt.out
      have b0 : wc.cell? ⟨w.heap.size + 1, 0, none⟩ = some (.slice va b.values.length vc) := cell_of_row wc _ 0 _ _ _ HBt.out
      have b1 : wc.cell? ⟨w.heap.size + 1, 1, none⟩ = some (.slice ua b.unknown.length uc) := cell_of_row wc _ 1 _ _ _ HBt.out
      have Hset := Lib.hid (set_v d (S := SA S w.heap.size) (.string sm) (.slice fa nf fc) (.slice ba nb bc) (.slice va b.values.length vc) (.slice ua b.unknown.length uc) fs b.values v e1 e2 e3 h1 h2 h3 wc ⟨_, rfl⟩ ⟨_, _, _, rfl⟩ ⟨_, _, _, rfl⟩ (Hflds.out.up stable_fld HUt.out) (Hvals.out.keep (stable_val d) (fun k hs hk => ⟨HUt.out.block k hk, .inl ⟨hs, hk⟩⟩)) Hris.out (by have := Hb16.out; omega) HDt.out)
      go_wp2_with (go_at_call 18; go_must (refine Hset.out.mono ?_; rintro e w8 ⟨vv', rfl, hrd8, hu8⟩; obtain ⟨v8a, v8c, rfl, _, _⟩ := hrd8.val; have Hrd8 := Lib.hid hrd8; have Hu8 := Lib.hid (HUt.out.trans hu8); have hbr8 := hu8.blk HRt.out; have rr0 : w8.cell? ⟨T + 1, 0, none⟩ = some (.slice none 0 0) := cell_of_row w8 _ 0 _ _ _ hbr8; have rr1 : w8.cell? ⟨T + 1, 1, none⟩ = some (.slice none 0 0) := cell_of_row w8 _ 1 _ _ _ hbr8; have rrf : ∀ o, w8.frozen? ⟨T + 1, o, none⟩ = false := (fun o => frozen_of_row w8 _ o _ _ hbr8); have rrz : T + 1 < w8.heap.size := lt_of_block hbr8; clear m0 m1 m2 b0 b1 r0 r1 rf' hrd8 hu8 hbr8))
      refine bodyPost_ret (v := .tuple #[.agg #[.slice v8a (setV fs b.values v).length v8c, .slice ua b.unknown.length uc], .int .i64 0]) (by simp [results, Tryz.results71, go_sem, rr0, rr1]) rfl ?_
      rw [Hfin.out]
      have huf := Up.setCell (Up.setCell Hu8.out (p := ⟨T + 1, 0, none⟩) (show w.heap.size ≤ T + 1 by have := HT.out; omega) (.slice v8a (setV fs b.values v).length v8c)) (p := ⟨T + 1, 1, none⟩) (show w.heap.size ≤ T + 1 by have := HT.out; omega) (.slice ua b.unknown.length uc)
      have hnS : ¬ Sx (SA S w.heap.size) wc (T + 1) := by
        have := HT.out
        rintro (h | h)
        · rcases h with ⟨_, h⟩ | h <;> omega
        · omega
      refine ⟨_, _, rfl, fun _ => rfl, ?_, (fun h => absurd rfl h), huf⟩
      · refine RdS.keep (stable_val d) (((Hrd8.out.keep (stable_val d) (Keep.setCell (p := ⟨T + 1, 0, none⟩) hnS _)).keep (stable_val d) (Keep.setCell (p := ⟨T + 1, 1, none⟩) hnS _))) (Keep.weak fun k hk => ?_)
        have := HUt.out.size
        rcases hk with (⟨h, _⟩ | h) | h
        · exact .inl h
        · exact .inr (by omega)
        · exact .inr (by omega)
  · rw [hmany] at mn
    cases ok
    · have t0 : wc.cell? ⟨T, 0, none⟩ = some (.int .i64 v.1) := cell_of_row wc _ 0 _ _ _ HVt.out
      have t1 : wc.cell? ⟨T, 1, none⟩ = some (.slice e1 v.2.1.length h1) := cell_of_row wc _ 1 _ _ _ HVt.out
      have t2 : wc.cell? ⟨T, 2, none⟩ = some (.slice e2 v.2.2.1.length h2) := cell_of_row wc _ 2 _ _ _ HVt.out
      have t3 : wc.cell? ⟨T, 3, none⟩ = some (.slice e3 v.2.2.2.length h3) := cell_of_row wc _ 3 _ _ _ HVt.out
      obtain ⟨MX, hMX⟩ : ∃ MX, maxV v = MX := ⟨_, rfl⟩
      have hmx : ∀ (W : World) (ts : Array TypeId) (t : TypeId), (Builtin.max_ ts t #[.int .i64 (v.2.1.length : Int), .int .i64 (v.2.2.1.length : Int), .int .i64 (v.2.2.2.length : Int)]).run Tryz.prog W = .ok (.int .i64 (MX : Int)) W := fun W ts t => by rw [run_max3, ← hMX]; rfl
      have r0 : wc.cell? ⟨T + 1, 0, none⟩ = some (.slice none 0 0) := cell_of_row wc _ 0 _ _ _ HRt.out
      have r1 : wc.cell? ⟨T + 1, 1, none⟩ = some (.slice none 0 0) := cell_of_row wc _ 1 _ _ _ HRt.out
      have rf' : ∀ o, wc.frozen? ⟨T + 1, o, none⟩ = false := fun o => frozen_of_row wc _ o _ _ HRt.out
      have rz : T + 1 < wc.heap.size := lt_of_block HRt.out
      have HMX := Lib.hid hMX
      clear hMX
      by_cases h60 : 60 < MX
      · have hfin : finC fs b v = (bod0, 5) := by unfold finC; rw [if_pos (by rw [HMX.out]; exact h60)]
        have Hfin := Lib.hid hfin
        have i60 : (60 : Int) < (MX : Int) := by omega
        clear h60 hfin
        go_wp2_with fail
        refine bodyPost_ret (v := .tuple #[.agg #[.slice none 0 0, .slice none 0 0], .int .i64 5]) (by simp [results, Tryz.results71, go_sem, r0, r1]) rfl ?_
        rw [Hfin.out]
        refine ⟨_, _, rfl, (fun h => by cases h), rdS_nil _ _ _ _, (fun _ => rfl), ?_⟩
        · exact Up.setCell (Up.setCell HUt.out (p := ⟨T + 1, 0, none⟩) (show w.heap.size ≤ T + 1 by have := HT.out; omega) _) (p := ⟨T + 1, 1, none⟩) (show w.heap.size ≤ T + 1 by have := HT.out; omega) _
      · have hfin : finC fs b v = (.mk (setV fs b.values v) b.unknown, 0) := by unfold finC; rw [if_neg (by rw [HMX.out]; exact h60)]
        have Hfin := Lib.hid hfin
        have i60 : ¬ (60 : Int) < (MX : Int) := by omega
        clear h60 hfin
        have m0 : wc.cell? ⟨w.heap.size, 0, none⟩ = some (.string sm) := cell_of_row wc _ 0 _ _ _ HMt.out
        have m1 : wc.cell? ⟨w.heap.size, 1, none⟩ = some (.slice fa nf fc) := cell_of_row wc _ 1 _ _ _ HMt.out
        have m2 : wc.cell? ⟨w.heap.size, 2, none⟩ = some (.slice ba nb bc) := cell_of_row wc _ 2 _ _ _ HMt.out
        have b0 : wc.cell? ⟨w.heap.size + 1, 0, none⟩ = some (.slice va b.values.length vc) := cell_of_row wc _ 0 _ _ _ HBt.out
        have b1 : wc.cell? ⟨w.heap.size + 1, 1, none⟩ = some (.slice ua b.unknown.length uc) := cell_of_row wc _ 1 _ _ _ HBt.out
        have Hset := Lib.hid (set_v d (S := SA S w.heap.size) (.string sm) (.slice fa nf fc) (.slice ba nb bc) (.slice va b.values.length vc) (.slice ua b.unknown.length uc) fs b.values v e1 e2 e3 h1 h2 h3 wc ⟨_, rfl⟩ ⟨_, _, _, rfl⟩ ⟨_, _, _, rfl⟩ (Hflds.out.up stable_fld HUt.out) (Hvals.out.keep (stable_val d) (fun k hs hk => ⟨HUt.out.block k hk, .inl ⟨hs, hk⟩⟩)) Hris.out (by have := Hb16.out; omega) HDt.out)
        go_wp2_with (go_at_call 18; go_must (refine Hset.out.mono ?_; rintro e w8 ⟨vv', rfl, hrd8, hu8⟩; obtain ⟨v8a, v8c, rfl, _, _⟩ := hrd8.val; have Hrd8 := Lib.hid hrd8; have Hu8 := Lib.hid (HUt.out.trans hu8); have hbr8 := hu8.blk HRt.out; have rr0 : w8.cell? ⟨T + 1, 0, none⟩ = some (.slice none 0 0) := cell_of_row w8 _ 0 _ _ _ hbr8; have rr1 : w8.cell? ⟨T + 1, 1, none⟩ = some (.slice none 0 0) := cell_of_row w8 _ 1 _ _ _ hbr8; have rrf : ∀ o, w8.frozen? ⟨T + 1, o, none⟩ = false := (fun o => frozen_of_row w8 _ o _ _ hbr8); have rrz : T + 1 < w8.heap.size := lt_of_block hbr8; clear m0 m1 m2 b0 b1 r0 r1 rf' hrd8 hu8 hbr8))
        refine bodyPost_ret (v := .tuple #[.agg #[.slice v8a (setV fs b.values v).length v8c, .slice ua b.unknown.length uc], .int .i64 0]) (by simp [results, Tryz.results71, go_sem, rr0, rr1]) rfl ?_
        rw [Hfin.out]
        have huf := Up.setCell (Up.setCell Hu8.out (p := ⟨T + 1, 0, none⟩) (show w.heap.size ≤ T + 1 by have := HT.out; omega) (.slice v8a (setV fs b.values v).length v8c)) (p := ⟨T + 1, 1, none⟩) (show w.heap.size ≤ T + 1 by have := HT.out; omega) (.slice ua b.unknown.length uc)
        have hnS : ¬ Sx (SA S w.heap.size) wc (T + 1) := by
          have := HT.out
          rintro (h | h)
          · rcases h with ⟨_, h⟩ | h <;> omega
          · omega
        refine ⟨_, _, rfl, fun _ => rfl, ?_, (fun h => absurd rfl h), huf⟩
        · refine RdS.keep (stable_val d) (((Hrd8.out.keep (stable_val d) (Keep.setCell (p := ⟨T + 1, 0, none⟩) hnS _)).keep (stable_val d) (Keep.setCell (p := ⟨T + 1, 1, none⟩) hnS _))) (Keep.weak fun k hk => ?_)
          have := HUt.out.size
          rcases hk with (⟨h, _⟩ | h) | h
          · exact .inl h
          · exact .inr (by omega)
          · exact .inr (by omega)
    · have t0 : wc.cell? ⟨T, 0, none⟩ = some (.int .i64 v.1) := cell_of_row wc _ 0 _ _ _ HVt.out
      have t1 : wc.cell? ⟨T, 1, none⟩ = some (.slice e1 v.2.1.length h1) := cell_of_row wc _ 1 _ _ _ HVt.out
      have t2 : wc.cell? ⟨T, 2, none⟩ = some (.slice e2 v.2.2.1.length h2) := cell_of_row wc _ 2 _ _ _ HVt.out
      have t3 : wc.cell? ⟨T, 3, none⟩ = some (.slice e3 v.2.2.2.length h3) := cell_of_row wc _ 3 _ _ _ HVt.out
      obtain ⟨MX, hMX⟩ : ∃ MX, maxV v = MX := ⟨_, rfl⟩
      have hmx : ∀ (W : World) (ts : Array TypeId) (t : TypeId), (Builtin.max_ ts t #[.int .i64 (v.2.1.length : Int), .int .i64 (v.2.2.1.length : Int), .int .i64 (v.2.2.2.length : Int)]).run Tryz.prog W = .ok (.int .i64 (MX : Int)) W := fun W ts t => by rw [run_max3, ← hMX]; rfl
      have r0 : wc.cell? ⟨T + 1, 0, none⟩ = some (.slice none 0 0) := cell_of_row wc _ 0 _ _ _ HRt.out
      have r1 : wc.cell? ⟨T + 1, 1, none⟩ = some (.slice none 0 0) := cell_of_row wc _ 1 _ _ _ HRt.out
      have rf' : ∀ o, wc.frozen? ⟨T + 1, o, none⟩ = false := fun o => frozen_of_row wc _ o _ _ HRt.out
      have rz : T + 1 < wc.heap.size := lt_of_block HRt.out
      have HMX := Lib.hid hMX
      clear hMX
      by_cases h60 : 60 < MX
      · have hfin : finC fs b v = (bod0, 5) := by unfold finC; rw [if_pos (by rw [HMX.out]; exact h60)]
        have Hfin := Lib.hid hfin
        have i60 : (60 : Int) < (MX : Int) := by omega
        clear h60 hfin
        go_wp2_with fail
        refine bodyPost_ret (v := .tuple #[.agg #[.slice none 0 0, .slice none 0 0], .int .i64 5]) (by simp [results, Tryz.results71, go_sem, r0, r1]) rfl ?_
        rw [Hfin.out]
        refine ⟨_, _, rfl, (fun h => by cases h), rdS_nil _ _ _ _, (fun _ => rfl), ?_⟩
        · exact Up.setCell (Up.setCell HUt.out (p := ⟨T + 1, 0, none⟩) (show w.heap.size ≤ T + 1 by have := HT.out; omega) _) (p := ⟨T + 1, 1, none⟩) (show w.heap.size ≤ T + 1 by have := HT.out; omega) _
      · have hfin : finC fs b v = (.mk (setV fs b.values v) b.unknown, 0) := by unfold finC; rw [if_neg (by rw [HMX.out]; exact h60)]
        have Hfin := Lib.hid hfin
        have i60 : ¬ (60 : Int) < (MX : Int) := by omega
        clear h60 hfin
        have m0 : wc.cell? ⟨w.heap.size, 0, none⟩ = some (.string sm) := cell_of_row wc _ 0 _ _ _ HMt.out
        have m1 : wc.cell? ⟨w.heap.size, 1, none⟩ = some (.slice fa nf fc) := cell_of_row wc _ 1 _ _ _ HMt.out
        have m2 : wc.cell? ⟨w.heap.size, 2, none⟩ = some (.slice ba nb bc) := cell_of_row wc _ 2 _ _ _ HMt.out
        have b0 : wc.cell? ⟨w.heap.size + 1, 0, none⟩ = some (.slice va b.values.length vc) := cell_of_row wc _ 0 _ _ _ HBt.out
        have b1 : wc.cell? ⟨w.heap.size + 1, 1, none⟩ = some (.slice ua b.unknown.length uc) := cell_of_row wc _ 1 _ _ _ HBt.out
        have Hset := Lib.hid (set_v d (S := SA S w.heap.size) (.string sm) (.slice fa nf fc) (.slice ba nb bc) (.slice va b.values.length vc) (.slice ua b.unknown.length uc) fs b.values v e1 e2 e3 h1 h2 h3 wc ⟨_, rfl⟩ ⟨_, _, _, rfl⟩ ⟨_, _, _, rfl⟩ (Hflds.out.up stable_fld HUt.out) (Hvals.out.keep (stable_val d) (fun k hs hk => ⟨HUt.out.block k hk, .inl ⟨hs, hk⟩⟩)) Hris.out (by have := Hb16.out; omega) HDt.out)
        go_wp2_with (go_at_call 18; go_must (refine Hset.out.mono ?_; rintro e w8 ⟨vv', rfl, hrd8, hu8⟩; obtain ⟨v8a, v8c, rfl, _, _⟩ := hrd8.val; have Hrd8 := Lib.hid hrd8; have Hu8 := Lib.hid (HUt.out.trans hu8); have hbr8 := hu8.blk HRt.out; have rr0 : w8.cell? ⟨T + 1, 0, none⟩ = some (.slice none 0 0) := cell_of_row w8 _ 0 _ _ _ hbr8; have rr1 : w8.cell? ⟨T + 1, 1, none⟩ = some (.slice none 0 0) := cell_of_row w8 _ 1 _ _ _ hbr8; have rrf : ∀ o, w8.frozen? ⟨T + 1, o, none⟩ = false := (fun o => frozen_of_row w8 _ o _ _ hbr8); have rrz : T + 1 < w8.heap.size := lt_of_block hbr8; clear m0 m1 m2 b0 b1 r0 r1 rf' hrd8 hu8 hbr8))
        refine bodyPost_ret (v := .tuple #[.agg #[.slice v8a (setV fs b.values v).length v8c, .slice ua b.unknown.length uc], .int .i64 0]) (by simp [results, Tryz.results71, go_sem, rr0, rr1]) rfl ?_
        rw [Hfin.out]
        have huf := Up.setCell (Up.setCell Hu8.out (p := ⟨T + 1, 0, none⟩) (show w.heap.size ≤ T + 1 by have := HT.out; omega) (.slice v8a (setV fs b.values v).length v8c)) (p := ⟨T + 1, 1, none⟩) (show w.heap.size ≤ T + 1 by have := HT.out; omega) (.slice ua b.unknown.length uc)
        have hnS : ¬ Sx (SA S w.heap.size) wc (T + 1) := by
          have := HT.out
          rintro (h | h)
          · rcases h with ⟨_, h⟩ | h <;> omega
          · omega
        refine ⟨_, _, rfl, fun _ => rfl, ?_, (fun h => absurd rfl h), huf⟩
        · refine RdS.keep (stable_val d) (((Hrd8.out.keep (stable_val d) (Keep.setCell (p := ⟨T + 1, 0, none⟩) hnS _)).keep (stable_val d) (Keep.setCell (p := ⟨T + 1, 1, none⟩) hnS _))) (Keep.weak fun k hk => ?_)
          have := HUt.out.size
          rcases hk with (⟨h, _⟩ | h) | h
          · exact .inl h
          · exact .inr (by omega)
          · exact .inr (by omega)
end Go.Proofs.YtbceapeoknngnaaGreatDoor
