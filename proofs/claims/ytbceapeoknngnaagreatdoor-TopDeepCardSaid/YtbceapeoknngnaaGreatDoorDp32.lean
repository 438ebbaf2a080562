/-
  (*reader).add: a message joined to the one that is there.
-/
import Derived.Test.YtbceapeoknngnaaGreatDoorDp30
import Derived.Test.YtbceapeoknngnaaGreatDoorDp27
import Derived.Deep.RegionHeld3
import Derived.Deep.DeepCutAuto
import Derived.Deep.CutBlock
set_option linter.unusedVariables false
namespace Go.Proofs.YtbceapeoknngnaaGreatDoor
open Go.RowKit
abbrev RJoinC (k : Nat) (f : Fil) : Prop := ∀ (A B d : Nat) (S : Nat → Prop) (msg : Int) (a b : Bod) (va ua vb ub : Value) (cb fb : Nat) (w : World), 0 ≤ msg → msg < f.msgs.length → ChkAt w cb fb f → DBodF d S w a [va, ua] → DBodF d S w b [vb, ub] →
  wrongB f k msg a = 0 → wrongB f k msg b = 0 → UnkLe A k a → UnkLe B k b → A + B ≤ 100000 →
  Calls Tryz.prog 136 #[.pointer (some ⟨cb, 0, none⟩), .int .i64 msg, .agg #[va, ua], .agg #[vb, ub]] w fun e w' => ∃ vv vu, e = .returned (.tuple #[.agg #[vv, vu], .int .i64 (joinK f 12 msg a b).2]) ∧ DBodF d (Sx S w) w' (joinK f 12 msg a b).1 [vv, vu] ∧ Up w w'
set_option maxRecDepth 100000 in
set_option maxHeartbeats 12800000 in
theorem radd_sub (k A B : Nat) (d : Nat) (S : Nat → Prop) (f : Fil) (fs : List Fld) (b : Bod) (x : Fld) (v : Val) (sm : ByteArray) (fa ba va ua e1 e2 e3 : Option Addr) (nf fc nb bc vc uc h1 h2 h3 cb fb bf fo : Nat) (w : World) (ih : RJoinC k f) (H : AddH d S f fs b x v sm fa ba va ua e1 e2 e3 nf fc nb bc vc uc h1 h2 h3 cb fb bf fo w) (o : Val) (hp : findV b.values x.number = some o) (hm : x.many = false) (hk10 : x.kind = 10) (ho : FitV (wrongB f k) f x o) (hv : FitV (wrongB f k) f x v) (uo : ∀ s ∈ o.2.2.2, UnkLe A k s) (uv : ∀ s ∈ v.2.2.2, UnkLe B k s) (hAB : A + B ≤ 100000) (hmi0 : 0 ≤ msgI f x.type) :
    Calls Tryz.prog 71 #[.pointer (some ⟨cb, 0, none⟩), .agg #[.string sm, .slice fa nf fc, .slice ba nb bc], .agg #[.slice va b.values.length vc, .slice ua b.unknown.length uc], .pointer (some ⟨bf, fo, none⟩), .agg #[.int .i64 v.1, .slice e1 v.2.1.length h1, .slice e2 v.2.2.1.length h2, .slice e3 v.2.2.2.length h3]] w fun e w' => ∃ vv vu, e = .returned (.tuple #[.agg #[vv, vu], .int .i64 (if (joinK f 12 (msgI f x.type) (o.2.2.2.headD bod0) (v.2.2.2.headD bod0)).2 ≠ 0 then (bod0, (joinK f 12 (msgI f x.type) (o.2.2.2.headD bod0) (v.2.2.2.headD bod0)).2) else finC fs b (v.1, v.2.1, v.2.2.1, [(joinK f 12 (msgI f x.type) (o.2.2.2.headD bod0) (v.2.2.2.headD bod0)).1])).2]) ∧ ((if (joinK f 12 (msgI f x.type) (o.2.2.2.headD bod0) (v.2.2.2.headD bod0)).2 ≠ 0 then (bod0, (joinK f 12 (msgI f x.type) (o.2.2.2.headD bod0) (v.2.2.2.headD bod0)).2) else finC fs b (v.1, v.2.1, v.2.2.1, [(joinK f 12 (msgI f x.type) (o.2.2.2.headD bod0) (v.2.2.2.headD bod0)).1])).2 = 0 → vu = .slice ua b.unknown.length uc) ∧ RdS (DValD d) 4 (Sx S w) w' vv (if (joinK f 12 (msgI f x.type) (o.2.2.2.headD bod0) (v.2.2.2.headD bod0)).2 ≠ 0 then (bod0, (joinK f 12 (msgI f x.type) (o.2.2.2.headD bod0) (v.2.2.2.headD bod0)).2) else finC fs b (v.1, v.2.1, v.2.2.1, [(joinK f 12 (msgI f x.type) (o.2.2.2.headD bod0) (v.2.2.2.headD bod0)).1])).1.values ∧ ((if (joinK f 12 (msgI f x.type) (o.2.2.2.headD bod0) (v.2.2.2.headD bod0)).2 ≠ 0 then (bod0, (joinK f 12 (msgI f x.type) (o.2.2.2.headD bod0) (v.2.2.2.headD bod0)).2) else finC fs b (v.1, v.2.1, v.2.2.1, [(joinK f 12 (msgI f x.type) (o.2.2.2.headD bod0) (v.2.2.2.headD bod0)).1])).2 ≠ 0 → vu = .slice none 0 0) ∧ Up w w' := by
  have hmib := msgI_bd f x.type
  have hoc : o.2.2.2.length = 1 := by have := ho.alone hm; rw [hk10] at this; exact this
  have hvc : v.2.2.2.length = 1 := by have := hv.alone hm; rw [hk10] at this; exact this
  obtain ⟨vn, vb, vy, vs⟩ := v
  obtain ⟨qs0, rfl⟩ : ∃ y, vs = [y] := List.length_eq_one_iff.1 hvc
  have hwo := ho.subs (o.2.2.2.headD bod0) (by rw [one_of hoc]; simp)
  have hwv := hv.subs qs0 (by simp)
  have huo := uo (o.2.2.2.headD bod0) (by rw [one_of hoc]; simp)
  have huv := uv qs0 (by simp)
  have Hpar := Lib.hid (⟨hwo, hwv, huo, huv, hoc⟩ : wrongB f k (msgI f x.type) (o.2.2.2.headD bod0) = 0 ∧ wrongB f k (msgI f x.type) qs0 = 0 ∧ UnkLe A k (o.2.2.2.headD bod0) ∧ UnkLe B k qs0 ∧ o.2.2.2.length = 1)
  have Hih := Lib.hid ih
  clear ih hwo hwv huo huv uo uv ho hv hoc hvc
  obtain ⟨ANS, hANS⟩ : ∃ ANS, (if (joinK f 12 (msgI f x.type) (o.2.2.2.headD bod0) (qs0)).2 ≠ 0 then (bod0, (joinK f 12 (msgI f x.type) (o.2.2.2.headD bod0) (qs0)).2) else finC fs b (vn, vb, vy, [(joinK f 12 (msgI f x.type) (o.2.2.2.headD bod0) (qs0)).1])) = ANS := ⟨_, rfl⟩
  change Calls _ _ _ _ fun e w' => ∃ vv vu, e = .returned (.tuple #[.agg #[vv, vu], .int .i64 ((if (joinK f 12 (msgI f x.type) (o.2.2.2.headD bod0) (qs0)).2 ≠ 0 then (bod0, (joinK f 12 (msgI f x.type) (o.2.2.2.headD bod0) (qs0)).2) else finC fs b (vn, vb, vy, [(joinK f 12 (msgI f x.type) (o.2.2.2.headD bod0) (qs0)).1]))).2]) ∧ (((if (joinK f 12 (msgI f x.type) (o.2.2.2.headD bod0) (qs0)).2 ≠ 0 then (bod0, (joinK f 12 (msgI f x.type) (o.2.2.2.headD bod0) (qs0)).2) else finC fs b (vn, vb, vy, [(joinK f 12 (msgI f x.type) (o.2.2.2.headD bod0) (qs0)).1]))).2 = 0 → vu = .slice ua b.unknown.length uc) ∧ RdS (DValD d) 4 (Sx S w) w' vv ((if (joinK f 12 (msgI f x.type) (o.2.2.2.headD bod0) (qs0)).2 ≠ 0 then (bod0, (joinK f 12 (msgI f x.type) (o.2.2.2.headD bod0) (qs0)).2) else finC fs b (vn, vb, vy, [(joinK f 12 (msgI f x.type) (o.2.2.2.headD bod0) (qs0)).1]))).1.values ∧ (((if (joinK f 12 (msgI f x.type) (o.2.2.2.headD bod0) (qs0)).2 ≠ 0 then (bod0, (joinK f 12 (msgI f x.type) (o.2.2.2.headD bod0) (qs0)).2) else finC fs b (vn, vb, vy, [(joinK f 12 (msgI f x.type) (o.2.2.2.headD bod0) (qs0)).1]))).2 ≠ 0 → vu = .slice none 0 0) ∧ Up w w'
  rw [hANS]
  have HANS := Lib.hid hANS
  clear hANS
  have hty := H.fld.2.1.2.2.2.1
  have Hty := Lib.hid hty
  clear hty
  obtain ⟨hchk, hflds, hvals, hbsz, hfld, hval, hnum, hvlen, holen, hris, hb16⟩ := H
  obtain ⟨OV, hOV⟩ : ∃ OV, (findV b.values x.number).getD val0 = OV := ⟨_, rfl⟩
  obtain ⟨ok, hok⟩ : ∃ ok, (findV b.values x.number).isSome = ok := ⟨_, rfl⟩
  have hxb : bf < w.heap.size := hfld.1
  have xn := hfld.2.1.2.1
  have xk := hfld.2.1.2.2.1
  have xm := hfld.2.1.2.2.2.2.1
  have Hx := Lib.hid (⟨xn, xk, xm⟩ : w.cell? ⟨bf, fo + 1, none⟩ = some (.int .i64 x.number) ∧ w.cell? ⟨bf, fo + 2, none⟩ = some (.int .i64 x.kind) ∧ w.cell? ⟨bf, fo + 4, none⟩ = some (.bool x.many))
  have Hchk := Lib.hid hchk; have Hflds := Lib.hid hflds; have Hvals := Lib.hid hvals; have Hbsz := Lib.hid hbsz; have Hfld := Lib.hid hfld; have Hval := Lib.hid hval; have Hnum := Lib.hid hnum; have Hvlen := Lib.hid hvlen; have Holen := Lib.hid holen; have Hris := Lib.hid hris; have Hb16 := Lib.hid hb16; have Hok := Lib.hid hok; have HOV := Lib.hid hOV
  clear hchk hflds hvals hbsz hfld hval hnum hvlen holen hris hb16 xn xk xm
  go_enter Tryz.func71, Tryz.ntmps71
  go_upto_region 1 with (fail)
  generalize hW : (((w.alloc (.cells #[.string sm, .slice fa nf fc, .slice ba nb bc] 38)).alloc (.cells #[.slice va b.values.length vc, .slice ua b.unknown.length uc] 29)).alloc (.cells #[.int .i64 vn, .slice e1 vb.length h1, .slice e2 vy.length h2, .slice e3 1 h3] 53)).alloc (.cells #[.slice none 0 0, .slice none 0 0] 29) = w1
  have hbm : w1.heap[w.heap.size]? = some (.cells #[.string sm, .slice fa nf fc, .slice ba nb bc] 38 (0, 0)) := by rw [← hW]; exact blk_old _ (blk_old _ (blk_old _ (blk_new w _ rfl)))
  have hbb : w1.heap[w.heap.size + 1]? = some (.cells #[.slice va b.values.length vc, .slice ua b.unknown.length uc] 29 (0, 0)) := by rw [← hW]; exact blk_old _ (blk_old _ (blk_new (w.alloc _) _ (by simp)))
  have hbv : w1.heap[w.heap.size + 1 + 1]? = some (.cells #[.int .i64 vn, .slice e1 vb.length h1, .slice e2 vy.length h2, .slice e3 1 h3] 53 (0, 0)) := by rw [← hW]; exact blk_old _ (blk_new ((w.alloc _).alloc _) _ (by simp))
  have hbr : w1.heap[w.heap.size + 1 + 1 + 1]? = some (.cells #[.slice none 0 0, .slice none 0 0] 29 (0, 0)) := by rw [← hW]; exact blk_new (((w.alloc _).alloc _).alloc _) _ (by simp)
  have hu1 : Up w w1 := by rw [← hW]; exact ((((Up.refl w).alloc _).alloc _).alloc _).alloc _
  have Hz1 := Lib.hid (show w1.heap.size = w.heap.size + 4 by rw [← hW]; simp)
  clear hW
  have l0 : w1.cell? ⟨w.heap.size + 1, 0, none⟩ = some (.slice va b.values.length vc) := cell_of_row w1 _ 0 _ _ _ hbb
  have l1 : w1.cell? ⟨w.heap.size + 1, 1, none⟩ = some (.slice ua b.unknown.length uc) := cell_of_row w1 _ 1 _ _ _ hbb
  have l2 : w1.cell? ⟨bf, fo + 1, none⟩ = some (.int .i64 x.number) := hu1.cell_some Hx.out.1
  have Hbm := Lib.hid hbm; have Hbb := Lib.hid hbb; have Hbv := Lib.hid hbv; have Hbr := Lib.hid hbr; have Hu1 := Lib.hid hu1
  clear hbm hbb hbv hbr hu1
  have Hget := Lib.hid (fun W (u : Up w1 W) => get_v d (S := fun k => S k ∧ k < w.heap.size) (.slice va b.values.length vc) (.slice ua b.unknown.length uc) b.values x.number W (Hvals.out.keep (stable_val d) (S' := fun k => S k ∧ k < w.heap.size) (w' := W) (fun k hs hk => ⟨(Hu1.out.trans u).block k hk, hs, hk⟩)) ⟨_, _, _, rfl⟩)
  rw [hOV, hok] at Hget
  clear hOV hok
  have dd : w1.drew.cell? ⟨w.heap.size + 1, 0, none⟩ = some (.slice va b.values.length vc) ∧ w1.drew.cell? ⟨w.heap.size + 1, 1, none⟩ = some (.slice ua b.unknown.length uc) ∧ w1.drew.cell? ⟨bf, fo + 1, none⟩ = some (.int .i64 x.number) := ⟨l0, l1, l2⟩
  have DD := Lib.hid (fun W (u : Up w1 W) => (⟨u.cell_some l0, u.cell_some l1, u.cell_some l2⟩ : W.cell? ⟨w.heap.size + 1, 0, none⟩ = some (.slice va b.values.length vc) ∧ W.cell? ⟨w.heap.size + 1, 1, none⟩ = some (.slice ua b.unknown.length uc) ∧ W.cell? ⟨bf, fo + 1, none⟩ = some (.int .i64 x.number)))
  clear l0 l1 l2
  go_cut [12, 13] (fun p o wc => ∃ (O : Nat) (y1 y2 y3 : Option Addr) (z1 z2 z3 : Nat), p = .pointer (some ⟨O, 0, none⟩) ∧ o = .bool ok ∧ wc.heap[O]? = some (.cells #[.int .i64 OV.1, .slice y1 OV.2.1.length z1, .slice y2 OV.2.2.1.length z2, .slice y3 OV.2.2.2.length z3] 53 (0, 0)) ∧ DValD d (fun k => S k ∧ k < w.heap.size) wc OV [.int .i64 OV.1, .slice y1 OV.2.1.length z1, .slice y2 OV.2.2.1.length z2, .slice y3 OV.2.2.2.length z3] ∧ w.heap.size + 4 ≤ O ∧ Up w1 wc)
  case first =>
    go_region_held3 (fun w' => w'.cell? ⟨w.heap.size + 1, 0, none⟩ = some (.slice va b.values.length vc) ∧ w'.cell? ⟨w.heap.size + 1, 1, none⟩ = some (.slice ua b.unknown.length uc) ∧ w'.cell? ⟨bf, fo + 1, none⟩ = some (.int .i64 x.number))
      (first | with_reducible exact dd | with_reducible exact DD.out _ (Up.setCell (Up.setCell (Up.setCell (Up.setCell (hu6.alloc _) (show w1.heap.size ≤ w6.heap.size from hu6.size) _) (show w1.heap.size ≤ w6.heap.size from hu6.size) _) (show w1.heap.size ≤ w6.heap.size from hu6.size) _) (show w1.heap.size ≤ w6.heap.size from hu6.size) _) | with_reducible exact DD.out _ (Up.setCell (Up.setCell (Up.setCell (Up.setCell hu6 (Nat.le_refl w1.heap.size) _) (Nat.le_refl w1.heap.size) _) (Nat.le_refl w1.heap.size) _) (Nat.le_refl w1.heap.size) _) | with_reducible exact DD.out _ (hu6.alloc _) | with_reducible exact DD.out _ hu6 | with_reducible exact DD.out _ ((Up.refl w1).alloc _).drew)
      (first | (go_at_call 19; first
         | (refine (Hget.out _ (Up.refl w1).drew).mono ?_; rintro e w6 ⟨y1, z1, y2, z2, y3, z3, rfl, hod, hu6'⟩; have hu6 := (Up.refl w1).drew.trans hu6')
         | (refine (Hget.out _ ((Up.refl w1).alloc _).drew).mono ?_; rintro e w6 ⟨y1, z1, y2, z2, y3, z3, rfl, hod, hu6'⟩; have hu6 := ((Up.refl w1).alloc _).drew.trans hu6'; have hg6 : w6.heap[w1.heap.size]? = some (.cells #[.int .i64 0, .slice none 0 0, .slice none 0 0, .slice none 0 0] 53 (0, 0)) := hu6'.blk (blk_new w1 _ rfl); have q0 : w6.cell? ⟨w1.heap.size, 0, none⟩ = some (.int .i64 0) := cell_of_row w6 _ 0 _ _ _ hg6; have q1 : w6.cell? ⟨w1.heap.size, 1, none⟩ = some (.slice none 0 0) := cell_of_row w6 _ 1 _ _ _ hg6; have q2 : w6.cell? ⟨w1.heap.size, 2, none⟩ = some (.slice none 0 0) := cell_of_row w6 _ 2 _ _ _ hg6; have q3 : w6.cell? ⟨w1.heap.size, 3, none⟩ = some (.slice none 0 0) := cell_of_row w6 _ 3 _ _ _ hg6; have qf : ∀ o, w6.frozen? ⟨w1.heap.size, o, none⟩ = false := (fun o => frozen_of_row w6 _ o _ _ hg6); have qz : w1.heap.size < w6.heap.size := lt_of_block hg6)))
    all_goals
      go_wp2_with fail
      go_meet
    · exact ⟨w6.heap.size, y1, y2, y3, z1, z2, z3, rfl, rfl, blk_new w6 _ rfl, stable_val d _ _ _ _ _ _ (fun k hs hk => ⟨((Up.refl w6).alloc _).block k hk, hs⟩) hod, by have := hu6.size; have := Hz1.out; omega, hu6.alloc _⟩
    · refine ⟨w1.heap.size, y1, y2, y3, z1, z2, z3, rfl, rfl, heap_setCell_same _ _ 3 _ _ _ (heap_setCell_same _ _ 2 _ _ _ (heap_setCell_same _ _ 1 _ _ _ (heap_setCell_same _ _ 0 _ _ _ hg6))), stable_val d _ _ _ _ _ _ (fun k hs hk => ⟨?_, hs⟩) hod, by have := Hz1.out; omega, Up.setCell (Up.setCell (Up.setCell (Up.setCell hu6 (Nat.le_refl w1.heap.size) _) (Nat.le_refl w1.heap.size) _) (Nat.le_refl w1.heap.size) _) (Nat.le_refl w1.heap.size) _⟩
      have hne : k ≠ w1.heap.size := by have := Hz1.out; have := hs.2; omega
      rw [heap_setCell_other _ _ _ _ hne, heap_setCell_other _ _ _ _ hne, heap_setCell_other _ _ _ _ hne, heap_setCell_other _ _ _ _ hne]
  case rest =>
  obtain ⟨O, y1, y2, y3, z1, z2, z3, rfl, rfl, hbo, hod, hOz, hu2⟩ := hcut
  have Hbo := Lib.hid hbo; have Hod := Lib.hid hod; have HOz := Lib.hid hOz; have Hu2 := Lib.hid hu2
  have Hbm2 := Lib.hid (hu2.blk Hbm.out); have Hbb2 := Lib.hid (hu2.blk Hbb.out); have Hbv2 := Lib.hid (hu2.blk Hbv.out); have Hbr2 := Lib.hid (hu2.blk Hbr.out)
  have Hu02 := Lib.hid (Hu1.out.trans hu2)
  have mn : wc.cell? ⟨bf, fo + 4, none⟩ = some (.bool x.many) := Hu02.out.cell_some Hx.out.2.2
  have kd : wc.cell? ⟨bf, fo + 2, none⟩ = some (.int .i64 x.kind) := Hu02.out.cell_some Hx.out.2.1
  have Hzc := Lib.hid (show w.heap.size + 4 ≤ wc.heap.size by have := hu2.size; have := Hz1.out; omega)
  clear hbo hod hOz hu2 Hget DD dd Hbm Hbb Hbv Hbr
  obtain ⟨on, ob, oy, os⟩ := OV
  simp only at Hod Hbo
  generalize hT : w.heap.size + 1 + 1 = T at *
  have HT := Lib.hid hT
  clear hT
  obtain ⟨wd, rfl⟩ : ∃ wd : World, wd = wc := ⟨_, rfl⟩
  obtain rfl : o = (on, ob, oy, os) := by have := HOV.out; rw [hp] at this; exact this
  obtain rfl : ok = true := by have := Hok.out; rw [hp] at this; exact this.symm
  rw [hm] at mn
  rw [hk10] at kd
  obtain ⟨os0, rfl⟩ : ∃ y, os = [y] := List.length_eq_one_iff.1 Hpar.out.2.2.2.2
  have Hpar2 := Lib.hid (show wrongB f k (msgI f x.type) os0 = 0 ∧ wrongB f k (msgI f x.type) qs0 = 0 ∧ UnkLe A k os0 ∧ UnkLe B k qs0 from ⟨Hpar.out.1, Hpar.out.2.1, Hpar.out.2.2.1, Hpar.out.2.2.2.1⟩)
  have HANS2 := Lib.hid (show (if (joinK f 12 (msgI f x.type) os0 qs0).2 ≠ 0 then (bod0, (joinK f 12 (msgI f x.type) os0 qs0).2) else finC fs b (vn, vb, vy, [(joinK f 12 (msgI f x.type) os0 qs0).1])) = ANS from HANS.out)
  clear HANS Hpar
  obtain ⟨_, _, _, _, _, _, he, hon, ox1, ox2, ox3, ozx⟩ := val_cells Hod.out
  simp only [List.cons.injEq, Value.slice.injEq, true_and, and_true] at he
  obtain ⟨⟨rfl, rfl⟩, ⟨rfl, rfl⟩, rfl, rfl⟩ := he
  have hdv : DValD d (fun k => S k ∧ k < w.heap.size) wd (vn, vb, vy, [qs0]) [.int .i64 vn, .slice e1 vb.length h1, .slice e2 vy.length h2, .slice e3 1 h3] := stable_val d _ _ _ _ _ _ (fun k hs hk => ⟨Hu02.out.block k hk, hs, hk⟩) Hval.out
  obtain ⟨_, _, _, _, _, _, he, hvn, vx1, vx2, vx3, vzx⟩ := val_cells hdv
  simp only [List.cons.injEq, Value.slice.injEq, List.length_cons, List.length_nil, Nat.zero_add, true_and, and_true] at he
  obtain ⟨⟨rfl, rfl⟩, ⟨rfl, rfl⟩, rfl, rfl⟩ := he
  obtain ⟨sb, so, cs1, rfl, hsS, hsl, hsc4, hcs1, hd1⟩ : ∃ b1 o1 cs, y3 = some ⟨b1, o1, none⟩ ∧ (fun k => S k ∧ k < w.heap.size) b1 ∧ b1 < wd.heap.size ∧ cs.length = 2 ∧ CellsAt wd b1 o1 cs ∧ DBodF d (fun k => S k ∧ k < w.heap.size) wd os0 cs := by
    obtain ⟨ao, cap, e, _, _, _, g4⟩ := ox3
    obtain ⟨b1, o1, cs, e1, e2, e3, e4, e5, e6⟩ := g4 0 (by simp)
    simp only [Value.slice.injEq] at e
    exact ⟨b1, o1, cs, by rw [e.1]; exact e1, e2, e3, e4, by simpa using e5, e6⟩
  obtain ⟨m1, r1, l1, m2, r2, l2, rfl⟩ := bod_two hd1
  obtain ⟨tb, to', cs2, rfl, htS, htl, htc4, hcs2, hd2⟩ : ∃ b1 o1 cs, e3 = some ⟨b1, o1, none⟩ ∧ (fun k => S k ∧ k < w.heap.size) b1 ∧ b1 < wd.heap.size ∧ cs.length = 2 ∧ CellsAt wd b1 o1 cs ∧ DBodF d (fun k => S k ∧ k < w.heap.size) wd qs0 cs := by
    obtain ⟨ao, cap, e, _, _, _, g4⟩ := vx3
    obtain ⟨b1, o1, cs, e1, e2, e3, e4, e5, e6⟩ := g4 0 (by simp)
    simp only [Value.slice.injEq] at e
    exact ⟨b1, o1, cs, by rw [e.1]; exact e1, e2, e3, e4, by simpa using e5, e6⟩
  obtain ⟨m3, r3, l3, m4, r4, l4, rfl⟩ := bod_two hd2
  have i0 := hcs1 0 _ rfl; have i1 := hcs1 1 _ rfl; have i2 := hcs2 0 _ rfl; have i3 := hcs2 1 _ rfl
  simp only [Nat.add_zero] at i0 i2
  obtain ⟨hcc, vm, ve, hcm, hce, hfv⟩ := id (Hchk.out.up Hu02.out)
  obtain ⟨vm', ve', he', hm', he''⟩ := id hfv
  simp only [Value.agg.injEq, Array.mk.injEq, List.cons.injEq, and_true] at he'
  obtain ⟨rfl, rfl⟩ := he'
  obtain ⟨ma, mc, rfl, _, _⟩ := hm'.val
  obtain ⟨ea, ec, rfl, _, _⟩ := he''.val
  clear hm' he''
  have o3 : wd.cell? ⟨O, 3, none⟩ = some (.slice (some ⟨sb, so, none⟩) 1 z3) := cell_of_row wd _ 3 _ _ _ Hbo.out
  have t3 : wd.cell? ⟨T, 3, none⟩ = some (.slice (some ⟨tb, to', none⟩) 1 h3) := cell_of_row wd _ 3 _ _ _ Hbv2.out
  have ty := Hu02.out.cell_some Hty.out
  have Hmsg := Lib.hid (fun W (u : Up wd W) => find_msg_l (.agg #[.slice ma f.msgs.length mc, .slice ea f.enums.length ec]) f x.type W (hfv.up u))
  have Hjn := Lib.hid (fun W (u : Up wd W) => Hih.out A B d (fun k => S k ∧ k < w.heap.size) (msgI f x.type) os0 qs0 (.slice m1 r1 l1) (.slice m2 r2 l2) (.slice m3 r3 l3) (.slice m4 r4 l4) cb fb W hmi0 (by omega) (Hchk.out.up (Hu02.out.trans u)) (stable_bod d _ _ _ _ _ _ (Keep.upS u) hd1) (stable_bod d _ _ _ _ _ _ (Keep.upS u) hd2) Hpar2.out.1 Hpar2.out.2.1 Hpar2.out.2.2.1 Hpar2.out.2.2.2 hAB)
  change Hid (∀ W, Up wd W → Calls _ _ _ _ fun e w' => e = Ending.returned (.int .i64 (msgI f x.type)) ∧ Up W w') at Hmsg
  have Hvx1 := Lib.hid vx1; have Hvx2 := Lib.hid vx2; have Hvn := Lib.hid hvn; have Hvz := Lib.hid vzx
  have dd : wd.drew.cell? ⟨cb, 0, none⟩ = some (.pointer (some ⟨fb, 0, none⟩)) ∧ wd.drew.cell? ⟨fb, 0, none⟩ = some (.slice ma f.msgs.length mc) ∧ wd.drew.cell? ⟨fb, 1, none⟩ = some (.slice ea f.enums.length ec) ∧ wd.drew.cell? ⟨bf, fo + 3, none⟩ = some (.string ⟨x.type.toArray⟩) ∧ wd.drew.cell? ⟨O, 3, none⟩ = some (.slice (some ⟨sb, so, none⟩) 1 z3) ∧ wd.drew.cell? ⟨T, 3, none⟩ = some (.slice (some ⟨tb, to', none⟩) 1 h3) ∧ wd.drew.cell? ⟨sb, so, none⟩ = some (.slice m1 r1 l1) ∧ wd.drew.cell? ⟨sb, so + 1, none⟩ = some (.slice m2 r2 l2) ∧ wd.drew.cell? ⟨tb, to', none⟩ = some (.slice m3 r3 l3) ∧ wd.drew.cell? ⟨tb, to' + 1, none⟩ = some (.slice m4 r4 l4) := ⟨hcc, hcm, hce, ty, o3, t3, i0, i1, i2, i3⟩
  have DD := Lib.hid (fun W (u : Up wd W) => (⟨u.cell_some hcc, u.cell_some hcm, u.cell_some hce, u.cell_some ty, u.cell_some o3, u.cell_some t3, u.cell_some i0, u.cell_some i1, u.cell_some i2, u.cell_some i3⟩ : W.cell? ⟨cb, 0, none⟩ = some (.pointer (some ⟨fb, 0, none⟩)) ∧ W.cell? ⟨fb, 0, none⟩ = some (.slice ma f.msgs.length mc) ∧ W.cell? ⟨fb, 1, none⟩ = some (.slice ea f.enums.length ec) ∧ W.cell? ⟨bf, fo + 3, none⟩ = some (.string ⟨x.type.toArray⟩) ∧ W.cell? ⟨O, 3, none⟩ = some (.slice (some ⟨sb, so, none⟩) 1 z3) ∧ W.cell? ⟨T, 3, none⟩ = some (.slice (some ⟨tb, to', none⟩) 1 h3) ∧ W.cell? ⟨sb, so, none⟩ = some (.slice m1 r1 l1) ∧ W.cell? ⟨sb, so + 1, none⟩ = some (.slice m2 r2 l2) ∧ W.cell? ⟨tb, to', none⟩ = some (.slice m3 r3 l3) ∧ W.cell? ⟨tb, to' + 1, none⟩ = some (.slice m4 r4 l4)))
  clear hcs1 hcs2 hd1 hd2 ox1 ox2 ox3 vx1 vx2 vx3 ozx vzx hdv hon hvn hcc hcm hce ty o3 t3 i0 i1 i2 i3 hfv Hih Hpar2 hsc4 htc4 hsS htS HOz Hod hm hk10
  generalize joinK f 12 (msgI f x.type) os0 qs0 = JB at *
  generalize msgI f x.type = mj at *
  have hko : ((10 : Int) == 10) = true := rfl
  go_upto_region 5 with (fail)
  go_cut [14, 15] (fun p e wt => ∃ (G : Nat) (s1 s2 : Option Addr) (n1 c1 n2 c2 : Nat), p = .pointer (some ⟨G, 0, none⟩) ∧ e = .int .i64 JB.2 ∧ wt.heap[G]? = some (.cells #[.slice s1 n1 c1, .slice s2 n2 c2] 29 (0, 0)) ∧ DBodF d (fun k => (S k ∧ k < w.heap.size) ∨ (wd.heap.size ≤ k ∧ k ≠ G)) wt JB.1 [.slice s1 n1 c1, .slice s2 n2 c2] ∧ wd.heap.size ≤ G ∧ Up wd wt)
  case first =>
    go_region_held3 (fun w' => w'.cell? ⟨cb, 0, none⟩ = some (.pointer (some ⟨fb, 0, none⟩)) ∧ w'.cell? ⟨fb, 0, none⟩ = some (.slice ma f.msgs.length mc) ∧ w'.cell? ⟨fb, 1, none⟩ = some (.slice ea f.enums.length ec) ∧ w'.cell? ⟨bf, fo + 3, none⟩ = some (.string ⟨x.type.toArray⟩) ∧ w'.cell? ⟨O, 3, none⟩ = some (.slice (some ⟨sb, so, none⟩) 1 z3) ∧ w'.cell? ⟨T, 3, none⟩ = some (.slice (some ⟨tb, to', none⟩) 1 h3) ∧ w'.cell? ⟨sb, so, none⟩ = some (.slice m1 r1 l1) ∧ w'.cell? ⟨sb, so + 1, none⟩ = some (.slice m2 r2 l2) ∧ w'.cell? ⟨tb, to', none⟩ = some (.slice m3 r3 l3) ∧ w'.cell? ⟨tb, to' + 1, none⟩ = some (.slice m4 r4 l4))
      (first | with_reducible exact dd | with_reducible exact DD.out _ (Up.setCell (Up.setCell (hw6.alloc _) (show wd.heap.size ≤ w6.heap.size from hw6.size) _) (show wd.heap.size ≤ w6.heap.size from hw6.size) _) | with_reducible exact DD.out _ (Up.setCell (Up.setCell hw6 (show wd.heap.size ≤ w5.heap.size from hw5.size) _) (show wd.heap.size ≤ w5.heap.size from hw5.size) _) | with_reducible exact DD.out _ (Up.setCell (Up.setCell hw6 (Nat.le_refl wd.heap.size) _) (Nat.le_refl wd.heap.size) _) | with_reducible exact DD.out _ (hw6.alloc _) | with_reducible exact DD.out _ hw6 | with_reducible exact DD.out _ (hw5.alloc _) | with_reducible exact DD.out _ hw5 | with_reducible exact DD.out _ ((Up.refl wd).alloc _).drew | with_reducible exact DD.out _ ((Up.refl wd).drew.alloc _))
      (first
        | (go_at_call 81
           first
             | (refine (Hmsg.out _ (Up.refl wd).drew).mono ?_; rintro e w5 ⟨rfl, hu5'⟩; have hw5 := (Up.refl wd).drew.trans hu5')
             | (refine (Hmsg.out _ ((Up.refl wd).alloc _).drew).mono ?_; rintro e w5 ⟨rfl, hu5'⟩; have hw5 := ((Up.refl wd).alloc _).drew.trans hu5'; have hg5 : w5.heap[wd.heap.size]? = some (.cells #[.slice none 0 0, .slice none 0 0] 29 (0, 0)) := hu5'.blk (blk_new wd _ rfl)))
        | (go_at_call 136
           first
             | (refine (Hjn.out _ hw5).mono ?_; rintro e w6 ⟨vv, vu, rfl, hd6, hu6'⟩; obtain ⟨s1, n1, c1, s2, n2, c2, hbt⟩ := bod_two hd6; simp only [List.cons.injEq, and_true] at hbt; obtain ⟨rfl, rfl⟩ := hbt; have hw6 := hw5.trans hu6'; try (have hg6 : w6.heap[wd.heap.size]? = some (.cells #[.slice none 0 0, .slice none 0 0] 29 (0, 0)) := hu6'.blk hg5; have q0 : w6.cell? ⟨wd.heap.size, 0, none⟩ = some (.slice none 0 0) := cell_of_row w6 _ 0 _ _ _ hg6; have q1 : w6.cell? ⟨wd.heap.size, 1, none⟩ = some (.slice none 0 0) := cell_of_row w6 _ 1 _ _ _ hg6; have qf : ∀ o, w6.frozen? ⟨wd.heap.size, o, none⟩ = false := (fun o => frozen_of_row w6 _ o _ _ hg6); have qz : wd.heap.size < w6.heap.size := lt_of_block hg6))
             | (refine (Hjn.out _ (hw5.alloc _)).mono ?_; rintro e w6 ⟨vv, vu, rfl, hd6, hu6'⟩; obtain ⟨s1, n1, c1, s2, n2, c2, hbt⟩ := bod_two hd6; simp only [List.cons.injEq, and_true] at hbt; obtain ⟨rfl, rfl⟩ := hbt; have hw6 := (hw5.alloc _).trans hu6'; have hg6 : w6.heap[w5.heap.size]? = some (.cells #[.slice none 0 0, .slice none 0 0] 29 (0, 0)) := hu6'.blk (blk_new w5 _ rfl); have q0 : w6.cell? ⟨w5.heap.size, 0, none⟩ = some (.slice none 0 0) := cell_of_row w6 _ 0 _ _ _ hg6; have q1 : w6.cell? ⟨w5.heap.size, 1, none⟩ = some (.slice none 0 0) := cell_of_row w6 _ 1 _ _ _ hg6; have qf : ∀ o, w6.frozen? ⟨w5.heap.size, o, none⟩ = false := (fun o => frozen_of_row w6 _ o _ _ hg6); have qz : w5.heap.size < w6.heap.size := lt_of_block hg6)))
    all_goals
      go_wp2_with fail
      go_meet
    · exact ⟨w6.heap.size, s1, s2, n1, c1, n2, c2, rfl, rfl, blk_new w6 _ rfl, stable_bod _ _ _ _ _ _ _ (fun k hs hk => ⟨((Up.refl w6).alloc _).block k hk, by
        have := hw5.size
        rcases hs with hs | hs
        · exact .inl hs
        · exact .inr ⟨by omega, by omega⟩⟩) hd6, hw6.size, hw6.alloc _⟩
    · exact ⟨w5.heap.size, s1, s2, n1, c1, n2, c2, rfl, rfl, box2_set hg6 _ _, stable_bod _ _ _ _ _ _ _ (fun k hs hk => by
        have := hw5.size; have := Hzc.out
        rcases hs with hs | hs
        · exact ⟨box2_other (by have := hs.2; omega) _ _, .inl hs⟩
        · have hs' : w5.heap.size + 1 ≤ k := by simpa using hs
          exact ⟨box2_other (by omega) _ _, .inr ⟨by omega, by omega⟩⟩) hd6, hw5.size, Up.setCell (Up.setCell hw6 (show wd.heap.size ≤ w5.heap.size from hw5.size) _) (show wd.heap.size ≤ w5.heap.size from hw5.size) _⟩
    · exact ⟨wd.heap.size, s1, s2, n1, c1, n2, c2, rfl, rfl, box2_set hg6 _ _, stable_bod _ _ _ _ _ _ _ (fun k hs hk => by
        have h5 := lt_of_block hg5; have := Hzc.out
        rcases hs with hs | hs
        · exact ⟨box2_other (by have := hs.2; omega) _ _, .inl hs⟩
        · exact ⟨box2_other (by omega) _ _, .inr ⟨by omega, by omega⟩⟩) hd6, Nat.le_refl _, Up.setCell (Up.setCell hw6 (Nat.le_refl wd.heap.size) _) (Nat.le_refl wd.heap.size) _⟩
  case rest =>
  obtain ⟨G, s1, s2, n1, c1, n2, c2, rfl, rfl, hG, hdG, hGz, hut⟩ := hcut
  obtain ⟨wt, rfl⟩ : ∃ y : World, y = wc := ⟨_, rfl⟩
  have HG := Lib.hid hG; have HdG := Lib.hid hdG; have HGz := Lib.hid hGz; have Hut := Lib.hid hut
  have Hbv3 := Lib.hid (hut.blk Hbv2.out); have Hbr3 := Lib.hid (hut.blk Hbr2.out)
  obtain ⟨JX, je⟩ := JB
  simp only at HdG HANS2 ⊢
  clear hG hdG hGz hut dd DD Hmsg Hjn
  have HTz := Lib.hid (show w.heap.size ≤ T ∧ T + 1 < w.heap.size + 4 by have := HT.out; omega)
  by_cases hje : je = 0
  · subst hje
    obtain ⟨V, hV⟩ : ∃ V, (vn, vb, vy, [JX]) = V := ⟨_, rfl⟩
    have hans : finC fs b V = ANS := by rw [← hV, ← HANS2.out, if_neg (by simp)]
    have Hans := Lib.hid hans
    have HV := Lib.hid hV
    clear hans hV HANS2
    have g0 : wt.cell? ⟨G, 0, none⟩ = some (.slice s1 n1 c1) := cell_of_row wt _ 0 _ _ _ HG.out
    have g1 : wt.cell? ⟨G, 1, none⟩ = some (.slice s2 n2 c2) := cell_of_row wt _ 1 _ _ _ HG.out
    have t3 : wt.cell? ⟨T, 3, none⟩ = some (.slice (some ⟨tb, to', none⟩) 1 h3) := cell_of_row wt _ 3 _ _ _ Hbv3.out
    have tf : ∀ o, wt.frozen? ⟨T, o, none⟩ = false := fun o => frozen_of_row wt _ o _ _ Hbv3.out
    have tz : T < wt.heap.size := lt_of_block Hbv3.out
    go_upto_region 9 with (fail)
    obtain ⟨P, hP⟩ : ∃ P, wt.heap.size = P := ⟨_, rfl⟩
    rw [hP]
    have hset := box4_3 Hbv3.out (.slice (some ⟨P, 0, none⟩) 1 1)
    have hoth : ∀ q, q ≠ T → (wt.setCell ⟨T, 3, none⟩ (.slice (some ⟨P, 0, none⟩) 1 1)).heap[q]? = wt.heap[q]? := fun q hq => heap_setCell_other _ _ q _ hq
    have hzs : (wt.setCell ⟨T, 3, none⟩ (.slice (some ⟨P, 0, none⟩) 1 1)).heap.size = P := by rw [← hP]; simp
    generalize hw1' : wt.setCell ⟨T, 3, none⟩ (.slice (some ⟨P, 0, none⟩) 1 1) = wu at *
    have hus : Up w wu := by rw [← hw1']; exact Up.setCell (Hu02.out.trans Hut.out) (p := ⟨T, 3, none⟩) HTz.out.1 _
    generalize hwf : wu.alloc (.cells #[.slice s1 n1 c1, .slice s2 n2 c2] 29) = wf at *
    have hblk : ∀ q, q < wu.heap.size → wf.heap[q]? = wu.heap[q]? := fun q hq => by rw [← hwf]; exact ((Up.refl wu).alloc _).block q hq
    have huf : Up w wf := by rw [← hwf]; exact hus.alloc _
    have hnew : wf.heap[P]? = some (.cells #[.slice s1 n1 c1, .slice s2 n2 c2] 29 (0, 0)) := by rw [← hwf]; exact blk_new wu _ hzs.symm
    have hTlt : T < wu.heap.size := lt_of_block hset
    have hPz : wd.heap.size ≤ P := by rw [← hP]; exact Hut.out.size
    have hzd : w.heap.size + 4 ≤ wd.heap.size := Hzc.out
    have HVt := Lib.hid (show wf.heap[T]? = some (.cells #[.int .i64 V.1, .slice e1 V.2.1.length h1, .slice e2 V.2.2.1.length h2, .slice (some ⟨P, 0, none⟩) V.2.2.2.length 1] 53 (0, 0)) by rw [← HV.out]; exact (hblk T hTlt).trans hset)
    have hold : ∀ q, q < w.heap.size + 2 → wf.heap[q]? = wt.heap[q]? := fun q hq => by
      have := HT.out; have := Hut.out.size
      exact (hblk q (by omega)).trans (hoth q (by omega))
    have HMt := Lib.hid ((hold _ (by omega)).trans (Hut.out.blk Hbm2.out))
    have HBt := Lib.hid ((hold _ (by omega)).trans (Hut.out.blk Hbb2.out))
    have HRt := Lib.hid (show wf.heap[T + 1]? = some (.cells #[.slice none 0 0, .slice none 0 0] 29 (0, 0)) from (hblk _ (by have := HTz.out; omega)).trans ((hoth _ (by omega)).trans Hbr3.out))
    have HUt := Lib.hid huf
    have kp : Keep (fun k => S k ∧ k < w.heap.size) wd (SA S w.heap.size) wf := fun q hs hq => ⟨(hold q (by have := hs.2; omega)).trans (Hut.out.block q hq), .inl hs⟩
    have HDt := Lib.hid (show DValD d (SA S w.heap.size) wf V [.int .i64 V.1, .slice e1 V.2.1.length h1, .slice e2 V.2.2.1.length h2, .slice (some ⟨P, 0, none⟩) V.2.2.2.length 1] by
      rw [← HV.out]
      refine ⟨_, _, _, rfl, Hvn.out, Hvx1.out.keep stable_u64 kp, Hvx2.out.keep stable_bytes kp, rd_one hnew (.inr (by omega)) ?_, ?_⟩
      · refine stable_bod d _ _ _ _ _ _ (fun q hs hq => ?_) HdG.out
        have hTz := HTz.out
        have hne : q ≠ T := by rcases hs with hs | hs; have := hs.2; omega; have := hs.1; omega
        refine ⟨(hblk q (by omega)).trans (hoth q hne), ?_⟩
        rcases hs with hs | hs
        · exact .inl hs
        · exact .inr (by have := hs.1; omega)
      · have hz := Hvz.out
        exact ⟨hz.1, hz.2.1, by simp⟩)
    clear hset hoth hzs hw1' hus hwf hblk huf hnew hTlt hPz hzd hold kp hP g0 g1 t3 tf tz HG HdG HGz Hut Hbv3 Hbr3 Hbm2 Hbb2 Hbv2 Hbr2 Hbo HTz HV
    have t0 : wf.cell? ⟨T, 0, none⟩ = some (.int .i64 V.1) := cell_of_row wf _ 0 _ _ _ HVt.out
    have t1 : wf.cell? ⟨T, 1, none⟩ = some (.slice e1 V.2.1.length h1) := cell_of_row wf _ 1 _ _ _ HVt.out
    have t2 : wf.cell? ⟨T, 2, none⟩ = some (.slice e2 V.2.2.1.length h2) := cell_of_row wf _ 2 _ _ _ HVt.out
    have t3 : wf.cell? ⟨T, 3, none⟩ = some (.slice (some ⟨P, 0, none⟩) V.2.2.2.length 1) := cell_of_row wf _ 3 _ _ _ HVt.out
    obtain ⟨MX, hMX⟩ : ∃ MX, maxV V = MX := ⟨_, rfl⟩
    have hmx : ∀ (W : World) (ts : Array TypeId) (t : TypeId), (Builtin.max_ ts t #[.int .i64 (V.2.1.length : Int), .int .i64 (V.2.2.1.length : Int), .int .i64 (V.2.2.2.length : Int)]).run Tryz.prog W = .ok (.int .i64 (MX : Int)) W := fun W ts t => by rw [run_max3, ← hMX]; rfl
    have r0 : wf.cell? ⟨T + 1, 0, none⟩ = some (.slice none 0 0) := cell_of_row wf _ 0 _ _ _ HRt.out
    have r1 : wf.cell? ⟨T + 1, 1, none⟩ = some (.slice none 0 0) := cell_of_row wf _ 1 _ _ _ HRt.out
    have rf' : ∀ o, wf.frozen? ⟨T + 1, o, none⟩ = false := fun o => frozen_of_row wf _ o _ _ HRt.out
    have rz : T + 1 < wf.heap.size := lt_of_block HRt.out
    have HMX := Lib.hid hMX
    clear hMX
    by_cases h60 : 60 < MX
    · have hfin : finC fs b V = (bod0, 5) := by unfold finC; rw [if_pos (by rw [HMX.out]; exact h60)]
      have Hfin := Lib.hid hfin
      have i60 : (60 : Int) < (MX : Int) := by omega
      clear h60 hfin
      go_wp2_with fail
      refine bodyPost_ret (v := .tuple #[.agg #[.slice none 0 0, .slice none 0 0], .int .i64 5]) (by simp [results, Tryz.results71, go_sem, r0, r1]) rfl ?_
      rw [← Hans.out, Hfin.out]
      refine ⟨_, _, rfl, (fun h => by cases h), rdS_nil _ _ _ _, (fun _ => rfl), ?_⟩
      · exact Up.setCell (Up.setCell HUt.out (p := ⟨T + 1, 0, none⟩) (show w.heap.size ≤ T + 1 by have := HT.out; omega) _) (p := ⟨T + 1, 1, none⟩) (show w.heap.size ≤ T + 1 by have := HT.out; omega) _
    · have hfin : finC fs b V = (.mk (setV fs b.values V) b.unknown, 0) := by unfold finC; rw [if_neg (by rw [HMX.out]; exact h60)]
      have Hfin := Lib.hid hfin
      have i60 : ¬ (60 : Int) < (MX : Int) := by omega
      clear h60 hfin
      have m0 : wf.cell? ⟨w.heap.size, 0, none⟩ = some (.string sm) := cell_of_row wf _ 0 _ _ _ HMt.out
      have m1 : wf.cell? ⟨w.heap.size, 1, none⟩ = some (.slice fa nf fc) := cell_of_row wf _ 1 _ _ _ HMt.out
      have m2 : wf.cell? ⟨w.heap.size, 2, none⟩ = some (.slice ba nb bc) := cell_of_row wf _ 2 _ _ _ HMt.out
      have b0 : wf.cell? ⟨w.heap.size + 1, 0, none⟩ = some (.slice va b.values.length vc) := cell_of_row wf _ 0 _ _ _ HBt.out
      have b1 : wf.cell? ⟨w.heap.size + 1, 1, none⟩ = some (.slice ua b.unknown.length uc) := cell_of_row wf _ 1 _ _ _ HBt.out
      have Hset := Lib.hid (set_v d (S := SA S w.heap.size) (.string sm) (.slice fa nf fc) (.slice ba nb bc) (.slice va b.values.length vc) (.slice ua b.unknown.length uc) fs b.values V e1 e2 (some ⟨P, 0, none⟩) h1 h2 1 wf ⟨_, rfl⟩ ⟨_, _, _, rfl⟩ ⟨_, _, _, rfl⟩ (Hflds.out.up stable_fld HUt.out) (Hvals.out.keep (stable_val d) (fun k hs hk => ⟨HUt.out.block k hk, .inl ⟨hs, hk⟩⟩)) Hris.out (by have := Hb16.out; omega) HDt.out)
      go_wp2_with (go_at_call 18; go_must (refine Hset.out.mono ?_; rintro e w8 ⟨vv', rfl, hrd8, hu8⟩; obtain ⟨v8a, v8c, rfl, _, _⟩ := hrd8.val; have Hrd8 := Lib.hid hrd8; have Hu8 := Lib.hid (HUt.out.trans hu8); have hbr8 := hu8.blk HRt.out; have rr0 : w8.cell? ⟨T + 1, 0, none⟩ = some (.slice none 0 0) := cell_of_row w8 _ 0 _ _ _ hbr8; have rr1 : w8.cell? ⟨T + 1, 1, none⟩ = some (.slice none 0 0) := cell_of_row w8 _ 1 _ _ _ hbr8; have rrf : ∀ o, w8.frozen? ⟨T + 1, o, none⟩ = false := (fun o => frozen_of_row w8 _ o _ _ hbr8); have rrz : T + 1 < w8.heap.size := lt_of_block hbr8; clear m0 m1 m2 b0 b1 r0 r1 rf' hrd8 hu8 hbr8))
      refine bodyPost_ret (v := .tuple #[.agg #[.slice v8a (setV fs b.values V).length v8c, .slice ua b.unknown.length uc], .int .i64 0]) (by simp [results, Tryz.results71, go_sem, rr0, rr1]) rfl ?_
      rw [← Hans.out, Hfin.out]
      have huf := Up.setCell (Up.setCell Hu8.out (p := ⟨T + 1, 0, none⟩) (show w.heap.size ≤ T + 1 by have := HT.out; omega) (.slice v8a (setV fs b.values V).length v8c)) (p := ⟨T + 1, 1, none⟩) (show w.heap.size ≤ T + 1 by have := HT.out; omega) (.slice ua b.unknown.length uc)
      have hnS : ¬ Sx (SA S w.heap.size) wf (T + 1) := by
        have := HT.out
        rintro (h | h)
        · rcases h with ⟨_, h⟩ | h <;> omega
        · omega
      refine ⟨_, _, rfl, fun _ => rfl, ?_, (fun h => absurd rfl h), huf⟩
      · refine RdS.keep (stable_val d) (((Hrd8.out.keep (stable_val d) (Keep.setCell (p := ⟨T + 1, 0, none⟩) hnS _)).keep (stable_val d) (Keep.setCell (p := ⟨T + 1, 1, none⟩) hnS _))) (Keep.weak fun k hk => ?_)
        have := HUt.out.size
        rcases hk with (⟨h, _⟩ | h) | h
        · exact .inl h
        · exact .inr (by omega)
        · exact .inr (by omega)
  · have hne : (je != 0) = true := by rw [bne_iff_ne]; exact hje
    have hans : ANS = (bod0, je) := by rw [← HANS2.out, if_pos hje]
    have Hans := Lib.hid hans
    have r0 : wt.cell? ⟨T + 1, 0, none⟩ = some (.slice none 0 0) := cell_of_row wt _ 0 _ _ _ Hbr3.out
    have r1 : wt.cell? ⟨T + 1, 1, none⟩ = some (.slice none 0 0) := cell_of_row wt _ 1 _ _ _ Hbr3.out
    have rf' : ∀ o, wt.frozen? ⟨T + 1, o, none⟩ = false := fun o => frozen_of_row wt _ o _ _ Hbr3.out
    have rz : T + 1 < wt.heap.size := lt_of_block Hbr3.out
    have Hje := Lib.hid hje
    clear hje hans HANS2
    go_wp2_with fail
    refine bodyPost_ret (v := .tuple #[.agg #[.slice none 0 0, .slice none 0 0], .int .i64 je]) (by simp [results, Tryz.results71, go_sem, r0, r1]) rfl ?_
    rw [Hans.out]
    refine ⟨_, _, rfl, (fun h => absurd h Hje.out), rdS_nil _ _ _ _, (fun _ => rfl), ?_⟩
    · exact Up.setCell (Up.setCell (Hu02.out.trans Hut.out) (p := ⟨T + 1, 0, none⟩) (show w.heap.size ≤ T + 1 by have := HTz.out; omega) _) (p := ⟨T + 1, 1, none⟩) (show w.heap.size ≤ T + 1 by have := HTz.out; omega) _
end Go.Proofs.YtbceapeoknngnaaGreatDoor
