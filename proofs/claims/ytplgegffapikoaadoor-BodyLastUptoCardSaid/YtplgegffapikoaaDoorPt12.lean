/-
  pressref3.Find; body.Get, and Find, of values.
-/
import Derived.Test.YtplgegffapikoaaDoorPt11
import Derived.Test.YtplgegffapikoaaDoorPt04
set_option linter.unusedVariables false
namespace Go.Proofs.YtplgegffapikoaaDoor
open Go.RowKit
set_option maxRecDepth 100000 in
set_option maxHeartbeats 1600000 in
theorem find_b (vv vu : Value) (l : List (Int × Value × Value × Value)) (n : Int) (w : World) (hv : RdS DVal4 4 All w vv l) (hvu : ∃ a m c, vu = .slice a m c) :
    Calls Tryd.prog 15 #[.agg #[vv, vu], .int .i64 n] w fun e w' => e = .returned (.tuple #[(getV l n).1, .bool (getV l n).2]) ∧ Up w w' := by
  obtain ⟨x1, x2, x3, rfl⟩ := hvu
  obtain ⟨ao, cap, rfl, hc1, hc2⟩ := hv.val
  have Hv := Lib.hid hv; clear hv
  go_enter Tryd.func15, Tryd.ntmps15
  go_wp2_with fail
  go_loopw [11] (fun i wr => ∃ k : Nat, k ≤ l.length ∧ i = .int .i64 k ∧ Up w wr ∧ wr.heap[w.heap.size + 1]? = some (.cells #[.int .i64 0, .slice none 0 0, .slice none 0 0, .slice none 0 0] 34 (0, 0)) ∧ ∀ j, (hj : j < l.length) → j < k → (l[j].1 == n) = false) (fun i _ => l.length - (intOf i).toNat)
  case atStart => exact ⟨0, by omega, rfl, ((Up.refl w).alloc _).alloc _, blk_new (w.alloc _) _ (by simp), fun j _ h => absurd h (by omega)⟩
  case round =>
    obtain ⟨k, hk, rfl, hu, hb, hg⟩ := hrel
    have Hg := Lib.hid hg; have Hb := Lib.hid hb; clear hg hb
    have r0 : wr.cell? ⟨w.heap.size + 1, 0, none⟩ = some (.int .i64 0) := cell_of_row wr _ 0 _ _ _ Hb.out
    have r1 : wr.cell? ⟨w.heap.size + 1, 1, none⟩ = some (.slice none 0 0) := cell_of_row wr _ 1 _ _ _ Hb.out
    have r2 : wr.cell? ⟨w.heap.size + 1, 2, none⟩ = some (.slice none 0 0) := cell_of_row wr _ 2 _ _ _ Hb.out
    have r3 : wr.cell? ⟨w.heap.size + 1, 3, none⟩ = some (.slice none 0 0) := cell_of_row wr _ 3 _ _ _ Hb.out
    have rf' : ∀ o, wr.frozen? ⟨w.heap.size + 1, o, none⟩ = false := fun o => frozen_of_row wr _ o _ _ Hb.out
    have rz : w.heap.size + 1 < wr.heap.size := lt_of_block Hb.out
    by_cases hlt : k < l.length
    · obtain ⟨b, o, cs, rfl, hbz, hl, hcs, hd⟩ := (Hv.out.up stable_val4 hu).at hlt
      obtain ⟨hd, ⟨a1, n1, c1, g1⟩, ⟨a2, n2, c2, g2⟩, ⟨a3, n3, c3, g3⟩⟩ := hd
      have hgg := fun e => find_at (fun x : Int × Value × Value × Value => x.1 == n) l k hlt Hg.out e
      have Hgn := Lib.hid (fun e => no_more (p := fun x : Int × Value × Value × Value => x.1 == n) hlt Hg.out e)
      have Hgg := Lib.hid hgg; clear hgg
      generalize l[k] = x at *
      obtain ⟨xn, xa, xb, xc⟩ := x
      simp only at g1 g2 g3
      subst g1 g2 g3
      subst hd
      have p0 := hcs 0 _ rfl
      have p1 := hcs 1 _ rfl
      have p2 := hcs 2 _ rfl
      have p3 := hcs 3 _ rfl
      simp only [Nat.add_zero] at p0
      have k0 : (0 : Int) ≤ (k : Int) := by omega
      have k1 : (k : Int) < (l.length : Int) := by omega
      have rne : w.heap.size + 1 ≠ wr.heap.size := by omega
      have rne2 : wr.heap.size ≠ w.heap.size + 1 := by omega
      clear hcs hl
      cases e : (xn == n) with
      | true =>
        have hfd := Hgg.out e
        have Hgv := Lib.hid (show getV l n = (.agg #[.int .i64 xn, .slice a1 n1 c1, .slice a2 n2 c2, .slice a3 n3 c3], true) by unfold getV; rw [hfd])
        have Hu := Lib.hid hu
        clear hfd hu
        go_wp2_with fail
        refine bodyPost_ret (v := .tuple #[.agg #[.int .i64 xn, .slice a1 n1 c1, .slice a2 n2 c2, .slice a3 n3 c3], .bool true]) (by simp [results, Tryd.results15, go_sem, r0, r1, r2, r3, rz]) rfl ?_
        rw [Hgv.out]
        refine ⟨rfl, ?_⟩
        repeat (first | (with_reducible refine Up.setCell ?_ ?_ _) | (with_reducible refine Up.alloc ?_ _) | (with_reducible refine Up.drew ?_))
        · exact Hu.out
        all_goals (simp only; omega)
      | false =>
        have Hu := Lib.hid hu
        clear hu r0 r1 r2 r3 rf'
        go_wp2_with fail
        go_roundw
        case rel => exact ⟨k + 1, by omega, by go_num, Hu.out.alloc _, blk_old _ Hb.out, Hgn.out e⟩
        case measure => simp [intOf]; omega
    · have hfd := find_none (fun x : Int × Value × Value × Value => x.1 == n) l (fun j hj => Hg.out j hj (by omega))
      have Hgv := Lib.hid (show getV l n = (.agg #[.int .i64 0, .slice none 0 0, .slice none 0 0, .slice none 0 0], false) by unfold getV; rw [hfd])
      have Hu := Lib.hid hu
      clear hfd hu
      go_wp2_with fail
      refine bodyPost_ret (v := .tuple #[.agg #[.int .i64 0, .slice none 0 0, .slice none 0 0, .slice none 0 0], .bool false]) (by simp [results, Tryd.results15, go_sem, r0, r1, r2, r3]) rfl ?_
      rw [Hgv.out]
      refine ⟨rfl, ?_⟩
      repeat (first | (with_reducible refine Up.setCell ?_ ?_ _) | (with_reducible refine Up.alloc ?_ _) | (with_reducible refine Up.drew ?_))
      · exact Hu.out
      all_goals (simp only; omega)

/-- The value of a number. -/
def findV (l : List Val) (n : Int) : Option Val := l.find? (fun x => x.1 == n)
theorem rd4 {d : Nat} {S : Nat → Prop} {w : World} {v : Value} {l : List Val} (h : RdS (DValD d) 4 S w v l) : ∃ l4 : List (Int × Value × Value × Value), RdS DVal4 4 S w v l4 ∧ l4.length = l.length ∧ ∀ i, (h1 : i < l4.length) → (h2 : i < l.length) → l4[i].1 = l[i].1 ∧ DValD d S w l[i] [.int .i64 l4[i].1, l4[i].2.1, l4[i].2.2.1, l4[i].2.2.2] := by
  obtain ⟨ao, cap, rfl, h1, h2, h3, h4⟩ := h
  have hf : ∀ i : Fin l.length, ∃ x : Int × Value × Value × Value, x.1 = l[i].1 ∧ DValD d S w l[i] [.int .i64 x.1, x.2.1, x.2.2.1, x.2.2.2] ∧ ∃ b o cs, ao = some ⟨b, o, none⟩ ∧ S b ∧ b < w.heap.size ∧ cs.length = 4 ∧ CellsAt w b (o + i * 4) cs ∧ DVal4 S w x cs := by
    intro i
    obtain ⟨b, o, cs, e1, e2, e3, e4, e5, e6⟩ := h4 i.1 i.2
    obtain ⟨a1, c1, a2, c2, a3, c3, rfl, g⟩ := val_cells e6
    exact ⟨(l[i].1, .slice a1 _ c1, .slice a2 _ c2, .slice a3 _ c3), rfl, e6, b, o, _, e1, e2, e3, e4, e5, rfl, ⟨_, _, _, rfl⟩, ⟨_, _, _, rfl⟩, ⟨_, _, _, rfl⟩⟩
  refine ⟨List.ofFn (fun i => (hf i).choose), ⟨ao, cap, by simp, by simpa using h1, h2, by simpa using h3, fun i hi => ?_⟩, by simp, fun i g1 g2 => ?_⟩
  · have hi' : i < l.length := by simpa using hi
    obtain ⟨b, o, cs, e1, eS, e2, e3, e4, e5⟩ := (hf ⟨i, hi'⟩).choose_spec.2.2
    refine ⟨b, o, cs, e1, eS, e2, e3, e4, ?_⟩
    simpa using e5
  · have := (hf ⟨i, g2⟩).choose_spec
    simp only [List.getElem_ofFn]
    exact ⟨this.1, this.2.1⟩
theorem rdS_nil {α : Type} (D : Lay α) (size : Nat) (S : Nat → Prop) (w : World) : RdS D size S w (.slice none 0 0) ([] : List α) := ⟨none, 0, rfl, by simp, by unfold maxLen; omega, fun _ => rfl, fun i hi => by simp at hi⟩
theorem val0_at (d : Nat) (S : Nat → Prop) (w : World) : DValD d S w val0 [.int .i64 0, .slice none 0 0, .slice none 0 0, .slice none 0 0] :=
  ⟨_, _, _, rfl, ⟨by decide, by decide⟩, rdS_nil _ _ _ _, rdS_nil _ _ _ _, rdS_nil _ _ _ _, by show 0 * 8 ≤ _; omega, by show 0 * 24 ≤ _; omega, by show 0 * 48 ≤ _; omega⟩
theorem getV_val {d : Nat} {S : Nat → Prop} {w : World} {l : List Val} {l4 : List (Int × Value × Value × Value)} (hl : l4.length = l.length) (h : ∀ i, (h1 : i < l4.length) → (h2 : i < l.length) → l4[i].1 = l[i].1 ∧ DValD d S w l[i] [.int .i64 l4[i].1, l4[i].2.1, l4[i].2.2.1, l4[i].2.2.2]) (n : Int) :
    ∃ a1 c1 a2 c2 a3 c3, getV l4 n = (.agg #[.int .i64 ((findV l n).getD val0).1, .slice a1 ((findV l n).getD val0).2.1.length c1, .slice a2 ((findV l n).getD val0).2.2.1.length c2, .slice a3 ((findV l n).getD val0).2.2.2.length c3], (findV l n).isSome) ∧
      DValD d S w ((findV l n).getD val0) [.int .i64 ((findV l n).getD val0).1, .slice a1 ((findV l n).getD val0).2.1.length c1, .slice a2 ((findV l n).getD val0).2.2.1.length c2, .slice a3 ((findV l n).getD val0).2.2.2.length c3] := by
  induction l4 generalizing l with
  | nil =>
    obtain rfl : l = [] := List.eq_nil_of_length_eq_zero hl.symm
    exact ⟨none, 0, none, 0, none, 0, rfl, val0_at d S w⟩
  | cons y l4 ih =>
    rcases l with _ | ⟨x, l⟩
    · simp at hl
    have h0 := h 0 (by simp) (by simp)
    simp only [List.getElem_cons_zero] at h0
    cases e : (x.1 == n) with
    | true =>
      have e' : (y.1 == n) = true := by rw [h0.1]; exact e
      have f1 : findV (x :: l) n = some x := by unfold findV; rw [List.find?_cons_of_pos (by simpa using e)]
      have f2 : getV (y :: l4) n = (.agg #[.int .i64 y.1, y.2.1, y.2.2.1, y.2.2.2], true) := by unfold getV; rw [List.find?_cons_of_pos (by simpa using e')]
      obtain ⟨a1, c1, a2, c2, a3, c3, g, _⟩ := val_cells h0.2
      rw [f1, f2]
      simp only [List.cons.injEq, and_true] at g
      obtain ⟨g0, g1, g2, g3⟩ := g
      refine ⟨a1, c1, a2, c2, a3, c3, ?_, ?_⟩
      · simp only [Option.getD_some, Option.isSome_some]
        rw [g0, g1, g2, g3]
      · have := h0.2
        rw [g0, g1, g2, g3] at this
        exact this
    | false =>
      have e' : (y.1 == n) = false := by rw [h0.1]; exact e
      have f1 : findV (x :: l) n = findV l n := by unfold findV; rw [List.find?_cons_of_neg (by simpa using e)]
      have f2 : getV (y :: l4) n = getV l4 n := by unfold getV; rw [List.find?_cons_of_neg (by simpa using e')]
      rw [f1, f2]
      exact ih (by simpa using hl) (fun i h1 h2 => h (i + 1) (by simpa using h1) (by simpa using h2))
theorem get_v (d : Nat) {S : Nat → Prop} (vv vu : Value) (l : List Val) (n : Int) (w : World) (hv : RdS (DValD d) 4 S w vv l) (hvu : ∃ a m c, vu = .slice a m c) :
    Calls Tryd.prog 14 #[.agg #[vv, vu], .int .i64 n] w fun e w' => ∃ a1 c1 a2 c2 a3 c3, e = .returned (.tuple #[.agg #[.int .i64 ((findV l n).getD val0).1, .slice a1 ((findV l n).getD val0).2.1.length c1, .slice a2 ((findV l n).getD val0).2.2.1.length c2, .slice a3 ((findV l n).getD val0).2.2.2.length c3], .bool (findV l n).isSome]) ∧
      DValD d S w' ((findV l n).getD val0) [.int .i64 ((findV l n).getD val0).1, .slice a1 ((findV l n).getD val0).2.1.length c1, .slice a2 ((findV l n).getD val0).2.2.1.length c2, .slice a3 ((findV l n).getD val0).2.2.2.length c3] ∧ Up w w' := by
  obtain ⟨l4, h1, h2, h3⟩ := rd4 hv
  obtain ⟨a1, c1, a2, c2, a3, c3, h4, h5⟩ := getV_val h2 h3 n
  refine (get_b vv vu l4 n w (h1.keep stable_val4 Keep.all) hvu).mono ?_
  rintro e w' ⟨rfl, hu⟩
  rw [h4]
  exact ⟨a1, c1, a2, c2, a3, c3, rfl, stable_val d _ _ _ _ _ _ (Keep.upS hu) h5, hu⟩
theorem find_v (d : Nat) {S : Nat → Prop} (vv vu : Value) (l : List Val) (n : Int) (w : World) (hv : RdS (DValD d) 4 S w vv l) (hvu : ∃ a m c, vu = .slice a m c) :
    Calls Tryd.prog 15 #[.agg #[vv, vu], .int .i64 n] w fun e w' => ∃ a1 c1 a2 c2 a3 c3, e = .returned (.tuple #[.agg #[.int .i64 ((findV l n).getD val0).1, .slice a1 ((findV l n).getD val0).2.1.length c1, .slice a2 ((findV l n).getD val0).2.2.1.length c2, .slice a3 ((findV l n).getD val0).2.2.2.length c3], .bool (findV l n).isSome]) ∧
      DValD d S w' ((findV l n).getD val0) [.int .i64 ((findV l n).getD val0).1, .slice a1 ((findV l n).getD val0).2.1.length c1, .slice a2 ((findV l n).getD val0).2.2.1.length c2, .slice a3 ((findV l n).getD val0).2.2.2.length c3] ∧ Up w w' := by
  obtain ⟨l4, h1, h2, h3⟩ := rd4 hv
  obtain ⟨a1, c1, a2, c2, a3, c3, h4, h5⟩ := getV_val h2 h3 n
  refine (find_b vv vu l4 n w (h1.keep stable_val4 Keep.all) hvu).mono ?_
  rintro e w' ⟨rfl, hu⟩
  rw [h4]
  exact ⟨a1, c1, a2, c2, a3, c3, rfl, stable_val d _ _ _ _ _ _ (Keep.upS hu) h5, hu⟩
end Go.Proofs.YtplgegffapikoaaDoor
