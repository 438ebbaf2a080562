/-
  body.count, body.plain.
  pressref2.Field, Empty.
-/
import Derived.Test.YtbceapeoknngnaaGreatDoorProg
import Derived.Test.YtbceapeoknngnaaGreatDoorDp03
import Derived.Test.YtbceapeoknngnaaGreatDoorDp05
import Derived.Outline
import Derived.Deep.DeepMust
import Derived.BigQuiet
import Derived.Deep.QuietTactic
import Derived.Test.YtbceapeoknngnaaGreatDoorDp10
set_option linter.unusedVariables false
namespace Go.Proofs.YtbceapeoknngnaaGreatDoor
open Go.RowKit
def ValAt (w : World) (b o : Nat) (x : Val) (a1 a2 a3 : Option Addr) (c1 c2 c3 : Nat) : Prop := w.cell? ⟨b, o, none⟩ = some (.int .i64 x.1) ∧ w.cell? ⟨b, o + 1, none⟩ = some (.slice a1 x.2.1.length c1) ∧ w.cell? ⟨b, o + 2, none⟩ = some (.slice a2 x.2.2.1.length c2) ∧ w.cell? ⟨b, o + 3, none⟩ = some (.slice a3 x.2.2.2.length c3)
theorem ValAt.up {w w' : World} {b o : Nat} {x : Val} {a1 a2 a3 : Option Addr} {c1 c2 c3 : Nat} (h : ValAt w b o x a1 a2 a3 c1 c2 c3) (u : Up w w') : ValAt w' b o x a1 a2 a3 c1 c2 c3 := ⟨u.cell_some h.1, u.cell_some h.2.1, u.cell_some h.2.2.1, u.cell_some h.2.2.2⟩
set_option maxRecDepth 100000 in
set_option maxHeartbeats 1600000 in
theorem count_any (kind : Int) (b o : Nat) (x : Val) (a1 a2 a3 : Option Addr) (c1 c2 c3 : Nat) (w : World) (hx : ValAt w b o x a1 a2 a3 c1 c2 c3) (hz : ValSz x) :
    Calls Tryz.prog 173 #[.int .i64 kind, .pointer (some ⟨b, o, none⟩)] w fun e w' => e = .returned (.tuple #[.int .i64 ((countN kind x).1 : Int), .bool (countN kind x).2]) ∧ Up w w' := by
  obtain ⟨h0, h1, h2, h3⟩ := hx
  obtain ⟨z1, z2, z3⟩ := hz
  obtain ⟨xn, xb, xy, xs⟩ := x
  simp only at h0 h1 h2 h3 z1 z2 z3
  have s13 : IntKind.i64.wrap ((xb.length : Int) + (xs.length : Int)) = (xb.length : Int) + (xs.length : Int) := by rw [IntKind.wrap_i64]; omega
  have s12 : IntKind.i64.wrap ((xb.length : Int) + (xy.length : Int)) = (xb.length : Int) + (xy.length : Int) := by rw [IntKind.wrap_i64]; omega
  have s23 : IntKind.i64.wrap ((xy.length : Int) + (xs.length : Int)) = (xy.length : Int) + (xs.length : Int) := by rw [IntKind.wrap_i64]; omega
  have e13 : (((xb.length : Int) + (xs.length : Int)) == 0) = (xb.length + xs.length == 0) := by rw [Bool.eq_iff_iff]; simp only [beq_iff_eq]; omega
  have e12 : (((xb.length : Int) + (xy.length : Int)) == 0) = (xb.length + xy.length == 0) := by rw [Bool.eq_iff_iff]; simp only [beq_iff_eq]; omega
  have e23 : (((xy.length : Int) + (xs.length : Int)) == 0) = (xy.length + xs.length == 0) := by rw [Bool.eq_iff_iff]; simp only [beq_iff_eq]; omega
  have E13 := Lib.hid e13; have E12 := Lib.hid e12; have E23 := Lib.hid e23
  clear e13 e12 e23 z1 z2 z3
  have hcn : countN kind (xn, xb, xy, xs) = if kind = 8 ∨ kind = 9 then (xy.length, xb.length + xs.length == 0) else if kind = 10 then (xs.length, xb.length + xy.length == 0) else (xb.length, xy.length + xs.length == 0) := rfl
  have Hcn := Lib.hid hcn; clear hcn
  generalize countN kind (xn, xb, xy, xs) = cn at *
  by_cases k8 : kind = 8
  · subst k8
    have Hc := Lib.hid (show cn = (xy.length, xb.length + xs.length == 0) by rw [Hcn.out, if_pos (.inl rfl)])
    rw [Hc.out]
    go_enter Tryz.func173, Tryz.ntmps173
    go_wp2_with fail
    go_quiet (fail)
    go_wp2_with fail
    refine bodyPost_ret (v := .tuple #[.int .i64 (xy.length : Int), .bool (((xb.length : Int) + (xs.length : Int)) == 0)]) (by simp [results, Tryz.results173, go_sem]) rfl ?_
    rw [E13.out]
    exact ⟨rfl, (Up.refl w).drewN _⟩
  by_cases k9 : kind = 9
  · subst k9
    have Hc := Lib.hid (show cn = (xy.length, xb.length + xs.length == 0) by rw [Hcn.out, if_pos (.inr rfl)])
    rw [Hc.out]
    go_enter Tryz.func173, Tryz.ntmps173
    go_wp2_with fail
    go_quiet (fail)
    go_wp2_with fail
    refine bodyPost_ret (v := .tuple #[.int .i64 (xy.length : Int), .bool (((xb.length : Int) + (xs.length : Int)) == 0)]) (by simp [results, Tryz.results173, go_sem]) rfl ?_
    rw [E13.out]
    exact ⟨rfl, (Up.refl w).drewN _⟩
  by_cases k10 : kind = 10
  · subst k10
    have Hc := Lib.hid (show cn = (xs.length, xb.length + xy.length == 0) by rw [Hcn.out, if_neg (by decide), if_pos rfl])
    rw [Hc.out]
    go_enter Tryz.func173, Tryz.ntmps173
    go_wp2_with fail
    go_quiet (fail)
    go_wp2_with fail
    refine bodyPost_ret (v := .tuple #[.int .i64 (xs.length : Int), .bool (((xb.length : Int) + (xy.length : Int)) == 0)]) (by simp [results, Tryz.results173, go_sem]) rfl ?_
    rw [E12.out]
    exact ⟨rfl, (Up.refl w).drewN _⟩
  have Hc := Lib.hid (show cn = (xb.length, xy.length + xs.length == 0) by rw [Hcn.out, if_neg (by simp [k8, k9]), if_neg k10])
  rw [Hc.out]
  have f8 : (kind == 8) = false := by simpa using k8
  have f9 : (kind == 9) = false := by simpa using k9
  have f10 : (kind == 10) = false := by simpa using k10
  clear k8 k9 k10
  go_enter Tryz.func173, Tryz.ntmps173
  go_wp2_with fail
  go_quiet (fail)
  go_wp2_with fail
  refine bodyPost_ret (v := .tuple #[.int .i64 (xb.length : Int), .bool (((xy.length : Int) + (xs.length : Int)) == 0)]) (by simp [results, Tryz.results173, go_sem]) rfl ?_
  rw [E23.out]
  exact ⟨rfl, (Up.refl w).drewN _⟩
theorem RdS.head {α : Type} {D : Lay α} {size : Nat} {S : Nat → Prop} {w : World} {ao : Option Addr} {n cap : Nat} {a : α} {l : List α} (h : RdS D size S w (.slice ao n cap) (a :: l)) : ∃ b o cs, ao = some ⟨b, o, none⟩ ∧ b < w.heap.size ∧ CellsAt w b o cs ∧ D S w a cs := by
  obtain ⟨b, o, cs, h1, h2, _, h4, h5⟩ := h.at (i := 0) (by simp)
  exact ⟨b, o, cs, h1, h2, by simpa using h4, h5⟩
set_option maxRecDepth 100000 in
set_option maxHeartbeats 3200000 in
theorem plain_any (f : Fld) (bf of b o : Nat) (x : Val) (a1 a2 a3 : Option Addr) (c1 c2 c3 : Nat) (w : World) (hk : w.cell? ⟨bf, of + 2, none⟩ = some (.int .i64 f.kind)) (hm : w.cell? ⟨bf, of + 4, none⟩ = some (.bool f.many)) (hc : w.cell? ⟨bf, of + 5, none⟩ = some (.int .i64 f.choice))
    (hx : ValAt w b o x a1 a2 a3 c1 c2 c3) (h1 : RdS DU64 1 All w (.slice a1 x.2.1.length c1) x.2.1) (h2 : RdS DBytes 1 All w (.slice a2 x.2.2.1.length c2) x.2.2.1) :
    Calls Tryz.prog 44 #[.pointer (some ⟨bf, of, none⟩), .pointer (some ⟨b, o, none⟩)] w fun e w' => e = .returned (.bool (plainN f x)) ∧ Up w w' := by
  obtain ⟨x0, x1, x2, x3⟩ := hx
  obtain ⟨xn, xb, xy, xs⟩ := x
  simp only at x0 x1 x2 x3 h1 h2
  obtain ⟨fn, fnum, fk, ft, fm, fc⟩ := f
  simp only at hk hm hc
  have hpl : plainN ⟨fn, fnum, fk, ft, fm, fc⟩ (xn, xb, xy, xs) = (!(fm || decide (0 < fc) || fk == 10) && ((xb == [0]) || (xy == [[]]))) := rfl
  rw [hpl]
  clear hpl
  cases fm with
  | true =>
    clear h1 h2
    go_enter Tryz.func44, Tryz.ntmps44
    go_wp2_with fail
    go_ret
    exact ⟨ret_bool (by simp), Up.refl _⟩
  | false =>
    by_cases hfc : 0 < fc
    · have dc : decide (0 < fc) = true := decide_eq_true hfc
      clear h1 h2
      go_enter Tryz.func44, Tryz.ntmps44
      go_wp2_with fail
      go_ret
      exact ⟨ret_bool (by simp [hfc]), Up.refl _⟩
    · have dc : decide (0 < fc) = false := decide_eq_false hfc
      rw [dc]
      cases hfk : (fk == 10) with
      | true =>
        clear h1 h2
        go_enter Tryz.func44, Tryz.ntmps44
        go_wp2_with fail
        go_ret
        exact ⟨ret_bool (by simp), Up.refl _⟩
      | false =>
        have q1 : xb = [0] ∨ (∃ n, n ≠ 0 ∧ xb = [n]) ∨ xb.length ≠ 1 := by
          rcases xb with _ | ⟨n, _ | ⟨m, l⟩⟩
          · exact .inr (.inr (by simp))
          · by_cases hn : n = 0
            · subst hn; exact .inl rfl
            · exact .inr (.inl ⟨n, hn, rfl⟩)
          · exact .inr (.inr (by simp))
        have q2 : xy = [[]] ∨ (∃ y, y ≠ [] ∧ xy = [y]) ∨ xy.length ≠ 1 := by
          rcases xy with _ | ⟨n, _ | ⟨m, l⟩⟩
          · exact .inr (.inr (by simp))
          · by_cases hn : n = []
            · subst hn; exact .inl rfl
            · exact .inr (.inl ⟨n, hn, rfl⟩)
          · exact .inr (.inr (by simp))
        rcases q1 with rfl | hq
        · obtain ⟨b1, o1, cs, rfl, _, hcs, hd⟩ := h1.head
          obtain ⟨rfl, _⟩ := hd
          have n0 := hcs 0 _ rfl
          simp only [Nat.add_zero, List.length_cons, List.length_nil, Nat.zero_add] at n0 x1
          clear h1 h2 hcs q2
          go_enter Tryz.func44, Tryz.ntmps44
          go_wp2_with fail
          go_ret
          exact ⟨ret_bool (by simp []), Up.refl _⟩
        · have q3 : (xb == [0]) = false := by
            rw [beq_eq_false_iff_ne]
            rintro rfl
            rcases hq with ⟨n, hn, h⟩ | h
            · simp at h; exact hn h.symm
            · simp at h
          have q4 : ((xb.length : Int) == 1) = false ∨ ∃ n b1 o1, a1 = some ⟨b1, o1, none⟩ ∧ xb.length = 1 ∧ w.cell? ⟨b1, o1, none⟩ = some (.int .u64 (n : Int)) ∧ ((n : Int) == 0) = false := by
            rcases hq with ⟨n, hn, rfl⟩ | h
            · obtain ⟨b1, o1, cs, rfl, _, hcs, hd⟩ := h1.head
              obtain ⟨rfl, _⟩ := hd
              have n0 := hcs 0 _ rfl
              simp only [Nat.add_zero] at n0
              exact .inr ⟨n, b1, o1, rfl, rfl, n0, by rw [beq_eq_false_iff_ne]; omega⟩
            · exact .inl (by rw [beq_eq_false_iff_ne]; omega)
          have Q3 := Lib.hid q3
          clear h1 hq q3
          rcases q2 with rfl | hq
          · obtain ⟨b2, o2, cs, rfl, _, hcs, hd⟩ := h2.head
            obtain ⟨vy, hd, hy, _⟩ := hd
            subst hd
            obtain ⟨ay, cy, rfl, _, _⟩ := hy.val
            have n0 := hcs 0 _ rfl
            simp only [Nat.add_zero, List.length_cons, List.length_nil, Nat.zero_add] at n0 x2
            clear h2 hcs hy
            rcases q4 with q4 | ⟨n, b1, o1, rfl, hl1, n1, n2⟩
            · go_enter Tryz.func44, Tryz.ntmps44
              go_wp2_with fail
              go_ret
              exact ⟨ret_bool (by simp []), Up.refl _⟩
            · rw [hl1] at x1
              go_enter Tryz.func44, Tryz.ntmps44
              go_wp2_with fail
              go_ret
              exact ⟨ret_bool (by simp []), Up.refl _⟩
          · have q5 : (xy == [[]]) = false := by
              rw [beq_eq_false_iff_ne]
              rintro rfl
              rcases hq with ⟨n, hn, h⟩ | h
              · simp at h; exact hn h
              · simp at h
            have q6 : ((xy.length : Int) == 1) = false ∨ ∃ (y : List UInt8) (b2 o2 : Nat) (ay : Option Addr) (cy : Nat), a2 = some ⟨b2, o2, none⟩ ∧ xy.length = 1 ∧ w.cell? ⟨b2, o2, none⟩ = some (.slice ay y.length cy) ∧ ((y.length : Int) == 0) = false := by
              rcases hq with ⟨y, hn, rfl⟩ | h
              · obtain ⟨b2, o2, cs, rfl, _, hcs, hd⟩ := h2.head
                obtain ⟨vy, hd, hy, _⟩ := hd
                subst hd
                obtain ⟨ay, cy, rfl, _, _⟩ := hy.val
                have n0 := hcs 0 _ rfl
                simp only [Nat.add_zero] at n0
                exact .inr ⟨y, b2, o2, ay, cy, rfl, rfl, n0, by rw [beq_eq_false_iff_ne]; have := List.length_pos_iff.2 hn; omega⟩
              · exact .inl (by rw [beq_eq_false_iff_ne]; omega)
            rw [q5, Q3.out]
            clear h2 hq q5
            rcases q4 with q4 | ⟨n, b1, o1, rfl, hl1, n1, n2⟩
            · rcases q6 with q6 | ⟨y, b2, o2, ay, cy, rfl, hl2, n3, n4⟩
              · go_enter Tryz.func44, Tryz.ntmps44
                go_wp2_with fail
                go_ret
                exact ⟨ret_bool (by simp []), Up.refl _⟩
              · rw [hl2] at x2
                clear hl2
                go_enter Tryz.func44, Tryz.ntmps44
                go_wp2_with fail
                go_ret
                exact ⟨ret_bool (by simp []), Up.refl _⟩
            · rw [hl1] at x1
              clear hl1
              rcases q6 with q6 | ⟨y, b2, o2, ay, cy, rfl, hl2, n3, n4⟩
              · go_enter Tryz.func44, Tryz.ntmps44
                go_wp2_with fail
                go_ret
                exact ⟨ret_bool (by simp []), Up.refl _⟩
              · rw [hl2] at x2
                clear hl2
                go_enter Tryz.func44, Tryz.ntmps44
                go_wp2_with fail
                go_ret
                exact ⟨ret_bool (by simp []), Up.refl _⟩
end Go.Proofs.YtbceapeoknngnaaGreatDoor
set_option linter.unusedVariables false
namespace Go.Proofs.YtbceapeoknngnaaGreatDoor
open Go.RowKit
def FldAt (w : World) (b o : Nat) (x : Fld) : Prop := b < w.heap.size ∧ (w.cell? ⟨b, o, none⟩ = some (.string ⟨x.name.toArray⟩) ∧ w.cell? ⟨b, o + 1, none⟩ = some (.int .i64 x.number) ∧ w.cell? ⟨b, o + 2, none⟩ = some (.int .i64 x.kind) ∧ w.cell? ⟨b, o + 3, none⟩ = some (.string ⟨x.type.toArray⟩) ∧ w.cell? ⟨b, o + 4, none⟩ = some (.bool x.many) ∧ w.cell? ⟨b, o + 5, none⟩ = some (.int .i64 x.choice)) ∧ DFld All w x [.string ⟨x.name.toArray⟩, .int .i64 x.number, .int .i64 x.kind, .string ⟨x.type.toArray⟩, .bool x.many, .int .i64 x.choice]
theorem FldAt.up {w w' : World} {b o : Nat} {x : Fld} (h : FldAt w b o x) (u : Up w w') : FldAt w' b o x := ⟨Nat.lt_of_lt_of_le h.1 u.size, ⟨u.cell_some h.2.1.1, u.cell_some h.2.1.2.1, u.cell_some h.2.1.2.2.1, u.cell_some h.2.1.2.2.2.1, u.cell_some h.2.1.2.2.2.2.1, u.cell_some h.2.1.2.2.2.2.2⟩, stable_fld _ _ _ _ _ _ (Keep.upS u) h.2.2⟩
theorem fld_at {w : World} {ao : Option Addr} {n cap : Nat} {l : List Fld} (h : RdS DFld 6 All w (.slice ao n cap) l) {k : Nat} (hk : k < l.length) : ∃ b o, ao = some ⟨b, o, none⟩ ∧ FldAt w b (o + k * 6) l[k] := by
  obtain ⟨b, o, cs, e, hb, hl, hcs, hd⟩ := h.at hk
  obtain ⟨rfl, hx⟩ := id hd
  exact ⟨b, o, e, hb, ⟨hcs 0 _ rfl, hcs 1 _ rfl, hcs 2 _ rfl, hcs 3 _ rfl, hcs 4 _ rfl, hcs 5 _ rfl⟩, hd⟩
end Go.Proofs.YtbceapeoknngnaaGreatDoor
