/-
  Bodies: what they are, and how they lie.
  A world that has drawn more is as the one before.
  SameRecords.
-/
import Derived.Test.YtplgegffapikoaaDoorPt03
import Derived.Outline
import Derived.Deep.QuietTactic
import Derived.Test.YtplgegffapikoaaDoorProg
import Derived.Deep.DeepMust
import Derived.BigQuiet
set_option linter.unusedVariables false
namespace Go.Proofs.YtplgegffapikoaaDoor
open Go.RowKit
/-- A body: its values (a number, bits, bytes, bodies), and the records that no field knows. -/
inductive Bod where
  | mk (values : List (Int × List Nat × List (List UInt8) × List Bod)) (unknown : List Rec) : Bod
abbrev Val : Type := Int × List Nat × List (List UInt8) × List Bod
def Bod.values : Bod → List Val | .mk v _ => v
def Bod.unknown : Bod → List Rec | .mk _ u => u
theorem Bod.ext' {a b : Bod} (h : a.values = b.values) (k : a.unknown = b.unknown) : a = b := by
  cases a; cases b
  simp only [Bod.values, Bod.unknown] at h k
  rw [h, k]
def bod0 : Bod := .mk [] []
instance : Inhabited Bod := ⟨bod0⟩
abbrev Val.num (x : Val) : Int := x.1
abbrev Val.bits (x : Val) : List Nat := x.2.1
abbrev Val.bytes (x : Val) : List (List UInt8) := x.2.2.1
abbrev Val.subs (x : Val) : List Bod := x.2.2.2
def val0 : Val := (0, [], [], [])
def DBytes : Lay (List UInt8) := fun S w l cs => ∃ v, cs = [v] ∧ RdB S w v l ∧ l.length ≤ 140737488355328
theorem stable_bytes : Stable DBytes := by
  rintro S w S' w' l cs k ⟨v, rfl, h, hz⟩
  exact ⟨v, rfl, h.keep stable_u8 k, hz⟩
def DRecZ : Lay Rec := fun S w r cs => DRec S w r cs ∧ r.bytes.length ≤ 140737488355328
theorem stable_recz : Stable DRecZ := fun S w S' w' r cs k h => ⟨stable_rec S w S' w' r cs k h.1, h.2⟩
/-- No slice of a value is too large. -/
def ValSz (x : Val) : Prop := x.2.1.length * 8 ≤ 140737488355328 ∧ x.2.2.1.length * 24 ≤ 140737488355328 ∧ x.2.2.2.length * 48 ≤ 140737488355328
def BodSz (b : Bod) : Prop := b.values.length * 80 ≤ 140737488355328 ∧ b.unknown.length * 48 ≤ 140737488355328
def DValF (DB : Lay Bod) : Lay Val := fun S w x cs => ∃ vb vy vs, cs = [.int .i64 x.1, vb, vy, vs] ∧ okI x.1 ∧ RdS DU64 1 S w vb x.2.1 ∧ RdS DBytes 1 S w vy x.2.2.1 ∧ RdS DB 2 S w vs x.2.2.2 ∧ ValSz x
/-- A body that is nested less deep than this. -/
def DBodF : Nat → Lay Bod
  | 0 => fun _ _ _ _ => False
  | d + 1 => fun S w b cs => ∃ vv vu, cs = [vv, vu] ∧ RdS (DValF (DBodF d)) 4 S w vv b.values ∧ RdS DRecZ 4 S w vu b.unknown ∧ BodSz b
abbrev DValD (d : Nat) : Lay Val := DValF (DBodF d)
theorem stable_valF {DB : Lay Bod} (h : Stable DB) : Stable (DValF DB) := by
  rintro S w S' w' x cs k ⟨vb, vy, vs, rfl, h0, h1, h2, h3, hz⟩
  exact ⟨vb, vy, vs, rfl, h0, h1.keep stable_u64 k, h2.keep stable_bytes k, h3.keep h k, hz⟩
theorem stable_bod : ∀ d, Stable (DBodF d)
  | 0 => fun _ _ _ _ _ _ _ h => h
  | d + 1 => by
    rintro S w S' w' b cs k ⟨vv, vu, rfl, h0, h1, hz⟩
    exact ⟨vv, vu, rfl, h0.keep (stable_valF (stable_bod d)) k, h1.keep stable_recz k, hz⟩
theorem stable_val (d : Nat) : Stable (DValD d) := stable_valF (stable_bod d)
theorem RdS.imp {α : Type} {D D' : Lay α} {size : Nat} {S : Nat → Prop} {w : World} {v : Value} {l : List α} (h : RdS D size S w v l) (f : ∀ a ∈ l, ∀ cs, D S w a cs → D' S w a cs) : RdS D' size S w v l := by
  obtain ⟨ao, cap, hv, h1, h2, h3, h4⟩ := h
  refine ⟨ao, cap, hv, h1, h2, h3, fun i hi => ?_⟩
  obtain ⟨b, o, cs, e1, e2, e3, e4, e5, e6⟩ := h4 i hi
  exact ⟨b, o, cs, e1, e2, e3, e4, e5, f _ (List.getElem_mem hi) _ e6⟩
theorem bod_up : ∀ d {S : Nat → Prop} {w : World} {b : Bod} {cs : List Value}, DBodF d S w b cs → DBodF (d + 1) S w b cs
  | 0, _, _, _, _, h => h.elim
  | d + 1, S, w, b, cs, ⟨vv, vu, e, h0, h1, hz⟩ =>
    ⟨vv, vu, e, h0.imp (fun x _ cs ⟨vb, vy, vs, e, g0, g1, g2, g3, gz⟩ => ⟨vb, vy, vs, e, g0, g1, g2, g3.imp (fun b _ cs h => bod_up d h), gz⟩), h1, hz⟩
theorem bod_le {d d' : Nat} (h : d ≤ d') {S : Nat → Prop} {w : World} {b : Bod} {cs : List Value} (hb : DBodF d S w b cs) : DBodF d' S w b cs := by
  induction h with
  | refl => exact hb
  | step _ ih => exact bod_up _ ih
/-- A value in a body, cell by cell. -/
theorem val_cells {d : Nat} {S : Nat → Prop} {w : World} {x : Val} {cs : List Value} (h : DValD d S w x cs) : ∃ a1 c1 a2 c2 a3 c3, cs = [.int .i64 x.1, .slice a1 x.2.1.length c1, .slice a2 x.2.2.1.length c2, .slice a3 x.2.2.2.length c3] ∧
    okI x.1 ∧ RdS DU64 1 S w (.slice a1 x.2.1.length c1) x.2.1 ∧ RdS DBytes 1 S w (.slice a2 x.2.2.1.length c2) x.2.2.1 ∧ RdS (DBodF d) 2 S w (.slice a3 x.2.2.2.length c3) x.2.2.2 ∧ ValSz x := by
  obtain ⟨vb, vy, vs, rfl, h0, h1, h2, h3, hz⟩ := h
  obtain ⟨a1, c1, rfl, _, _⟩ := h1.val
  obtain ⟨a2, c2, rfl, _, _⟩ := h2.val
  obtain ⟨a3, c3, rfl, _, _⟩ := h3.val
  exact ⟨a1, c1, a2, c2, a3, c3, rfl, h0, h1, h2, h3, hz⟩
/-- What is wrong with bits of a kind. -/
def fitsN (kind : Int) (n : Nat) : Int :=
  if kind = 1 ∨ kind = 2 ∨ kind = 3 ∨ kind = 6 then 0
  else if kind = 4 then if 1 < n then 3 else 0
  else if kind = 5 then if n ≤ 2147483647 ∨ 18446744071562067968 ≤ n then 0 else 3
  else if kind = 7 then if 4294967295 < n then 3 else 0
  else 1
/-- How many a value has, of its kind's list; and has it none of the others? -/
def countN (kind : Int) (v : Val) : Nat × Bool :=
  if kind = 8 ∨ kind = 9 then (v.2.2.1.length, v.2.1.length + v.2.2.2.length == 0)
  else if kind = 10 then (v.2.2.2.length, v.2.1.length + v.2.2.1.length == 0)
  else (v.2.1.length, v.2.2.1.length + v.2.2.2.length == 0)
/-- Is a value what a field is without one? -/
def plainN (x : Fld) (v : Val) : Bool := !(x.many || decide (0 < x.choice) || x.kind == 10) && ((v.2.1 == [0]) || (v.2.2.1 == [[]]))
end Go.Proofs.YtplgegffapikoaaDoor
namespace Go.Proofs.YtplgegffapikoaaDoor
open Go.RowKit
theorem Up.drewN {a w : World} (h : Up a w) (n : Nat) : Up a (w.drewN n) := ⟨h.os, h.tape, h.output, h.size, h.block⟩
end Go.Proofs.YtplgegffapikoaaDoor
set_option linter.unusedVariables false
namespace Go.Proofs.YtplgegffapikoaaDoor
open Go.RowKit


set_option maxRecDepth 100000 in
set_option maxHeartbeats 1600000 in
theorem same_any (va vb : Value) (a b : List Rec) (w : World) (hva : RdS DRec 4 All w va a) (hvb : RdS DRec 4 All w vb b) :
    Calls Tryd.prog 28 #[va, vb] w fun e w' => ∃ t : Bool, e = .returned (.bool t) ∧ (t = true ↔ a = b) ∧ Up w w' := by
  obtain ⟨ao, cap, rfl, hc1, hc2⟩ := hva.val
  obtain ⟨bo, bap, rfl, hd1, hd2⟩ := hvb.val
  have Ha := Lib.hid hva; clear hva
  have Hb := Lib.hid hvb; clear hvb
  by_cases hne : a.length = b.length
  · have hne2 : ((a.length : Int) != (b.length : Int)) = false := by simp [hne]
    have hne3 := Lib.hid hne; clear hne
    go_enter Tryd.func28, Tryd.ntmps28
    go_wp2_with fail
    go_loopw [13] (fun i wr => ∃ k : Nat, k ≤ a.length ∧ i = .int .i64 k ∧ a.take k = b.take k ∧ ∃ n, wr = w.drewN n) (fun i _ => a.length - (intOf i).toNat)
    case atStart => exact ⟨0, by omega, rfl, by simp, 0, rfl⟩
    case round =>
      obtain ⟨k, hk, rfl, ht, nw, rfl⟩ := hrel
      have Ht := Lib.hid ht; clear ht
      by_cases hlt : k < a.length
      · obtain ⟨ba, oa, a3, c3, rfl, hrb, h64, g0, g1, g2, g3⟩ := rdRec_cell Ha.out hlt
        have hltb : k < b.length := by have := hne3.out; omega
        obtain ⟨bb, ob, b3, d3, rfl, hrb2, h642, k0, k1, k2, k3⟩ := rdRec_cell Hb.out hltb
        have Hal := Lib.hid (show a.take (k + 1) = a.take k ++ [a[k]] from by rw [List.take_succ_eq_append_getElem hlt])
        have Hbl := Lib.hid (show b.take (k + 1) = b.take k ++ [b[k]] from by rw [List.take_succ_eq_append_getElem hltb])
        generalize hr : a[k] = r at *
        generalize hs : b[k] = s at *
        have i0 : (0 : Int) ≤ (k : Int) := by omega
        have i1 : (k : Int) < (a.length : Int) := by omega
        have i2 : (k : Int) < (b.length : Int) := by omega
        have hcr := fun n => run_conv (P := Tryd.prog) (w := w.drewN n) (hrb.up stable_u8 (Up.drewN (Up.refl w) n)) 73 5 9 Tryd.underlying73 Tryd.underlying5 Tryd.underlying9
        have hcs := fun n => run_conv (P := Tryd.prog) (w := w.drewN n) (hrb2.up stable_u8 (Up.drewN (Up.refl w) n)) 73 5 9 Tryd.underlying73 Tryd.underlying5 Tryd.underlying9
        have Hrs := Lib.hid hr; clear hr
        have Hss := Lib.hid hs; clear hs hrb hrb2 h64 h642
        by_cases e1 : r.number = s.number
        · have x1 : (r.number != s.number) = false := by simp [e1]
          by_cases e2 : r.how = s.how
          · have x2 : (r.how != s.how) = false := by simp [e2]
            by_cases e3 : r.bits = s.bits
            · have x3 : ((r.bits : Int) != (s.bits : Int)) = false := by simp [e3]
              have Hx1 := Lib.hid e1; have Hx2 := Lib.hid e2; have Hx3 := Lib.hid e3; clear e1 e2 e3
              by_cases e4 : r.bytes = s.bytes
              · have x4 := leq_true e4
                have Hx4 := Lib.hid e4; clear e4
                go_wp2_with fail
                go_quiet (fail)
                go_wp2_with fail
                go_roundw
                case rel =>
                  have hrs : r = s := by
                    have h1 := Hx1.out; have h2 := Hx2.out; have h3 := Hx3.out; have h4 := Hx4.out
                    cases r; cases s; simp at h1 h2 h3 h4; simp [h1, h2, h3, h4]
                  exact ⟨k + 1, by omega, by go_num, by rw [Hal.out, Hbl.out, Ht.out, hrs], _, rfl⟩
                case measure => simp [intOf]; omega
              · have x4 := leq_false e4
                go_wp2_with fail
                go_quiet (fail)
                go_wp2_with fail
                go_ret
                exact ⟨false, rfl, ⟨(fun h => nomatch h), fun h => by subst h; exact absurd (by rw [← Hrs.out, ← Hss.out]) e4⟩, by repeat (first | exact Up.refl _ | with_reducible refine Up.drewN ?_ _)⟩
            · have x3 : ((r.bits : Int) != (s.bits : Int)) = true := by rw [bne_iff_ne]; omega
              have Hx1 := Lib.hid e1; have Hx2 := Lib.hid e2; clear e1 e2
              go_wp2_with fail
              go_quiet (fail)
              go_wp2_with fail
              go_ret
              exact ⟨false, rfl, ⟨(fun h => nomatch h), fun h => by subst h; exact absurd (by rw [← Hrs.out, ← Hss.out]) e3⟩, by repeat (first | exact Up.refl _ | with_reducible refine Up.drewN ?_ _)⟩
          · have x2 : (r.how != s.how) = true := by rw [bne_iff_ne]; exact e2
            have Hx1 := Lib.hid e1; clear e1
            go_wp2_with fail
            go_quiet (fail)
            go_wp2_with fail
            go_ret
            exact ⟨false, rfl, ⟨(fun h => nomatch h), fun h => by subst h; exact absurd (by rw [← Hrs.out, ← Hss.out]) e2⟩, by repeat (first | exact Up.refl _ | with_reducible refine Up.drewN ?_ _)⟩
        · have x1 : (r.number != s.number) = true := by rw [bne_iff_ne]; exact e1
          go_wp2_with fail
          go_quiet (fail)
          go_wp2_with fail
          go_ret
          exact ⟨false, rfl, ⟨(fun h => nomatch h), fun h => by subst h; exact absurd (by rw [← Hrs.out, ← Hss.out]) e1⟩, by repeat (first | exact Up.refl _ | with_reducible refine Up.drewN ?_ _)⟩
      · go_wp2_with fail
        go_ret
        refine ⟨true, rfl, ⟨fun _ => ?_, fun _ => rfl⟩, Up.drewN (Up.refl w) _⟩
        have := Ht.out
        rwa [List.take_of_length_le (by omega), List.take_of_length_le (by have := hne3.out; omega)] at this
  · have hne2 : ((a.length : Int) != (b.length : Int)) = true := by rw [bne_iff_ne]; omega
    go_enter Tryd.func28, Tryd.ntmps28
    go_wp2_with fail
    go_ret
    exact ⟨false, rfl, by constructor; (intro h; cases h); (intro h; exact absurd (congrArg List.length h) hne), Up.refl _⟩
end Go.Proofs.YtplgegffapikoaaDoor
