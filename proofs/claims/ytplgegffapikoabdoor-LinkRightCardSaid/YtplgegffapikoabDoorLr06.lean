/-
  Files in plain Lean, and how they lie.
  slices.Index, slices.Contains (written by gen_idx.py).
-/
import Derived.Test.YtplgegffapikoabDoorLr03
import Derived.Test.YtplgegffapikoabDoorProg
import Derived.Outline
import Derived.Deep.DeepMust
import Derived.Deep.QuietTactic
import Derived.BigQuiet
set_option linter.unusedVariables false
namespace Go.Proofs.YtplgegffapikoabDoor
open Go.RowKit

structure Fld where
  name : List UInt8
  number : Int
  kind : Int
  type : List UInt8
  many : Bool
  choice : Int
deriving DecidableEq
structure Msg where
  name : List UInt8
  fields : List Fld
  barred : List Int
deriving DecidableEq
structure Itm where
  name : List UInt8
  value : Int
deriving DecidableEq
structure Enu where
  name : List UInt8
  items : List Itm
deriving DecidableEq
structure Fil where
  msgs : List Msg
  enums : List Enu
deriving DecidableEq

def okI (n : Int) : Prop := -9223372036854775808 ≤ n ∧ n ≤ 9223372036854775807
def okS (s : List UInt8) : Prop := s.length ≤ 140737488355328
def DFld : Lay Fld := fun _ _ x cs => cs = [.string ⟨x.name.toArray⟩, .int .i64 x.number, .int .i64 x.kind, .string ⟨x.type.toArray⟩, .bool x.many, .int .i64 x.choice] ∧ okI x.number ∧ okI x.kind ∧ okI x.choice ∧ okS x.name ∧ okS x.type
def DItm : Lay Itm := fun _ _ x cs => cs = [.string ⟨x.name.toArray⟩, .int .i64 x.value] ∧ okI x.value ∧ okS x.name
def DEnu : Lay Enu := fun S w x cs => ∃ v, cs = [.string ⟨x.name.toArray⟩, v] ∧ RdS DItm 2 S w v x.items ∧ okS x.name
def DMsg : Lay Msg := fun S w x cs => ∃ vf vb, cs = [.string ⟨x.name.toArray⟩, vf, vb] ∧ RdS DFld 6 S w vf x.fields ∧ RdS DInt 1 S w vb x.barred ∧ okS x.name
/-- A file's value. -/
def FilV (S : Nat → Prop) (w : World) (v : Value) (f : Fil) : Prop := ∃ vm ve, v = .agg #[vm, ve] ∧ RdS DMsg 3 S w vm f.msgs ∧ RdS DEnu 2 S w ve f.enums
theorem stable_fld : Stable DFld := fun _ _ _ _ _ _ _ h => h
theorem stable_itm : Stable DItm := fun _ _ _ _ _ _ _ h => h
theorem stable_enu : Stable DEnu := by
  rintro S w S' w' x cs k ⟨v, h, hv, hn⟩
  exact ⟨v, h, hv.keep stable_itm k, hn⟩
theorem stable_msg : Stable DMsg := by
  rintro S w S' w' x cs k ⟨vf, vb, h, hf, hb, hn⟩
  exact ⟨vf, vb, h, hf.keep stable_fld k, hb.keep stable_int k, hn⟩
theorem FilV.keep {S S' : Nat → Prop} {w w' : World} {v : Value} {f : Fil} (h : FilV S w v f) (k : Keep S w S' w') : FilV S' w' v f := by
  obtain ⟨vm, ve, h1, hm, he⟩ := h
  exact ⟨vm, ve, h1, hm.keep stable_msg k, he.keep stable_enu k⟩
theorem FilV.up {S : Nat → Prop} {w w' : World} {v : Value} {f : Fil} (h : FilV S w v f) (u : Up w w') : FilV S w' v f := h.keep (Keep.upS u)
/-- An element of a list, where the walk looks. -/
theorem RdS.at {α : Type} {D : Lay α} {size : Nat} {S : Nat → Prop} {w : World} {ao : Option Addr} {n cap : Nat} {l : List α} (h : RdS D size S w (.slice ao n cap) l) {i : Nat} (hi : i < l.length) : ∃ b o cs, ao = some ⟨b, o, none⟩ ∧ b < w.heap.size ∧ cs.length = size ∧ CellsAt w b (o + i * size) cs ∧ D S w l[i] cs := by
  obtain ⟨ao', cap', hv, hc, hm, hn, hf⟩ := h
  obtain ⟨b, o, cs, ha, hS, hb, hl, hcs, hd⟩ := hf i hi
  simp only [Value.slice.injEq] at hv
  obtain ⟨rfl, rfl, rfl⟩ := hv
  exact ⟨b, o, cs, ha, hb, hl, hcs, hd⟩
/-- The number of the first for which p says yes; -1: there is none. -/
def idxP {α : Type} (p : α → Bool) : List α → Int
  | [] => -1
  | a :: l => if p a then 0 else if idxP p l < 0 then -1 else idxP p l + 1
theorem idxP_at {α : Type} (p : α → Bool) : ∀ (l : List α) (k : Nat) (hk : k < l.length), (∀ j, (hj : j < l.length) → j < k → p l[j] = false) → p l[k] = true → idxP p l = k
  | [], k, hk, _, _ => by simp at hk
  | a :: l, 0, hk, _, h => by
    have h : p a = true := h
    rw [idxP, if_pos h]; rfl
  | a :: l, k + 1, hk, hb, h => by
    have h0 : p a = false := hb 0 (by simp) (by omega)
    have ih := idxP_at p l k (by simpa using hk) (fun j hj hjk => hb (j + 1) (by simpa using hj) (by omega)) h
    simp only [idxP, h0, Bool.false_eq_true, if_false]
    rw [ih, if_neg (by omega)]
    omega
theorem idxP_none {α : Type} (p : α → Bool) : ∀ (l : List α), (∀ j, (hj : j < l.length) → p l[j] = false) → idxP p l = -1
  | [], _ => rfl
  | a :: l, hb => by
    have h0 : p a = false := hb 0 (by simp)
    have ih := idxP_none p l (fun j hj => hb (j + 1) (by simpa using hj))
    simp only [idxP, h0, Bool.false_eq_true, if_false]
    rw [ih]
    rfl
theorem idxP_any {α : Type} (p : α → Bool) : ∀ (l : List α), decide (0 ≤ idxP p l) = l.any p
  | [] => rfl
  | a :: l => by
    have ih := idxP_any p l
    rw [List.any_cons, ← ih, idxP]
    cases hp : p a
    · simp only [Bool.false_eq_true, if_false, Bool.false_or]
      by_cases h : idxP p l < 0
      · rw [if_pos h, decide_eq_false (by omega), decide_eq_false (by omega)]
      · rw [if_neg h, decide_eq_true (by omega), decide_eq_true (by omega)]
    · simp
theorem no_more {α : Type} {p : α → Bool} {l : List α} {k : Nat} (hk : k < l.length) (hg : ∀ j, (hj : j < l.length) → j < k → p l[j] = false) (e : p l[k] = false) : ∀ j, (hj : j < l.length) → j < k + 1 → p l[j] = false := fun j hj hjk => by
  by_cases h : j = k
  · subst h; exact e
  · exact hg j hj (by omega)
end Go.Proofs.YtplgegffapikoabDoor
set_option linter.unusedVariables false
namespace Go.Proofs.YtplgegffapikoabDoor
open Go.RowKit

set_option maxRecDepth 100000 in
set_option maxHeartbeats 800000 in
theorem index_str (v : Value) (l : List (List UInt8)) (s : List UInt8) (w : World) (hv : RdS DStr 1 All w v l) :
    Calls Tryd.prog 79 #[v, .string ⟨s.toArray⟩] w fun e w' => e = .returned (.int .i64 (idxP (fun x => s == x) l)) ∧ w' = w := by
  obtain ⟨ao, cap, rfl, hc1, hc2⟩ := hv.val
  have Hv := Lib.hid hv; clear hv
  go_enter Tryd.func79, Tryd.ntmps79
  go_wp2_with fail
  go_loopw [8] (fun i wr => ∃ k : Nat, k ≤ l.length ∧ i = .int .i64 k ∧ wr = w ∧ ∀ j, (hj : j < l.length) → j < k → (s == l[j]) = false) (fun i _ => l.length - (intOf i).toNat)
  case atStart => exact ⟨0, by omega, rfl, rfl, fun j _ h => absurd h (by omega)⟩
  case round =>
    obtain ⟨k, hk, rfl, rfl, hg⟩ := hrel
    have Hg := Lib.hid hg; clear hg
    by_cases hlt : k < l.length
    · obtain ⟨b, o, cs, rfl, hb, hl, hcs, hd⟩ := Hv.out.at hlt
      obtain ⟨hd, _⟩ := hd
      have hc := hcs 0 _ (by rw [hd]; rfl)
      simp only [Nat.mul_one, Nat.add_zero] at hc
      clear hcs hd hl
      have i0 : (0 : Int) ≤ (k : Int) := by omega
      have i1 : (k : Int) < (l.length : Int) := by omega
      have hgg := fun e => idxP_at (fun x => s == x) l k hlt Hg.out e
      have Hgg := Lib.hid hgg; clear hgg
      have Hgn := Lib.hid (fun e => no_more (p := fun x => s == x) hlt Hg.out e)
      generalize l[k] = x at *
      by_cases he : (s == x) = true
      · go_wp2_with fail
        go_ret
        exact ⟨ret_int (Hgg.out he).symm, rfl⟩
      · have he : (s == x) = false := by simpa using he
        go_wp2_with fail
        go_roundw
        case rel => exact ⟨k + 1, by omega, by go_num, trivial, Hgn.out he⟩
        case measure => simp [intOf]; omega
    · go_wp2_with fail
      go_ret
      exact ⟨ret_int (idxP_none _ _ (fun j hj => Hg.out j hj (by omega))).symm, rfl⟩
set_option maxRecDepth 100000 in
set_option maxHeartbeats 800000 in
theorem contains_str (v : Value) (l : List (List UInt8)) (s : List UInt8) (w : World) (hv : RdS DStr 1 All w v l) :
    Calls Tryd.prog 49 #[v, .string ⟨s.toArray⟩] w fun e w' => e = .returned (.bool (l.any (fun x => s == x))) ∧ w' = w := by
  go_enter Tryd.func49, Tryd.ntmps49
  go_wp2_with fail
  refine (index_str v l s w hv).mono ?_
  rintro e w1 ⟨rfl, rfl⟩
  have hi := idxP_any (fun x => s == x) l
  generalize idxP (fun x => s == x) l = i at *
  go_wp2_with fail
  go_ret
  exact ⟨rfl, rfl⟩

set_option maxRecDepth 100000 in
set_option maxHeartbeats 800000 in
theorem index_int (v : Value) (l : List (Int)) (s : Int) (w : World) (hv : RdS DInt 1 All w v l) :
    Calls Tryd.prog 110 #[v, .int .i64 s] w fun e w' => e = .returned (.int .i64 (idxP (fun x => s == x) l)) ∧ w' = w := by
  obtain ⟨ao, cap, rfl, hc1, hc2⟩ := hv.val
  have Hv := Lib.hid hv; clear hv
  go_enter Tryd.func110, Tryd.ntmps110
  go_wp2_with fail
  go_loopw [8] (fun i wr => ∃ k : Nat, k ≤ l.length ∧ i = .int .i64 k ∧ wr = w ∧ ∀ j, (hj : j < l.length) → j < k → (s == l[j]) = false) (fun i _ => l.length - (intOf i).toNat)
  case atStart => exact ⟨0, by omega, rfl, rfl, fun j _ h => absurd h (by omega)⟩
  case round =>
    obtain ⟨k, hk, rfl, rfl, hg⟩ := hrel
    have Hg := Lib.hid hg; clear hg
    by_cases hlt : k < l.length
    · obtain ⟨b, o, cs, rfl, hb, hl, hcs, hd⟩ := Hv.out.at hlt
      obtain ⟨hd, _⟩ := hd
      have hc := hcs 0 _ (by rw [hd]; rfl)
      simp only [Nat.mul_one, Nat.add_zero] at hc
      clear hcs hd hl
      have i0 : (0 : Int) ≤ (k : Int) := by omega
      have i1 : (k : Int) < (l.length : Int) := by omega
      have hgg := fun e => idxP_at (fun x => s == x) l k hlt Hg.out e
      have Hgg := Lib.hid hgg; clear hgg
      have Hgn := Lib.hid (fun e => no_more (p := fun x => s == x) hlt Hg.out e)
      generalize l[k] = x at *
      by_cases he : (s == x) = true
      · go_wp2_with fail
        go_ret
        exact ⟨ret_int (Hgg.out he).symm, rfl⟩
      · have he : (s == x) = false := by simpa using he
        go_wp2_with fail
        go_roundw
        case rel => exact ⟨k + 1, by omega, by go_num, trivial, Hgn.out he⟩
        case measure => simp [intOf]; omega
    · go_wp2_with fail
      go_ret
      exact ⟨ret_int (idxP_none _ _ (fun j hj => Hg.out j hj (by omega))).symm, rfl⟩
set_option maxRecDepth 100000 in
set_option maxHeartbeats 800000 in
theorem contains_int (v : Value) (l : List (Int)) (s : Int) (w : World) (hv : RdS DInt 1 All w v l) :
    Calls Tryd.prog 84 #[v, .int .i64 s] w fun e w' => e = .returned (.bool (l.any (fun x => s == x))) ∧ w' = w := by
  go_enter Tryd.func84, Tryd.ntmps84
  go_wp2_with fail
  refine (index_int v l s w hv).mono ?_
  rintro e w1 ⟨rfl, rfl⟩
  have hi := idxP_any (fun x => s == x) l
  generalize idxP (fun x => s == x) l = i at *
  go_wp2_with fail
  go_ret
  exact ⟨rfl, rfl⟩
end Go.Proofs.YtplgegffapikoabDoor
