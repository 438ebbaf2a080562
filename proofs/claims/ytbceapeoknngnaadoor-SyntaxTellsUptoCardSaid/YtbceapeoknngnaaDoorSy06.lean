/-
  Files in plain Lean, and how they lie.
-/
import Derived.Test.YtbceapeoknngnaaDoorSy03
set_option linter.unusedVariables false
namespace Go.Proofs.YtbceapeoknngnaaDoor
open Go.RowKit
structure Fld where
 name : List UInt8
 number : Int
 kind : Int
 type : List UInt8
 many : Bool
 choice : Int
deriving DecidableEq
structure Msg where
 name : List UInt8
 fields : List Fld
 barred : List Int
deriving DecidableEq
structure Itm where
 name : List UInt8
 value : Int
deriving DecidableEq
structure Enu where
 name : List UInt8
 items : List Itm
deriving DecidableEq
structure Fil where
 msgs : List Msg
 enums : List Enu
deriving DecidableEq
def okI (n : Int) : Prop := -9223372036854775808 ≤ n ∧ n ≤ 9223372036854775807
def okS (s : List UInt8) : Prop := s.length ≤ 140737488355328
def DFld : Lay Fld := fun _ _ x cs => cs = [.string ⟨x.name.toArray⟩, .int .i64 x.number, .int .i64 x.kind, .string ⟨x.type.toArray⟩, .bool x.many, .int .i64 x.choice] ∧ okI x.number ∧ okI x.kind ∧ okI x.choice ∧ okS x.name ∧ okS x.type
def DItm : Lay Itm := fun _ _ x cs => cs = [.string ⟨x.name.toArray⟩, .int .i64 x.value] ∧ okI x.value ∧ okS x.name
def DEnu : Lay Enu := fun S w x cs => ∃ v, cs = [.string ⟨x.name.toArray⟩, v] ∧ RdS DItm 2 S w v x.items ∧ okS x.name
def DMsg : Lay Msg := fun S w x cs => ∃ vf vb, cs = [.string ⟨x.name.toArray⟩, vf, vb] ∧ RdS DFld 6 S w vf x.fields ∧ RdS DInt 1 S w vb x.barred ∧ okS x.name
def FilV (S : Nat → Prop) (w : World) (v : Value) (f : Fil) : Prop := ∃ vm ve, v = .agg #[vm, ve] ∧ RdS DMsg 3 S w vm f.msgs ∧ RdS DEnu 2 S w ve f.enums
theorem stable_fld : Stable DFld := fun _ _ _ _ _ _ _ h => h
theorem stable_itm : Stable DItm := fun _ _ _ _ _ _ _ h => h
theorem stable_enu : Stable DEnu := by
 rintro S w S' w' x cs k ⟨v, h, hv, hn⟩; exact ⟨v, h, hv.keep stable_itm k, hn⟩
theorem stable_msg : Stable DMsg := by
 rintro S w S' w' x cs k ⟨vf, vb, h, hf, hb, hn⟩; exact ⟨vf, vb, h, hf.keep stable_fld k, hb.keep stable_int k, hn⟩
theorem FilV.keep {S S' : Nat → Prop} {w w' : World} {v : Value} {f : Fil} (h : FilV S w v f) (k : Keep S w S' w') : FilV S' w' v f := by
 obtain ⟨vm, ve, h1, hm, he⟩ := h; exact ⟨vm, ve, h1, hm.keep stable_msg k, he.keep stable_enu k⟩
theorem FilV.up {S : Nat → Prop} {w w' : World} {v : Value} {f : Fil} (h : FilV S w v f) (u : Up w w') : FilV S w' v f := h.keep (Keep.upS u)
theorem RdS.at {α : Type} {D : Lay α} {size : Nat} {S : Nat → Prop} {w : World} {ao : Option Addr} {n cap : Nat} {l : List α} (h : RdS D size S w (.slice ao n cap) l) {i : Nat} (hi : i < l.length) : ∃ b o cs, ao = some ⟨b, o, none⟩ ∧ b < w.heap.size ∧ cs.length = size ∧ CellsAt w b (o + i * size) cs ∧ D S w l[i] cs := by
 obtain ⟨ao', cap', hv, hc, hm, hn, hf⟩ := h; obtain ⟨b, o, cs, ha, hS, hb, hl, hcs, hd⟩ := hf i hi; simp only [Value.slice.injEq] at hv; obtain ⟨rfl, rfl, rfl⟩ := hv; exact ⟨b, o, cs, ha, hb, hl, hcs, hd⟩
def idxP {α : Type} (p : α → Bool) : List α → Int
 | [] => -1
 | a :: l => if p a then 0 else if idxP p l < 0 then -1 else idxP p l + 1
theorem idxP_at {α : Type} (p : α → Bool) : ∀ (l : List α) (k : Nat) (hk : k < l.length), (∀ j, (hj : j < l.length) → j < k → p l[j] = false) → p l[k] = true → idxP p l = k
 | [], k, hk, _, _ => by simp at hk
 | a :: l, 0, hk, _, h => by
   have h : p a = true := h; rw [idxP, if_pos h]; rfl
 | a :: l, k + 1, hk, hb, h => by
   have h0 : p a = false := hb 0 (by simp) (by omega); have ih := idxP_at p l k (by simpa using hk) (fun j hj hjk => hb (j + 1) (by simpa using hj) (by omega)) h; simp only [idxP, h0, Bool.false_eq_true, if_false]; rw [ih, if_neg (by omega)]; omega
theorem idxP_none {α : Type} (p : α → Bool) : ∀ (l : List α), (∀ j, (hj : j < l.length) → p l[j] = false) → idxP p l = -1
 | [], _ => rfl
 | a :: l, hb => by
   have h0 : p a = false := hb 0 (by simp); have ih := idxP_none p l (fun j hj => hb (j + 1) (by simpa using hj)); simp only [idxP, h0, Bool.false_eq_true, if_false]; rw [ih]; rfl
theorem no_more {α : Type} {p : α → Bool} {l : List α} {k : Nat} (hk : k < l.length) (hg : ∀ j, (hj : j < l.length) → j < k → p l[j] = false) (e : p l[k] = false) : ∀ j, (hj : j < l.length) → j < k + 1 → p l[j] = false := fun j hj hjk => by
 by_cases h : j = k
 · subst h; exact e
 · exact hg j hj (by omega)
end Go.Proofs.YtbceapeoknngnaaDoor
