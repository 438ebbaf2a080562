/-
  What is wrong with a file, in plain Lean.
  The first thing that is wrong with a file, phase by phase.
-/
import Derived.Test.YtplgegffapikoabDoorLr06
import Derived.Test.YtplgegffapikoabDoorLr08
set_option linter.unusedVariables false
namespace Go.Proofs.YtplgegffapikoabDoor
open Go.RowKit
/-- item i of an enum -/
def itemN (l : List Itm) (i : Nat) (x : Itm) : Int :=
  if !named x.name || (l.take i).any (fun y => x.name == y.name) then 7
  else if x.value < -2147483648 ∨ 2147483647 < x.value then 3
  else if (i = 0 ∧ x.value ≠ 0) ∨ (l.take i).any (fun y => x.value == y.value) then 8
  else 0
/-- The first of numbers that is not 0. -/
def firstN : List Int → Int
  | [] => 0
  | a :: l => if a ≠ 0 then a else firstN l
def itemsN (l : List Itm) : Int := if l.length < 1 ∨ 16 < l.length then 5 else firstN (l.mapIdx (itemN l))
def typedN (f : Fil) (x : Fld) : Int :=
  if x.kind < 1 ∨ 10 < x.kind then 1
  else if (x.kind = 10 ∧ idxP (fun m => m.name == x.type) f.msgs < 0) ∨ (x.kind = 5 ∧ idxP (fun m => m.name == x.type) f.enums < 0) then 6
  else if (x.kind ≠ 10 ∧ x.kind ≠ 5 ∧ x.type ≠ []) ∨ (0 < x.choice ∧ x.many = true) then 8
  else 0
/-- How many choices begin, the last one being this. -/
def begun : Int → List Fld → Int
  | _, [] => 0
  | last, y :: l => (if y.choice ≠ 0 ∧ y.choice ≠ last then 1 else 0) + begun y.choice l
def lastC (l : List Fld) : Int := match l.getLast? with | some y => y.choice | none => 0
def fieldN (f : Fil) (m : Msg) (i : Nat) (x : Fld) : Int :=
  if !named x.name || (m.fields.take i).any (fun y => x.name == y.name) then 7
  else if x.number < 1 ∨ 536870912 ≤ x.number ∨ (19000 ≤ x.number ∧ x.number < 20000) then 3
  else if m.barred.any (fun n => x.number == n) || (m.fields.take i).any (fun y => x.number == y.number) then 8
  else if typedN f x ≠ 0 then typedN f x
  else if x.choice ≠ 0 ∧ x.choice ≠ lastC (m.fields.take i) ∧ x.choice ≠ begun 0 (m.fields.take i) + 1 then 2
  else 0
def msgN (f : Fil) (m : Msg) : Int :=
  if 16 < m.fields.length ∨ 16 < m.barred.length then 5
  else if m.barred.any (fun n => decide (n < 0 ∨ 536870912 ≤ n)) then 3
  else firstN (m.fields.mapIdx (fieldN f m))
def hadN (f : Fil) : List (List UInt8) := f.msgs.map (·.name) ++ f.enums.map (·.name)
def nameN (l : List (List UInt8)) (i : Nat) (n : List UInt8) : Int := if !freeN n || (l.take i).any (fun x => n == x) then 7 else 0
/-- The first of numbers that is not 0, and where. -/
def firstAt : Nat → List Int → Int × Nat
  | _, [] => (0, 0)
  | k, a :: l => if a ≠ 0 then (a, k) else firstAt (k + 1) l
def wrongN (f : Fil) : Int × Nat :=
  if 10 < f.msgs.length + f.enums.length then (5, 0)
  else if (firstAt 0 ((hadN f).mapIdx (nameN (hadN f)))).1 ≠ 0 then firstAt 0 ((hadN f).mapIdx (nameN (hadN f)))
  else if (firstAt 0 (f.msgs.map (msgN f))).1 ≠ 0 then firstAt 0 (f.msgs.map (msgN f))
  else firstAt f.msgs.length (f.enums.map fun e => itemsN e.items)
theorem firstN_at : ∀ (l : List Int) (k : Nat) (hk : k < l.length), (∀ j, (hj : j < l.length) → j < k → l[j] = 0) → l[k] ≠ 0 → firstN l = l[k]
  | [], k, hk, _, _ => by simp at hk
  | a :: l, 0, hk, _, h => by
    have h : a ≠ 0 := h
    rw [firstN, if_pos h]; rfl
  | a :: l, k + 1, hk, hb, h => by
    have h0 : a = 0 := hb 0 (by simp) (by omega)
    rw [firstN, if_neg (by simpa using h0)]
    exact firstN_at l k (by simpa using hk) (fun j hj hjk => hb (j + 1) (by simpa using hj) (by omega)) h
theorem firstN_none : ∀ (l : List Int), (∀ j, (hj : j < l.length) → l[j] = 0) → firstN l = 0
  | [], _ => rfl
  | a :: l, hb => by
    have h0 : a = 0 := hb 0 (by simp)
    rw [firstN, if_neg (by simpa using h0)]
    exact firstN_none l (fun j hj => hb (j + 1) (by simpa using hj))
theorem firstAt_at : ∀ (l : List Int) (i k : Nat) (hk : k < l.length), (∀ j, (hj : j < l.length) → j < k → l[j] = 0) → l[k] ≠ 0 → firstAt i l = (l[k], i + k)
  | [], i, k, hk, _, _ => by simp at hk
  | a :: l, i, 0, hk, _, h => by
    have h : a ≠ 0 := h
    rw [firstAt, if_pos h]; rfl
  | a :: l, i, k + 1, hk, hb, h => by
    have h0 : a = 0 := hb 0 (by simp) (by omega)
    rw [firstAt, if_neg (by simpa using h0), firstAt_at l (i + 1) k (by simpa using hk) (fun j hj hjk => hb (j + 1) (by simpa using hj) (by omega)) h]
    simp only [List.getElem_cons_succ, Prod.mk.injEq, true_and]; omega
theorem firstAt_none : ∀ (l : List Int) (i : Nat), (∀ j, (hj : j < l.length) → l[j] = 0) → firstAt i l = (0, 0)
  | [], _, _ => rfl
  | a :: l, i, hb => by
    have h0 : a = 0 := hb 0 (by simp)
    rw [firstAt, if_neg (by simpa using h0)]
    exact firstAt_none l _ (fun j hj => hb (j + 1) (by simpa using hj))
theorem zero_more {α : Type} {q : Nat → α → Int} {l : List α} {k : Nat} (hk : k < l.length) (hg : ∀ j, (hj : j < l.length) → j < k → q j l[j] = 0) (e : q k l[k] = 0) : ∀ j, (hj : j < l.length) → j < k + 1 → q j l[j] = 0 := fun j hj hjk => by
  by_cases h : j = k
  · subst h; exact e
  · exact hg j hj (by omega)
theorem firstN_idx_at {α : Type} {q : Nat → α → Int} {l : List α} {k : Nat} (hk : k < l.length) (hg : ∀ j, (hj : j < l.length) → j < k → q j l[j] = 0) (e : q k l[k] ≠ 0) : firstN (l.mapIdx q) = q k l[k] := by
  have h := firstN_at (l.mapIdx q) k (by simpa using hk) (fun j hj hjk => by simpa using hg j (by simpa using hj) hjk) (by simpa using e)
  simpa using h
theorem firstN_idx_none {α : Type} {q : Nat → α → Int} {l : List α} (hg : ∀ j, (hj : j < l.length) → q j l[j] = 0) : firstN (l.mapIdx q) = 0 :=
  firstN_none _ (fun j hj => by simpa using hg j (by simpa using hj))
end Go.Proofs.YtplgegffapikoabDoor
set_option linter.unusedVariables false
namespace Go.Proofs.YtplgegffapikoabDoor
open Go.RowKit
theorem firstAt_idx_at {α : Type} {q : Nat → α → Int} {l : List α} {i k : Nat} (hk : k < l.length) (hg : ∀ j, (hj : j < l.length) → j < k → q j l[j] = 0) (e : q k l[k] ≠ 0) : firstAt i (l.mapIdx q) = (q k l[k], i + k) := by
  have h := firstAt_at (l.mapIdx q) i k (by simpa using hk) (fun j hj hjk => by simpa using hg j (by simpa using hj) hjk) (by simpa using e)
  simpa using h
theorem firstAt_idx_none {α : Type} {q : Nat → α → Int} {l : List α} {i : Nat} (hg : ∀ j, (hj : j < l.length) → q j l[j] = 0) : firstAt i (l.mapIdx q) = (0, 0) :=
  firstAt_none _ _ (fun j hj => by simpa using hg j (by simpa using hj))
theorem firstAt_map_at {α : Type} {q : α → Int} {l : List α} {i k : Nat} (hk : k < l.length) (hg : ∀ j, (hj : j < l.length) → j < k → q l[j] = 0) (e : q l[k] ≠ 0) : firstAt i (l.map q) = (q l[k], i + k) := by
  have h := firstAt_at (l.map q) i k (by simpa using hk) (fun j hj hjk => by simpa using hg j (by simpa using hj) hjk) (by simpa using e)
  simpa using h
theorem firstAt_map_none {α : Type} {q : α → Int} {l : List α} {i : Nat} (hg : ∀ j, (hj : j < l.length) → q l[j] = 0) : firstAt i (l.map q) = (0, 0) :=
  firstAt_none _ _ (fun j hj => by simpa using hg j (by simpa using hj))
theorem zero_more' {α : Type} {q : α → Int} {l : List α} {k : Nat} (hk : k < l.length) (hg : ∀ j, (hj : j < l.length) → j < k → q l[j] = 0) (e : q l[k] = 0) : ∀ j, (hj : j < l.length) → j < k + 1 → q l[j] = 0 := fun j hj hjk => by
  by_cases h : j = k
  · subst h; exact e
  · exact hg j hj (by omega)
theorem wrong_many {f : Fil} (h : 10 < f.msgs.length + f.enums.length) : wrongN f = (5, 0) := by rw [wrongN, if_pos h]
theorem wrong_name {f : Fil} (h : ¬ 10 < f.msgs.length + f.enums.length) {k : Nat} (hk : k < (hadN f).length) (hg : ∀ j, (hj : j < (hadN f).length) → j < k → nameN (hadN f) j (hadN f)[j] = 0) (e : nameN (hadN f) k (hadN f)[k] = 7) : wrongN f = (7, k) := by
  have h1 := firstAt_idx_at (i := 0) hk hg (by rw [e]; decide)
  rw [e] at h1
  rw [wrongN, if_neg h, h1, if_pos (show (7 : Int) ≠ 0 by decide)]
  simp
def namesOk (f : Fil) : Prop := ∀ j, (hj : j < (hadN f).length) → nameN (hadN f) j (hadN f)[j] = 0
theorem wrong_msg {f : Fil} (h : ¬ 10 < f.msgs.length + f.enums.length) (hn : namesOk f) {k : Nat} (hk : k < f.msgs.length) (hg : ∀ j, (hj : j < f.msgs.length) → j < k → msgN f f.msgs[j] = 0) (e : msgN f f.msgs[k] ≠ 0) : wrongN f = (msgN f f.msgs[k], k) := by
  have h1 := firstAt_map_at (i := 0) hk hg e
  rw [wrongN, if_neg h, if_neg (by rw [firstAt_idx_none hn]; decide), h1, if_pos e]
  simp
def msgsOk (f : Fil) : Prop := ∀ j, (hj : j < f.msgs.length) → msgN f f.msgs[j] = 0
theorem wrong_enum {f : Fil} (h : ¬ 10 < f.msgs.length + f.enums.length) (hn : namesOk f) (hm : msgsOk f) {k : Nat} (hk : k < f.enums.length) (hg : ∀ j, (hj : j < f.enums.length) → j < k → itemsN f.enums[j].items = 0) (e : itemsN f.enums[k].items ≠ 0) : wrongN f = (itemsN f.enums[k].items, f.msgs.length + k) := by
  have h1 := firstAt_map_at (i := f.msgs.length) (q := fun e : Enu => itemsN e.items) hk hg e
  rw [wrongN, if_neg h, if_neg (by rw [firstAt_idx_none hn]; decide), if_neg (by rw [firstAt_map_none hm]; decide), h1]
theorem wrong_none {f : Fil} (h : ¬ 10 < f.msgs.length + f.enums.length) (hn : namesOk f) (hm : msgsOk f) (he : ∀ j, (hj : j < f.enums.length) → itemsN f.enums[j].items = 0) : wrongN f = (0, 0) := by
  rw [wrongN, if_neg h, if_neg (by rw [firstAt_idx_none hn]; decide), if_neg (by rw [firstAt_map_none hm]; decide), firstAt_map_none (q := fun e : Enu => itemsN e.items) he]
theorem name_cases (l : List (List UInt8)) (i : Nat) (n : List UInt8) : nameN l i n = if (!freeN n || (l.take i).any (fun x => n == x)) = true then 7 else 0 := rfl
end Go.Proofs.YtplgegffapikoabDoor
