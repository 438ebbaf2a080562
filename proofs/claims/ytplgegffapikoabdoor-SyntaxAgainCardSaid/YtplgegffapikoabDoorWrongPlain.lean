/-
  The first thing that is wrong with a file, phase by phase.
-/
import Derived.Test.YtplgegffapikoabDoorLinkPlain
set_option linter.unusedVariables false
namespace Go.Proofs.YtplgegffapikoabDoor
open Go.RowKit
theorem firstAt_idx_at {α : Type} {q : Nat → α → Int} {l : List α} {i k : Nat} (hk : k < l.length) (hg : ∀ j, (hj : j < l.length) → j < k → q j l[j] = 0) (e : q k l[k] ≠ 0) : firstAt i (l.mapIdx q) = (q k l[k], i + k) := by
  have h := firstAt_at (l.mapIdx q) i k (by simpa using hk) (fun j hj hjk => by simpa using hg j (by simpa using hj) hjk) (by simpa using e)
  simpa using h
theorem firstAt_idx_none {α : Type} {q : Nat → α → Int} {l : List α} {i : Nat} (hg : ∀ j, (hj : j < l.length) → q j l[j] = 0) : firstAt i (l.mapIdx q) = (0, 0) :=
  firstAt_none _ _ (fun j hj => by simpa using hg j (by simpa using hj))
theorem firstAt_map_at {α : Type} {q : α → Int} {l : List α} {i k : Nat} (hk : k < l.length) (hg : ∀ j, (hj : j < l.length) → j < k → q l[j] = 0) (e : q l[k] ≠ 0) : firstAt i (l.map q) = (q l[k], i + k) := by
  have h := firstAt_at (l.map q) i k (by simpa using hk) (fun j hj hjk => by simpa using hg j (by simpa using hj) hjk) (by simpa using e)
  simpa using h
theorem firstAt_map_none {α : Type} {q : α → Int} {l : List α} {i : Nat} (hg : ∀ j, (hj : j < l.length) → q l[j] = 0) : firstAt i (l.map q) = (0, 0) :=
  firstAt_none _ _ (fun j hj => by simpa using hg j (by simpa using hj))
theorem zero_more' {α : Type} {q : α → Int} {l : List α} {k : Nat} (hk : k < l.length) (hg : ∀ j, (hj : j < l.length) → j < k → q l[j] = 0) (e : q l[k] = 0) : ∀ j, (hj : j < l.length) → j < k + 1 → q l[j] = 0 := fun j hj hjk => by
  by_cases h : j = k
  · subst h; exact e
  · exact hg j hj (by omega)
theorem wrong_many {f : Fil} (h : 10 < f.msgs.length + f.enums.length) : wrongN f = (5, 0) := by rw [wrongN, if_pos h]
theorem wrong_name {f : Fil} (h : ¬ 10 < f.msgs.length + f.enums.length) {k : Nat} (hk : k < (hadN f).length) (hg : ∀ j, (hj : j < (hadN f).length) → j < k → nameN (hadN f) j (hadN f)[j] = 0) (e : nameN (hadN f) k (hadN f)[k] = 7) : wrongN f = (7, k) := by
  have h1 := firstAt_idx_at (i := 0) hk hg (by rw [e]; decide)
  rw [e] at h1
  rw [wrongN, if_neg h, h1, if_pos (show (7 : Int) ≠ 0 by decide)]
  simp
def namesOk (f : Fil) : Prop := ∀ j, (hj : j < (hadN f).length) → nameN (hadN f) j (hadN f)[j] = 0
theorem wrong_msg {f : Fil} (h : ¬ 10 < f.msgs.length + f.enums.length) (hn : namesOk f) {k : Nat} (hk : k < f.msgs.length) (hg : ∀ j, (hj : j < f.msgs.length) → j < k → msgN f f.msgs[j] = 0) (e : msgN f f.msgs[k] ≠ 0) : wrongN f = (msgN f f.msgs[k], k) := by
  have h1 := firstAt_map_at (i := 0) hk hg e
  rw [wrongN, if_neg h, if_neg (by rw [firstAt_idx_none hn]; decide), h1, if_pos e]
  simp
def msgsOk (f : Fil) : Prop := ∀ j, (hj : j < f.msgs.length) → msgN f f.msgs[j] = 0
theorem wrong_enum {f : Fil} (h : ¬ 10 < f.msgs.length + f.enums.length) (hn : namesOk f) (hm : msgsOk f) {k : Nat} (hk : k < f.enums.length) (hg : ∀ j, (hj : j < f.enums.length) → j < k → itemsN f.enums[j].items = 0) (e : itemsN f.enums[k].items ≠ 0) : wrongN f = (itemsN f.enums[k].items, f.msgs.length + k) := by
  have h1 := firstAt_map_at (i := f.msgs.length) (q := fun e : Enu => itemsN e.items) hk hg e
  rw [wrongN, if_neg h, if_neg (by rw [firstAt_idx_none hn]; decide), if_neg (by rw [firstAt_map_none hm]; decide), h1]
theorem wrong_none {f : Fil} (h : ¬ 10 < f.msgs.length + f.enums.length) (hn : namesOk f) (hm : msgsOk f) (he : ∀ j, (hj : j < f.enums.length) → itemsN f.enums[j].items = 0) : wrongN f = (0, 0) := by
  rw [wrongN, if_neg h, if_neg (by rw [firstAt_idx_none hn]; decide), if_neg (by rw [firstAt_map_none hm]; decide), firstAt_map_none (q := fun e : Enu => itemsN e.items) he]
theorem name_cases (l : List (List UInt8)) (i : Nat) (n : List UInt8) : nameN l i n = if (!freeN n || (l.take i).any (fun x => n == x)) = true then 7 else 0 := rfl
end Go.Proofs.YtplgegffapikoabDoor
