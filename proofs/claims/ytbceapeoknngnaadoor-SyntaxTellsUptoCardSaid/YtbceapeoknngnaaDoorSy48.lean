/-
  How long a file's text is.
-/
import Derived.Test.YtbceapeoknngnaaDoorSy47
set_option linter.unusedVariables false
namespace Go.Proofs.YtbceapeoknngnaaDoor
theorem nDig_le : ∀ (k u : Nat), u < 10 ^ (k + 1) → (Lib.decDigits u).length ≤ k + 1
 | 0, u, h => by
   rw [Lib.decDigits, dif_pos (by simpa using h)]; exact Nat.le_refl 1
 | k + 1, u, h => by
   rw [Lib.decDigits]; split
   · exact Nat.le_add_left 1 _
   · rw [List.length_append, List.length_singleton]; have := nDig_le k (u / 10) (by rw [Nat.pow_succ] at h; omega); omega
theorem itoa_len {n : Int} (h : okI n) : (Lib.itoa n).length ≤ 20 := by
 obtain ⟨h1, h2⟩ := h; unfold Lib.itoa; split
 · rw [List.length_cons]; have := nDig_le 18 n.natAbs (by omega); omega
 · have := nDig_le 18 n.toNat (by omega); omega
theorem words_le : ∀ i : Nat, (words.getD i []).length ≤ 8
 | 0 => by decide
 | 1 => by decide
 | 2 => by decide
 | 3 => by decide
 | 4 => by decide
 | 5 => by decide
 | 6 => by decide
 | 7 => by decide
 | 8 => by decide
 | n + 9 => by simp [words, List.getD]
theorem kind_le (x : Fld) : (kindW x).length ≤ 8 + x.type.length := by
 unfold kindW; split
 · have := words_le (x.kind - 1).toNat; omega
 · omega
def wFld (x : Fld) : Nat := 64 + x.name.length + x.type.length
def wMsg (m : Msg) : Nat := 32 + m.name.length + 32 * m.barred.length + (m.fields.map wFld).sum
def wItm (x : Itm) : Nat := 32 + x.name.length
def wEnu (e : Enu) : Nat := 16 + e.name.length + (e.items.map wItm).sum
def wFil (F : Fil) : Nat := (F.enums.map wEnu).sum + (F.msgs.map wMsg).sum
theorem line_le {x : Fld} (h : okI x.number) : (lineW x).length ≤ 43 + x.name.length + x.type.length := by
 have h1 := kind_le x; have h2 := itoa_len h; unfold lineW; simp only [List.length_append, List.length_cons]; (have : (if x.many = true then sMany else []).length ≤ 9 := by split <;> simp [sMany]); have e1 : sEq.length = 3 := rfl; have e2 : sEnd.length = 2 := rfl; omega
theorem fields_le : ∀ (l : List Fld) (last : Int), (∀ x ∈ l, okI x.number) → (fieldsF last l).length ≤ (l.map wFld).sum
 | [], _, _ => Nat.le_refl _
 | x :: l, last, h => by
   have h1 := line_le (h x List.mem_cons_self); have h2 := fields_le l x.choice (fun y hy => h y (List.mem_cons_of_mem _ hy)); rw [fieldsF, List.map_cons, List.sum_cons]; simp only [List.length_append]; (have a : (if 0 < x.choice ∧ x.choice ≠ last then sOneof else []).length ≤ 10 := by split <;> simp [sOneof]); (have b : (if 0 < x.choice then sTwo else []).length ≤ 2 := by split <;> simp [sTwo]); (have c : (if 0 < x.choice ∧ nextC l ≠ x.choice then sShut2 else []).length ≤ 4 := by split <;> simp [sShut2]); have d : sTwo.length = 2 := rfl; unfold wFld at h2 ⊢; omega
theorem barF_le : ∀ (l : List Int) (b : Bool), (∀ n ∈ l, okI n) → (barF b l).length ≤ 31 * l.length
 | [], _, _ => by simp [barF]
 | n :: l, b, h => by
   have h1 := itoa_len (h n List.mem_cons_self); have h2 := barF_le l false (fun y hy => h y (List.mem_cons_of_mem _ hy)); rw [barF, List.length_cons]; simp only [List.length_append]; (have a : (if b = true then sBar else sComma).length ≤ 11 := by split <;> simp [sBar, sComma]); omega
theorem bar_le {l : List Int} (h : ∀ n ∈ l, okI n) : (barW l).length ≤ 31 * l.length + 2 := by
 have h1 := barF_le l true h; unfold barW; rw [List.length_append]; (have a : (if l = [] then [] else sEnd).length ≤ 2 := by split <;> simp [sEnd]); omega
structure okMsg (m : Msg) : Prop where
 fields : ∀ x ∈ m.fields, okI x.number
 barred : ∀ n ∈ m.barred, okI n
structure okFil (F : Fil) : Prop where
 msgs : ∀ m ∈ F.msgs, okMsg m
 enums : ∀ e ∈ F.enums, ∀ x ∈ e.items, okI x.value
theorem mess_le {m : Msg} (h : okMsg m) : (messW m).length ≤ wMsg m := by
 have h1 := fields_le m.fields 0 h.fields; have h2 := bar_le h.barred; unfold messW wMsg; simp only [List.length_append]; have e1 : sMessage.length = 8 := rfl; have e2 : sOpen.length = 3 := rfl; have e3 : sShut.length = 2 := rfl; omega
theorem items_le : ∀ (l : List Itm), (∀ x ∈ l, okI x.value) → (l.flatMap itemW).length ≤ (l.map wItm).sum
 | [], _ => Nat.le_refl _
 | x :: l, h => by
   have h1 := itoa_len (h x List.mem_cons_self); have h2 := items_le l (fun y hy => h y (List.mem_cons_of_mem _ hy)); rw [List.flatMap_cons, List.length_append, List.map_cons, List.sum_cons]; unfold itemW wItm at *; simp only [List.length_append]; have e1 : sTwo.length = 2 := rfl; have e2 : sEq.length = 3 := rfl; have e3 : sEnd.length = 2 := rfl; omega
theorem enum_le {e : Enu} (h : ∀ x ∈ e.items, okI x.value) : (enumW e).length ≤ wEnu e := by
 have h1 := items_le e.items h; unfold enumW wEnu; simp only [List.length_append]; have e1 : sEnum.length = 5 := rfl; have e2 : sOpen.length = 3 := rfl; have e3 : sShut.length = 2 := rfl; omega
theorem flat_leP {α : Type} (g : α → List UInt8) (wt : α → Nat) : ∀ l : List α, (∀ a ∈ l, (g a).length ≤ wt a) → (l.flatMap g).length ≤ (l.map wt).sum
 | [], _ => Nat.le_refl _
 | a :: l, h => by
   have h1 := h a List.mem_cons_self; have h2 := flat_leP g wt l (fun y hy => h y (List.mem_cons_of_mem _ hy)); rw [List.flatMap_cons, List.length_append, List.map_cons, List.sum_cons]; omega
theorem print_le {F : Fil} (h : okFil F) : (printP F).length ≤ wFil F := by
 have h1 := flat_leP enumW wEnu F.enums (fun e he => enum_le (h.enums e he)); have h2 := flat_leP messW wMsg F.msgs (fun m hm => mess_le (h.msgs m hm)); unfold printP wFil; rw [List.length_append]; omega
end Go.Proofs.YtbceapeoknngnaaDoor
