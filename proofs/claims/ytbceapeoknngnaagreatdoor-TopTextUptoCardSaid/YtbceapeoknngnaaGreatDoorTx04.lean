/-
  slices.Index, slices.Contains (written by gen_idx.py).
  Lists put one behind the other: what 'append' takes, what it makes.
  syntax.Words, link.free; pressref1.Words.
  What is wrong with a file, in plain Lean.
  How many choices begin: one field more.
  The first thing that is wrong with a file, phase by phase.
-/
import Derived.Test.YtbceapeoknngnaaGreatDoorTx03
import Derived.Laws.IdiomStrings
set_option linter.unusedVariables false
namespace Go.Proofs.YtbceapeoknngnaaGreatDoor
open Go.RowKit
set_option maxRecDepth 100000
open Lib (hid)
set_option maxHeartbeats 800000 in
theorem index_str (v : Value) (l : List (List UInt8)) (s : List UInt8) (w : World) (hv : RdS DStr 1 All w v l) :
   Calls Tryz.prog 123 #[v, .string ⟨s.toArray⟩] w fun e w' => e = .returned (.int .i64 (idxP (fun x => s == x) l)) ∧ w' = w := by
 obtain ⟨ao, cap, rfl, hc1, hc2⟩ := hv.val; have Hv := hid hv; clear hv
 go_enter Tryz.func123, Tryz.ntmps123
 (go_wp2_with fail); (go_loopw [8] (fun i wr => ∃ k : Nat, k ≤ l.length ∧ i = .int .i64 k ∧ wr = w ∧ ∀ j, (hj : j < l.length) → j < k → (s == l[j]) = false) (fun i _ => l.length - (intOf i).toNat)); case atStart => exact ⟨0, by omega, rfl, rfl, fun j _ h => absurd h (by omega)⟩
 case round =>
   obtain ⟨k, hk, rfl, rfl, hg⟩ := hrel; have Hg := hid hg; clear hg
   by_cases hlt : k < l.length
   · obtain ⟨b, o, cs, rfl, hb, hl, hcs, hd⟩ := Hv.out.at hlt; obtain ⟨hd, _⟩ := hd; have hc := hcs 0 _ (by rw [hd]; rfl); simp only [Nat.mul_one, Nat.add_zero] at hc; clear hcs hd hl; (have i0 : (0 : Int) ≤ (k : Int) := by omega); (have i1 : (k : Int) < (l.length : Int) := by omega); have hgg := fun e => idxP_at (fun x => s == x) l k hlt Hg.out e; have Hgg := hid hgg; clear hgg; have Hgn := hid (fun e => no_more (p := fun x => s == x) hlt Hg.out e); generalize l[k] = x at *
     by_cases he : (s == x) = true
     · go_wp2_with fail
       go_ret
       exact ⟨ret_int (Hgg.out he).symm, rfl⟩
     · (have he : (s == x) = false := by simpa using he); go_wp2_with fail
       go_roundw
       (case rel => exact ⟨k + 1, by omega, by go_num, trivial, Hgn.out he⟩); case measure => simp [intOf]; omega
   · go_wp2_with fail
     go_ret
     exact ⟨ret_int (idxP_none _ _ (fun j hj => Hg.out j hj (by omega))).symm, rfl⟩
set_option maxHeartbeats 800000 in
theorem contains_str (v : Value) (l : List (List UInt8)) (s : List UInt8) (w : World) (hv : RdS DStr 1 All w v l) :
   Calls Tryz.prog 67 #[v, .string ⟨s.toArray⟩] w fun e w' => e = .returned (.bool (l.any (fun x => s == x))) ∧ w' = w := by
 go_enter Tryz.func67, Tryz.ntmps67
 (go_wp2_with fail); refine (index_str v l s w hv).mono ?_; rintro e w1 ⟨rfl, rfl⟩; have hi := idxP_any (fun x => s == x) l; generalize idxP (fun x => s == x) l = i at *; go_wp2_with fail
 go_ret
 exact ⟨rfl, rfl⟩
set_option maxHeartbeats 800000 in
theorem index_int (v : Value) (l : List (Int)) (s : Int) (w : World) (hv : RdS DInt 1 All w v l) :
   Calls Tryz.prog 180 #[v, .int .i64 s] w fun e w' => e = .returned (.int .i64 (idxP (fun x => s == x) l)) ∧ w' = w := by
 obtain ⟨ao, cap, rfl, hc1, hc2⟩ := hv.val; have Hv := hid hv; clear hv
 go_enter Tryz.func180, Tryz.ntmps180
 (go_wp2_with fail); (go_loopw [8] (fun i wr => ∃ k : Nat, k ≤ l.length ∧ i = .int .i64 k ∧ wr = w ∧ ∀ j, (hj : j < l.length) → j < k → (s == l[j]) = false) (fun i _ => l.length - (intOf i).toNat)); case atStart => exact ⟨0, by omega, rfl, rfl, fun j _ h => absurd h (by omega)⟩
 case round =>
   obtain ⟨k, hk, rfl, rfl, hg⟩ := hrel; have Hg := hid hg; clear hg
   by_cases hlt : k < l.length
   · obtain ⟨b, o, cs, rfl, hb, hl, hcs, hd⟩ := Hv.out.at hlt; obtain ⟨hd, _⟩ := hd; have hc := hcs 0 _ (by rw [hd]; rfl); simp only [Nat.mul_one, Nat.add_zero] at hc; clear hcs hd hl; (have i0 : (0 : Int) ≤ (k : Int) := by omega); (have i1 : (k : Int) < (l.length : Int) := by omega); have hgg := fun e => idxP_at (fun x => s == x) l k hlt Hg.out e; have Hgg := hid hgg; clear hgg; have Hgn := hid (fun e => no_more (p := fun x => s == x) hlt Hg.out e); generalize l[k] = x at *
     by_cases he : (s == x) = true
     · go_wp2_with fail
       go_ret
       exact ⟨ret_int (Hgg.out he).symm, rfl⟩
     · (have he : (s == x) = false := by simpa using he); go_wp2_with fail
       go_roundw
       (case rel => exact ⟨k + 1, by omega, by go_num, trivial, Hgn.out he⟩); case measure => simp [intOf]; omega
   · go_wp2_with fail
     go_ret
     exact ⟨ret_int (idxP_none _ _ (fun j hj => Hg.out j hj (by omega))).symm, rfl⟩
set_option maxHeartbeats 800000 in
theorem contains_int (v : Value) (l : List (Int)) (s : Int) (w : World) (hv : RdS DInt 1 All w v l) :
   Calls Tryz.prog 128 #[v, .int .i64 s] w fun e w' => e = .returned (.bool (l.any (fun x => s == x))) ∧ w' = w := by
 go_enter Tryz.func128, Tryz.ntmps128
 (go_wp2_with fail); refine (index_int v l s w hv).mono ?_; rintro e w1 ⟨rfl, rfl⟩; have hi := idxP_any (fun x => s == x) l; generalize idxP (fun x => s == x) l = i at *; go_wp2_with fail
 go_ret
 exact ⟨rfl, rfl⟩
end Go.Proofs.YtbceapeoknngnaaGreatDoor
namespace Go.Proofs.YtbceapeoknngnaaGreatDoor
open Go.RowKit
theorem ex_list {α : Type} (P : Nat → α → Prop) : ∀ n, (∀ i, i < n → ∃ x, P i x) → ∃ xs : List α, xs.length = n ∧ ∀ i, i < n → ∃ x, xs[i]? = some x ∧ P i x
 | 0, _ => ⟨[], rfl, fun i hi => absurd hi (Nat.not_lt_zero i)⟩
 | n + 1, h => by
   obtain ⟨xs, hl, hx⟩ := ex_list P n (fun i hi => h i (by omega)); obtain ⟨x, hp⟩ := h n (by omega); refine ⟨xs ++ [x], by simp [hl], fun i hi => ?_⟩
   by_cases he : i = n
   · subst he; exact ⟨x, by rw [List.getElem?_append_right (by omega)]; simp [hl], hp⟩
   · obtain ⟨y, hy, hq⟩ := hx i (by omega); exact ⟨y, by rw [List.getElem?_append_left (by omega)]; exact hy, hq⟩
theorem flatten_len : ∀ (css : List (List Value)) (size : Nat), (∀ c ∈ css, c.length = size) → css.flatten.length = css.length * size
 | [], size, _ => by simp
 | c :: css, size, h => by
   rw [List.flatten_cons, List.length_append, flatten_len css size (fun x hx => h x (by simp [hx])), h c (by simp), List.length_cons, Nat.succ_mul]; omega
theorem RdS.css {α : Type} {D : Lay α} {size : Nat} {S : Nat → Prop} {w : World} {ao : Option Addr} {n cap : Nat} {l : List α} (hs : 0 < size) (h : RdS D size S w (.slice ao n cap) l) : n = l.length ∧ (ao = none → n = 0 ∧ cap = 0) ∧
   ∃ css : List (List Value), css.length = l.length ∧ (∀ i, (h : i < l.length) → ∃ cs, css[i]? = some cs ∧ cs.length = size ∧ D S w l[i] cs) ∧ css.flatten.length = n * size ∧ (∀ ad, ao = some ad → ∀ j u, css.flatten[j]? = some u → w.cell? (ad.add j) = some u) := by
 obtain ⟨ao', cap', hv, hc, hm, hn, hf⟩ := h; simp only [Value.slice.injEq] at hv; obtain ⟨rfl, rfl, rfl⟩ := hv
 obtain ⟨css, hl, hx⟩ := ex_list (fun i cs => ∃ (h : i < l.length) (b o : Nat), ao = some ⟨b, o, none⟩ ∧ cs.length = size ∧ CellsAt w b (o + i * size) cs ∧ D S w l[i] cs) l.length (fun i hi => by
   obtain ⟨b, o, cs, ha, _, _, hl, hcs, hd⟩ := hf i hi; exact ⟨cs, hi, b, o, ha, hl, hcs, hd⟩)
 have hall : ∀ c ∈ css, c.length = size := fun c hcm => by
   obtain ⟨i, hi, rfl⟩ := List.getElem_of_mem hcm; obtain ⟨cs, h4, _, _, _, _, h5, _⟩ := hx i (by omega); rw [List.getElem?_eq_getElem hi] at h4; rw [Option.some.inj h4]; exact h5
 have hfl := flatten_len css size hall; refine ⟨rfl, fun e => by have := hn e; omega, css, hl, fun i hi => ?_, by rw [hfl, hl], fun ad had j u hu => ?_⟩
 · obtain ⟨cs, h4, h3, _, _, _, h5, _, h6⟩ := hx i hi; exact ⟨cs, h4, h5, h6⟩
 · have hj : j < l.length * size := by
     rw [← hl, ← hfl]; exact (List.getElem?_eq_some_iff.1 hu).1
   have hi : j / size < l.length := Nat.div_lt_of_lt_mul (by rw [Nat.mul_comm]; exact hj); have hjm := Nat.mod_lt j hs; obtain ⟨cs, h4, _, b, o, ha, h5, hcs, _⟩ := hx (j / size) hi; have h7 : cs[j % size]? = some cs[j % size] := List.getElem?_eq_getElem (by omega); have h8 := getElem?_flatten_block css size (j / size) (j % size) _ cs hall h4 h7; (have h9 : j / size * size + j % size = j := by rw [Nat.mul_comm]; exact Nat.div_add_mod j size); rw [h9, hu] at h8; have h10 := hcs _ _ h7; rw [Option.some.inj h8]; rw [ha] at had; obtain rfl := Option.some.inj had; rw [show o + j / size * size + j % size = o + j by omega] at h10
   have e : (⟨b, o, none⟩ : Addr).add j = ⟨b, o + j, none⟩ := by
     unfold Addr.add; split
     · rename_i h0; (have h0 : j = 0 := by simpa using h0); subst h0; rfl
     · rfl
   rw [e]; exact h10
theorem rdS_of_row {α : Type} {D : Lay α} (hD : Stable D) {base : Nat} {e : TypeId} {size : Nat} {w : World} {v : Value} {l : List α} {css : List (List Value)} (how : w.ownsRow base e size v l.length css.flatten) (hl : css.length = l.length)
   (hel : ∀ i, (h : i < l.length) → ∃ cs, css[i]? = some cs ∧ cs.length = size ∧ D (fun k => k < base) w l[i] cs) : RdS D size All w v l := by
 refine OwnS.rd (S := All) hD ⟨css, hl, how, fun i hi => ?_⟩ (fun _ _ => trivial) (fun _ _ => trivial); obtain ⟨cs, h1, h2, h3⟩ := hel i hi; refine ⟨cs, h1, h2, hD _ _ _ _ _ _ (Keep.weak (fun k hk => ⟨trivial, fun e => ?_⟩)) h3⟩; have := (how.lt k e).1; omega
section
variable {P : Program} {t e : TypeId} {size bytes : Nat} {z : Value} (E : Elem P t e size bytes z) (w : World)
include E
end
end Go.Proofs.YtbceapeoknngnaaGreatDoor
namespace Go.Proofs.YtbceapeoknngnaaGreatDoor
open Go.RowKit
set_option maxRecDepth 100000
open Lib (hid)
def wInt64 : List UInt8 := [105, 110, 116, 54, 52]
def wSint64 : List UInt8 := [115, 105, 110, 116, 54, 52]
def wUint64 : List UInt8 := [117, 105, 110, 116, 54, 52]
def wBool : List UInt8 := [98, 111, 111, 108]
def wFixed64 : List UInt8 := [102, 105, 120, 101, 100, 54, 52]
def wFixed32 : List UInt8 := [102, 105, 120, 101, 100, 51, 50]
def wString : List UInt8 := [115, 116, 114, 105, 110, 103]
def wBytes : List UInt8 := [98, 121, 116, 101, 115]
def wRepeated : List UInt8 := [114, 101, 112, 101, 97, 116, 101, 100]
def wReserved : List UInt8 := [114, 101, 115, 101, 114, 118, 101, 100]
def wOneof : List UInt8 := [111, 110, 101, 111, 102]
def words : List (List UInt8) := [wInt64, wSint64, wUint64, wBool, [], wFixed64, wFixed32, wString, wBytes]
def wordsV : List Value := words.map fun s => .string ⟨s.toArray⟩
def freeN (s : List UInt8) : Bool := named s && !(words ++ [wRepeated, wReserved, wOneof]).any (fun x => s == x)
theorem words_rd (w : World) (e : TypeId) : RdS DStr 1 All (w.alloc (.cells wordsV.toArray e)) (.slice (some ⟨w.heap.size, 0, none⟩) 9 9) words := by
 refine rdS_of_block words (words.map fun s => [.string ⟨s.toArray⟩]) (blk_new w _ rfl) ?_ trivial (by rfl) (fun i hi => ⟨[.string ⟨words[i].toArray⟩], by simp [hi], rfl, rfl, ?_⟩) rfl (Nat.le_refl _) (by unfold maxLen; omega)
 · rfl
 · (have h : ∀ x ∈ words, x.length ≤ 140737488355328 := by decide); exact h _ (List.getElem_mem hi)
set_option maxHeartbeats 800000 in
theorem words_s (w : World) :
   Calls Tryz.prog 122 #[] w fun e w' => e = .returned (.slice (some ⟨w.heap.size, 0, none⟩) 9 9) ∧ w' = w.alloc (.cells wordsV.toArray 9) := by
 go_enter Tryz.func122, Tryz.ntmps122
 go_wp2_with fail
 go_ret
 exact ⟨rfl, rfl⟩
set_option maxHeartbeats 800000 in
theorem free_l (s : List UInt8) (w : World) :
   Calls Tryz.prog 66 #[.string ⟨s.toArray⟩] w fun e w' => e = .returned (.bool (freeN s)) ∧ Up w w' := by
 have hn := named_s ⟨s.toArray⟩ w; simp only at hn
 cases hnn : named s with
 | false =>
   rw [hnn] at hn; have Hn := hid hn; clear hn
   go_enter Tryz.func66, Tryz.ntmps66
   go_wp2_with (first
     | (go_at_call 121; go_must (refine Hn.out.mono ?_; rintro e w1 ⟨rfl, hu1⟩)))
   go_ret
   exact ⟨ret_bool (by simp [freeN, hnn]), hu1⟩
 | true =>
   rw [hnn] at hn; have Hn := hid hn; clear hn
   have hf : freeN s = (!(words.any (fun x => s == x)) && (!(s == wRepeated) && (!(s == wReserved) && !(s == wOneof)))) := by
     unfold freeN; rw [hnn, List.any_append]; simp only [List.any_cons, List.any_nil, Bool.true_and, Bool.or_false, Bool.not_or]
   have Hf := hid hf; clear hf
   go_enter Tryz.func66, Tryz.ntmps66
   go_wp2_with (first
     | (go_at_call 121; go_must (refine Hn.out.mono ?_; rintro e w1 ⟨rfl, hu1⟩))
     | (go_at_call 122; go_must (refine (words_s w1).mono ?_; rintro e w2 ⟨rfl, rfl⟩))
     | (go_at_call 67; go_must (refine (contains_str _ words s _ (words_rd w1 _)).mono ?_; rintro e w3 ⟨rfl, rfl⟩; generalize words.any (fun x => s == x) = c at *)))
   all_goals
     clear Hn
     go_ret
     refine ⟨ret_bool ?_, hu1.alloc _⟩; rw [Hf.out]
     simp_all [wRepeated, wReserved, wOneof]
     try rw [Bool.and_assoc]
theorem eStr : Elem Tryz.prog 137 9 1 16 (.string .empty) := ⟨Tryz.underlying137, info_parts (by kernel_rfl), rfl, by decide⟩
end Go.Proofs.YtbceapeoknngnaaGreatDoor
namespace Go.Proofs.YtbceapeoknngnaaGreatDoor
open Go.RowKit
def itemN (l : List Itm) (i : Nat) (x : Itm) : Int :=
 if !named x.name || (l.take i).any (fun y => x.name == y.name) then 7
 else if x.value < -2147483648 ∨ 2147483647 < x.value then 3
 else if (i = 0 ∧ x.value ≠ 0) ∨ (l.take i).any (fun y => x.value == y.value) then 8
 else 0
def firstN : List Int → Int
 | [] => 0
 | a :: l => if a ≠ 0 then a else firstN l
def itemsN (l : List Itm) : Int := if l.length < 1 ∨ 16 < l.length then 5 else firstN (l.mapIdx (itemN l))
def typedN (f : Fil) (x : Fld) : Int :=
 if x.kind < 1 ∨ 10 < x.kind then 1
 else if (x.kind = 10 ∧ idxP (fun m => m.name == x.type) f.msgs < 0) ∨ (x.kind = 5 ∧ idxP (fun m => m.name == x.type) f.enums < 0) then 6
 else if (x.kind ≠ 10 ∧ x.kind ≠ 5 ∧ x.type ≠ []) ∨ (0 < x.choice ∧ x.many = true) then 8
 else 0
def begun : Int → List Fld → Int
 | _, [] => 0
 | last, y :: l => (if y.choice ≠ 0 ∧ y.choice ≠ last then 1 else 0) + begun y.choice l
def lastC (l : List Fld) : Int := match l.getLast? with | some y => y.choice | none => 0
def fieldN (f : Fil) (m : Msg) (i : Nat) (x : Fld) : Int :=
 if !named x.name || (m.fields.take i).any (fun y => x.name == y.name) then 7
 else if x.number < 1 ∨ 536870912 ≤ x.number ∨ (19000 ≤ x.number ∧ x.number < 20000) then 3
 else if m.barred.any (fun n => x.number == n) || (m.fields.take i).any (fun y => x.number == y.number) then 8
 else if typedN f x ≠ 0 then typedN f x
 else if x.choice ≠ 0 ∧ x.choice ≠ lastC (m.fields.take i) ∧ x.choice ≠ begun 0 (m.fields.take i) + 1 then 2
 else 0
def msgN (f : Fil) (m : Msg) : Int :=
 if 16 < m.fields.length ∨ 16 < m.barred.length then 5
 else if m.barred.any (fun n => decide (n < 0 ∨ 536870912 ≤ n)) then 3
 else firstN (m.fields.mapIdx (fieldN f m))
def hadN (f : Fil) : List (List UInt8) := f.msgs.map (·.name) ++ f.enums.map (·.name)
def nameN (l : List (List UInt8)) (i : Nat) (n : List UInt8) : Int := if !freeN n || (l.take i).any (fun x => n == x) then 7 else 0
def firstAt : Nat → List Int → Int × Nat
 | _, [] => (0, 0)
 | k, a :: l => if a ≠ 0 then (a, k) else firstAt (k + 1) l
def wrongN (f : Fil) : Int × Nat :=
 if 10 < f.msgs.length + f.enums.length then (5, 0)
 else if (firstAt 0 ((hadN f).mapIdx (nameN (hadN f)))).1 ≠ 0 then firstAt 0 ((hadN f).mapIdx (nameN (hadN f)))
 else if (firstAt 0 (f.msgs.map (msgN f))).1 ≠ 0 then firstAt 0 (f.msgs.map (msgN f))
 else firstAt f.msgs.length (f.enums.map fun e => itemsN e.items)
theorem firstN_at : ∀ (l : List Int) (k : Nat) (hk : k < l.length), (∀ j, (hj : j < l.length) → j < k → l[j] = 0) → l[k] ≠ 0 → firstN l = l[k]
 | [], k, hk, _, _ => by simp at hk
 | a :: l, 0, hk, _, h => by
   have h : a ≠ 0 := h; rw [firstN, if_pos h]; rfl
 | a :: l, k + 1, hk, hb, h => by
   have h0 : a = 0 := hb 0 (by simp) (by omega); rw [firstN, if_neg (by simpa using h0)]; exact firstN_at l k (by simpa using hk) (fun j hj hjk => hb (j + 1) (by simpa using hj) (by omega)) h
theorem firstN_none : ∀ (l : List Int), (∀ j, (hj : j < l.length) → l[j] = 0) → firstN l = 0
 | [], _ => rfl
 | a :: l, hb => by
   have h0 : a = 0 := hb 0 (by simp); rw [firstN, if_neg (by simpa using h0)]; exact firstN_none l (fun j hj => hb (j + 1) (by simpa using hj))
theorem firstAt_at : ∀ (l : List Int) (i k : Nat) (hk : k < l.length), (∀ j, (hj : j < l.length) → j < k → l[j] = 0) → l[k] ≠ 0 → firstAt i l = (l[k], i + k)
 | [], i, k, hk, _, _ => by simp at hk
 | a :: l, i, 0, hk, _, h => by
   have h : a ≠ 0 := h; rw [firstAt, if_pos h]; rfl
 | a :: l, i, k + 1, hk, hb, h => by
   have h0 : a = 0 := hb 0 (by simp) (by omega); rw [firstAt, if_neg (by simpa using h0), firstAt_at l (i + 1) k (by simpa using hk) (fun j hj hjk => hb (j + 1) (by simpa using hj) (by omega)) h]; simp only [List.getElem_cons_succ, Prod.mk.injEq, true_and]; omega
theorem firstAt_none : ∀ (l : List Int) (i : Nat), (∀ j, (hj : j < l.length) → l[j] = 0) → firstAt i l = (0, 0)
 | [], _, _ => rfl
 | a :: l, i, hb => by
   have h0 : a = 0 := hb 0 (by simp); rw [firstAt, if_neg (by simpa using h0)]; exact firstAt_none l _ (fun j hj => hb (j + 1) (by simpa using hj))
theorem zero_more {α : Type} {q : Nat → α → Int} {l : List α} {k : Nat} (hk : k < l.length) (hg : ∀ j, (hj : j < l.length) → j < k → q j l[j] = 0) (e : q k l[k] = 0) : ∀ j, (hj : j < l.length) → j < k + 1 → q j l[j] = 0 := fun j hj hjk => by
 by_cases h : j = k
 · subst h; exact e
 · exact hg j hj (by omega)
theorem firstN_idx_at {α : Type} {q : Nat → α → Int} {l : List α} {k : Nat} (hk : k < l.length) (hg : ∀ j, (hj : j < l.length) → j < k → q j l[j] = 0) (e : q k l[k] ≠ 0) : firstN (l.mapIdx q) = q k l[k] := by
 have h := firstN_at (l.mapIdx q) k (by simpa using hk) (fun j hj hjk => by simpa using hg j (by simpa using hj) hjk) (by simpa using e); simpa using h
theorem firstN_idx_none {α : Type} {q : Nat → α → Int} {l : List α} (hg : ∀ j, (hj : j < l.length) → q j l[j] = 0) : firstN (l.mapIdx q) = 0 :=
 firstN_none _ (fun j hj => by simpa using hg j (by simpa using hj))
def lastD : Int → List Fld → Int
 | last, [] => last
 | _, y :: l => lastD y.choice l
theorem begun_snoc : ∀ (l : List Fld) (last : Int) (y : Fld), begun last (l ++ [y]) = begun last l + (if y.choice ≠ 0 ∧ y.choice ≠ lastD last l then 1 else 0)
 | [], last, y => by
   simp only [List.nil_append, begun, lastD]; omega
 | z :: l, last, y => by
   have ih := begun_snoc l z.choice y; simp only [List.cons_append, begun, lastD]; rw [ih]; omega
theorem lastD_eq : ∀ (l : List Fld) (last : Int), lastD last l = match l.getLast? with | some z => z.choice | none => last
 | [], last => rfl
 | [z], last => rfl
 | z :: y :: l, last => by
   have ih := lastD_eq (y :: l) z.choice; rw [lastD, ih, List.getLast?_cons_cons]
   cases h : (y :: l).getLast? with
   | none => simp at h
   | some u => rfl
theorem begun_take {l : List Fld} {k : Nat} (hk : k < l.length) : begun 0 (l.take (k + 1)) = begun 0 (l.take k) + (if l[k].choice ≠ 0 ∧ l[k].choice ≠ lastC (l.take k) then 1 else 0) := by
 rw [List.take_succ_eq_append_getElem hk, begun_snoc, lastD_eq]; rfl
theorem begun_bd : ∀ (l : List Fld) (last : Int), 0 ≤ begun last l ∧ begun last l ≤ l.length
 | [], _ => by simp [begun]
 | z :: l, last => by
   have ih := begun_bd l z.choice; simp only [begun, List.length_cons]; split <;> omega
theorem lastC_take {l : List Fld} {k : Nat} (h0 : 0 < k) (hk : k ≤ l.length) : lastC (l.take k) = (l[k - 1]'(by omega)).choice := by
 unfold lastC; rw [List.getLast?_eq_getElem?, List.length_take, Nat.min_eq_left hk, List.getElem?_take_of_lt (by omega), List.getElem?_eq_getElem (by omega)]
theorem firstAt_idx_at {α : Type} {q : Nat → α → Int} {l : List α} {i k : Nat} (hk : k < l.length) (hg : ∀ j, (hj : j < l.length) → j < k → q j l[j] = 0) (e : q k l[k] ≠ 0) : firstAt i (l.mapIdx q) = (q k l[k], i + k) := by
 have h := firstAt_at (l.mapIdx q) i k (by simpa using hk) (fun j hj hjk => by simpa using hg j (by simpa using hj) hjk) (by simpa using e); simpa using h
theorem firstAt_idx_none {α : Type} {q : Nat → α → Int} {l : List α} {i : Nat} (hg : ∀ j, (hj : j < l.length) → q j l[j] = 0) : firstAt i (l.mapIdx q) = (0, 0) :=
 firstAt_none _ _ (fun j hj => by simpa using hg j (by simpa using hj))
theorem firstAt_map_at {α : Type} {q : α → Int} {l : List α} {i k : Nat} (hk : k < l.length) (hg : ∀ j, (hj : j < l.length) → j < k → q l[j] = 0) (e : q l[k] ≠ 0) : firstAt i (l.map q) = (q l[k], i + k) := by
 have h := firstAt_at (l.map q) i k (by simpa using hk) (fun j hj hjk => by simpa using hg j (by simpa using hj) hjk) (by simpa using e); simpa using h
theorem firstAt_map_none {α : Type} {q : α → Int} {l : List α} {i : Nat} (hg : ∀ j, (hj : j < l.length) → q l[j] = 0) : firstAt i (l.map q) = (0, 0) :=
 firstAt_none _ _ (fun j hj => by simpa using hg j (by simpa using hj))
theorem zero_more' {α : Type} {q : α → Int} {l : List α} {k : Nat} (hk : k < l.length) (hg : ∀ j, (hj : j < l.length) → j < k → q l[j] = 0) (e : q l[k] = 0) : ∀ j, (hj : j < l.length) → j < k + 1 → q l[j] = 0 := fun j hj hjk => by
 by_cases h : j = k
 · subst h; exact e
 · exact hg j hj (by omega)
theorem wrong_many {f : Fil} (h : 10 < f.msgs.length + f.enums.length) : wrongN f = (5, 0) := by rw [wrongN, if_pos h]
theorem wrong_name {f : Fil} (h : ¬ 10 < f.msgs.length + f.enums.length) {k : Nat} (hk : k < (hadN f).length) (hg : ∀ j, (hj : j < (hadN f).length) → j < k → nameN (hadN f) j (hadN f)[j] = 0) (e : nameN (hadN f) k (hadN f)[k] = 7) : wrongN f = (7, k) := by
 have h1 := firstAt_idx_at (i := 0) hk hg (by rw [e]; decide); rw [e] at h1; rw [wrongN, if_neg h, h1, if_pos (show (7 : Int) ≠ 0 by decide)]; simp
def namesOk (f : Fil) : Prop := ∀ j, (hj : j < (hadN f).length) → nameN (hadN f) j (hadN f)[j] = 0
theorem wrong_msg {f : Fil} (h : ¬ 10 < f.msgs.length + f.enums.length) (hn : namesOk f) {k : Nat} (hk : k < f.msgs.length) (hg : ∀ j, (hj : j < f.msgs.length) → j < k → msgN f f.msgs[j] = 0) (e : msgN f f.msgs[k] ≠ 0) : wrongN f = (msgN f f.msgs[k], k) := by
 have h1 := firstAt_map_at (i := 0) hk hg e; rw [wrongN, if_neg h, if_neg (by rw [firstAt_idx_none hn]; decide), h1, if_pos e]; simp
def msgsOk (f : Fil) : Prop := ∀ j, (hj : j < f.msgs.length) → msgN f f.msgs[j] = 0
theorem wrong_enum {f : Fil} (h : ¬ 10 < f.msgs.length + f.enums.length) (hn : namesOk f) (hm : msgsOk f) {k : Nat} (hk : k < f.enums.length) (hg : ∀ j, (hj : j < f.enums.length) → j < k → itemsN f.enums[j].items = 0) (e : itemsN f.enums[k].items ≠ 0) : wrongN f = (itemsN f.enums[k].items, f.msgs.length + k) := by
 have h1 := firstAt_map_at (i := f.msgs.length) (q := fun e : Enu => itemsN e.items) hk hg e; rw [wrongN, if_neg h, if_neg (by rw [firstAt_idx_none hn]; decide), if_neg (by rw [firstAt_map_none hm]; decide), h1]
theorem wrong_none {f : Fil} (h : ¬ 10 < f.msgs.length + f.enums.length) (hn : namesOk f) (hm : msgsOk f) (he : ∀ j, (hj : j < f.enums.length) → itemsN f.enums[j].items = 0) : wrongN f = (0, 0) := by
 rw [wrongN, if_neg h, if_neg (by rw [firstAt_idx_none hn]; decide), if_neg (by rw [firstAt_map_none hm]; decide), firstAt_map_none (q := fun e : Enu => itemsN e.items) he]
theorem name_cases (l : List (List UInt8)) (i : Nat) (n : List UInt8) : nameN l i n = if (!freeN n || (l.take i).any (fun x => n == x)) = true then 7 else 0 := rfl
end Go.Proofs.YtbceapeoknngnaaGreatDoor
