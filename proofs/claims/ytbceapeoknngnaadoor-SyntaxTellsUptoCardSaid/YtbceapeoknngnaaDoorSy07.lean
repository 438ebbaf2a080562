/-
  slices.Index, slices.Contains (written by gen_idx.py).
  Lists put one behind the other: what 'append' takes, what it makes.
  syntax.Words, link.free; pressref1.Words.
-/
import Derived.Test.YtbceapeoknngnaaDoorSy06
import Derived.Test.YtbceapeoknngnaaDoorSy05
set_option linter.unusedVariables false
namespace Go.Proofs.YtbceapeoknngnaaDoor
open Go.RowKit
set_option maxRecDepth 100000
open Lib (hid)
set_option maxHeartbeats 800000 in
theorem index_str (v : Value) (l : List (List UInt8)) (s : List UInt8) (w : World) (hv : RdS DStr 1 All w v l) :
   Calls Tryd.prog 52 #[v, .string ⟨s.toArray⟩] w fun e w' => e = .returned (.int .i64 (idxP (fun x => s == x) l)) ∧ w' = w := by
 obtain ⟨ao, cap, rfl, hc1, hc2⟩ := hv.val; have Hv := hid hv; clear hv
 go_enter Tryd.func52, Tryd.ntmps52
 (go_wp2_with fail); (go_loopw [8] (fun i wr => ∃ k : Nat, k ≤ l.length ∧ i = .int .i64 k ∧ wr = w ∧ ∀ j, (hj : j < l.length) → j < k → (s == l[j]) = false) (fun i _ => l.length - (intOf i).toNat)); case atStart => exact ⟨0, by omega, rfl, rfl, fun j _ h => absurd h (by omega)⟩
 case round =>
   obtain ⟨k, hk, rfl, rfl, hg⟩ := hrel; have Hg := hid hg; clear hg
   by_cases hlt : k < l.length
   · obtain ⟨b, o, cs, rfl, hb, hl, hcs, hd⟩ := Hv.out.at hlt; obtain ⟨hd, _⟩ := hd; have hc := hcs 0 _ (by rw [hd]; rfl); simp only [Nat.mul_one, Nat.add_zero] at hc; clear hcs hd hl; (have i0 : (0 : Int) ≤ (k : Int) := by omega); (have i1 : (k : Int) < (l.length : Int) := by omega); have hgg := fun e => idxP_at (fun x => s == x) l k hlt Hg.out e; have Hgg := hid hgg; clear hgg; have Hgn := hid (fun e => no_more (p := fun x => s == x) hlt Hg.out e); generalize l[k] = x at *
     by_cases he : (s == x) = true
     · go_wp2_with fail
       go_ret
       exact ⟨ret_int (Hgg.out he).symm, rfl⟩
     · (have he : (s == x) = false := by simpa using he); go_wp2_with fail
       go_roundw
       (case rel => exact ⟨k + 1, by omega, by go_num, trivial, Hgn.out he⟩); case measure => simp [intOf]; omega
   · go_wp2_with fail
     go_ret
     exact ⟨ret_int (idxP_none _ _ (fun j hj => Hg.out j hj (by omega))).symm, rfl⟩
end Go.Proofs.YtbceapeoknngnaaDoor
namespace Go.Proofs.YtbceapeoknngnaaDoor
open Go.RowKit
theorem ex_list {α : Type} (P : Nat → α → Prop) : ∀ n, (∀ i, i < n → ∃ x, P i x) → ∃ xs : List α, xs.length = n ∧ ∀ i, i < n → ∃ x, xs[i]? = some x ∧ P i x
 | 0, _ => ⟨[], rfl, fun i hi => absurd hi (Nat.not_lt_zero i)⟩
 | n + 1, h => by
   obtain ⟨xs, hl, hx⟩ := ex_list P n (fun i hi => h i (by omega)); obtain ⟨x, hp⟩ := h n (by omega); refine ⟨xs ++ [x], by simp [hl], fun i hi => ?_⟩
   by_cases he : i = n
   · subst he; exact ⟨x, by rw [List.getElem?_append_right (by omega)]; simp [hl], hp⟩
   · obtain ⟨y, hy, hq⟩ := hx i (by omega); exact ⟨y, by rw [List.getElem?_append_left (by omega)]; exact hy, hq⟩
theorem flatten_len : ∀ (css : List (List Value)) (size : Nat), (∀ c ∈ css, c.length = size) → css.flatten.length = css.length * size
 | [], size, _ => by simp
 | c :: css, size, h => by
   rw [List.flatten_cons, List.length_append, flatten_len css size (fun x hx => h x (by simp [hx])), h c (by simp), List.length_cons, Nat.succ_mul]; omega
theorem RdS.css {α : Type} {D : Lay α} {size : Nat} {S : Nat → Prop} {w : World} {ao : Option Addr} {n cap : Nat} {l : List α} (hs : 0 < size) (h : RdS D size S w (.slice ao n cap) l) : n = l.length ∧ (ao = none → n = 0 ∧ cap = 0) ∧
   ∃ css : List (List Value), css.length = l.length ∧ (∀ i, (h : i < l.length) → ∃ cs, css[i]? = some cs ∧ cs.length = size ∧ D S w l[i] cs) ∧ css.flatten.length = n * size ∧ (∀ ad, ao = some ad → ∀ j u, css.flatten[j]? = some u → w.cell? (ad.add j) = some u) := by
 obtain ⟨ao', cap', hv, hc, hm, hn, hf⟩ := h; simp only [Value.slice.injEq] at hv; obtain ⟨rfl, rfl, rfl⟩ := hv
 obtain ⟨css, hl, hx⟩ := ex_list (fun i cs => ∃ (h : i < l.length) (b o : Nat), ao = some ⟨b, o, none⟩ ∧ cs.length = size ∧ CellsAt w b (o + i * size) cs ∧ D S w l[i] cs) l.length (fun i hi => by
   obtain ⟨b, o, cs, ha, _, _, hl, hcs, hd⟩ := hf i hi; exact ⟨cs, hi, b, o, ha, hl, hcs, hd⟩)
 have hall : ∀ c ∈ css, c.length = size := fun c hcm => by
   obtain ⟨i, hi, rfl⟩ := List.getElem_of_mem hcm; obtain ⟨cs, h4, _, _, _, _, h5, _⟩ := hx i (by omega); rw [List.getElem?_eq_getElem hi] at h4; rw [Option.some.inj h4]; exact h5
 have hfl := flatten_len css size hall; refine ⟨rfl, fun e => by have := hn e; omega, css, hl, fun i hi => ?_, by rw [hfl, hl], fun ad had j u hu => ?_⟩
 · obtain ⟨cs, h4, h3, _, _, _, h5, _, h6⟩ := hx i hi; exact ⟨cs, h4, h5, h6⟩
 · have hj : j < l.length * size := by
     rw [← hl, ← hfl]; exact (List.getElem?_eq_some_iff.1 hu).1
   have hi : j / size < l.length := Nat.div_lt_of_lt_mul (by rw [Nat.mul_comm]; exact hj); have hjm := Nat.mod_lt j hs; obtain ⟨cs, h4, _, b, o, ha, h5, hcs, _⟩ := hx (j / size) hi; have h7 : cs[j % size]? = some cs[j % size] := List.getElem?_eq_getElem (by omega); have h8 := getElem?_flatten_block css size (j / size) (j % size) _ cs hall h4 h7; (have h9 : j / size * size + j % size = j := by rw [Nat.mul_comm]; exact Nat.div_add_mod j size); rw [h9, hu] at h8; have h10 := hcs _ _ h7; rw [Option.some.inj h8]; rw [ha] at had; obtain rfl := Option.some.inj had; rw [show o + j / size * size + j % size = o + j by omega] at h10
   have e : (⟨b, o, none⟩ : Addr).add j = ⟨b, o + j, none⟩ := by
     unfold Addr.add; split
     · rename_i h0; (have h0 : j = 0 := by simpa using h0); subst h0; rfl
     · rfl
   rw [e]; exact h10
section
variable {P : Program} {t e : TypeId} {size bytes : Nat} {z : Value} (E : Elem P t e size bytes z) (w : World)
include E
end
end Go.Proofs.YtbceapeoknngnaaDoor
namespace Go.Proofs.YtbceapeoknngnaaDoor
open Go.RowKit
set_option maxRecDepth 100000
def wInt64 : List UInt8 := [105, 110, 116, 54, 52]
def wSint64 : List UInt8 := [115, 105, 110, 116, 54, 52]
def wUint64 : List UInt8 := [117, 105, 110, 116, 54, 52]
def wBool : List UInt8 := [98, 111, 111, 108]
def wFixed64 : List UInt8 := [102, 105, 120, 101, 100, 54, 52]
def wFixed32 : List UInt8 := [102, 105, 120, 101, 100, 51, 50]
def wString : List UInt8 := [115, 116, 114, 105, 110, 103]
def wBytes : List UInt8 := [98, 121, 116, 101, 115]
def wRepeated : List UInt8 := [114, 101, 112, 101, 97, 116, 101, 100]
def wReserved : List UInt8 := [114, 101, 115, 101, 114, 118, 101, 100]
def wOneof : List UInt8 := [111, 110, 101, 111, 102]
def words : List (List UInt8) := [wInt64, wSint64, wUint64, wBool, [], wFixed64, wFixed32, wString, wBytes]
def wordsV : List Value := words.map fun s => .string ⟨s.toArray⟩
theorem words_rd (w : World) (e : TypeId) : RdS DStr 1 All (w.alloc (.cells wordsV.toArray e)) (.slice (some ⟨w.heap.size, 0, none⟩) 9 9) words := by
 refine rdS_of_block words (words.map fun s => [.string ⟨s.toArray⟩]) (blk_new w _ rfl) ?_ trivial (by rfl) (fun i hi => ⟨[.string ⟨words[i].toArray⟩], by simp [hi], rfl, rfl, ?_⟩) rfl (Nat.le_refl _) (by unfold maxLen; omega)
 · rfl
 · (have h : ∀ x ∈ words, x.length ≤ 140737488355328 := by decide); exact h _ (List.getElem_mem hi)
set_option maxHeartbeats 800000 in
theorem words_s (w : World) :
   Calls Tryd.prog 11 #[] w fun e w' => e = .returned (.slice (some ⟨w.heap.size, 0, none⟩) 9 9) ∧ w' = w.alloc (.cells wordsV.toArray 9) := by
 go_enter Tryd.func11, Tryd.ntmps11
 go_wp2_with fail
 go_ret
 exact ⟨rfl, rfl⟩
set_option maxHeartbeats 800000 in
theorem words_r (w : World) :
   Calls Tryd.prog 12 #[] w fun e w' => e = .returned (.slice (some ⟨w.heap.size, 0, none⟩) 9 9) ∧ w' = w.alloc (.cells wordsV.toArray 9) := by
 go_enter Tryd.func12, Tryd.ntmps12
 go_wp2_with fail
 go_ret
 exact ⟨rfl, rfl⟩
end Go.Proofs.YtbceapeoknngnaaDoor
