/-
  The parser in plain Lean: every step leaves less of the text.
-/
import Derived.Test.YtbceapeoknngnaaDoorSy08
set_option linter.unusedVariables false
namespace Go.Proofs.YtbceapeoknngnaaDoor
theorem skipL_len : ∀ (l : List UInt8) (b : Bool), (skipL b l).length ≤ l.length
 | [], b => by simp [skipL]
 | c :: l, true => by
   have h1 := skipL_len l false; have h2 := skipL_len l true; rw [skipL]; simp only [List.length_cons]; split <;> omega
 | c :: l, false => by
   have h1 := skipL_len l false; have h2 := skipL_len l true; rw [skipL]; simp only [List.length_cons]; split
   · omega
   · split
     · omega
     · simp
theorem skip_len (l : List UInt8) : (skip l).length ≤ l.length := skipL_len l false
theorem cand_len : ∀ L : List UInt8, (candP L).length ≤ L.length
 | [] => by simp [candP]
 | c :: L => by
   unfold candP; split
   · simp
   · rename_i h; injection h with h1 h2; subst h1; subst h2; split
     · exact (List.takeWhile_sublist _).length_le
     · simp
theorem word_len {l : List UInt8} {a l' : List UInt8} (h : wordP l = .ok a l') : l'.length < l.length ∧ a.length ≤ 16 ∧ 0 < a.length := by
 have hs := skip_len l; unfold wordP at h; split at h
 · cases h
 · rename_i h0; split at h
   · cases h
   · rename_i h1; injection h with h2 h3
     have : 0 < (candP (skip l)).length := by
       cases hc : candP (skip l) with
       | nil => exact absurd hc h0
       | cons c r => simp
     have hle : (candP (skip l)).length ≤ (skip l).length := cand_len _; subst h2; subst h3; rw [List.length_drop]; omega
theorem eat_len (c : UInt8) (l : List UInt8) : (eatP c l).2.length ≤ l.length := by
 have hs := skip_len l; unfold eatP; split
 · simp only [List.length_tail]; omega
 · exact hs
theorem must_len {c : UInt8} {l l' : List UInt8} {u : Unit} (h : mustP c l = .ok u l') : l'.length ≤ l.length := by
 have hs := eat_len c l; unfold mustP at h; split at h
 · injection h with _ h3; subst h3; exact hs
 · cases h
theorem num_lenP {m n : Nat} {l l' : List UInt8} (h : numP m l = .ok n l') : l'.length < l.length ∧ n ≤ m := by
 have hs := skip_len l; unfold numP at h; split at h
 · cases h
 · rename_i h0; split at h
   · cases h
   · rename_i h1; injection h with h2 h3
     have : 0 < ((skip l).takeWhile digitB).length := by
       cases hc : (skip l).takeWhile digitB with
       | nil => exact absurd hc h0
       | cons c r => simp
     have hle : ((skip l).takeWhile digitB).length ≤ (skip l).length := (List.takeWhile_sublist _).length_le; subst h2; subst h3; rw [List.length_drop]; refine ⟨by omega, ?_⟩; have := fun h => h1 (Or.inl h); omega
theorem bind_ok_of {α β : Type} {r : PR α} {f : α → List UInt8 → PR β} {b : β} {l : List UInt8} (h : r.bind f = .ok b l) : ∃ a l1, r = .ok a l1 ∧ f a l1 = .ok b l := by
 cases r with
 | ok a l1 => exact ⟨a, l1, rfl, h⟩
 | bad e l1 => cases h
theorem idx_le {α : Type} (p : α → Bool) : ∀ l : List α, idxP p l ≤ l.length
 | [] => by simp [idxP]
 | a :: l => by
   have := idx_le p l; rw [idxP]; split
   · simp; omega
   · split
     · simp; omega
     · simp; omega
theorem kind_len (w : List UInt8) : 0 ≤ (kindP w).1 ∧ (kindP w).1 ≤ 10 ∧ (kindP w).2.length ≤ w.length := by
 unfold kindP; have h9 : idxP (fun x => w == x) words ≤ 9 := Int.le_trans (idx_le _ words) (by decide); split
 · simp only [List.length_nil]; omega
 · simp only; omega
theorem head_len {c : Nat} {l l' : List UInt8} {p : Bool × List UInt8} (h : headP c l = .ok p l') : l'.length < l.length ∧ p.2.length ≤ 16 := by
 unfold headP at h; obtain ⟨w, l1, h1, h2⟩ := bind_ok_of h; have := word_len h1; split at h2
 · obtain ⟨w2, l2, h3, h4⟩ := bind_ok_of h2; have := word_len h3; injection h4 with h5 h6; subst h5; subst h6; exact ⟨by omega, by simp only; omega⟩
 · injection h2 with h5 h6; subst h5; subst h6; exact ⟨by omega, by simp only; omega⟩
def fldOk (x : Fld) : Prop := 0 ≤ x.number ∧ x.number ≤ 536870911 ∧ 0 ≤ x.kind ∧ x.kind ≤ 10 ∧ x.name.length ≤ 16 ∧ x.type.length ≤ 16
theorem field_len {c : Nat} {l l' : List UInt8} {x : Fld} (h : fieldP c l = .ok x l') : l'.length < l.length ∧ fldOk x ∧ x.choice = c := by
 unfold fieldP at h; obtain ⟨mw, l2, h1, h⟩ := bind_ok_of h; obtain ⟨nm, l3, h2, h⟩ := bind_ok_of h; obtain ⟨u, l4, h3, h⟩ := bind_ok_of h; obtain ⟨n, l5, h4, h⟩ := bind_ok_of h; obtain ⟨u2, l6, h5, h⟩ := bind_ok_of h; injection h with h6 h7; have g1 := head_len h1; have g2 := word_len h2; have g3 := must_len h3; have g4 := num_lenP h4; have g5 := must_len h5; have g6 := kind_len mw.2; subst h6; subst h7; exact ⟨by omega, ⟨by simp only; omega, by simp only; omega, g6.1, g6.2.1, g2.2.1, by simp only; omega⟩, rfl⟩
theorem item_len {l l' : List UInt8} {x : Itm} (h : itemP l = .ok x l') : l'.length < l.length ∧ x.name.length ≤ 16 ∧ -2147483648 ≤ x.value ∧ x.value ≤ 2147483647 := by
 unfold itemP at h; obtain ⟨nm, l2, h1, h⟩ := bind_ok_of h; obtain ⟨u, l3, h2, h⟩ := bind_ok_of h; obtain ⟨v, l5, h3, h⟩ := bind_ok_of h; obtain ⟨u2, l6, h4, h⟩ := bind_ok_of h; injection h with h6 h7; have g1 := word_len h1; have g2 := must_len h2; have g4 := must_len h4; have ge := eat_len 45 l3
 have hv : l5.length ≤ l3.length ∧ -2147483648 ≤ v ∧ v ≤ 2147483647 := by
   split at h3
   · obtain ⟨n, l4, h5, h8⟩ := bind_ok_of h3; have g5 := num_lenP h5; injection h8 with h9 h10; subst h9; subst h10; omega
   · obtain ⟨n, l4, h5, h8⟩ := bind_ok_of h3; have g5 := num_lenP h5; injection h8 with h9 h10; subst h9; subst h10; omega
 subst h6; subst h7; exact ⟨by omega, g1.2.1, hv.2.1, hv.2.2⟩
end Go.Proofs.YtbceapeoknngnaaDoor
