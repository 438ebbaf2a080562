/-
  The document's parser in plain Lean: every step leaves less of the text, so long as nothing is wrong; how large what it answers is.
-/
import Derived.Test.YtbceapeoknngnaaDoorSy10
set_option linter.unusedVariables false
namespace Go.Proofs.YtbceapeoknngnaaDoor
def Shr (st st' : WSt) : Prop := st'.e = 0 → st.e = 0 ∧ st'.l.length ≤ st.l.length
def ShrS (st st' : WSt) : Prop := st'.e = 0 → st.e = 0 ∧ st'.l.length < st.l.length
theorem Shr.refl (st : WSt) : Shr st st := fun h => ⟨h, Nat.le_refl _⟩
theorem Shr.trans {a b c : WSt} (h : Shr a b) (k : Shr b c) : Shr a c := fun e => ⟨(h (k e).1).1, Nat.le_trans (k e).2 (h (k e).1).2⟩
theorem ShrS.trans {a b c : WSt} (h : ShrS a b) (k : Shr b c) : ShrS a c := fun e => ⟨(h (k e).1).1, Nat.lt_of_le_of_lt (k e).2 (h (k e).1).2⟩
theorem Shr.transS {a b c : WSt} (h : Shr a b) (k : ShrS b c) : ShrS a c := fun e => ⟨(h (k e).1).1, Nat.lt_of_lt_of_le (k e).2 (h (k e).1).2⟩
theorem ShrS.le {a b : WSt} (h : ShrS a b) : Shr a b := fun e => ⟨(h e).1, Nat.le_of_lt (h e).2⟩
theorem shr_stop {er : Int} (he : er ≠ 0) (st : WSt) : ShrS st (stopRf er st) := fun h => by
 unfold stopRf at h; split at h
 · exact absurd h he
 · rename_i h1; exact absurd h h1
theorem shr_blank (st : WSt) : Shr st (blankRf st) := fun h => ⟨h, skip_len st.l⟩
theorem shr_on (c : UInt8) (st : WSt) : Shr st (onRf c st).2 := fun h => by
 unfold onRf at h ⊢; split at h
 · rename_i h1; exact absurd h h1
 · rename_i h1; rw [if_neg h1]; exact shr_blank st h
theorem shr_eat (c : UInt8) (st : WSt) : Shr st (eatRf c st).2 := fun h => by
 have ho := shr_on c st; unfold eatRf at h ⊢
 by_cases hb : (onRf c st).1 = true
 · rw [if_pos hb] at h ⊢; have h2 := ho h; refine ⟨h2.1, ?_⟩; have := h2.2; simp only [List.length_tail]; omega
 · rw [if_neg hb] at h ⊢; exact ho h
theorem eat_strict {c : UInt8} {st : WSt} (hb : (eatRf c st).1 = true) : ShrS st (eatRf c st).2 := fun h => by
 have ho := shr_on c st
 by_cases hb2 : (onRf c st).1 = true
 · (have he : eatRf c st = (true, ⟨(onRf c st).2.l.tail, (onRf c st).2.e, (onRf c st).2.b⟩) := by unfold eatRf; rw [if_pos hb2]); rw [he] at h ⊢; have h2 := ho h; refine ⟨h2.1, ?_⟩
   have hne : (onRf c st).2.l ≠ [] := by
     intro e0; unfold onRf at hb2 e0; rw [if_neg (by simpa using h2.1)] at hb2 e0; have h3 : (skip st.l).head? = some c := of_decide_eq_true hb2; have e1 : skip st.l = [] := e0; rw [e1] at h3; cases h3
   have := h2.2; have hl : 0 < (onRf c st).2.l.length := List.length_pos_iff.2 hne; simp only [List.length_tail]; omega
 · (have he : (eatRf c st).1 = false := by unfold eatRf; rw [if_neg hb2]); rw [he] at hb; cases hb
theorem shr_need (c : UInt8) (st : WSt) : Shr st (needRf c st) := fun h => by
 unfold needRf at h ⊢
 by_cases hb : (eatRf c st).1 = true
 · rw [if_pos hb] at h ⊢; exact shr_eat c st h
 · rw [if_neg hb] at h ⊢; exact ((shr_eat c st).trans (shr_stop (by decide) _).le) h
theorem shr_word (st : WSt) : ShrS st (wordRf st).2 := fun h => by
 unfold wordRf at h ⊢
 by_cases h1 : st.e ≠ 0
 · rw [if_pos h1] at h; exact absurd h h1
 rw [if_neg h1] at h ⊢
 by_cases h2 : candP (skip st.l) = []
 · rw [if_pos h2] at h ⊢; exact ((shr_blank st).transS (shr_stop (by decide) _)) h
 rw [if_neg h2] at h ⊢
 by_cases h3 : 16 < (candP (skip st.l)).length
 · rw [if_pos h3] at h ⊢; exact ((shr_blank st).transS (shr_stop (by decide) _)) h
 rw [if_neg h3] at h ⊢; refine ⟨h, ?_⟩; have := skip_len st.l; have hc := cand_len (skip st.l); have hp : 0 < (candP (skip st.l)).length := List.length_pos_iff.2 h2; simp only [List.length_drop]; omega
theorem shr_num (m : Nat) (st : WSt) : ShrS st (numRf m st).2 := fun h => by
 unfold numRf at h ⊢
 by_cases h1 : st.e ≠ 0
 · rw [if_pos h1] at h; exact absurd h h1
 rw [if_neg h1] at h ⊢
 by_cases h2 : (skip st.l).takeWhile digitB = []
 · rw [if_pos h2] at h ⊢; exact ((shr_blank st).transS (shr_stop (by decide) _)) h
 rw [if_neg h2] at h ⊢
 by_cases h3 : m < capV ((skip st.l).takeWhile digitB) ∨ (skip st.l).head? = some 48 ∧ 1 < ((skip st.l).takeWhile digitB).length
 · rw [if_pos h3] at h ⊢; exact ((shr_blank st).transS (shr_stop (by decide) _)) h
 rw [if_neg h3] at h ⊢; refine ⟨h, ?_⟩; have := skip_len st.l; have hc : ((skip st.l).takeWhile digitB).length ≤ (skip st.l).length := (List.takeWhile_sublist _).length_le; have hp : 0 < ((skip st.l).takeWhile digitB).length := List.length_pos_iff.2 h2; simp only [List.length_drop]; omega
theorem shr_head (w : List UInt8) (c : Nat) (st : WSt) : Shr st (headRf w c st).2 := by
 unfold headRf; split
 · exact (shr_word st).le
 · exact Shr.refl st
theorem shr_field (w : List UInt8) (c : Nat) (st : WSt) : ShrS st (fieldRf w c st).2 :=
 ((((shr_head w c st).transS (shr_word _)).trans (shr_need _ _)).trans (shr_num _ _).le).trans (shr_need _ _)
theorem shr_nums : ∀ (f : Nat) (acc : List Int) (st : WSt), Shr st (numsRf f acc st).2
 | 0, acc, st => Shr.refl st
 | f + 1, acc, st => by
   rw [numsRf]; split
   · exact ((shr_eat 44 st).trans (shr_num _ _).le).trans (shr_nums f _ _)
   · exact shr_eat 44 st
theorem shr_more (st : WSt) : Shr st (moreRf st).2 := fun h => by
 unfold moreRf at h ⊢
 by_cases h1 : st.e ≠ 0
 · rw [if_pos h1] at h; exact absurd h h1
 rw [if_neg h1] at h ⊢; exact shr_eat 125 st h
theorem shr_choice : ∀ (f c : Nat) (acc : List Fld) (st : WSt), Shr st (choiceRf f c acc st).2
 | 0, _, acc, st => Shr.refl st
 | f + 1, c, acc, st => by
   rw [choiceRf]; split
   · exact (((shr_more st).trans (shr_word _).le).trans (shr_field _ _ _).le).trans (shr_choice f c _ _)
   · exact shr_more st
theorem shr_part (w : List UInt8) (c : Nat) (fs : List Fld) (bs : List Int) (st : WSt) : Shr st (partRf w c fs bs st).2 := by
 unfold partRf; split
 · exact ((shr_num _ st).le.trans (shr_nums _ _ _)).trans (shr_need _ _)
 · split
   · exact (shr_need _ st).trans (shr_choice _ _ _ _)
   · exact (shr_field _ _ _).le
theorem shr_many (t : (Nat × List Fld × List Int) × WSt) : Shr t.2 (manyRf t) := by
 unfold manyRf; split
 · exact (shr_stop (by decide) _).le
 · exact Shr.refl _
theorem shr_mess : ∀ (f : Nat) (nm : List UInt8) (c : Nat) (fs : List Fld) (bs : List Int) (st : WSt), Shr st (messRf f nm c fs bs st).2
 | 0, _, _, _, _, st => Shr.refl st
 | f + 1, nm, c, fs, bs, st => by
   rw [messRf]; split
   · exact (((((shr_more st).trans (shr_word _).le).trans (shr_part _ _ _ _ _))).trans (shr_many _)).trans (shr_mess f _ _ _ _ _)
   · exact shr_more st
theorem shr_message (st : WSt) : ShrS st (messageRf st).2 := ((shr_word st).trans (shr_need _ _)).trans (shr_mess _ _ _ _ _ _)
theorem shr_sign (st : WSt) : Shr st (signRf st).2 := by
 unfold signRf; split
 · exact (shr_eat 45 st).trans (shr_num _ _).le
 · exact (shr_eat 45 st).trans (shr_num _ _).le
theorem shr_item (st : WSt) : ShrS st (itemRf st).2 := (((shr_word st).trans (shr_need _ _)).trans (shr_sign _)).trans (shr_need _ _)
theorem shr_items : ∀ (f : Nat) (acc : List Itm) (st : WSt), Shr st (itemsRf f acc st).2
 | 0, acc, st => Shr.refl st
 | f + 1, acc, st => by
   rw [itemsRf]; split
   · refine (((shr_more st).trans (shr_item _).le).trans ?_).trans (shr_items f _ _); split
     · exact (shr_stop (by decide) _).le
     · exact Shr.refl _
   · exact shr_more st
theorem shr_enum (st : WSt) : ShrS st (enumRf st).2 := ((shr_word st).trans (shr_need _ _)).trans (shr_items _ _ _)
theorem shr_top (l0 w : List UInt8) (F : Fil) (st : WSt) : Shr st (topRf l0 w F st).2 := fun h => by
 unfold topRf at h ⊢
 by_cases h1 : st.e ≠ 0
 · rw [if_pos h1] at h; exact absurd h h1
 rw [if_neg h1] at h ⊢
 by_cases h2 : w = wMessage
 · rw [if_pos h2] at h ⊢; exact (shr_message st).le h
 rw [if_neg h2] at h ⊢
 by_cases h3 : w = wEnum
 · rw [if_pos h3] at h ⊢; exact (shr_enum st).le h
 rw [if_neg h3] at h ⊢
 exact absurd ((shr_stop (by decide) ⟨l0, st.e, st.b⟩) h).1 (fun h9 => by
   unfold stopRf at h; rw [if_pos h9] at h; cases h)
theorem word_size (st : WSt) : (wordRf st).1.length ≤ st.l.length := by
 have h1 := skip_len st.l; have h2 := cand_len (skip st.l); unfold wordRf; split
 · simp
 · split
   · simp
   · split
     · simp only; omega
     · simp only; omega
theorem sign_bd (st : WSt) : -100000000300 < (signRf st).1 ∧ (signRf st).1 < 100000000300 := by
 unfold signRf; have h1 := num_le (m := 2147483648) (st := (eatRf 45 st).2); have h2 := num_le (m := 2147483647) (st := (eatRf 45 st).2); split
 · simp only; omega
 · simp only; omega
end Go.Proofs.YtbceapeoknngnaaDoor
