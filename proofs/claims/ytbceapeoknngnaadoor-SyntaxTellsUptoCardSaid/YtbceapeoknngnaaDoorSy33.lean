/-
  The document's parser in plain Lean: how many fields and numbers there may be.
-/
import Derived.Test.YtbceapeoknngnaaDoorSy32
set_option linter.unusedVariables false
namespace Go.Proofs.YtbceapeoknngnaaDoor
def stM (st : WSt) : Nat := if st.e = 0 then st.l.length + 1 else 0
theorem stM_le {a b : WSt} (h : Shr a b) : stM b ≤ stM a := by
 unfold stM
 by_cases hb : b.e = 0
 · rw [if_pos hb, if_pos (h hb).1]; have := (h hb).2; omega
 · rw [if_neg hb]; omega
theorem stM_lt {a b : WSt} (h : ShrS a b) (ha : a.e = 0) : stM b < stM a := by
 unfold stM; rw [if_pos ha]
 by_cases hb : b.e = 0
 · rw [if_pos hb]; have := (h hb).2; omega
 · rw [if_neg hb]; omega
theorem stop_ne {er : Int} (he : er ≠ 0) (st : WSt) : (stopRf er st).e ≠ 0 := by
 unfold stopRf; split
 · exact he
 · assumption
theorem eat_good {c : UInt8} {st : WSt} (h : (eatRf c st).1 = true) : st.e = 0 ∧ (eatRf c st).2.e = 0 := by
 by_cases he : st.e = 0
 · refine ⟨he, ?_⟩; have ho : onRf c st = (decide ((skip st.l).head? = some c), blankRf st) := if_neg (by simpa using he); unfold eatRf; rw [ho]; split <;> exact he
 · rw [eat_noRf he] at h; cases h
theorem more_good {st : WSt} (h : (moreRf st).1 = true) : st.e = 0 := by
 by_cases he : st.e = 0
 · exact he
 · rw [more_noRf he] at h; cases h
theorem nums_sum : ∀ (f : Nat) (acc : List Int) (st : WSt), (numsRf f acc st).1.length + stM (numsRf f acc st).2 ≤ acc.length + stM st
 | 0, acc, st => Nat.le_refl _
 | f + 1, acc, st => by
   rw [numsRf]; split
   · rename_i h; have h1 := nums_sum f (acc ++ [((numRf 536870911 (eatRf 44 st).2).1 : Int)]) (numRf 536870911 (eatRf 44 st).2).2; have h2 := stM_lt (shr_num 536870911 (eatRf 44 st).2) (eat_good h).2; have h3 := stM_le (shr_eat 44 st); rw [List.length_append, List.length_singleton] at h1; omega
   · have h3 := stM_le (shr_eat 44 st); simp only; omega
theorem choice_sum : ∀ (f c : Nat) (acc : List Fld) (st : WSt), (choiceRf f c acc st).1.length + stM (choiceRf f c acc st).2 ≤ acc.length + stM st
 | 0, _, acc, st => Nat.le_refl _
 | f + 1, c, acc, st => by
   rw [choiceRf]; have h3 := stM_le (shr_more st); split
   · rename_i h; have h1 := choice_sum f c (acc ++ [(fieldRf (wordRf (moreRf st).2).1 c (wordRf (moreRf st).2).2).1]) (fieldRf (wordRf (moreRf st).2).1 c (wordRf (moreRf st).2).2).2; have h2 := stM_lt (((shr_more st).transS (shr_word (moreRf st).2)).trans (shr_field (wordRf (moreRf st).2).1 c (wordRf (moreRf st).2).2).le) (more_good h); rw [List.length_append, List.length_singleton] at h1; omega
   · simp only; omega
theorem part_sum (c : Nat) (fs : List Fld) (bs : List Int) {s5 : WSt} (h5 : s5.e = 0) :
   (partRf (wordRf s5).1 c fs bs (wordRf s5).2).1.1 + (partRf (wordRf s5).1 c fs bs (wordRf s5).2).1.2.1.length + (partRf (wordRf s5).1 c fs bs (wordRf s5).2).1.2.2.length + stM (partRf (wordRf s5).1 c fs bs (wordRf s5).2).2 ≤ c + fs.length + bs.length + stM s5 := by
 have hw := stM_lt (shr_word s5) h5; generalize (wordRf s5).1 = w at *; generalize (wordRf s5).2 = s6 at *; unfold partRf; split
 · have h1 := nums_sum ((numRf 536870911 s6).2.l.length + 1) (bs ++ [((numRf 536870911 s6).1 : Int)]) (numRf 536870911 s6).2; have h2 := stM_le (shr_num 536870911 s6).le; have h3 := stM_le (shr_need 59 (numsRf ((numRf 536870911 s6).2.l.length + 1) (bs ++ [((numRf 536870911 s6).1 : Int)]) (numRf 536870911 s6).2).2); rw [List.length_append, List.length_singleton] at h1; simp only; omega
 · split
   · have h1 := choice_sum ((needRf 123 s6).l.length + 1) (c + 1) fs (needRf 123 s6); have h2 := stM_le (shr_need 123 s6); simp only; omega
   · have h2 := stM_le (shr_field w 0 s6).le; simp only [List.length_append, List.length_singleton]; omega
theorem field_bd (w : List UInt8) (c : Nat) (st : WSt) : 0 ≤ (fieldRf w c st).1.number ∧ (fieldRf w c st).1.number < 100000000300 ∧ 0 ≤ (fieldRf w c st).1.kind ∧ (fieldRf w c st).1.kind ≤ 10 ∧ (fieldRf w c st).1.choice = c ∧
   ((fieldRf w c st).1.type.length ≤ w.length ∨ (fieldRf w c st).1.type.length ≤ st.l.length) ∧ (fieldRf w c st).1.name.length ≤ st.l.length := by
 have h5 : (wordRf (headRf w c st).2).1.length ≤ st.l.length := by
   by_cases hg : (headRf w c st).2.e = 0
   · have := (shr_head w c st hg).2; have := word_size (headRf w c st).2; omega
   · rw [word_noRf hg]; simp
 have h1 := num_le (m := 536870911) (st := needRf 61 (wordRf (headRf w c st).2).2); have h2 := kind_len (headRf w c st).1.2; unfold fieldRf; refine ⟨by simp only; omega, by simp only; omega, h2.1, h2.2.1, rfl, ?_, h5⟩
 have h3 : (headRf w c st).1.2.length ≤ w.length ∨ (headRf w c st).1.2.length ≤ st.l.length := by
   unfold headRf; split
   · exact .inr (word_size st)
   · exact .inl (Nat.le_refl _)
 simp only; omega
end Go.Proofs.YtbceapeoknngnaaDoor
