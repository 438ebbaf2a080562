/-
  The document's parser is the same as the other one, in plain Lean.
-/
import Derived.Test.YtbceapeoknngnaaDoorSy10
import Derived.Test.YtbceapeoknngnaaDoorSy25
set_option linter.unusedVariables false
namespace Go.Proofs.YtbceapeoknngnaaDoor
def Sim {α : Type} (r : PR α) (p : α × WSt) : Prop := match r with
 | .ok a l => p = (a, ⟨l, 0, []⟩)
 | .bad e l => e ≠ 0 ∧ p.2.e = e ∧ p.2.b = l
def SimU (r : PR Unit) (p : WSt) : Prop := match r with
 | .ok _ l => p = ⟨l, 0, []⟩
 | .bad e l => e ≠ 0 ∧ p.e = e ∧ p.b = l
theorem sim_bad {α β : Type} {r : PR α} {e : Int} {l : List UInt8} (p : β × WSt) {q : WSt} (h : q.e = e ∧ q.b = l) (he : e ≠ 0) (hs : Stuck q p.2) : Sim (.bad e l : PR β) p := by
 obtain ⟨h1, h2⟩ := hs (by rw [h.1]; exact he); exact ⟨he, h1.trans h.1, h2.trans h.2⟩
theorem sim_eat (c : UInt8) (l : List UInt8) : eatRf c ⟨l, 0, []⟩ = ((eatP c l).1, ⟨(eatP c l).2, 0, []⟩) := by
 unfold eatRf onRf eatP blankRf
 by_cases h : (skip l).head? = some c <;> simp [h]
theorem sim_need (c : UInt8) (l : List UInt8) : SimU (mustP c l) (needRf c ⟨l, 0, []⟩) := by
 unfold needRf mustP; rw [sim_eat]
 cases (eatP c l).1 with
 | true => rfl
 | false => exact ⟨by decide, rfl, rfl⟩
theorem word_zeroRf (l : List UInt8) : wordRf ⟨l, 0, []⟩ = if candP (skip l) = [] then ([], ⟨skip l, 2, skip l⟩) else if 16 < (candP (skip l)).length then (candP (skip l), ⟨skip l, 7, skip l⟩) else (candP (skip l), ⟨(skip l).drop (candP (skip l)).length, 0, []⟩) := by
 unfold wordRf; rw [if_neg (by simp)]; rfl
theorem sim_word (l : List UInt8) : Sim (wordP l) (wordRf ⟨l, 0, []⟩) := by
 rw [word_zeroRf]; unfold wordP; split
 · exact ⟨by decide, rfl, rfl⟩
 · split
   · exact ⟨by decide, rfl, rfl⟩
   · rfl
theorem num_zeroRf (m : Nat) (l : List UInt8) : numRf m ⟨l, 0, []⟩ = if (skip l).takeWhile digitB = [] then (capV ((skip l).takeWhile digitB), ⟨skip l, 2, skip l⟩) else if m < capV ((skip l).takeWhile digitB) ∨ (skip l).head? = some 48 ∧ 1 < ((skip l).takeWhile digitB).length then (capV ((skip l).takeWhile digitB), ⟨skip l, 3, skip l⟩) else (capV ((skip l).takeWhile digitB), ⟨(skip l).drop ((skip l).takeWhile digitB).length, 0, []⟩) := by
 unfold numRf; rw [if_neg (by simp)]; rfl
theorem sim_num {m : Nat} (hm : m < 10000000000) (l : List UInt8) : Sim (numP m l) (numRf m ⟨l, 0, []⟩) := by
 rw [num_zeroRf]; unfold numP; split
 · exact ⟨by decide, rfl, rfl⟩
 · have hc := cap_dec ((skip l).takeWhile digitB)
   by_cases h : m < decV ((skip l).takeWhile digitB) ∨ (skip l).head? = some 48 ∧ 1 < ((skip l).takeWhile digitB).length
   · rw [if_pos h, if_pos (by rcases h with h | h; left; omega; exact .inr h)]; exact ⟨by decide, rfl, rfl⟩
   · have h1 : ¬ m < decV ((skip l).takeWhile digitB) := fun g => h (.inl g); (have h2 : capV ((skip l).takeWhile digitB) = decV ((skip l).takeWhile digitB) := by omega); rw [if_neg h, h2, if_neg h]; rfl
theorem sim_head (c : Nat) (l : List UInt8) (hw : ∀ w l1, wordP l = .ok w l1 → Sim (if w = wRepeated ∧ c = 0 then (wordP l1).bind fun w2 l2 => .ok (true, w2) l2 else .ok (false, w) l1) (headRf w c ⟨l1, 0, []⟩)) : Sim (headP c l) (headRf (wordRf ⟨l, 0, []⟩).1 c (wordRf ⟨l, 0, []⟩).2) := by
 have h := sim_word l; unfold headP
 cases hr : wordP l with
 | ok w l1 =>
   rw [hr] at h; rw [show wordRf ⟨l, 0, []⟩ = (w, ⟨l1, 0, []⟩) from h]; exact hw w l1 hr
 | bad e l1 =>
   rw [hr] at h; exact sim_bad (r := wordP l) _ h.2 h.1 (stuck_head _ _ _)
theorem sim_head1 (w : List UInt8) (c : Nat) (l1 : List UInt8) : Sim (if w = wRepeated ∧ c = 0 then (wordP l1).bind fun w2 l2 => PR.ok (true, w2) l2 else .ok (false, w) l1) (headRf w c ⟨l1, 0, []⟩) := by
 unfold headRf; split
 · have h := sim_word l1
   cases hr : wordP l1 with
   | ok w2 l2 =>
     rw [hr] at h; rw [show wordRf ⟨l1, 0, []⟩ = (w2, ⟨l2, 0, []⟩) from h]; rfl
   | bad e l2 => rw [hr] at h; exact h
 · rfl
theorem sim_field1 (mw : Bool × List UInt8) (c : Nat) (l2 : List UInt8) :
   Sim ((wordP l2).bind fun nm l3 => (mustP 61 l3).bind fun _ l4 => (numP 536870911 l4).bind fun n l5 => (mustP 59 l5).bind fun _ l6 => PR.ok (⟨nm, n, (kindP mw.2).1, (kindP mw.2).2, mw.1, c⟩ : Fld) l6)
     (⟨(wordRf ⟨l2, 0, []⟩).1, (numRf 536870911 (needRf 61 (wordRf ⟨l2, 0, []⟩).2)).1, (kindP mw.2).1, (kindP mw.2).2, mw.1, c⟩, needRf 59 (numRf 536870911 (needRf 61 (wordRf ⟨l2, 0, []⟩).2)).2) := by
 have h := sim_word l2
 cases hr : wordP l2 with
 | bad e l1 => rw [hr] at h; exact sim_bad (r := wordP l2) _ h.2 h.1 (((stuck_need _ _).trans (stuck_num _ _)).trans (stuck_need _ _))
 | ok nm l3 =>
   rw [hr] at h; rw [show wordRf ⟨l2, 0, []⟩ = (nm, ⟨l3, 0, []⟩) from h]; have h := sim_need 61 l3; simp only [PR.bind_ok]
   cases hr : mustP 61 l3 with
   | bad e l1 => rw [hr] at h; exact sim_bad (r := mustP 61 l3) _ h.2 h.1 ((stuck_num _ _).trans (stuck_need _ _))
   | ok u l4 =>
     rw [hr] at h; rw [show needRf 61 ⟨l3, 0, []⟩ = ⟨l4, 0, []⟩ from h]; have h := sim_num (m := 536870911) (by decide) l4; simp only [PR.bind_ok]
     cases hr : numP 536870911 l4 with
     | bad e l1 => rw [hr] at h; exact sim_bad (r := numP 536870911 l4) _ h.2 h.1 (stuck_need _ _)
     | ok n l5 =>
       rw [hr] at h; rw [show numRf 536870911 ⟨l4, 0, []⟩ = (n, ⟨l5, 0, []⟩) from h]; have h := sim_need 59 l5; simp only [PR.bind_ok]
       cases hr : mustP 59 l5 with
       | bad e l1 => rw [hr] at h; exact ⟨h.1, h.2⟩
       | ok u l6 =>
         rw [hr] at h; rw [show needRf 59 ⟨l5, 0, []⟩ = ⟨l6, 0, []⟩ from h]; rfl
theorem sim_field (c : Nat) (l : List UInt8) : Sim (fieldP c l) (fieldRf (wordRf ⟨l, 0, []⟩).1 c (wordRf ⟨l, 0, []⟩).2) := by
 have h := sim_head c l (fun w l1 _ => sim_head1 w c l1); unfold fieldP fieldRf
 cases hr : headP c l with
 | bad e l1 => rw [hr] at h; exact sim_bad (r := headP c l) _ h.2 h.1 ((((stuck_word _).trans (stuck_need _ _)).trans (stuck_num _ _)).trans (stuck_need _ _))
 | ok mw l2 =>
   rw [hr] at h; rw [show headRf (wordRf ⟨l, 0, []⟩).1 c (wordRf ⟨l, 0, []⟩).2 = (mw, ⟨l2, 0, []⟩) from h]; exact sim_field1 mw c l2
theorem sim_nums : ∀ (f g : Nat) (acc : List Int) (l : List UInt8), l.length < f → l.length < g → Sim (numsP f acc l) (numsRf g acc ⟨l, 0, []⟩)
 | 0, _, _, l, h, _ => by omega
 | _ + 1, 0, _, l, _, h => by omega
 | f + 1, g + 1, acc, l, hf, hg => by
   rw [numsP, numsRf, sim_eat]; have he := eat_len 44 l
   cases (eatP 44 l).1 with
   | false => rfl
   | true =>
     simp only [if_true]; have h := sim_num (m := 536870911) (by decide) (eatP 44 l).2
     cases hr : numP 536870911 (eatP 44 l).2 with
     | bad e l1 => rw [hr] at h; exact sim_bad (r := numP 536870911 (eatP 44 l).2) _ h.2 h.1 (stuck_nums _ _ _)
     | ok n l5 =>
       rw [hr] at h; rw [show numRf 536870911 ⟨(eatP 44 l).2, 0, []⟩ = (n, ⟨l5, 0, []⟩) from h]; have := (num_lenP hr).1; exact sim_nums f g _ l5 (by omega) (by omega)
theorem sim_more (l : List UInt8) : moreRf ⟨l, 0, []⟩ = (!(eatP 125 l).1, ⟨(eatP 125 l).2, 0, []⟩) := by
 unfold moreRf; rw [if_neg (by simp), sim_eat]
theorem sim_choice : ∀ (f g c : Nat) (acc : List Fld) (l : List UInt8), l.length < f → l.length < g → Sim (choiceP f c acc l) (choiceRf g c acc ⟨l, 0, []⟩)
 | 0, _, _, _, l, h, _ => by omega
 | _ + 1, 0, _, _, l, _, h => by omega
 | f + 1, g + 1, c, acc, l, hf, hg => by
   rw [choiceP, choiceRf, sim_more]; have he := eat_len 125 l
   cases (eatP 125 l).1 with
   | true => rfl
   | false =>
     simp only [Bool.not_false, if_true]; have h := sim_field c (eatP 125 l).2
     cases hr : fieldP c (eatP 125 l).2 with
     | bad e l1 => rw [hr] at h; exact sim_bad (r := fieldP c (eatP 125 l).2) _ h.2 h.1 (stuck_choice _ _ _ _)
     | ok x l5 =>
       rw [hr] at h; rw [show fieldRf (wordRf ⟨(eatP 125 l).2, 0, []⟩).1 c (wordRf ⟨(eatP 125 l).2, 0, []⟩).2 = (x, ⟨l5, 0, []⟩) from h]; have := (field_len hr).1; exact sim_choice f g c _ l5 (by omega) (by omega)
theorem sim_part {c : Nat} {fs : List Fld} {bs : List Int} {l : List UInt8} : Sim (partP c fs bs l) (partRf (wordRf ⟨l, 0, []⟩).1 c fs bs (wordRf ⟨l, 0, []⟩).2) := by
 have h := sim_word l; have hfd := sim_field 0 l; unfold partP
 cases hr : wordP l with
 | bad e l1 => rw [hr] at h; exact sim_bad (r := wordP l) _ h.2 h.1 (stuck_part _ _ _ _ _)
 | ok w l2 =>
   rw [hr] at h; rw [show wordRf ⟨l, 0, []⟩ = (w, ⟨l2, 0, []⟩) from h] at hfd ⊢; simp only [PR.bind_ok] at hfd ⊢; unfold partRf
   by_cases h1 : w = wReserved
   · rw [if_pos h1, if_pos h1]; have h := sim_num (m := 536870911) (by decide) l2
     cases hr : numP 536870911 l2 with
     | bad e l1 => rw [hr] at h; exact sim_bad (r := numP 536870911 l2) _ h.2 h.1 ((stuck_nums _ _ _).trans (stuck_need _ _))
     | ok n l3 =>
       rw [hr] at h; rw [show numRf 536870911 ⟨l2, 0, []⟩ = (n, ⟨l3, 0, []⟩) from h]; simp only [PR.bind_ok]; have h := sim_nums (l3.length + 1) (l3.length + 1) (bs ++ [(n : Int)]) l3 (by omega) (by omega)
       cases hr : numsP (l3.length + 1) (bs ++ [(n : Int)]) l3 with
       | bad e l1 => rw [hr] at h; exact sim_bad (r := numsP (l3.length + 1) (bs ++ [(n : Int)]) l3) _ h.2 h.1 (stuck_need _ _)
       | ok bs' l4 =>
         rw [hr] at h; rw [show numsRf (l3.length + 1) (bs ++ [(n : Int)]) ⟨l3, 0, []⟩ = (bs', ⟨l4, 0, []⟩) from h]; simp only [PR.bind_ok]; have h := sim_need 59 l4
         cases hr : mustP 59 l4 with
         | bad e l1 => rw [hr] at h; exact ⟨h.1, h.2⟩
         | ok u l5 =>
           rw [hr] at h; rw [show needRf 59 ⟨l4, 0, []⟩ = ⟨l5, 0, []⟩ from h]; rfl
   · rw [if_neg h1, if_neg h1]
     by_cases h2 : w = wOneof
     · rw [if_pos h2, if_pos h2]; have h := sim_need 123 l2
       cases hr : mustP 123 l2 with
       | bad e l1 => rw [hr] at h; exact sim_bad (r := mustP 123 l2) _ h.2 h.1 (stuck_choice _ _ _ _)
       | ok u l3 =>
         rw [hr] at h; rw [show needRf 123 ⟨l2, 0, []⟩ = ⟨l3, 0, []⟩ from h]; simp only [PR.bind_ok]; have h := sim_choice (l3.length + 1) (l3.length + 1) (c + 1) fs l3 (by omega) (by omega)
         cases hr : choiceP (l3.length + 1) (c + 1) fs l3 with
         | bad e l1 => rw [hr] at h; exact ⟨h.1, h.2⟩
         | ok fs' l4 =>
           rw [hr] at h; rw [show choiceRf (l3.length + 1) (c + 1) fs ⟨l3, 0, []⟩ = (fs', ⟨l4, 0, []⟩) from h]; rfl
     · rw [if_neg h2, if_neg h2]
       cases hr : fieldP 0 l with
       | bad e l1 => rw [hr] at hfd; exact ⟨hfd.1, hfd.2⟩
       | ok x l3 =>
         rw [hr] at hfd; rw [show fieldRf w 0 ⟨l2, 0, []⟩ = (x, ⟨l3, 0, []⟩) from hfd]; rfl
theorem stuck_many (t : (Nat × List Fld × List Int) × WSt) : Stuck t.2 (manyRf t) := by
 unfold manyRf; split
 · exact stuck_stop _ _
 · exact Stuck.refl _
theorem sim_mess : ∀ (f g : Nat) (nm : List UInt8) (c : Nat) (fs : List Fld) (bs : List Int) (l : List UInt8), l.length < f → l.length < g → Sim (messP f nm c fs bs l) (messRf g nm c fs bs ⟨l, 0, []⟩)
 | 0, _, _, _, _, _, l, h, _ => by omega
 | _ + 1, 0, _, _, _, _, l, _, h => by omega
 | f + 1, g + 1, nm, c, fs, bs, l, hf, hg => by
   rw [messP, messRf, sim_more]; have he := eat_len 125 l
   cases (eatP 125 l).1 with
   | true => rfl
   | false =>
     simp only [Bool.not_false, if_true]; have h := sim_part (c := c) (fs := fs) (bs := bs) (l := (eatP 125 l).2)
     cases hr : partP c fs bs (eatP 125 l).2 with
     | bad e l1 => rw [hr] at h; exact sim_bad (r := partP c fs bs (eatP 125 l).2) _ h.2 h.1 ((stuck_many _).trans (stuck_mess _ _ _ _ _ _))
     | ok t l5 =>
       rw [hr] at h; rw [show partRf (wordRf ⟨(eatP 125 l).2, 0, []⟩).1 c fs bs (wordRf ⟨(eatP 125 l).2, 0, []⟩).2 = (t, ⟨l5, 0, []⟩) from h]; have := part_len hr; simp only [PR.bind_ok]; unfold manyRf
       by_cases hm : 16 < t.2.1.length ∨ 16 < t.2.2.length
       · rw [if_pos hm, if_pos hm]; exact sim_bad (r := (PR.bad 5 l5 : PR Msg)) (q := stopRf 5 ⟨l5, 0, []⟩) _ ⟨rfl, rfl⟩ (by decide) (stuck_mess _ _ _ _ _ _)
       · rw [if_neg hm, if_neg hm]; exact sim_mess f g nm _ _ _ l5 (by omega) (by omega)
theorem sim_message (l : List UInt8) : Sim (messageP l) (messageRf ⟨l, 0, []⟩) := by
 have h := sim_word l; unfold messageP messageRf
 cases hr : wordP l with
 | bad e l1 => rw [hr] at h; exact sim_bad (r := wordP l) _ h.2 h.1 ((stuck_need _ _).trans (stuck_mess _ _ _ _ _ _))
 | ok w l2 =>
   rw [hr] at h; rw [show wordRf ⟨l, 0, []⟩ = (w, ⟨l2, 0, []⟩) from h]; simp only [PR.bind_ok]; have h := sim_need 123 l2
   cases hr : mustP 123 l2 with
   | bad e l1 => rw [hr] at h; exact sim_bad (r := mustP 123 l2) _ h.2 h.1 (stuck_mess _ _ _ _ _ _)
   | ok u l3 =>
     rw [hr] at h; rw [show needRf 123 ⟨l2, 0, []⟩ = ⟨l3, 0, []⟩ from h]; exact sim_mess _ _ w 0 [] [] l3 (by omega) (by simp)
theorem sim_sign (l : List UInt8) : Sim (if (eatP 45 l).1 = true then (numP 2147483648 (eatP 45 l).2).bind fun n l4 => PR.ok (-(n : Int)) l4 else (numP 2147483647 (eatP 45 l).2).bind fun n l4 => PR.ok (n : Int) l4) (signRf ⟨l, 0, []⟩) := by
 unfold signRf; rw [sim_eat]
 cases (eatP 45 l).1 with
 | true =>
   simp only [if_true]; have h := sim_num (m := 2147483648) (by decide) (eatP 45 l).2
   cases hr : numP 2147483648 (eatP 45 l).2 with
   | bad e l1 => rw [hr] at h; exact ⟨h.1, h.2⟩
   | ok n l4 =>
     rw [hr] at h; rw [show numRf 2147483648 ⟨(eatP 45 l).2, 0, []⟩ = (n, ⟨l4, 0, []⟩) from h]; rfl
 | false =>
   simp only [Bool.false_eq_true, if_false]; have h := sim_num (m := 2147483647) (by decide) (eatP 45 l).2
   cases hr : numP 2147483647 (eatP 45 l).2 with
   | bad e l1 => rw [hr] at h; exact ⟨h.1, h.2⟩
   | ok n l4 =>
     rw [hr] at h; rw [show numRf 2147483647 ⟨(eatP 45 l).2, 0, []⟩ = (n, ⟨l4, 0, []⟩) from h]; rfl
theorem sim_item (l : List UInt8) : Sim (itemP l) (itemRf ⟨l, 0, []⟩) := by
 have h := sim_word l; unfold itemP itemRf
 cases hr : wordP l with
 | bad e l1 => rw [hr] at h; exact sim_bad (r := wordP l) _ h.2 h.1 (((stuck_need _ _).trans (stuck_sign _)).trans (stuck_need _ _))
 | ok w l2 =>
   rw [hr] at h; rw [show wordRf ⟨l, 0, []⟩ = (w, ⟨l2, 0, []⟩) from h]; simp only [PR.bind_ok]; have h := sim_need 61 l2
   cases hr : mustP 61 l2 with
   | bad e l1 => rw [hr] at h; exact sim_bad (r := mustP 61 l2) _ h.2 h.1 ((stuck_sign _).trans (stuck_need _ _))
   | ok u l3 =>
     rw [hr] at h; rw [show needRf 61 ⟨l2, 0, []⟩ = ⟨l3, 0, []⟩ from h]; simp only [PR.bind_ok]; have h := sim_sign l3
     cases hr : (if (eatP 45 l3).1 = true then (numP 2147483648 (eatP 45 l3).2).bind fun n l4 => PR.ok (-(n : Int)) l4 else (numP 2147483647 (eatP 45 l3).2).bind fun n l4 => PR.ok (n : Int) l4) with
     | bad e l1 => rw [hr] at h; exact sim_bad (r := (PR.bad e l1 : PR Int)) _ h.2 h.1 (stuck_need _ _)
     | ok v l5 =>
       rw [hr] at h; rw [show signRf ⟨l3, 0, []⟩ = (v, ⟨l5, 0, []⟩) from h]; simp only [PR.bind_ok]; have h := sim_need 59 l5
       cases hr : mustP 59 l5 with
       | bad e l1 => rw [hr] at h; exact ⟨h.1, h.2⟩
       | ok u l6 =>
         rw [hr] at h; rw [show needRf 59 ⟨l5, 0, []⟩ = ⟨l6, 0, []⟩ from h]; rfl
theorem sim_items : ∀ (f g : Nat) (acc : List Itm) (l : List UInt8), l.length < f → l.length < g → Sim (itemsP f acc l) (itemsRf g acc ⟨l, 0, []⟩)
 | 0, _, _, l, h, _ => by omega
 | _ + 1, 0, _, l, _, h => by omega
 | f + 1, g + 1, acc, l, hf, hg => by
   rw [itemsP, itemsRf, sim_more]; have he := eat_len 125 l
   cases (eatP 125 l).1 with
   | true => rfl
   | false =>
     simp only [Bool.not_false, if_true]; have h := sim_item (eatP 125 l).2
     cases hr : itemP (eatP 125 l).2 with
     | bad e l1 =>
       rw [hr] at h; refine sim_bad (r := itemP (eatP 125 l).2) _ h.2 h.1 ?_; refine Stuck.trans ?_ (stuck_items _ _ _); split
       · exact stuck_stop _ _
       · exact Stuck.refl _
     | ok x l5 =>
       rw [hr] at h; rw [show itemRf ⟨(eatP 125 l).2, 0, []⟩ = (x, ⟨l5, 0, []⟩) from h]; have := (item_len hr).1; simp only [PR.bind_ok]
       by_cases hm : 16 < (acc ++ [x]).length
       · rw [if_pos hm, if_pos hm]; exact sim_bad (r := (PR.bad 5 l5 : PR (List Itm))) (q := stopRf 5 ⟨l5, 0, []⟩) _ ⟨rfl, rfl⟩ (by decide) (stuck_items _ _ _)
       · rw [if_neg hm, if_neg hm]; exact sim_items f g _ l5 (by omega) (by omega)
theorem sim_enum (l : List UInt8) : Sim (enumP l) (enumRf ⟨l, 0, []⟩) := by
 have h := sim_word l; unfold enumP enumRf
 cases hr : wordP l with
 | bad e l1 => rw [hr] at h; exact sim_bad (r := wordP l) _ h.2 h.1 ((stuck_need _ _).trans (stuck_items _ _ _))
 | ok w l2 =>
   rw [hr] at h; rw [show wordRf ⟨l, 0, []⟩ = (w, ⟨l2, 0, []⟩) from h]; simp only [PR.bind_ok]; have h := sim_need 123 l2
   cases hr : mustP 123 l2 with
   | bad e l1 => rw [hr] at h; exact sim_bad (r := mustP 123 l2) _ h.2 h.1 (stuck_items _ _ _)
   | ok u l3 =>
     rw [hr] at h; rw [show needRf 123 ⟨l2, 0, []⟩ = ⟨l3, 0, []⟩ from h]; simp only [PR.bind_ok]; have h := sim_items (l3.length + 1) (l3.length + 1) [] l3 (by omega) (by omega)
     cases hr : itemsP (l3.length + 1) [] l3 with
     | bad e l1 => rw [hr] at h; exact ⟨h.1, h.2⟩
     | ok is l4 =>
       rw [hr] at h; rw [show itemsRf (l3.length + 1) [] ⟨l3, 0, []⟩ = (is, ⟨l4, 0, []⟩) from h]; rfl
theorem stuck_top (l0 w : List UInt8) (F : Fil) (st : WSt) : Stuck st (topRf l0 w F st).2 := fun h => by unfold topRf; rw [if_pos h]; exact ⟨rfl, rfl⟩
theorem stuck_ten (p : Fil × WSt) : Stuck p.2 (tenRf p) := by
 unfold tenRf; split
 · exact stuck_stop _ _
 · exact Stuck.refl _
theorem stuck_file (f : Nat) (F : Fil) (st : WSt) : Stuck st (fileRf f F st).2 := fun h => by rw [file_noRf h]; exact ⟨rfl, rfl⟩
theorem sim_top (F : Fil) (l : List UInt8) : Sim (topP F l) (topRf l (wordRf ⟨l, 0, []⟩).1 F (wordRf ⟨l, 0, []⟩).2) := by
 have h := sim_word l; unfold topP
 cases hr : wordP l with
 | bad e l1 => rw [hr] at h; exact sim_bad (r := wordP l) _ h.2 h.1 (stuck_top _ _ _ _)
 | ok w l2 =>
   rw [hr] at h; rw [show wordRf ⟨l, 0, []⟩ = (w, ⟨l2, 0, []⟩) from h]; simp only [PR.bind_ok]; unfold topRf; rw [if_neg (show ¬ ((0 : Int) ≠ 0) by simp)]
   by_cases h1 : w = wMessage
   · rw [if_pos h1, if_pos h1]; have h := sim_message l2
     cases hr : messageP l2 with
     | bad e l1 => rw [hr] at h; exact ⟨h.1, h.2⟩
     | ok m l3 =>
       rw [hr] at h; rw [show messageRf ⟨l2, 0, []⟩ = (m, ⟨l3, 0, []⟩) from h]; rfl
   · rw [if_neg h1, if_neg h1]
     by_cases h2 : w = wEnum
     · rw [if_pos h2, if_pos h2]; have h := sim_enum l2
       cases hr : enumP l2 with
       | bad e l1 => rw [hr] at h; exact ⟨h.1, h.2⟩
       | ok m l3 =>
         rw [hr] at h; rw [show enumRf ⟨l2, 0, []⟩ = (m, ⟨l3, 0, []⟩) from h]; rfl
     · rw [if_neg h2, if_neg h2]; exact ⟨by decide, rfl, rfl⟩
theorem sim_file : ∀ (f g : Nat) (F : Fil) (l : List UInt8), l.length < f → l.length < g → Sim (fileP f F l) (fileRf g F ⟨skip l, 0, []⟩)
 | 0, _, _, l, h, _ => by omega
 | _ + 1, 0, _, l, _, h => by omega
 | f + 1, g + 1, F, l, hf, hg => by
   rw [fileP, fileRf]; have hs := skip_len l
   by_cases h0 : skip l = []
   · rw [if_pos h0, if_neg (fun h => h.2 h0), h0]; rfl
   · rw [if_neg h0, if_pos ⟨rfl, h0⟩]; have h := sim_top F (skip l)
     cases hr : topP F (skip l) with
     | bad e l1 => rw [hr] at h; exact sim_bad (r := topP F (skip l)) _ h.2 h.1 (((stuck_ten _).trans (stuck_blank _)).trans (stuck_file _ _ _))
     | ok F' l3 =>
       rw [hr] at h; rw [show topRf (WSt.mk (skip l) 0 []).l (wordRf ⟨skip l, 0, []⟩).1 F (wordRf ⟨skip l, 0, []⟩).2 = (F', ⟨l3, 0, []⟩) from h]; have := (top_len hr).1; simp only [PR.bind_ok]; unfold tenRf
       by_cases hm : 10 < F'.msgs.length + F'.enums.length
       · rw [if_pos hm, if_pos ⟨rfl, hm⟩]; exact sim_bad (r := (PR.bad 5 l3 : PR Fil)) (q := stopRf 5 ⟨l3, 0, []⟩) _ ⟨rfl, rfl⟩ (by decide) ((stuck_blank _).trans (stuck_file _ _ _))
       · rw [if_neg hm, if_neg (fun h => hm h.2)]; exact sim_file f g F' l3 (by omega) (by omega)
theorem fileR_parse (s : List UInt8) : fileR s = parseS s := by
 unfold fileR parseS; split
 · rfl
 · have h := sim_file (s.length + 1) (s.length + 1) ⟨[], []⟩ s (by omega) (by omega)
   cases hr : fileP (s.length + 1) ⟨[], []⟩ s with
   | ok F l =>
     rw [hr] at h; rw [show fileRf (s.length + 1) ⟨[], []⟩ ⟨skip s, 0, []⟩ = (F, ⟨l, 0, []⟩) from h]; rfl
   | bad e l =>
     rw [hr] at h; rw [if_pos (by rw [h.2.1]; exact h.1), h.2.1, h.2.2]
end Go.Proofs.YtbceapeoknngnaaDoor
