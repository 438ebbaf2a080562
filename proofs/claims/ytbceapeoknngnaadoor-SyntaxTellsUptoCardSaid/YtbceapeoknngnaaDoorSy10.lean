/-
  The document's parser in plain Lean: it goes on behind a fault, and keeps the first one.
-/
import Derived.Test.YtbceapeoknngnaaDoorSy09
set_option linter.unusedVariables false
namespace Go.Proofs.YtbceapeoknngnaaDoor
structure WSt where
 l : List UInt8
 e : Int
 b : List UInt8
deriving DecidableEq
def stopRf (e : Int) (st : WSt) : WSt := if st.e = 0 then ⟨st.l, e, st.l⟩ else st
def blankRf (st : WSt) : WSt := ⟨skip st.l, st.e, st.b⟩
def onRf (c : UInt8) (st : WSt) : Bool × WSt := if st.e ≠ 0 then (false, st) else (decide ((skip st.l).head? = some c), blankRf st)
def eatRf (c : UInt8) (st : WSt) : Bool × WSt := if (onRf c st).1 = true then (true, ⟨(onRf c st).2.l.tail, (onRf c st).2.e, (onRf c st).2.b⟩) else (false, (onRf c st).2)
def needRf (c : UInt8) (st : WSt) : WSt := if (eatRf c st).1 = true then (eatRf c st).2 else stopRf 2 (eatRf c st).2
def wordRf (st : WSt) : List UInt8 × WSt :=
 if st.e ≠ 0 then ([], st)
 else if candP (skip st.l) = [] then ([], stopRf 2 (blankRf st))
 else if 16 < (candP (skip st.l)).length then (candP (skip st.l), stopRf 7 (blankRf st))
 else (candP (skip st.l), ⟨(skip st.l).drop (candP (skip st.l)).length, st.e, st.b⟩)
def capV (d : List UInt8) : Nat := d.foldl (fun n c => if n < 10000000000 then 10 * n + (c.toNat - 48) else n) 0
def numRf (most : Nat) (st : WSt) : Nat × WSt :=
 if st.e ≠ 0 then (0, st)
 else if (skip st.l).takeWhile digitB = [] then (capV ((skip st.l).takeWhile digitB), stopRf 2 (blankRf st))
 else if most < capV ((skip st.l).takeWhile digitB) ∨ (skip st.l).head? = some 48 ∧ 1 < ((skip st.l).takeWhile digitB).length then (capV ((skip st.l).takeWhile digitB), stopRf 3 (blankRf st))
 else (capV ((skip st.l).takeWhile digitB), ⟨(skip st.l).drop ((skip st.l).takeWhile digitB).length, st.e, st.b⟩)
def headRf (w : List UInt8) (choice : Nat) (st : WSt) : (Bool × List UInt8) × WSt := if w = wRepeated ∧ choice = 0 then ((true, (wordRf st).1), (wordRf st).2) else ((false, w), st)
def fieldRf (w : List UInt8) (choice : Nat) (st : WSt) : Fld × WSt :=
 (⟨(wordRf (headRf w choice st).2).1, (numRf 536870911 (needRf 61 (wordRf (headRf w choice st).2).2)).1, (kindP (headRf w choice st).1.2).1, (kindP (headRf w choice st).1.2).2, (headRf w choice st).1.1, choice⟩,
   needRf 59 (numRf 536870911 (needRf 61 (wordRf (headRf w choice st).2).2)).2)
def numsRf : Nat → List Int → WSt → List Int × WSt
 | 0, acc, st => (acc, st)
 | f + 1, acc, st => if (eatRf 44 st).1 = true then numsRf f (acc ++ [((numRf 536870911 (eatRf 44 st).2).1 : Int)]) (numRf 536870911 (eatRf 44 st).2).2 else (acc, (eatRf 44 st).2)
def moreRf (st : WSt) : Bool × WSt := if st.e ≠ 0 then (false, st) else (!(eatRf 125 st).1, (eatRf 125 st).2)
def choiceRf : Nat → Nat → List Fld → WSt → List Fld × WSt
 | 0, _, acc, st => (acc, st)
 | f + 1, c, acc, st => if (moreRf st).1 = true then choiceRf f c (acc ++ [(fieldRf (wordRf (moreRf st).2).1 c (wordRf (moreRf st).2).2).1]) (fieldRf (wordRf (moreRf st).2).1 c (wordRf (moreRf st).2).2).2 else (acc, (moreRf st).2)
def partRf (w : List UInt8) (choice : Nat) (fs : List Fld) (bs : List Int) (st : WSt) : (Nat × List Fld × List Int) × WSt :=
 if w = wReserved then
   ((choice, fs, (numsRf ((numRf 536870911 st).2.l.length + 1) (bs ++ [((numRf 536870911 st).1 : Int)]) (numRf 536870911 st).2).1), needRf 59 (numsRf ((numRf 536870911 st).2.l.length + 1) (bs ++ [((numRf 536870911 st).1 : Int)]) (numRf 536870911 st).2).2)
 else if w = wOneof then ((choice + 1, (choiceRf ((needRf 123 st).l.length + 1) (choice + 1) fs (needRf 123 st)).1, bs), (choiceRf ((needRf 123 st).l.length + 1) (choice + 1) fs (needRf 123 st)).2)
 else ((choice, fs ++ [(fieldRf w 0 st).1], bs), (fieldRf w 0 st).2)
def manyRf (t : (Nat × List Fld × List Int) × WSt) : WSt := if 16 < t.1.2.1.length ∨ 16 < t.1.2.2.length then stopRf 5 t.2 else t.2
def messRf : Nat → List UInt8 → Nat → List Fld → List Int → WSt → Msg × WSt
 | 0, nm, _, fs, bs, st => (⟨nm, fs, bs⟩, st)
 | f + 1, nm, choice, fs, bs, st => if (moreRf st).1 = true then
     messRf f nm (partRf (wordRf (moreRf st).2).1 choice fs bs (wordRf (moreRf st).2).2).1.1 (partRf (wordRf (moreRf st).2).1 choice fs bs (wordRf (moreRf st).2).2).1.2.1 (partRf (wordRf (moreRf st).2).1 choice fs bs (wordRf (moreRf st).2).2).1.2.2 (manyRf (partRf (wordRf (moreRf st).2).1 choice fs bs (wordRf (moreRf st).2).2))
   else (⟨nm, fs, bs⟩, (moreRf st).2)
def messageRf (st : WSt) : Msg × WSt := messRf ((needRf 123 (wordRf st).2).l.length + 1) (wordRf st).1 0 [] [] (needRf 123 (wordRf st).2)
def signRf (st : WSt) : Int × WSt := if (eatRf 45 st).1 = true then (-((numRf 2147483648 (eatRf 45 st).2).1 : Int), (numRf 2147483648 (eatRf 45 st).2).2) else (((numRf 2147483647 (eatRf 45 st).2).1 : Int), (numRf 2147483647 (eatRf 45 st).2).2)
def itemRf (st : WSt) : Itm × WSt := (⟨(wordRf st).1, (signRf (needRf 61 (wordRf st).2)).1⟩, needRf 59 (signRf (needRf 61 (wordRf st).2)).2)
def itemsRf : Nat → List Itm → WSt → List Itm × WSt
 | 0, acc, st => (acc, st)
 | f + 1, acc, st => if (moreRf st).1 = true then itemsRf f (acc ++ [(itemRf (moreRf st).2).1]) (if 16 < (acc ++ [(itemRf (moreRf st).2).1]).length then stopRf 5 (itemRf (moreRf st).2).2 else (itemRf (moreRf st).2).2) else (acc, (moreRf st).2)
def enumRf (st : WSt) : Enu × WSt := (⟨(wordRf st).1, (itemsRf ((needRf 123 (wordRf st).2).l.length + 1) [] (needRf 123 (wordRf st).2)).1⟩, (itemsRf ((needRf 123 (wordRf st).2).l.length + 1) [] (needRf 123 (wordRf st).2)).2)
def topRf (l0 w : List UInt8) (F : Fil) (st : WSt) : Fil × WSt :=
 if st.e ≠ 0 then (F, st)
 else if w = wMessage then (⟨F.msgs ++ [(messageRf st).1], F.enums⟩, (messageRf st).2)
 else if w = wEnum then (⟨F.msgs, F.enums ++ [(enumRf st).1]⟩, (enumRf st).2)
 else (F, stopRf 2 ⟨l0, st.e, st.b⟩)
def tenRf (p : Fil × WSt) : WSt := if p.2.e = 0 ∧ 10 < p.1.msgs.length + p.1.enums.length then stopRf 5 p.2 else p.2
def fileRf : Nat → Fil → WSt → Fil × WSt
 | 0, F, st => (F, st)
 | f + 1, F, st => if st.e = 0 ∧ st.l ≠ [] then fileRf f (topRf st.l (wordRf st).1 F (wordRf st).2).1 (blankRf (tenRf (topRf st.l (wordRf st).1 F (wordRf st).2))) else (F, st)
def fileR (s : List UInt8) : Fil × Int × Nat :=
 if 3000 < s.length then (⟨[], []⟩, 4, 0)
 else if (fileRf (s.length + 1) ⟨[], []⟩ ⟨skip s, 0, []⟩).2.e ≠ 0 then (⟨[], []⟩, (fileRf (s.length + 1) ⟨[], []⟩ ⟨skip s, 0, []⟩).2.e, s.length - (fileRf (s.length + 1) ⟨[], []⟩ ⟨skip s, 0, []⟩).2.b.length)
 else ((fileRf (s.length + 1) ⟨[], []⟩ ⟨skip s, 0, []⟩).1, 0, 0)
def Stuck (st st' : WSt) : Prop := st.e ≠ 0 → st'.e = st.e ∧ st'.b = st.b
theorem Stuck.refl (st : WSt) : Stuck st st := fun _ => ⟨rfl, rfl⟩
theorem Stuck.trans {a b c : WSt} (h : Stuck a b) (k : Stuck b c) : Stuck a c := fun e => by
 obtain ⟨h1, h2⟩ := h e; obtain ⟨k1, k2⟩ := k (by rw [h1]; exact e); exact ⟨k1.trans h1, k2.trans h2⟩
theorem stuck_stop (e : Int) (st : WSt) : Stuck st (stopRf e st) := fun h => by unfold stopRf; rw [if_neg h]; exact ⟨rfl, rfl⟩
theorem stuck_blank (st : WSt) : Stuck st (blankRf st) := fun h => ⟨rfl, rfl⟩
theorem on_noRf {c : UInt8} {st : WSt} (h : st.e ≠ 0) : onRf c st = (false, st) := by unfold onRf; rw [if_pos h]
theorem eat_noRf {c : UInt8} {st : WSt} (h : st.e ≠ 0) : eatRf c st = (false, st) := by unfold eatRf; rw [on_noRf h]; rfl
theorem stuck_eat (c : UInt8) (st : WSt) : Stuck st (eatRf c st).2 := fun h => by rw [eat_noRf h]; exact ⟨rfl, rfl⟩
theorem need_noRf {c : UInt8} {st : WSt} (h : st.e ≠ 0) : needRf c st = st := by unfold needRf stopRf; rw [eat_noRf h]; simp [h]
theorem stuck_need (c : UInt8) (st : WSt) : Stuck st (needRf c st) := fun h => by rw [need_noRf h]; exact ⟨rfl, rfl⟩
theorem word_noRf {st : WSt} (h : st.e ≠ 0) : wordRf st = ([], st) := by unfold wordRf; rw [if_pos h]
theorem stuck_word (st : WSt) : Stuck st (wordRf st).2 := fun h => by rw [word_noRf h]; exact ⟨rfl, rfl⟩
theorem num_noRf {m : Nat} {st : WSt} (h : st.e ≠ 0) : numRf m st = (0, st) := by unfold numRf; rw [if_pos h]
theorem stuck_num (m : Nat) (st : WSt) : Stuck st (numRf m st).2 := fun h => by rw [num_noRf h]; exact ⟨rfl, rfl⟩
theorem stuck_head (w : List UInt8) (c : Nat) (st : WSt) : Stuck st (headRf w c st).2 := by
 unfold headRf; split
 · exact stuck_word st
 · exact Stuck.refl st
theorem stuck_field (w : List UInt8) (c : Nat) (st : WSt) : Stuck st (fieldRf w c st).2 :=
 ((((stuck_head w c st).trans (stuck_word _)).trans (stuck_need _ _)).trans (stuck_num _ _)).trans (stuck_need _ _)
theorem stuck_nums : ∀ (f : Nat) (acc : List Int) (st : WSt), Stuck st (numsRf f acc st).2
 | 0, acc, st => Stuck.refl st
 | f + 1, acc, st => by
   rw [numsRf]; split
   · exact ((stuck_eat 44 st).trans (stuck_num _ _)).trans (stuck_nums f _ _)
   · exact stuck_eat 44 st
theorem more_noRf {st : WSt} (h : st.e ≠ 0) : moreRf st = (false, st) := by unfold moreRf; rw [if_pos h]
theorem choice_noRf {c : Nat} {acc : List Fld} {st : WSt} (h : st.e ≠ 0) : ∀ f, choiceRf f c acc st = (acc, st)
 | 0 => rfl
 | f + 1 => by rw [choiceRf, more_noRf h]; rfl
theorem stuck_choice (f c : Nat) (acc : List Fld) (st : WSt) : Stuck st (choiceRf f c acc st).2 := fun h => by rw [choice_noRf h]; exact ⟨rfl, rfl⟩
theorem stuck_part (w : List UInt8) (c : Nat) (fs : List Fld) (bs : List Int) (st : WSt) : Stuck st (partRf w c fs bs st).2 := by
 unfold partRf; split
 · exact ((stuck_num _ st).trans (stuck_nums _ _ _)).trans (stuck_need _ _)
 · split
   · exact (stuck_need _ st).trans (stuck_choice _ _ _ _)
   · exact stuck_field _ _ _
theorem mess_noRf {nm : List UInt8} {c : Nat} {fs : List Fld} {bs : List Int} {st : WSt} (h : st.e ≠ 0) : ∀ f, messRf f nm c fs bs st = (⟨nm, fs, bs⟩, st)
 | 0 => rfl
 | f + 1 => by rw [messRf, more_noRf h]; rfl
theorem stuck_mess (f : Nat) (nm : List UInt8) (c : Nat) (fs : List Fld) (bs : List Int) (st : WSt) : Stuck st (messRf f nm c fs bs st).2 := fun h => by rw [mess_noRf h]; exact ⟨rfl, rfl⟩
theorem stuck_sign (st : WSt) : Stuck st (signRf st).2 := by
 unfold signRf; split
 · exact (stuck_eat 45 st).trans (stuck_num _ _)
 · exact (stuck_eat 45 st).trans (stuck_num _ _)
theorem items_noRf {acc : List Itm} {st : WSt} (h : st.e ≠ 0) : ∀ f, itemsRf f acc st = (acc, st)
 | 0 => rfl
 | f + 1 => by rw [itemsRf, more_noRf h]; rfl
theorem stuck_items (f : Nat) (acc : List Itm) (st : WSt) : Stuck st (itemsRf f acc st).2 := fun h => by rw [items_noRf h]; exact ⟨rfl, rfl⟩
theorem file_noRf {F : Fil} {st : WSt} (h : st.e ≠ 0) : ∀ f, fileRf f F st = (F, st)
 | 0 => rfl
 | f + 1 => by rw [fileRf, if_neg (fun g => h g.1)]
theorem cap_fold (d : List UInt8) : ∀ a b : Nat, (a = b ∨ 10000000000 ≤ a ∧ 10000000000 ≤ b) → (d.foldl (fun n c => if n < 10000000000 then 10 * n + (c.toNat - 48) else n) a = d.foldl (fun n c => 10 * n + (c.toNat - 48)) b ∨ 10000000000 ≤ d.foldl (fun n c => if n < 10000000000 then 10 * n + (c.toNat - 48) else n) a ∧ 10000000000 ≤ d.foldl (fun n c => 10 * n + (c.toNat - 48)) b) := by
 induction d with
 | nil => exact fun a b h => h
 | cons c d ih =>
   intro a b h; rw [List.foldl_cons, List.foldl_cons]; refine ih _ _ ?_
   by_cases ha : a < 10000000000
   · rw [if_pos ha]; rcases h with rfl | h
     · exact .inl rfl
     · omega
   · rw [if_neg ha]; right; rcases h with rfl | h
     · omega
     · omega
theorem cap_dec (d : List UInt8) : capV d = decV d ∨ 10000000000 ≤ capV d ∧ 10000000000 ≤ decV d := cap_fold d 0 0 (.inl rfl)
theorem cap_bd : ∀ (d : List UInt8) (a : Nat), a < 100000000300 → d.foldl (fun n c => if n < 10000000000 then 10 * n + (c.toNat - 48) else n) a < 100000000300
 | [], a, h => h
 | c :: d, a, h => by
   rw [List.foldl_cons]; refine cap_bd d _ ?_; have := c.toNat_lt; split <;> omega
theorem cap_lt (d : List UInt8) : capV d < 100000000300 := cap_bd d 0 (by decide)
theorem num_le {m : Nat} {st : WSt} : (numRf m st).1 < 100000000300 := by
 unfold numRf; split
 · exact (by decide : (0 : Nat) < 100000000300)
 · split
   · exact cap_lt _
   · split
     · exact cap_lt _
     · exact cap_lt _
end Go.Proofs.YtbceapeoknngnaaDoor
