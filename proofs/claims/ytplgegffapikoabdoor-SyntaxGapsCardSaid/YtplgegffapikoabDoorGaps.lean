/-
  Notes and blanks are nothing: a text with a note behind each line is read as the text itself.
-/
import Derived.Test.YtplgegffapikoabDoorPars12
set_option linter.unusedVariables false
namespace Go.Proofs.YtplgegffapikoabDoor
/-- What stands for a sign: ahead of a line's end two blanks and a note. -/
def gap (note : List UInt8) (c : UInt8) : List UInt8 := if c = 10 then 32 :: 32 :: 47 :: 47 :: (note ++ [10]) else [c]
def gaps (note : List UInt8) (l : List UInt8) : List UInt8 := l.flatMap (gap note)
theorem gaps_nil (note : List UInt8) : gaps note [] = [] := rfl
theorem gaps_nl (note l : List UInt8) : gaps note (10 :: l) = 32 :: 32 :: 47 :: 47 :: (note ++ 10 :: gaps note l) := by simp [gaps, gap]
theorem gaps_cons (note : List UInt8) {c : UInt8} (h : c ≠ 10) (l : List UInt8) : gaps note (c :: l) = c :: gaps note l := by simp [gaps, gap, h]
theorem gaps_head (note : List UInt8) {l : List UInt8} (h : l.head? ≠ some 10) : (gaps note l).head? = l.head? := by
  cases l with
  | nil => rfl
  | cons c l => rw [gaps_cons note (fun e => h (by rw [e]; rfl))]; rfl
theorem gaps_tail (note : List UInt8) {l : List UInt8} (h : l.head? ≠ some 10) : (gaps note l).tail = gaps note l.tail := by
  cases l with
  | nil => rfl
  | cons c l => rw [gaps_cons note (fun e => h (by rw [e]; rfl))]; rfl
theorem gaps_ne (note : List UInt8) {l : List UInt8} (h : l ≠ []) : gaps note l ≠ [] := by
  cases l with
  | nil => exact absurd rfl h
  | cons c l =>
    by_cases hc : c = 10
    · subst hc; rw [gaps_nl]; simp
    · rw [gaps_cons note hc]; simp
theorem gaps_le (note : List UInt8) : ∀ l : List UInt8, l.length ≤ (gaps note l).length
  | [] => by simp [gaps_nil]
  | c :: l => by
    have := gaps_le note l
    by_cases hc : c = 10
    · subst hc; rw [gaps_nl]; simp; omega
    · rw [gaps_cons note hc]; simp; omega
theorem skip_note : ∀ (m l : List UInt8), (10 : UInt8) ∉ m → skipL true (m ++ 10 :: l) = skipL false l
  | [], l, _ => by rw [List.nil_append, skipL, if_pos rfl]
  | c :: m, l, h => by
    rw [List.cons_append, skipL, if_neg (fun e => h (by rw [e]; exact List.mem_cons_self))]
    exact skip_note m l (fun e => h (List.mem_cons_of_mem _ e))
theorem skip_nl (note l : List UInt8) (hn : (10 : UInt8) ∉ note) : skipL false (gaps note (10 :: l)) = skipL false (gaps note l) := by
  rw [gaps_nl, skipL, if_pos (Or.inl rfl), skipL, if_pos (Or.inl rfl), skipL, if_neg (by decide), if_pos ⟨rfl, rfl⟩, skipL, if_neg (by decide)]
  exact skip_note note _ hn
theorem skip_nl1 (note l : List UInt8) (hn : (10 : UInt8) ∉ note) : skipL true (gaps note (10 :: l)) = skipL false (gaps note l) := by
  rw [gaps_nl, skipL, if_neg (by decide), skipL, if_neg (by decide), skipL, if_neg (by decide), skipL, if_neg (by decide)]
  exact skip_note note _ hn
theorem skipL_gaps (note : List UInt8) (hn : (10 : UInt8) ∉ note) : ∀ (l : List UInt8) (b : Bool), skipL b (gaps note l) = gaps note (skipL b l)
  | [], b => by simp [gaps_nil, skipL]
  | c :: l, true => by
    by_cases hc : c = 10
    · subst hc
      rw [skip_nl1 note l hn, skipL, if_pos rfl, skipL_gaps note hn l false]
    · rw [gaps_cons note hc, skipL, if_neg hc, skipL, if_neg hc, skipL_gaps note hn l true]
  | c :: l, false => by
    by_cases hc : c = 10
    · subst hc
      rw [skip_nl note l hn, skipL, if_pos (Or.inr rfl), skipL_gaps note hn l false]
    · rw [gaps_cons note hc, skipL, skipL]
      by_cases h1 : c = 32
      · rw [if_pos (Or.inl h1), if_pos (Or.inl h1), skipL_gaps note hn l false]
      · have hor : ¬ (c = 32 ∨ c = 10) := fun e => e.elim h1 hc
        rw [if_neg hor, if_neg hor]
        have hh : (gaps note l).head? = some 47 ↔ l.head? = some 47 := by
          cases l with
          | nil => simp [gaps_nil]
          | cons d m =>
            by_cases hd : d = 10
            · subst hd; rw [gaps_nl]; simp
            · rw [gaps_cons note hd]; simp
        by_cases h2 : c = 47 ∧ l.head? = some 47
        · rw [if_pos h2, if_pos ⟨h2.1, hh.2 h2.2⟩, skipL_gaps note hn l true]
        · rw [if_neg h2, if_neg (fun e => h2 ⟨e.1, hh.1 e.2⟩), gaps_cons note hc]
theorem skipL_head : ∀ (l : List UInt8) (b : Bool), (skipL b l).head? ≠ some 10
  | [], b => by simp [skipL]
  | c :: l, true => by
    rw [skipL]
    split
    · exact skipL_head l false
    · exact skipL_head l true
  | c :: l, false => by
    rw [skipL]
    split
    · exact skipL_head l false
    · split
      · exact skipL_head l true
      · rename_i h _
        intro e
        simp only [List.head?_cons, Option.some.injEq] at e
        exact h (Or.inr e)
theorem take_gaps (note : List UInt8) {p : UInt8 → Bool} (h1 : p 10 = false) (h2 : p 32 = false) : ∀ l : List UInt8, (gaps note l).takeWhile p = l.takeWhile p
  | [] => rfl
  | c :: l => by
    by_cases hc : c = 10
    · subst hc
      rw [gaps_nl]
      simp [h1, h2]
    · rw [gaps_cons note hc, List.takeWhile_cons, List.takeWhile_cons, take_gaps note h1 h2 l]
theorem drop_gaps (note : List UInt8) {p : UInt8 → Bool} (h1 : p 10 = false) : ∀ l : List UInt8, (gaps note l).drop (l.takeWhile p).length = gaps note (l.drop (l.takeWhile p).length)
  | [] => rfl
  | c :: l => by
    by_cases hc : c = 10
    · subst hc
      simp [h1]
    · rw [List.takeWhile_cons]
      by_cases hp : p c = true
      · rw [if_pos hp, gaps_cons note hc, List.length_cons, List.drop_succ_cons, List.drop_succ_cons, drop_gaps note h1 l]
      · rw [if_neg hp]
        simp
/-- A step's outcome, its rest turned. -/
def PR.turn {α : Type} (g : List UInt8 → List UInt8) : PR α → PR α
  | .ok a l => .ok a (g l)
  | .bad e l => .bad e (g l)
theorem turn_bind {α β : Type} {g : List UInt8 → List UInt8} {r r' : PR α} {f f' : α → List UInt8 → PR β} (hr : r' = r.turn g) (h : ∀ a l, r = .ok a l → f' a (g l) = (f a l).turn g) : r'.bind f' = (r.bind f).turn g := by
  subst hr
  cases r with
  | ok a l => exact h a l rfl
  | bad e l => rfl
theorem turn_ok {α : Type} {g : List UInt8 → List UInt8} {r : PR α} {a : α} {l : List UInt8} (h : r = .ok a l) : r.turn g = .ok a (g l) := by rw [h]; rfl
section
variable (note : List UInt8) (hn : (10 : UInt8) ∉ note)
include hn
theorem skip_gaps (l : List UInt8) : skip (gaps note l) = gaps note (skip l) := skipL_gaps note hn l false
omit hn in
theorem cand_gaps (l : List UInt8) : candP (gaps note l) = candP l := by
  cases l with
  | nil => rfl
  | cons c l =>
    by_cases hc : c = 10
    · subst hc
      rw [gaps_nl]
      rfl
    · have h := take_gaps note (p := moreB) (by decide) (by decide) (c :: l)
      rw [gaps_cons note hc] at h ⊢
      rw [candP, candP, h]
omit hn in
theorem cand_drop (l : List UInt8) : (gaps note l).drop (candP l).length = gaps note (l.drop (candP l).length) := by
  cases l with
  | nil => rfl
  | cons c l =>
    rw [candP]
    split
    · exact drop_gaps note (by decide) _
    · simp
theorem word_gaps (l : List UInt8) : wordP (gaps note l) = (wordP l).turn (gaps note) := by
  unfold wordP
  rw [skip_gaps note hn, cand_gaps, cand_drop]
  split
  · rfl
  · split <;> rfl
theorem num_gaps (most : Nat) (l : List UInt8) : numP most (gaps note l) = (numP most l).turn (gaps note) := by
  unfold numP
  rw [skip_gaps note hn, take_gaps note (by decide) (by decide), drop_gaps note (by decide), gaps_head note (skipL_head _ _)]
  split
  · rfl
  · split <;> rfl
theorem eat_gaps (c : UInt8) (l : List UInt8) : eatP c (gaps note l) = ((eatP c l).1, gaps note (eatP c l).2) := by
  unfold eatP
  rw [skip_gaps note hn, gaps_head note (skipL_head _ _), gaps_tail note (skipL_head _ _)]
  split <;> rfl
theorem must_gaps (c : UInt8) (l : List UInt8) : mustP c (gaps note l) = (mustP c l).turn (gaps note) := by
  unfold mustP
  rw [eat_gaps note hn]
  split <;> rfl
theorem head_gaps (c : Nat) (l : List UInt8) : headP c (gaps note l) = (headP c l).turn (gaps note) := by
  unfold headP
  refine turn_bind (word_gaps note hn l) (fun w l1 _ => ?_)
  split
  · exact turn_bind (word_gaps note hn l1) (fun w2 l2 _ => rfl)
  · rfl
theorem field_gaps (c : Nat) (l : List UInt8) : fieldP c (gaps note l) = (fieldP c l).turn (gaps note) := by
  unfold fieldP
  refine turn_bind (head_gaps note hn c l) (fun mw l2 _ => ?_)
  refine turn_bind (word_gaps note hn l2) (fun nm l3 _ => ?_)
  refine turn_bind (must_gaps note hn _ l3) (fun _ l4 _ => ?_)
  refine turn_bind (num_gaps note hn _ l4) (fun n l5 _ => ?_)
  exact turn_bind (must_gaps note hn _ l5) (fun _ l6 _ => rfl)
theorem nums_gaps : ∀ (f f' : Nat) (acc : List Int) (l : List UInt8), l.length < f → (gaps note l).length < f' → numsP f' acc (gaps note l) = (numsP f acc l).turn (gaps note)
  | 0, _, _, _, h, _ => absurd h (Nat.not_lt_zero _)
  | _ + 1, 0, _, _, _, h => absurd h (Nat.not_lt_zero _)
  | f + 1, f' + 1, acc, l, h, h' => by
    have he := eat_gaps note hn 44 l
    have h1 := eat_len 44 l
    have h2 := eat_len 44 (gaps note l)
    rw [numsP, numsP, he]
    rw [he] at h2
    split
    · refine turn_bind (num_gaps note hn _ _) (fun n l2 e => ?_)
      have g1 := num_len e
      have e' := (num_gaps note hn 536870911 (eatP 44 l).2).trans (turn_ok e)
      have g2 := num_len e'
      exact nums_gaps f f' _ l2 (by omega) (by simp only at h2; omega)
    · rfl
theorem choice_gaps : ∀ (f f' c : Nat) (acc : List Fld) (l : List UInt8), l.length < f → (gaps note l).length < f' → choiceP f' c acc (gaps note l) = (choiceP f c acc l).turn (gaps note)
  | 0, _, _, _, _, h, _ => absurd h (Nat.not_lt_zero _)
  | _ + 1, 0, _, _, _, _, h => absurd h (Nat.not_lt_zero _)
  | f + 1, f' + 1, c, acc, l, h, h' => by
    have he := eat_gaps note hn 125 l
    have h1 := eat_len 125 l
    have h2 := eat_len 125 (gaps note l)
    rw [choiceP, choiceP, he]
    rw [he] at h2
    split
    · rfl
    · refine turn_bind (field_gaps note hn c _) (fun n l2 e => ?_)
      have g1 := field_len e
      have e' := (field_gaps note hn c (eatP 125 l).2).trans (turn_ok e)
      have g2 := field_len e'
      exact choice_gaps f f' c _ l2 (by omega) (by simp only at h2; omega)
theorem part_gaps (c : Nat) (fs : List Fld) (bs : List Int) (l : List UInt8) : partP c fs bs (gaps note l) = (partP c fs bs l).turn (gaps note) := by
  unfold partP
  refine turn_bind (word_gaps note hn l) (fun w l2 _ => ?_)
  split
  · refine turn_bind (num_gaps note hn _ l2) (fun n l3 _ => ?_)
    refine turn_bind (nums_gaps note hn _ _ _ l3 (by omega) (by omega)) (fun b l4 _ => ?_)
    exact turn_bind (must_gaps note hn _ l4) (fun _ l5 _ => rfl)
  · split
    · refine turn_bind (must_gaps note hn _ l2) (fun _ l3 _ => ?_)
      exact turn_bind (choice_gaps note hn _ _ _ _ l3 (by omega) (by omega)) (fun b l4 _ => rfl)
    · exact turn_bind (field_gaps note hn 0 l) (fun x l3 _ => rfl)
theorem mess_gaps : ∀ (f f' : Nat) (nm : List UInt8) (c : Nat) (fs : List Fld) (bs : List Int) (l : List UInt8), l.length < f → (gaps note l).length < f' → messP f' nm c fs bs (gaps note l) = (messP f nm c fs bs l).turn (gaps note)
  | 0, _, _, _, _, _, _, h, _ => absurd h (Nat.not_lt_zero _)
  | _ + 1, 0, _, _, _, _, _, _, h => absurd h (Nat.not_lt_zero _)
  | f + 1, f' + 1, nm, c, fs, bs, l, h, h' => by
    have he := eat_gaps note hn 125 l
    have h1 := eat_len 125 l
    have h2 := eat_len 125 (gaps note l)
    rw [messP, messP, he]
    rw [he] at h2
    split
    · rfl
    · refine turn_bind (part_gaps note hn c fs bs _) (fun t l2 e => ?_)
      have g1 := part_len e
      have e' := (part_gaps note hn c fs bs (eatP 125 l).2).trans (turn_ok e)
      have g2 := part_len e'
      split
      · rfl
      · exact mess_gaps f f' nm _ _ _ l2 (by omega) (by simp only at h2; omega)
theorem message_gaps (l : List UInt8) : messageP (gaps note l) = (messageP l).turn (gaps note) := by
  unfold messageP
  refine turn_bind (word_gaps note hn l) (fun nm l1 _ => ?_)
  refine turn_bind (must_gaps note hn _ l1) (fun _ l2 _ => ?_)
  exact mess_gaps note hn _ _ _ _ _ _ l2 (by omega) (by omega)
theorem item_gaps (l : List UInt8) : itemP (gaps note l) = (itemP l).turn (gaps note) := by
  unfold itemP
  refine turn_bind (word_gaps note hn l) (fun nm l2 _ => ?_)
  refine turn_bind (must_gaps note hn _ l2) (fun _ l3 _ => ?_)
  refine turn_bind ?_ (fun v l5 _ => turn_bind (must_gaps note hn _ l5) (fun _ l6 _ => rfl))
  rw [eat_gaps note hn]
  split
  · exact turn_bind (num_gaps note hn _ _) (fun n l4 _ => rfl)
  · exact turn_bind (num_gaps note hn _ _) (fun n l4 _ => rfl)
theorem items_gaps : ∀ (f f' : Nat) (acc : List Itm) (l : List UInt8), l.length < f → (gaps note l).length < f' → itemsP f' acc (gaps note l) = (itemsP f acc l).turn (gaps note)
  | 0, _, _, _, h, _ => absurd h (Nat.not_lt_zero _)
  | _ + 1, 0, _, _, _, h => absurd h (Nat.not_lt_zero _)
  | f + 1, f' + 1, acc, l, h, h' => by
    have he := eat_gaps note hn 125 l
    have h1 := eat_len 125 l
    have h2 := eat_len 125 (gaps note l)
    rw [itemsP, itemsP, he]
    rw [he] at h2
    split
    · rfl
    · refine turn_bind (item_gaps note hn _) (fun x l2 e => ?_)
      have g1 := item_len e
      have e' := (item_gaps note hn (eatP 125 l).2).trans (turn_ok e)
      have g2 := item_len e'
      split
      · rfl
      · exact items_gaps f f' _ l2 (by omega) (by simp only at h2; omega)
theorem enum_gaps (l : List UInt8) : enumP (gaps note l) = (enumP l).turn (gaps note) := by
  unfold enumP
  refine turn_bind (word_gaps note hn l) (fun nm l1 _ => ?_)
  refine turn_bind (must_gaps note hn _ l1) (fun _ l2 _ => ?_)
  exact turn_bind (items_gaps note hn _ _ _ l2 (by omega) (by omega)) (fun _ l3 _ => rfl)
theorem top_gaps (F : Fil) (l : List UInt8) : topP F (gaps note l) = (topP F l).turn (gaps note) := by
  unfold topP
  refine turn_bind (word_gaps note hn l) (fun w l2 _ => ?_)
  split
  · exact turn_bind (message_gaps note hn l2) (fun _ l3 _ => rfl)
  · split
    · exact turn_bind (enum_gaps note hn l2) (fun _ l3 _ => rfl)
    · rfl
theorem file_gaps : ∀ (f f' : Nat) (F : Fil) (l : List UInt8), l.length < f → (gaps note l).length < f' → fileP f' F (gaps note l) = (fileP f F l).turn (gaps note)
  | 0, _, _, _, h, _ => absurd h (Nat.not_lt_zero _)
  | _ + 1, 0, _, _, _, h => absurd h (Nat.not_lt_zero _)
  | f + 1, f' + 1, F, l, h, h' => by
    have h1 := skip_len l
    have h2 := skip_len (gaps note l)
    rw [fileP, fileP, skip_gaps note hn]
    rw [skip_gaps note hn] at h2
    by_cases h0 : skip l = []
    · rw [if_pos h0, h0, if_pos (gaps_nil note)]
      rfl
    · rw [if_neg h0, if_neg (gaps_ne note h0)]
      refine turn_bind (top_gaps note hn F _) (fun F' l3 e => ?_)
      have g1 := top_len e
      have e' := (top_gaps note hn F (skip l)).trans (turn_ok e)
      have g2 := top_len e'
      split
      · rfl
      · exact file_gaps f f' F' l3 (by omega) (by omega)
/-- A text that is a file is that with notes, too. -/
theorem parse_gaps {s : List UInt8} (h : (parseS s).2.1 = 0) (hl : (gaps note s).length ≤ 3000) : (parseS (gaps note s)).1 = (parseS s).1 ∧ (parseS (gaps note s)).2.1 = 0 := by
  have hle := gaps_le note s
  have e := file_gaps note hn (s.length + 1) ((gaps note s).length + 1) ⟨[], []⟩ s (by omega) (by omega)
  unfold parseS at h ⊢
  rw [if_neg (by omega)] at h ⊢
  rw [if_neg (by omega), e]
  cases hf : fileP (s.length + 1) ⟨[], []⟩ s with
  | ok F l => exact ⟨rfl, rfl⟩
  | bad er l =>
    rw [hf] at h
    exact ⟨rfl, h⟩
end
end Go.Proofs.YtplgegffapikoabDoor
