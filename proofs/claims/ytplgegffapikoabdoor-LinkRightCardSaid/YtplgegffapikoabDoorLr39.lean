/-
  A right file's text is read as the file.
-/
import Derived.Test.YtplgegffapikoabDoorLr27
import Derived.Test.YtplgegffapikoabDoorLr38
set_option linter.unusedVariables false
namespace Go.Proofs.YtplgegffapikoabDoor
/-! digits -/
theorem ofNat_digit {k : Nat} (h : k < 10) : (UInt8.ofNat (48 + k)).toNat = 48 + k := by
  rw [UInt8.toNat_ofNat']
  exact Nat.mod_eq_of_lt (by omega)
theorem dec_all (u : Nat) : ∀ c ∈ Lib.decDigits u, digitB c = true := by
  induction u using Nat.strongRecOn with
  | _ u ih =>
    intro c hc
    rw [Lib.decDigits] at hc
    split at hc
    · rename_i h
      rw [List.mem_singleton] at hc
      subst hc
      unfold digitB
      rw [ofNat_digit h, decide_eq_true_eq]
      omega
    · rename_i h
      rw [List.mem_append, List.mem_singleton] at hc
      rcases hc with hc | hc
      · exact ih _ (by omega) c hc
      · subst hc
        unfold digitB
        rw [ofNat_digit (Nat.mod_lt _ (by decide)), decide_eq_true_eq]
        omega
theorem dec_ne (u : Nat) : Lib.decDigits u ≠ [] := by
  rw [Lib.decDigits]
  split
  · simp
  · simp
theorem dec_val (u : Nat) : decV (Lib.decDigits u) = u := by
  induction u using Nat.strongRecOn with
  | _ u ih =>
    rw [Lib.decDigits]
    split
    · rename_i h
      unfold decV
      rw [List.foldl_cons, List.foldl_nil, ofNat_digit h]
      omega
    · rename_i h
      have := ih (u / 10) (by omega)
      unfold decV at this ⊢
      rw [List.foldl_append, this, List.foldl_cons, List.foldl_nil, ofNat_digit (Nat.mod_lt _ (by decide))]
      omega
theorem head_app {l m : List UInt8} (h : l ≠ []) : (l ++ m).head? = l.head? := by
  cases l with
  | nil => exact absurd rfl h
  | cons c r => rfl
theorem dec_head (u : Nat) : (Lib.decDigits u).head? = some 48 → (Lib.decDigits u).length = 1 := by
  induction u using Nat.strongRecOn with
  | _ u ih =>
    rw [Lib.decDigits]
    split
    · intro _; rfl
    · rename_i h
      intro hh
      rw [head_app (dec_ne _)] at hh
      have h1 := ih (u / 10) (by omega) hh
      have hv := dec_val (u / 10)
      cases hd : Lib.decDigits (u / 10) with
      | nil => exact absurd hd (dec_ne _)
      | cons c r =>
        rw [hd] at hh h1 hv
        simp only [List.head?_cons, Option.some.injEq] at hh
        subst hh
        have : r = [] := by
          cases r with
          | nil => rfl
          | cons _ _ => simp at h1
        subst this
        simp [decV] at hv
        omega
/-! what skip leaves -/
def solid (c : UInt8) : Prop := c ≠ 32 ∧ c ≠ 10 ∧ c ≠ 47
theorem skip_32 (l : List UInt8) : skip (32 :: l) = skip l := by rw [skip, skipL, if_pos (Or.inl rfl)]
theorem skip_10 (l : List UInt8) : skip (10 :: l) = skip l := by rw [skip, skipL, if_pos (Or.inr rfl)]
theorem skip_solid {c : UInt8} (h : solid c) (l : List UInt8) : skip (c :: l) = c :: l := by
  rw [skip, skipL, if_neg (fun e => e.elim h.1 h.2.1), if_neg (fun e => h.2.2 e.1)]
theorem letter_solid {c : UInt8} (h : letterB c = true) : solid c := by
  unfold letterB letterN at h
  rw [decide_eq_true_eq] at h
  refine ⟨?_, ?_, ?_⟩ <;> · rintro rfl; simp at h
theorem digit_solid {c : UInt8} (h : digitB c = true) : solid c := by
  unfold digitB at h
  rw [decide_eq_true_eq] at h
  refine ⟨?_, ?_, ?_⟩ <;> · rintro rfl; simp at h
theorem skip_skip : ∀ (l : List UInt8) (b : Bool), skip (skipL b l) = skipL b l
  | [], b => by simp [skipL]
  | c :: l, true => by
    rw [skipL]
    split
    · exact skip_skip l false
    · exact skip_skip l true
  | c :: l, false => by
    rw [skipL]
    split
    · exact skip_skip l false
    · rename_i h1
      split
      · exact skip_skip l true
      · rename_i h2
        rw [skip, skipL, if_neg h1, if_neg h2]
/-! a name -/
structure NameOk (w : List UInt8) : Prop where
  len : 0 < w.length ∧ w.length ≤ 16
  first : ∀ c, w.head? = some c → letterB c = true
  all : ∀ c ∈ w, moreB c = true
theorem NameOk.of (w : List UInt8) (h : named w = true) : NameOk w := by
  unfold named at h
  rw [Bool.and_eq_true, decide_eq_true_eq, List.all_eq_true] at h
  obtain ⟨h1, h2⟩ := h
  refine ⟨h1, ?_, ?_⟩
  · intro c hc
    cases w with
    | nil => cases hc
    | cons d r =>
      simp only [List.head?_cons, Option.some.injEq] at hc
      subst hc
      have := h2 0 (List.mem_range.2 (by simp))
      unfold partN at this
      rw [if_pos rfl] at this
      exact this
  · intro c hc
    obtain ⟨i, hi, rfl⟩ := List.getElem_of_mem hc
    have := h2 i (List.mem_range.2 hi)
    unfold partN at this
    have hg : w.getD i 0 = w[i] := by simp [List.getD, hi]
    rw [hg] at this
    split at this
    · unfold moreB moreN
      unfold letterN at this
      rw [decide_eq_true_eq] at this ⊢
      omega
    · exact this
theorem take_all {p : UInt8 → Bool} : ∀ (w : List UInt8) (r : List UInt8), (∀ c ∈ w, p c = true) → (∀ c, r.head? = some c → p c = false) → (w ++ r).takeWhile p = w
  | [], r, _, h => by
    cases r with
    | nil => rfl
    | cons c l => rw [List.nil_append, List.takeWhile_cons, h c rfl]; rfl
  | c :: w, r, hw, h => by
    rw [List.cons_append, List.takeWhile_cons, hw c List.mem_cons_self, if_pos rfl, take_all w r (fun d hd => hw d (List.mem_cons_of_mem _ hd)) h]
theorem cand_at {w r : List UInt8} (hw : NameOk w) (hr : ∀ c, r.head? = some c → moreB c = false) : candP (w ++ r) = w := by
  cases w with
  | nil => exact absurd hw.len.1 (by simp)
  | cons c m =>
    rw [List.cons_append, candP, if_pos (hw.first c rfl), ← List.cons_append]
    exact take_all _ r hw.all hr
theorem word_at {l w r : List UInt8} (hl : skip l = w ++ r) (hw : NameOk w) (hr : ∀ c, r.head? = some c → moreB c = false) : wordP l = .ok w r := by
  unfold wordP
  rw [hl, cand_at hw hr, if_neg, if_neg (by have := hw.len.2; omega), List.drop_left]
  intro e
  have := hw.len.1
  rw [e] at this
  exact absurd this (by simp)
theorem skip_name {w : List UInt8} (hw : NameOk w) (r : List UInt8) : skip (w ++ r) = w ++ r := by
  cases w with
  | nil => exact absurd hw.len.1 (by simp)
  | cons c m => exact skip_solid (letter_solid (hw.first c rfl)) _
theorem eat_at {l r : List UInt8} {c : UInt8} (hl : skip l = c :: r) : eatP c l = (true, r) := by
  unfold eatP
  rw [hl, List.head?_cons, if_pos rfl, List.tail_cons]
theorem eat_no {l r : List UInt8} {c d : UInt8} (hl : skip l = d :: r) (h : d ≠ c) : eatP c l = (false, d :: r) := by
  unfold eatP
  rw [hl, List.head?_cons, if_neg (fun e => h (by injection e))]
theorem eat_name {l w r : List UInt8} {c : UInt8} (hl : skip l = w ++ r) (hw : NameOk w) (h : letterB c = false) : eatP c l = (false, w ++ r) := by
  cases w with
  | nil => exact absurd hw.len.1 (by simp)
  | cons d m =>
    rw [List.cons_append] at hl ⊢
    exact eat_no hl (fun e => by rw [e] at hw; have := hw.first c rfl; rw [h] at this; cases this)
theorem must_at {l r : List UInt8} {c : UInt8} (hl : skip l = c :: r) : mustP c l = .ok () r := by
  unfold mustP
  rw [eat_at hl]
  rfl
theorem num_at {most n : Nat} {l r : List UInt8} (hl : skip l = Lib.decDigits n ++ r) (hr : ∀ c, r.head? = some c → digitB c = false) (h : n ≤ most) : numP most l = .ok n r := by
  unfold numP
  rw [hl, take_all _ r (dec_all n) hr, if_neg (dec_ne n), dec_val, if_neg, List.drop_left]
  rintro (h1 | ⟨h1, h2⟩)
  · omega
  · rw [head_app (dec_ne n)] at h1
    have := dec_head n h1
    omega
theorem skip_dec (n : Nat) (r : List UInt8) : skip (Lib.decDigits n ++ r) = Lib.decDigits n ++ r := by
  cases hd : Lib.decDigits n with
  | nil => exact absurd hd (dec_ne n)
  | cons c m =>
    have := dec_all n c (by rw [hd]; exact List.mem_cons_self)
    exact skip_solid (digit_solid this) _
/-! a field -/
/-- may it stand for a type? -/
def typeOk (t : List UInt8) : Prop := NameOk t ∧ t ∉ words ∧ t ≠ wRepeated ∧ t ≠ wReserved ∧ t ≠ wOneof
structure FldPr (x : Fld) : Prop where
  name : NameOk x.name
  num : 0 ≤ x.number ∧ x.number ≤ 536870911
  kind : (1 ≤ x.kind ∧ x.kind ≤ 9 ∧ x.kind ≠ 5 ∧ x.type = []) ∨ ((x.kind = 5 ∨ x.kind = 10) ∧ typeOk x.type)
  choice : 0 ≤ x.choice
  many : 0 < x.choice → x.many = false
/-- a field as it is read: a type is told by its name -/
def rawF (x : Fld) (c : Int) : Fld := ⟨x.name, x.number, if x.kind = 5 then 10 else x.kind, x.type, x.many, c⟩
theorem kindW_ok {x : Fld} (h : FldPr x) : NameOk (kindW x) ∧ kindW x ≠ wRepeated ∧ kindW x ≠ wReserved ∧ kindW x ≠ wOneof ∧ kindP (kindW x) = (if x.kind = 5 then 10 else x.kind, x.type) := by
  obtain ⟨name, number, kind, type, many, choice⟩ := x
  have hk := h.kind
  simp only at hk
  rcases hk with ⟨h1, h2, h3, h4⟩ | ⟨h1, h2⟩
  · subst h4
    have hw : kindW ⟨name, number, kind, [], many, choice⟩ = words.getD (kind - 1).toNat [] := by
      unfold kindW
      rw [if_pos ⟨h1, h2, h3⟩]
    rw [hw]
    have : kind = 1 ∨ kind = 2 ∨ kind = 3 ∨ kind = 4 ∨ kind = 6 ∨ kind = 7 ∨ kind = 8 ∨ kind = 9 := by omega
    rcases this with rfl | rfl | rfl | rfl | rfl | rfl | rfl | rfl <;>
      exact ⟨NameOk.of _ (by rfl), by decide, by decide, by decide, by rfl⟩
  · have hw : kindW ⟨name, number, kind, type, many, choice⟩ = type := by
      unfold kindW
      rw [if_neg]
      simp only
      rintro ⟨g1, g2, g3⟩
      rcases h1 with h1 | h1 <;> omega
    rw [hw]
    refine ⟨h2.1, h2.2.2.1, h2.2.2.2.1, h2.2.2.2.2, ?_⟩
    have hi : idxP (fun x => type == x) words = -1 := by
      refine idxP_none _ _ (fun j hj => ?_)
      rw [beq_eq_false_iff_ne]
      intro e
      exact h2.2.1 (by rw [e]; exact List.getElem_mem hj)
    unfold kindP
    rw [hi, if_neg (by decide)]
    rcases h1 with h1 | h1
    · subst h1; rfl
    · subst h1; rfl
theorem more_32 : moreB 32 = false := by decide
theorem head_cons {p : UInt8 → Bool} {d : UInt8} (h : p d = false) (r : List UInt8) : ∀ c, (d :: r).head? = some c → p c = false := by
  intro c hc
  rw [List.head?_cons] at hc
  injection hc with hc
  subst hc
  exact h
theorem line_at {x : Fld} (h : FldPr x) {c : Nat} (hc : c ≠ 0 → x.many = false) {l r : List UInt8} (hl : skip l = lineW x ++ r) : fieldP c l = .ok (rawF x c) (10 :: r) := by
  obtain ⟨hk, hk1, _, _, hk2⟩ := kindW_ok h
  have hsp : solid 61 := by unfold solid; decide
  have hsc : solid 59 := by unfold solid; decide
  have hnm : skip (x.name ++ (sEq ++ (Lib.itoa x.number ++ sEnd)) ++ r) = x.name ++ ((sEq ++ (Lib.itoa x.number ++ sEnd)) ++ r) := by
    rw [List.append_assoc]; exact skip_name h.name _
  have hit : Lib.itoa x.number = Lib.decDigits x.number.toNat := by unfold Lib.itoa; rw [if_neg (by have := h.num.1; omega)]
  have hhead : headP c l = .ok (x.many, kindW x) (32 :: (x.name ++ (sEq ++ (Lib.itoa x.number ++ sEnd)) ++ r)) := by
    unfold headP
    cases hm : x.many with
    | true =>
      have hc0 : c = 0 := by
        rcases Nat.eq_zero_or_pos c with h0 | h0
        · exact h0
        · rw [hc (by omega)] at hm; cases hm
      unfold lineW at hl
      rw [hm, if_pos rfl] at hl
      have e1 : wordP l = .ok wRepeated (32 :: (kindW x ++ (32 :: (x.name ++ (sEq ++ (Lib.itoa x.number ++ sEnd)))) ++ r)) := by
        refine word_at (w := wRepeated) ?_ (NameOk.of _ (by rfl)) (head_cons more_32 _)
        rw [hl]; rfl
      rw [e1, PR.bind_ok, if_pos ⟨rfl, hc0⟩]
      have e2 : wordP (32 :: (kindW x ++ (32 :: (x.name ++ (sEq ++ (Lib.itoa x.number ++ sEnd)))) ++ r)) = .ok (kindW x) (32 :: (x.name ++ (sEq ++ (Lib.itoa x.number ++ sEnd)) ++ r)) := by
        refine word_at (w := kindW x) ?_ hk (head_cons more_32 _)
        rw [skip_32, List.append_assoc]; exact skip_name hk _
      rw [e2]
      rfl
    | false =>
      unfold lineW at hl
      rw [hm, if_neg (by decide), List.nil_append] at hl
      have e1 : wordP l = .ok (kindW x) (32 :: (x.name ++ (sEq ++ (Lib.itoa x.number ++ sEnd)) ++ r)) := by
        refine word_at (w := kindW x) ?_ hk (head_cons more_32 _)
        rw [hl, List.append_assoc]; rfl
      rw [e1, PR.bind_ok, if_neg (fun e => hk1 e.1)]
  have e2 : wordP (32 :: (x.name ++ (sEq ++ (Lib.itoa x.number ++ sEnd)) ++ r)) = .ok x.name (32 :: 61 :: 32 :: (Lib.itoa x.number ++ sEnd ++ r)) := by
    refine word_at (w := x.name) ?_ h.name (head_cons more_32 _)
    rw [skip_32, hnm]; rfl
  have e3 : mustP 61 (32 :: 61 :: 32 :: (Lib.itoa x.number ++ sEnd ++ r)) = .ok () (32 :: (Lib.itoa x.number ++ sEnd ++ r)) := by
    refine must_at ?_
    rw [skip_32, skip_solid hsp]
  have e4 : numP 536870911 (32 :: (Lib.itoa x.number ++ sEnd ++ r)) = .ok x.number.toNat (59 :: 10 :: r) := by
    refine num_at ?_ (head_cons (by decide) _) (by have := h.num; omega)
    rw [skip_32, hit, List.append_assoc, skip_dec]; rfl
  have e5 : mustP 59 (59 :: 10 :: r) = .ok () (10 :: r) := must_at (skip_solid hsc _)
  unfold fieldP
  rw [hhead, PR.bind_ok, e2, PR.bind_ok, e3, PR.bind_ok, e4, PR.bind_ok, e5, PR.bind_ok, hk2]
  have : (x.number.toNat : Int) = x.number := by have := h.num.1; omega
  rw [this]
  rfl
end Go.Proofs.YtplgegffapikoabDoor
