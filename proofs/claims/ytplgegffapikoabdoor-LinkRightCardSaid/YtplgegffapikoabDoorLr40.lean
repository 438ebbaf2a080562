/-
  A right file's text is read as the file: messages, enums, the whole.
-/
import Derived.Test.YtplgegffapikoabDoorLr39
set_option linter.unusedVariables false
namespace Go.Proofs.YtplgegffapikoabDoor
theorem line_word {x : Fld} (h : FldPr x) (r : List UInt8) : ∃ w r', lineW x ++ r = w ++ (32 :: r') ∧ NameOk w ∧ w ≠ wReserved ∧ w ≠ wOneof := by
  obtain ⟨hk, _, hk2, hk3, _⟩ := kindW_ok h
  unfold lineW
  cases hm : x.many with
  | true =>
    rw [if_pos rfl]
    refine ⟨wRepeated, (kindW x ++ (32 :: (x.name ++ (sEq ++ (Lib.itoa x.number ++ sEnd))))) ++ r, ?_, NameOk.of _ (by rfl), by decide, by decide⟩
    rw [List.append_assoc]; rfl
  | false =>
    rw [if_neg (by decide), List.nil_append, List.append_assoc]
    exact ⟨kindW x, (x.name ++ (sEq ++ (Lib.itoa x.number ++ sEnd))) ++ r, rfl, hk, hk2, hk3⟩
theorem skip_line {x : Fld} (h : FldPr x) (r : List UInt8) : skip (lineW x ++ r) = lineW x ++ r := by
  obtain ⟨w, r', e, hw, _⟩ := line_word h r
  rw [e]; exact skip_name hw _
theorem eat_line {x : Fld} (h : FldPr x) {L r : List UInt8} (hL : skip L = lineW x ++ r) : eatP 125 L = (false, lineW x ++ r) := by
  obtain ⟨w, r', e, hw, _⟩ := line_word h r
  rw [e] at hL ⊢
  exact eat_name hL hw (by decide)
theorem fields_in {K : Int} {x : Fld} (hx : x.choice = K) (hK : 0 < K) (l : List Fld) : fieldsF K (x :: l) = 32 :: 32 :: 32 :: 32 :: (lineW x ++ ((if nextC l ≠ K then sShut2 else []) ++ fieldsF K l)) := by
  rw [fieldsF, if_neg (by omega), if_pos (by omega), hx]
  by_cases h : nextC l ≠ K
  · rw [if_pos ⟨hK, h⟩, if_pos h]; rfl
  · rw [if_neg (fun e => h e.2), if_neg h]; rfl
theorem choice_run (K : Int) (hK : 0 < K) (c : Nat) (hc : c ≠ 0) (tail : List UInt8) : ∀ (l : List Fld) (f : Nat) (acc : List Fld) (L : List UInt8), (∀ x ∈ l, FldPr x) → nextC l = K → skip L = skip (fieldsF K l ++ tail) → L.length < f →
    choiceP f c acc L = .ok (acc ++ (l.takeWhile (fun x => x.choice == K)).map (fun x => rawF x c)) (10 :: (fieldsF K (l.dropWhile (fun x => x.choice == K)) ++ tail))
  | [], _, _, _, _, h, _, _ => by rw [nextC] at h; omega
  | _ :: _, 0, _, _, _, _, _, h => absurd h (Nat.not_lt_zero _)
  | x :: l, f + 1, acc, L, hp, hn, hL, hf => by
    rw [nextC] at hn
    have hx := hp x List.mem_cons_self
    rw [fields_in hn hK, List.cons_append, List.cons_append, List.cons_append, List.cons_append, skip_32, skip_32, skip_32, skip_32, List.append_assoc, skip_line hx, List.append_assoc] at hL
    have he := eat_line hx hL
    have hfl := line_at hx (c := c) (fun _ => hx.many (by omega)) (skip_line hx (((if nextC l ≠ K then sShut2 else []) ++ (fieldsF K l ++ tail))))
    have hlen := eat_len 125 L
    rw [he] at hlen
    have h2 := field_len hfl
    simp only at hlen
    have hlt : (10 :: ((if nextC l ≠ K then sShut2 else []) ++ (fieldsF K l ++ tail))).length < f := by omega
    rw [choiceP, he]
    simp only [Bool.false_eq_true, if_false]
    rw [hfl, PR.bind_ok]
    have hxb : (x.choice == K) = true := by rw [beq_iff_eq]; exact hn
    rw [List.takeWhile_cons, List.dropWhile_cons, hxb, if_pos rfl, if_pos rfl, List.map_cons]
    by_cases hx2 : nextC l = K
    · rw [if_neg (fun e => e hx2), List.nil_append] at hlt ⊢
      rw [choice_run K hK c hc tail l f _ _ (fun y hy => hp y (List.mem_cons_of_mem _ hy)) hx2 (skip_10 _) hlt, List.append_assoc]
      rfl
    · rw [if_pos hx2] at hlt ⊢
      have ht : l.takeWhile (fun x => x.choice == K) = [] := by
        cases l with
        | nil => rfl
        | cons y m => rw [List.takeWhile_cons, if_neg]; rw [beq_iff_eq]; exact hx2
      have hd : l.dropWhile (fun x => x.choice == K) = l := by
        cases l with
        | nil => rfl
        | cons y m => rw [List.dropWhile_cons, if_neg]; rw [beq_iff_eq]; exact hx2
      rw [ht, hd]
      cases f with
      | zero => exact absurd hlt (Nat.not_lt_zero _)
      | succ f =>
        have h3 : eatP 125 (10 :: (sShut2 ++ (fieldsF K l ++ tail))) = (true, 10 :: (fieldsF K l ++ tail)) := by
          refine eat_at ?_
          rw [skip_10]
          show skip (32 :: 32 :: 125 :: 10 :: (fieldsF K l ++ tail)) = _
          rw [skip_32, skip_32, skip_solid (by unfold solid; decide)]
        rw [choiceP, h3]
        rfl
theorem numF_run (K c : Int) (hK : 0 < K) : ∀ l : List Fld, numF K c l = (l.takeWhile (fun x => x.choice == K)).map (fun x => { x with choice := c }) ++ numF K c (l.dropWhile (fun x => x.choice == K))
  | [] => rfl
  | x :: l => by
    rw [List.takeWhile_cons, List.dropWhile_cons]
    by_cases h : x.choice = K
    · rw [if_pos (by rw [beq_iff_eq]; exact h), if_pos (by rw [beq_iff_eq]; exact h), numF, if_pos (by omega), if_neg (by omega), h, numF_run K c hK l]
      rfl
    · rw [if_neg (by rw [beq_iff_eq]; exact h), if_neg (by rw [beq_iff_eq]; exact h)]
      rfl
def rawC (x : Fld) : Fld := rawF x x.choice
theorem mess_fields (nm : List UInt8) (bs : List Int) (hb : bs.length ≤ 16) (tail : List UInt8) : ∀ (n : Nat) (l : List Fld) (last : Int) (f c : Nat) (fs : List Fld) (L : List UInt8), l.length ≤ n → (∀ x ∈ l, FldPr x) → (0 < nextC l → nextC l ≠ last) → fs.length + l.length ≤ 16 → skip L = skip (fieldsF last l ++ 125 :: tail) → L.length < f →
    messP f nm c fs bs L = .ok ⟨nm, fs ++ (numF last c l).map rawC, bs⟩ tail
  | _, _, _, 0, _, _, _, _, _, _, _, _, h => absurd h (Nat.not_lt_zero _)
  | n, [], last, f + 1, c, fs, L, _, _, _, _, hL, _ => by
    have he : eatP 125 L = (true, tail) := by
      refine eat_at ?_
      rw [hL, fieldsF, List.nil_append, skip_solid (by unfold solid; decide)]
    rw [messP, he, if_pos rfl, numF, List.map_nil, List.append_nil]
  | 0, _ :: _, _, _, _, _, _, h, _, _, _, _, _ => absurd h (Nat.not_succ_le_zero _)
  | n + 1, x :: l, last, f + 1, c, fs, L, hn, hp, hbd, h16, hL, hf => by
    have hx := hp x List.mem_cons_self
    rw [nextC] at hbd
    rw [List.length_cons] at hn h16
    rcases Int.lt_or_eq_of_le hx.choice with hK | hK
    · -- a choice begins
      have hbd := hbd hK
      have et : fieldsF last (x :: l) = sOneof ++ fieldsF x.choice (x :: l) := by
        have hne : ¬ (0 < x.choice ∧ x.choice ≠ x.choice) := fun e => e.2 rfl
        rw [fieldsF, if_pos ⟨hK, hbd⟩, fieldsF, if_neg hne]
        rfl
      have hL2 : skip L = wOneof ++ (32 :: 123 :: 10 :: (fieldsF x.choice (x :: l) ++ 125 :: tail)) := by
        rw [hL, et, List.append_assoc]
        show skip (32 :: 32 :: (wOneof ++ (32 :: 123 :: 10 :: (fieldsF x.choice (x :: l) ++ 125 :: tail)))) = _
        rw [skip_32, skip_32]
        exact skip_name (NameOk.of _ (by rfl)) _
      have he := eat_name (c := 125) hL2 (NameOk.of _ (by rfl)) (by decide)
      have hw : wordP (wOneof ++ (32 :: 123 :: 10 :: (fieldsF x.choice (x :: l) ++ 125 :: tail))) = .ok wOneof (32 :: 123 :: 10 :: (fieldsF x.choice (x :: l) ++ 125 :: tail)) :=
        word_at (skip_name (NameOk.of _ (by rfl)) _) (NameOk.of _ (by rfl)) (head_cons more_32 _)
      have hm : mustP 123 (32 :: 123 :: 10 :: (fieldsF x.choice (x :: l) ++ 125 :: tail)) = .ok () (10 :: (fieldsF x.choice (x :: l) ++ 125 :: tail)) := by
        refine must_at ?_
        rw [skip_32, skip_solid (by unfold solid; decide)]
      have hch := choice_run x.choice hK (c + 1) (by omega) (125 :: tail) (x :: l) ((10 :: (fieldsF x.choice (x :: l) ++ 125 :: tail)).length + 1) fs (10 :: (fieldsF x.choice (x :: l) ++ 125 :: tail)) hp rfl (skip_10 _) (by omega)
      have hpt : partP c fs bs (wOneof ++ (32 :: 123 :: 10 :: (fieldsF x.choice (x :: l) ++ 125 :: tail))) = .ok (c + 1, fs ++ ((x :: l).takeWhile (fun y => y.choice == x.choice)).map (fun y => rawF y ((c + 1 : Nat) : Int)), bs) (10 :: (fieldsF x.choice ((x :: l).dropWhile (fun y => y.choice == x.choice)) ++ 125 :: tail)) := by
        unfold partP
        rw [hw, PR.bind_ok, if_neg (by decide), if_pos rfl, hm, PR.bind_ok, hch]
        rfl
      have h1 := part_len hpt
      have h2 := eat_len 125 L
      rw [he] at h2
      simp only at h2
      rw [messP, he]
      simp only [Bool.false_eq_true, if_false]
      rw [hpt, PR.bind_ok]
      have hsplit : ((x :: l).takeWhile (fun y => y.choice == x.choice)).length + ((x :: l).dropWhile (fun y => y.choice == x.choice)).length = l.length + 1 := by
        rw [← List.length_append, List.takeWhile_append_dropWhile, List.length_cons]
      have hpos : 0 < ((x :: l).takeWhile (fun y => y.choice == x.choice)).length := by
        rw [List.takeWhile_cons, if_pos (by simp)]
        simp
      have hdw : ∀ m : List Fld, 0 < nextC (m.dropWhile (fun y => y.choice == x.choice)) → nextC (m.dropWhile (fun y => y.choice == x.choice)) ≠ x.choice := by
        intro m
        induction m with
        | nil => intro h; rw [List.dropWhile_nil, nextC] at h; omega
        | cons y m ih =>
          rw [List.dropWhile_cons]
          by_cases hy : (y.choice == x.choice) = true
          · rw [if_pos hy]; exact ih
          · rw [if_neg hy, nextC]
            intro _ e
            exact hy (by rw [beq_iff_eq]; exact e)
      rw [if_neg (by simp only [List.length_append, List.length_map]; omega)]
      rw [mess_fields nm bs hb tail n ((x :: l).dropWhile (fun y => y.choice == x.choice)) x.choice f (c + 1) _ (10 :: (fieldsF x.choice ((x :: l).dropWhile (fun y => y.choice == x.choice)) ++ 125 :: tail)) (by omega) (fun y hy => hp y ((List.dropWhile_suffix _).subset hy)) (hdw _) (by simp only [List.length_append, List.length_map]; omega) (skip_10 _) (by omega)]
      have en : numF last c (x :: l) = numF x.choice ((c + 1 : Nat) : Int) (x :: l) := by
        rw [numF, if_pos hK, if_pos ⟨hK, hbd⟩, numF, if_pos hK, if_neg (fun e => e.2 rfl)]
        rfl
      rw [en, numF_run x.choice _ hK (x :: l), List.map_append, List.map_map, List.append_assoc]
      rfl
    · -- no choice
      have et : fieldsF last (x :: l) ++ 125 :: tail = 32 :: 32 :: (lineW x ++ (fieldsF 0 l ++ 125 :: tail)) := by
        rw [fieldsF, if_neg (by omega), if_neg (by omega), if_neg (by omega), ← hK]
        simp only [List.nil_append, List.append_assoc]
        rfl
      rw [et, skip_32, skip_32, skip_line hx] at hL
      have he := eat_line hx hL
      obtain ⟨w, r', ew, hw, hw1, hw2⟩ := line_word hx (fieldsF 0 l ++ 125 :: tail)
      have hwd : wordP (lineW x ++ (fieldsF 0 l ++ 125 :: tail)) = .ok w (32 :: r') := word_at (by rw [skip_line hx, ew]) hw (head_cons more_32 _)
      have hfl := line_at hx (c := 0) (fun e => absurd rfl e) (skip_line hx (fieldsF 0 l ++ 125 :: tail))
      have hpt : partP c fs bs (lineW x ++ (fieldsF 0 l ++ 125 :: tail)) = .ok (c, fs ++ [rawF x 0], bs) (10 :: (fieldsF 0 l ++ 125 :: tail)) := by
        unfold partP
        rw [hwd, PR.bind_ok, if_neg hw1, if_neg hw2, hfl]
        rfl
      have h1 := part_len hpt
      have h2 := eat_len 125 L
      rw [he] at h2
      simp only at h2
      rw [messP, he]
      simp only [Bool.false_eq_true, if_false]
      rw [hpt, PR.bind_ok, if_neg (by simp only [List.length_append, List.length_singleton]; omega)]
      rw [mess_fields nm bs hb tail n l 0 f c _ (10 :: (fieldsF 0 l ++ 125 :: tail)) (by omega) (fun y hy => hp y (List.mem_cons_of_mem _ hy)) (fun h => by omega) (by simp only [List.length_append, List.length_singleton]; omega) (skip_10 _) (by omega)]
      have en : numF last c (x :: l) = x :: numF 0 c l := by
        rw [numF, if_neg (by omega), if_neg (by omega), ← hK]
        obtain ⟨name, number, kind, type, many, choice⟩ := x
        simp only at hK
        subst hK
        rfl
      rw [en, List.map_cons, List.append_assoc]
      have : rawC x = rawF x 0 := by unfold rawC; rw [← hK]
      rw [this]
      rfl
/-! barred numbers -/
theorem nums_at (tail : List UInt8) : ∀ (l : List Int) (acc : List Int) (f : Nat) (L : List UInt8), (∀ n ∈ l, 0 ≤ n ∧ n ≤ 536870911) → skip L = skip (barF false l ++ 59 :: tail) → L.length < f → numsP f acc L = .ok (acc ++ l) (59 :: tail)
  | _, _, 0, _, _, _, h => absurd h (Nat.not_lt_zero _)
  | [], acc, f + 1, L, _, hL, _ => by
    have he : eatP 44 L = (false, 59 :: tail) := by
      refine eat_no (d := 59) ?_ (by decide)
      rw [hL, barF, List.nil_append, skip_solid (by unfold solid; decide)]
    rw [numsP, he, List.append_nil]
    rfl
  | n :: l, acc, f + 1, L, hr, hL, hf => by
    have hn := hr n List.mem_cons_self
    have hit : Lib.itoa n = Lib.decDigits n.toNat := by unfold Lib.itoa; rw [if_neg (by omega)]
    have et : barF false (n :: l) ++ 59 :: tail = 44 :: 32 :: (Lib.decDigits n.toNat ++ (barF false l ++ 59 :: tail)) := by
      rw [barF, hit]
      simp only [Bool.false_eq_true, if_false, List.append_assoc]
      rfl
    rw [et, skip_solid (by unfold solid; decide)] at hL
    have he := eat_at hL
    have hd : ∀ c, (barF false l ++ 59 :: tail).head? = some c → digitB c = false := by
      cases l with
      | nil => exact head_cons (by decide) _
      | cons m r => rw [barF]; exact head_cons (by decide) _
    have h1 : numP 536870911 (32 :: (Lib.decDigits n.toNat ++ (barF false l ++ 59 :: tail))) = .ok n.toNat (barF false l ++ 59 :: tail) :=
      num_at (by rw [skip_32, skip_dec]) hd (by omega)
    have h2 := num_len h1
    have h3 := eat_len 44 L
    rw [he] at h3
    simp only at h3
    rw [numsP, he]
    simp only [if_true]
    rw [h1, PR.bind_ok, nums_at tail l _ f _ (fun m hm => hr m (List.mem_cons_of_mem _ hm)) rfl (by omega), List.append_assoc]
    have : (n.toNat : Int) = n := by omega
    rw [this]
    rfl
structure MsgPr (m : Msg) : Prop where
  name : NameOk m.name
  fields : ∀ x ∈ m.fields, FldPr x
  flen : m.fields.length ≤ 16
  barred : ∀ n ∈ m.barred, 0 ≤ n ∧ n ≤ 536870911
  blen : m.barred.length ≤ 16
def readM (m : Msg) : Msg := ⟨m.name, (numF 0 0 m.fields).map rawC, m.barred⟩
theorem message_at {m : Msg} (h : MsgPr m) (tail : List UInt8) : messageP (32 :: (m.name ++ (sOpen ++ (barW m.barred ++ (fieldsF 0 m.fields ++ sShut))) ++ tail)) = .ok (readM m) (10 :: tail) := by
  have h0 : 32 :: (m.name ++ (sOpen ++ (barW m.barred ++ (fieldsF 0 m.fields ++ sShut))) ++ tail) = 32 :: (m.name ++ (32 :: 123 :: 10 :: (barW m.barred ++ (fieldsF 0 m.fields ++ 125 :: 10 :: tail)))) := by
    simp only [List.append_assoc]; rfl
  rw [h0]
  have h1 : wordP (32 :: (m.name ++ (32 :: 123 :: 10 :: (barW m.barred ++ (fieldsF 0 m.fields ++ 125 :: 10 :: tail))))) = .ok m.name (32 :: 123 :: 10 :: (barW m.barred ++ (fieldsF 0 m.fields ++ 125 :: 10 :: tail))) :=
    word_at (by rw [skip_32, skip_name h.name]) h.name (head_cons more_32 _)
  have h2 : mustP 123 (32 :: 123 :: 10 :: (barW m.barred ++ (fieldsF 0 m.fields ++ 125 :: 10 :: tail))) = .ok () (10 :: (barW m.barred ++ (fieldsF 0 m.fields ++ 125 :: 10 :: tail))) :=
    must_at (by rw [skip_32, skip_solid (by unfold solid; decide)])
  unfold messageP
  rw [h1, PR.bind_ok, h2, PR.bind_ok]
  cases hb : m.barred with
  | nil =>
    have := h.flen
    rw [mess_fields m.name [] (by simp) (10 :: tail) m.fields.length m.fields 0 _ 0 [] _ (Nat.le_refl _) h.fields (fun h => by omega) (by simp only [List.length_nil]; omega) (by rw [skip_10]; rfl) (by omega)]
    unfold readM
    rw [hb]
    rfl
  | cons n l =>
    have hbr := h.barred
    rw [hb] at hbr
    have hbl := h.blen
    rw [hb] at hbl
    have hn := hbr n List.mem_cons_self
    have hit : Lib.itoa n = Lib.decDigits n.toNat := by unfold Lib.itoa; rw [if_neg (by omega)]
    have et : barW (n :: l) ++ (fieldsF 0 m.fields ++ 125 :: 10 :: tail) = 32 :: 32 :: (wReserved ++ (32 :: (Lib.decDigits n.toNat ++ (barF false l ++ 59 :: 10 :: (fieldsF 0 m.fields ++ 125 :: 10 :: tail))))) := by
      unfold barW
      rw [barF, if_pos rfl, if_neg (by simp), hit]
      simp only [List.append_assoc]
      rfl
    rw [et]
    have hs : skip (10 :: 32 :: 32 :: (wReserved ++ (32 :: (Lib.decDigits n.toNat ++ (barF false l ++ 59 :: 10 :: (fieldsF 0 m.fields ++ 125 :: 10 :: tail)))))) = wReserved ++ (32 :: (Lib.decDigits n.toNat ++ (barF false l ++ 59 :: 10 :: (fieldsF 0 m.fields ++ 125 :: 10 :: tail)))) := by
      rw [skip_10, skip_32, skip_32]
      exact skip_name (NameOk.of _ (by rfl)) _
    have he := eat_name (c := 125) hs (NameOk.of _ (by rfl)) (by decide)
    have hw : wordP (wReserved ++ (32 :: (Lib.decDigits n.toNat ++ (barF false l ++ 59 :: 10 :: (fieldsF 0 m.fields ++ 125 :: 10 :: tail))))) = .ok wReserved (32 :: (Lib.decDigits n.toNat ++ (barF false l ++ 59 :: 10 :: (fieldsF 0 m.fields ++ 125 :: 10 :: tail)))) :=
      word_at (skip_name (NameOk.of _ (by rfl)) _) (NameOk.of _ (by rfl)) (head_cons more_32 _)
    have hd : ∀ c, (barF false l ++ 59 :: 10 :: (fieldsF 0 m.fields ++ 125 :: 10 :: tail)).head? = some c → digitB c = false := by
      cases l with
      | nil => exact head_cons (by decide) _
      | cons m r => rw [barF]; exact head_cons (by decide) _
    have hnum : numP 536870911 (32 :: (Lib.decDigits n.toNat ++ (barF false l ++ 59 :: 10 :: (fieldsF 0 m.fields ++ 125 :: 10 :: tail)))) = .ok n.toNat (barF false l ++ 59 :: 10 :: (fieldsF 0 m.fields ++ 125 :: 10 :: tail)) :=
      num_at (by rw [skip_32, skip_dec]) hd (by omega)
    have hns := nums_at (10 :: (fieldsF 0 m.fields ++ 125 :: 10 :: tail)) l ([] ++ [(n.toNat : Int)]) ((barF false l ++ 59 :: 10 :: (fieldsF 0 m.fields ++ 125 :: 10 :: tail)).length + 1) _ (fun m hm => hbr m (List.mem_cons_of_mem _ hm)) rfl (Nat.lt_succ_self _)
    have hmu : mustP 59 (59 :: 10 :: (fieldsF 0 m.fields ++ 125 :: 10 :: tail)) = .ok () (10 :: (fieldsF 0 m.fields ++ 125 :: 10 :: tail)) := must_at (skip_solid (by unfold solid; decide) _)
    have hpt : partP 0 [] [] (wReserved ++ (32 :: (Lib.decDigits n.toNat ++ (barF false l ++ 59 :: 10 :: (fieldsF 0 m.fields ++ 125 :: 10 :: tail))))) = .ok (0, [], n :: l) (10 :: (fieldsF 0 m.fields ++ 125 :: 10 :: tail)) := by
      unfold partP
      have : (n.toNat : Int) = n := by omega
      rw [hw, PR.bind_ok, if_pos rfl, hnum, PR.bind_ok, hns, PR.bind_ok, hmu, PR.bind_ok, this]
      rfl
    have hp1 := part_len hpt
    rw [messP, he]
    simp only [Bool.false_eq_true, if_false]
    rw [hpt, PR.bind_ok, if_neg (by simp only [List.length_nil]; omega)]
    have := h.flen
    rw [mess_fields m.name (n :: l) hbl (10 :: tail) m.fields.length m.fields 0 _ 0 [] _ (Nat.le_refl _) h.fields (fun h => by omega) (by simp only [List.length_nil]; omega) (by rw [skip_10]) (by simp only [List.length_cons] at hp1 ⊢; omega)]
    unfold readM
    rw [hb]
    rfl
/-! enums -/
structure EnuPr (e : Enu) : Prop where
  name : NameOk e.name
  items : ∀ x ∈ e.items, NameOk x.name ∧ -2147483648 ≤ x.value ∧ x.value ≤ 2147483647
  ilen : e.items.length ≤ 16
theorem item_at {x : Itm} (h : NameOk x.name ∧ -2147483648 ≤ x.value ∧ x.value ≤ 2147483647) {L r : List UInt8} (hL : skip L = x.name ++ (sEq ++ (Lib.itoa x.value ++ sEnd)) ++ r) : itemP L = .ok x (10 :: r) := by
  have h1 : wordP L = .ok x.name (32 :: 61 :: 32 :: (Lib.itoa x.value ++ 59 :: 10 :: r)) := by
    refine word_at ?_ h.1 (head_cons more_32 _)
    rw [hL]
    simp only [List.append_assoc]
    rfl
  have h2 : mustP 61 (32 :: 61 :: 32 :: (Lib.itoa x.value ++ 59 :: 10 :: r)) = .ok () (32 :: (Lib.itoa x.value ++ 59 :: 10 :: r)) :=
    must_at (by rw [skip_32, skip_solid (by unfold solid; decide)])
  have h3 : (if (eatP 45 (32 :: (Lib.itoa x.value ++ 59 :: 10 :: r))).1 then (numP 2147483648 (eatP 45 (32 :: (Lib.itoa x.value ++ 59 :: 10 :: r))).2).bind fun n l4 => .ok (-(n : Int)) l4 else (numP 2147483647 (eatP 45 (32 :: (Lib.itoa x.value ++ 59 :: 10 :: r))).2).bind fun n l4 => .ok (n : Int) l4) = .ok x.value (59 :: 10 :: r) := by
    by_cases hv : x.value < 0
    · have hit : Lib.itoa x.value = 45 :: Lib.decDigits x.value.natAbs := by unfold Lib.itoa; rw [if_pos hv]
      rw [hit, List.cons_append, eat_at (c := 45) (by rw [skip_32, skip_solid (by unfold solid; decide)])]
      simp only [if_true]
      rw [num_at (n := x.value.natAbs) (skip_dec _ _) (head_cons (by decide) _) (by omega), PR.bind_ok]
      congr 1
      omega
    · have hit : Lib.itoa x.value = Lib.decDigits x.value.toNat := by unfold Lib.itoa; rw [if_neg hv]
      have he : eatP 45 (32 :: (Lib.decDigits x.value.toNat ++ 59 :: 10 :: r)) = (false, Lib.decDigits x.value.toNat ++ 59 :: 10 :: r) := by
        have hs : skip (32 :: (Lib.decDigits x.value.toNat ++ 59 :: 10 :: r)) = Lib.decDigits x.value.toNat ++ 59 :: 10 :: r := by rw [skip_32, skip_dec]
        cases hd : Lib.decDigits x.value.toNat with
        | nil => exact absurd hd (dec_ne _)
        | cons c m =>
          rw [hd] at hs
          refine eat_no hs ?_
          rintro rfl
          have := dec_all x.value.toNat 45 (by rw [hd]; exact List.mem_cons_self)
          exact absurd this (by decide)
      rw [hit, he]
      simp only [Bool.false_eq_true, if_false]
      rw [num_at (n := x.value.toNat) (skip_dec _ _) (head_cons (by decide) _) (by omega), PR.bind_ok]
      congr 1
      omega
  have h4 : mustP 59 (59 :: 10 :: r) = .ok () (10 :: r) := must_at (skip_solid (by unfold solid; decide) _)
  unfold itemP
  rw [h1, PR.bind_ok, h2, PR.bind_ok, h3, PR.bind_ok, h4, PR.bind_ok]
theorem items_at (tail : List UInt8) : ∀ (l : List Itm) (acc : List Itm) (f : Nat) (L : List UInt8), (∀ x ∈ l, NameOk x.name ∧ -2147483648 ≤ x.value ∧ x.value ≤ 2147483647) → acc.length + l.length ≤ 16 → skip L = skip (l.flatMap itemW ++ 125 :: tail) → L.length < f → itemsP f acc L = .ok (acc ++ l) tail
  | _, _, 0, _, _, _, _, h => absurd h (Nat.not_lt_zero _)
  | [], acc, f + 1, L, _, _, hL, _ => by
    have he : eatP 125 L = (true, tail) := eat_at (by rw [hL, List.flatMap_nil, List.nil_append, skip_solid (by unfold solid; decide)])
    rw [itemsP, he, if_pos rfl, List.append_nil]
  | x :: l, acc, f + 1, L, hp, h16, hL, hf => by
    have hx := hp x List.mem_cons_self
    rw [List.length_cons] at h16
    have et : (x :: l).flatMap itemW ++ 125 :: tail = 32 :: 32 :: (x.name ++ ((sEq ++ (Lib.itoa x.value ++ sEnd)) ++ (l.flatMap itemW ++ 125 :: tail))) := by
      rw [List.flatMap_cons]
      unfold itemW
      simp only [List.append_assoc]
      rfl
    rw [et, skip_32, skip_32, skip_name hx.1] at hL
    have he := eat_name (c := 125) hL hx.1 (by decide)
    have hi := item_at hx (L := x.name ++ ((sEq ++ (Lib.itoa x.value ++ sEnd)) ++ (l.flatMap itemW ++ 125 :: tail))) (r := l.flatMap itemW ++ 125 :: tail) (by rw [skip_name hx.1]; simp only [List.append_assoc])
    have h1 := item_len hi
    have h2 := eat_len 125 L
    rw [he] at h2
    simp only at h2
    rw [itemsP, he]
    simp only [Bool.false_eq_true, if_false]
    rw [hi, PR.bind_ok, if_neg (by simp only [List.length_append, List.length_singleton]; omega), items_at tail l _ f _ (fun y hy => hp y (List.mem_cons_of_mem _ hy)) (by simp only [List.length_append, List.length_singleton]; omega) (skip_10 _) (by omega), List.append_assoc]
    rfl
theorem enum_at {e : Enu} (h : EnuPr e) (tail : List UInt8) : enumP (32 :: (e.name ++ (sOpen ++ (e.items.flatMap itemW ++ sShut)) ++ tail)) = .ok e (10 :: tail) := by
  have h0 : 32 :: (e.name ++ (sOpen ++ (e.items.flatMap itemW ++ sShut)) ++ tail) = 32 :: (e.name ++ (32 :: 123 :: 10 :: (e.items.flatMap itemW ++ 125 :: 10 :: tail))) := by
    simp only [List.append_assoc]; rfl
  rw [h0]
  have h1 : wordP (32 :: (e.name ++ (32 :: 123 :: 10 :: (e.items.flatMap itemW ++ 125 :: 10 :: tail)))) = .ok e.name (32 :: 123 :: 10 :: (e.items.flatMap itemW ++ 125 :: 10 :: tail)) :=
    word_at (by rw [skip_32, skip_name h.name]) h.name (head_cons more_32 _)
  have h2 : mustP 123 (32 :: 123 :: 10 :: (e.items.flatMap itemW ++ 125 :: 10 :: tail)) = .ok () (10 :: (e.items.flatMap itemW ++ 125 :: 10 :: tail)) :=
    must_at (by rw [skip_32, skip_solid (by unfold solid; decide)])
  have := h.ilen
  have h3 := items_at (10 :: tail) e.items [] ((10 :: (e.items.flatMap itemW ++ 125 :: 10 :: tail)).length + 1) (10 :: (e.items.flatMap itemW ++ 125 :: 10 :: tail)) h.items (by simp only [List.length_nil]; omega) (skip_10 _) (Nat.lt_succ_self _)
  unfold enumP
  rw [h1, PR.bind_ok, h2, PR.bind_ok, h3, PR.bind_ok]
  rfl
/-! the file -/
structure FilPr (F : Fil) : Prop where
  msgs : ∀ m ∈ F.msgs, MsgPr m
  enums : ∀ e ∈ F.enums, EnuPr e
  len : F.msgs.length + F.enums.length ≤ 10
theorem file_msgs (es : List Enu) : ∀ (l : List Msg) (ms : List Msg) (f : Nat) (L : List UInt8), (∀ m ∈ l, MsgPr m) → ms.length + l.length + es.length ≤ 10 → skip L = skip (l.flatMap messW) → L.length < f → fileP f ⟨ms, es⟩ L = .ok ⟨ms ++ l.map readM, es⟩ []
  | _, _, 0, _, _, _, _, h => absurd h (Nat.not_lt_zero _)
  | [], ms, f + 1, L, _, _, hL, _ => by
    rw [fileP, if_pos (by rw [hL]; rfl), List.map_nil, List.append_nil]
  | m :: l, ms, f + 1, L, hp, h10, hL, hf => by
    have hm := hp m List.mem_cons_self
    rw [List.length_cons] at h10
    have et : (m :: l).flatMap messW = wMessage ++ (32 :: (m.name ++ (sOpen ++ (barW m.barred ++ (fieldsF 0 m.fields ++ sShut))) ++ l.flatMap messW)) := by
      rw [List.flatMap_cons]
      unfold messW
      simp only [List.append_assoc]
      rfl
    rw [et, skip_name (NameOk.of _ (by rfl))] at hL
    have hw : wordP (wMessage ++ (32 :: (m.name ++ (sOpen ++ (barW m.barred ++ (fieldsF 0 m.fields ++ sShut))) ++ l.flatMap messW))) = .ok wMessage (32 :: (m.name ++ (sOpen ++ (barW m.barred ++ (fieldsF 0 m.fields ++ sShut))) ++ l.flatMap messW)) :=
      word_at (skip_name (NameOk.of _ (by rfl)) _) (NameOk.of _ (by rfl)) (head_cons more_32 _)
    have ht : topP ⟨ms, es⟩ (skip L) = .ok ⟨ms ++ [readM m], es⟩ (10 :: l.flatMap messW) := by
      unfold topP
      rw [hL, hw, PR.bind_ok, if_pos rfl, message_at hm]
      rfl
    have h1 := (top_len ht).1
    have h2 := skip_len L
    rw [fileP, if_neg (by rw [hL]; simp [wMessage]), ht, PR.bind_ok, if_neg (by simp only [List.length_append, List.length_singleton]; omega), file_msgs es l _ f _ (fun y hy => hp y (List.mem_cons_of_mem _ hy)) (by simp only [List.length_append, List.length_singleton]; omega) (skip_10 _) (by omega), List.map_cons, List.append_assoc]
    rfl
theorem file_enums (ml : List Msg) (hml : ∀ m ∈ ml, MsgPr m) : ∀ (l : List Enu) (es : List Enu) (f : Nat) (L : List UInt8), (∀ e ∈ l, EnuPr e) → ml.length + l.length + es.length ≤ 10 → skip L = skip (l.flatMap enumW ++ ml.flatMap messW) → L.length < f → fileP f ⟨[], es⟩ L = .ok ⟨ml.map readM, es ++ l⟩ []
  | [], es, f, L, _, h10, hL, hf => by
    rw [file_msgs es ml [] f L hml (by simp only [List.length_nil] at h10 ⊢; omega) hL hf, List.append_nil]
    rfl
  | _ :: _, _, 0, _, _, _, _, h => absurd h (Nat.not_lt_zero _)
  | e :: l, es, f + 1, L, hp, h10, hL, hf => by
    have he := hp e List.mem_cons_self
    rw [List.length_cons] at h10
    have et : (e :: l).flatMap enumW ++ ml.flatMap messW = wEnum ++ (32 :: (e.name ++ (sOpen ++ (e.items.flatMap itemW ++ sShut)) ++ (l.flatMap enumW ++ ml.flatMap messW))) := by
      rw [List.flatMap_cons]
      unfold enumW
      simp only [List.append_assoc]
      rfl
    rw [et, skip_name (NameOk.of _ (by rfl))] at hL
    have hw : wordP (wEnum ++ (32 :: (e.name ++ (sOpen ++ (e.items.flatMap itemW ++ sShut)) ++ (l.flatMap enumW ++ ml.flatMap messW)))) = .ok wEnum (32 :: (e.name ++ (sOpen ++ (e.items.flatMap itemW ++ sShut)) ++ (l.flatMap enumW ++ ml.flatMap messW))) :=
      word_at (skip_name (NameOk.of _ (by rfl)) _) (NameOk.of _ (by rfl)) (head_cons more_32 _)
    have ht : topP ⟨[], es⟩ (skip L) = .ok ⟨[], es ++ [e]⟩ (10 :: (l.flatMap enumW ++ ml.flatMap messW)) := by
      unfold topP
      rw [hL, hw, PR.bind_ok, if_neg (by decide), if_pos rfl, enum_at he]
      rfl
    have h1 := (top_len ht).1
    have h2 := skip_len L
    rw [fileP, if_neg (by rw [hL]; simp [wEnum]), ht, PR.bind_ok, if_neg (by simp only [List.length_append, List.length_singleton, List.length_nil]; omega), file_enums ml hml l _ f _ (fun y hy => hp y (List.mem_cons_of_mem _ hy)) (by simp only [List.length_append, List.length_singleton]; omega) (skip_10 _) (by omega), List.append_assoc]
    rfl
/-- A right file's text, if it is not too much, is read as the file, its choices numbered. -/
theorem parse_print {F : Fil} (h : FilPr F) (hl : (printP F).length ≤ 3000) : parseS (printP F) = (⟨F.msgs.map readM, F.enums⟩, 0, 0) := by
  have := h.len
  have e := file_enums F.msgs h.msgs F.enums [] ((printP F).length + 1) (printP F) h.enums (by simp only [List.length_nil]; omega) rfl (Nat.lt_succ_self _)
  exact parse_ok hl e
theorem parse_much {l : List UInt8} (h : 3000 < l.length) : parseS l = (⟨[], []⟩, 4, 0) := by
  unfold parseS; rw [if_pos h]
end Go.Proofs.YtplgegffapikoabDoor
