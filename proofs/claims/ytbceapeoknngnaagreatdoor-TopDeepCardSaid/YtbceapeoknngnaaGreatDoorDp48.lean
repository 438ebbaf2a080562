/-
  A right file's text is read as the file.
  A right file's text is read as the file: messages, enums, the whole.
  What is read is right, so it is printed and read again; choices numbered once more are the same.
-/
import Derived.Test.YtbceapeoknngnaaGreatDoorDp38
import Derived.Lib.ItoaNum
import Derived.Test.YtbceapeoknngnaaGreatDoorDp45
set_option linter.unusedVariables false
namespace Go.Proofs.YtbceapeoknngnaaGreatDoor
structure NameOk (w : List UInt8) : Prop where
  len : 0 < w.length ∧ w.length ≤ 16
  first : ∀ c, w.head? = some c → letterB c = true
  all : ∀ c ∈ w, moreB c = true
theorem NameOk.of (w : List UInt8) (h : named w = true) : NameOk w := by
  unfold named at h
  rw [Bool.and_eq_true, decide_eq_true_eq, List.all_eq_true] at h
  obtain ⟨h1, h2⟩ := h
  refine ⟨h1, ?_, ?_⟩
  · intro c hc
    cases w with
    | nil => cases hc
    | cons d r =>
      simp only [List.head?_cons, Option.some.injEq] at hc
      subst hc
      have := h2 0 (List.mem_range.2 (by simp))
      unfold partN at this
      rw [if_pos rfl] at this
      exact this
  · intro c hc
    obtain ⟨i, hi, rfl⟩ := List.getElem_of_mem hc
    have := h2 i (List.mem_range.2 hi)
    unfold partN at this
    have hg : w.getD i 0 = w[i] := by simp [List.getD, hi]
    rw [hg] at this
    split at this
    · unfold moreB moreN
      unfold letterN at this
      rw [decide_eq_true_eq] at this ⊢
      omega
    · exact this
def typeOk (t : List UInt8) : Prop := NameOk t ∧ t ∉ words ∧ t ≠ wRepeated ∧ t ≠ wReserved ∧ t ≠ wOneof
structure FldPr (x : Fld) : Prop where
  name : NameOk x.name
  num : 0 ≤ x.number ∧ x.number ≤ 536870911
  kind : (1 ≤ x.kind ∧ x.kind ≤ 9 ∧ x.kind ≠ 5 ∧ x.type = []) ∨ ((x.kind = 5 ∨ x.kind = 10) ∧ typeOk x.type)
  choice : 0 ≤ x.choice
  many : 0 < x.choice → x.many = false
end Go.Proofs.YtbceapeoknngnaaGreatDoor
set_option linter.unusedVariables false
namespace Go.Proofs.YtbceapeoknngnaaGreatDoor
structure MsgPr (m : Msg) : Prop where
  name : NameOk m.name
  fields : ∀ x ∈ m.fields, FldPr x
  flen : m.fields.length ≤ 16
  barred : ∀ n ∈ m.barred, 0 ≤ n ∧ n ≤ 536870911
  blen : m.barred.length ≤ 16
structure EnuPr (e : Enu) : Prop where
  name : NameOk e.name
  items : ∀ x ∈ e.items, NameOk x.name ∧ -2147483648 ≤ x.value ∧ x.value ≤ 2147483647
  ilen : e.items.length ≤ 16
structure FilPr (F : Fil) : Prop where
  msgs : ∀ m ∈ F.msgs, MsgPr m
  enums : ∀ e ∈ F.enums, EnuPr e
  len : F.msgs.length + F.enums.length ≤ 10
end Go.Proofs.YtbceapeoknngnaaGreatDoor
set_option linter.unusedVariables false
namespace Go.Proofs.YtbceapeoknngnaaGreatDoor
theorem take_mem {p : UInt8 → Bool} : ∀ (l : List UInt8) (c : UInt8), c ∈ l.takeWhile p → p c = true
  | [], _, h => by cases h
  | d :: l, c, h => by
    rw [List.takeWhile_cons] at h
    split at h
    · rename_i hd
      rcases List.mem_cons.1 h with rfl | h
      · exact hd
      · exact take_mem l c h
    · cases h
theorem word_name {l w l' : List UInt8} (h : wordP l = .ok w l') : NameOk w := by
  have hl := word_len h
  unfold wordP at h
  split at h
  · cases h
  · split at h
    · cases h
    · injection h with h2 _
      refine ⟨by omega, ?_, ?_⟩
      · intro c hc
        cases hs : skip l with
        | nil => rw [hs] at h2; subst h2; cases hc
        | cons d r =>
          rw [hs, candP] at h2
          split at h2
          · rename_i hd
            rw [List.takeWhile_cons] at h2
            split at h2
            · subst h2
              simp only [List.head?_cons, Option.some.injEq] at hc
              subst hc; exact hd
            · subst h2; cases hc
          · subst h2; cases hc
      · intro c hc
        cases hs : skip l with
        | nil => rw [hs] at h2; subst h2; cases hc
        | cons d r =>
          rw [hs, candP] at h2
          split at h2
          · rw [← h2] at hc
            exact take_mem _ _ hc
          · subst h2; cases hc
theorem idxP_spec {α : Type} (p : α → Bool) : ∀ l : List α, (idxP p l = -1 ∧ ∀ a ∈ l, p a = false) ∨ ∃ i : Nat, ∃ h : i < l.length, idxP p l = i ∧ p l[i] = true
  | [] => .inl ⟨rfl, fun _ h => by cases h⟩
  | a :: l => by
    rw [idxP]
    by_cases ha : p a = true
    · rw [if_pos ha]
      exact .inr ⟨0, by simp, rfl, ha⟩
    · rw [if_neg ha]
      rcases idxP_spec p l with ⟨h1, h2⟩ | ⟨i, hi, h1, h2⟩
      · rw [h1, if_pos (by decide)]
        refine .inl ⟨rfl, fun b hb => ?_⟩
        rcases List.mem_cons.1 hb with rfl | hb
        · simpa using ha
        · exact h2 b hb
      · rw [h1, if_neg (by omega)]
        exact .inr ⟨i + 1, by simp; omega, by omega, by simpa using h2⟩
theorem kind_raw {w : List UInt8} (hw : NameOk w) : (1 ≤ (kindP w).1 ∧ (kindP w).1 ≤ 9 ∧ (kindP w).1 ≠ 5 ∧ (kindP w).2 = []) ∨ ((kindP w).1 = 10 ∧ (kindP w).2 = w ∧ w ∉ words) := by
  unfold kindP
  rcases idxP_spec (fun x => w == x) words with ⟨h1, h2⟩ | ⟨i, hi, h1, h2⟩
  · rw [h1, if_neg (by decide)]
    refine .inr ⟨rfl, rfl, fun h => ?_⟩
    have := h2 w h
    simp at this
  · rw [h1, if_pos (by omega)]
    refine .inl ⟨by simp only; omega, ?_, ?_, rfl⟩
    · have : i < 9 := hi
      simp only; omega
    · intro e
      have : i = 4 := by simp only at e; omega
      subst this
      rw [beq_iff_eq] at h2
      have h3 := hw.len.1
      rw [show w = [] from h2] at h3
      exact absurd h3 (by decide)
structure FldRaw (x : Fld) : Prop where
  name : NameOk x.name
  num : 0 ≤ x.number ∧ x.number ≤ 536870911
  kind : (1 ≤ x.kind ∧ x.kind ≤ 9 ∧ x.kind ≠ 5 ∧ x.type = []) ∨ (x.kind = 10 ∧ NameOk x.type ∧ x.type ∉ words)
  choice : 0 ≤ x.choice
  many : 0 < x.choice → x.many = false
theorem head_raw {c : Nat} {l l' : List UInt8} {p : Bool × List UInt8} (h : headP c l = .ok p l') : NameOk p.2 ∧ (0 < c → p.1 = false) := by
  unfold headP at h
  obtain ⟨w, l1, h1, h2⟩ := bind_ok_of h
  split at h2
  · rename_i hc
    obtain ⟨w2, l2, h3, h4⟩ := bind_ok_of h2
    injection h4 with h5 _
    subst h5
    exact ⟨word_name h3, fun e => by have := hc.2; omega⟩
  · injection h2 with h5 _
    subst h5
    exact ⟨word_name h1, fun _ => rfl⟩
theorem field_raw {c : Nat} {l l' : List UInt8} {x : Fld} (h : fieldP c l = .ok x l') : FldRaw x := by
  have hl := field_len h
  unfold fieldP at h
  obtain ⟨mw, l2, h1, h⟩ := bind_ok_of h
  obtain ⟨nm, l3, h2, h⟩ := bind_ok_of h
  obtain ⟨u, l4, h3, h⟩ := bind_ok_of h
  obtain ⟨n, l5, h4, h⟩ := bind_ok_of h
  obtain ⟨u2, l6, h5, h⟩ := bind_ok_of h
  injection h with h6 _
  have g1 := head_raw h1
  have g2 := word_name h2
  have g4 := num_lenP h4
  have g6 := kind_raw g1.1
  subst h6
  refine ⟨g2, ⟨by simp only; omega, by simp only; omega⟩, ?_, by simp only; omega, fun e => g1.2 (by simp only at e; omega)⟩
  rcases g6 with g | ⟨ga, gb, gc⟩
  · exact .inl g
  · refine .inr ⟨ga, ?_, ?_⟩
    · simp only; rw [gb]; exact g1.1
    · simp only; rw [gb]; exact gc
theorem nums_raw : ∀ (f : Nat) (acc : List Int) (l : List UInt8) (r : List Int) (l' : List UInt8), numsP f acc l = .ok r l' → (∀ n ∈ acc, 0 ≤ n ∧ n ≤ 536870911) → ∀ n ∈ r, 0 ≤ n ∧ n ≤ 536870911
  | 0, _, _, _, _, h, _ => by cases h
  | f + 1, acc, l, r, l', h, hp => by
    rw [numsP] at h
    split at h
    · obtain ⟨n, l2, h1, h2⟩ := bind_ok_of h
      have := num_lenP h1
      refine nums_raw f _ _ _ _ h2 ?_
      intro m hm
      rcases List.mem_append.1 hm with hm | hm
      · exact hp m hm
      · rw [List.mem_singleton] at hm
        subst hm; omega
    · injection h with h1 _
      subst h1; exact hp
theorem choice_raw : ∀ (f c : Nat) (acc : List Fld) (l : List UInt8) (r : List Fld) (l' : List UInt8), choiceP f c acc l = .ok r l' → (∀ x ∈ acc, FldRaw x) → ∀ x ∈ r, FldRaw x
  | 0, _, _, _, _, _, h, _ => by cases h
  | f + 1, c, acc, l, r, l', h, hp => by
    rw [choiceP] at h
    split at h
    · injection h with h1 _
      subst h1; exact hp
    · obtain ⟨n, l2, h1, h2⟩ := bind_ok_of h
      refine choice_raw f c _ _ _ _ h2 ?_
      intro m hm
      rcases List.mem_append.1 hm with hm | hm
      · exact hp m hm
      · rw [List.mem_singleton] at hm
        subst hm; exact field_raw h1
theorem part_raw {c : Nat} {fs : List Fld} {bs : List Int} {l l' : List UInt8} {t : Nat × List Fld × List Int} (h : partP c fs bs l = .ok t l') (hf : ∀ x ∈ fs, FldRaw x) (hb : ∀ n ∈ bs, 0 ≤ n ∧ n ≤ 536870911) :
    (∀ x ∈ t.2.1, FldRaw x) ∧ ∀ n ∈ t.2.2, 0 ≤ n ∧ n ≤ 536870911 := by
  unfold partP at h
  obtain ⟨w, l2, h1, h⟩ := bind_ok_of h
  split at h
  · obtain ⟨n, l3, h2, h⟩ := bind_ok_of h
    obtain ⟨b, l4, h3, h⟩ := bind_ok_of h
    obtain ⟨u, l5, h4, h⟩ := bind_ok_of h
    injection h with h5 _
    subst h5
    have := num_lenP h2
    refine ⟨hf, nums_raw _ _ _ _ _ h3 ?_⟩
    intro m hm
    rcases List.mem_append.1 hm with hm | hm
    · exact hb m hm
    · rw [List.mem_singleton] at hm
      subst hm; omega
  · split at h
    · obtain ⟨u, l3, h2, h⟩ := bind_ok_of h
      obtain ⟨b, l4, h3, h⟩ := bind_ok_of h
      injection h with h5 _
      subst h5
      exact ⟨choice_raw _ _ _ _ _ _ h3 hf, hb⟩
    · obtain ⟨x, l3, h2, h⟩ := bind_ok_of h
      injection h with h5 _
      subst h5
      refine ⟨?_, hb⟩
      intro m hm
      rcases List.mem_append.1 hm with hm | hm
      · exact hf m hm
      · rw [List.mem_singleton] at hm
        subst hm; exact field_raw h2
structure MsgRaw (m : Msg) : Prop where
  name : NameOk m.name
  fields : ∀ x ∈ m.fields, FldRaw x
  flen : m.fields.length ≤ 16
  barred : ∀ n ∈ m.barred, 0 ≤ n ∧ n ≤ 536870911
  blen : m.barred.length ≤ 16
theorem mess_raw : ∀ (f : Nat) (nm : List UInt8) (c : Nat) (fs : List Fld) (bs : List Int) (l : List UInt8) (m : Msg) (l' : List UInt8), messP f nm c fs bs l = .ok m l' → NameOk nm → (∀ x ∈ fs, FldRaw x) → (∀ n ∈ bs, 0 ≤ n ∧ n ≤ 536870911) → fs.length ≤ 16 → bs.length ≤ 16 → MsgRaw m
  | 0, _, _, _, _, _, _, _, h, _, _, _, _, _ => by cases h
  | f + 1, nm, c, fs, bs, l, m, l', h, hn, hf, hb, hfl, hbl => by
    rw [messP] at h
    split at h
    · injection h with h1 _
      subst h1
      exact ⟨hn, hf, hfl, hb, hbl⟩
    · obtain ⟨t, l2, h1, h2⟩ := bind_ok_of h
      obtain ⟨g1, g2⟩ := part_raw h1 hf hb
      split at h2
      · cases h2
      · rename_i hle
        exact mess_raw f nm _ _ _ _ _ _ h2 hn g1 g2 (by omega) (by omega)
theorem message_raw {l l' : List UInt8} {m : Msg} (h : messageP l = .ok m l') : MsgRaw m := by
  unfold messageP at h
  obtain ⟨nm, l1, h1, h⟩ := bind_ok_of h
  obtain ⟨u, l2, h2, h⟩ := bind_ok_of h
  exact mess_raw _ _ _ _ _ _ _ _ h (word_name h1) (fun _ e => absurd e List.not_mem_nil) (fun _ e => absurd e List.not_mem_nil) (Nat.zero_le _) (Nat.zero_le _)
theorem item_raw {l l' : List UInt8} {x : Itm} (h : itemP l = .ok x l') : NameOk x.name ∧ -2147483648 ≤ x.value ∧ x.value ≤ 2147483647 := by
  have hl := item_len h
  unfold itemP at h
  obtain ⟨nm, l2, h1, h⟩ := bind_ok_of h
  obtain ⟨u, l3, h2, h⟩ := bind_ok_of h
  obtain ⟨v, l5, h3, h⟩ := bind_ok_of h
  obtain ⟨u2, l6, h4, h⟩ := bind_ok_of h
  injection h with h6 _
  have := word_name h1
  subst h6
  exact ⟨this, hl.2.2⟩
theorem items_raw : ∀ (f : Nat) (acc : List Itm) (l : List UInt8) (r : List Itm) (l' : List UInt8), itemsP f acc l = .ok r l' → (∀ x ∈ acc, NameOk x.name ∧ -2147483648 ≤ x.value ∧ x.value ≤ 2147483647) → acc.length ≤ 16 → (∀ x ∈ r, NameOk x.name ∧ -2147483648 ≤ x.value ∧ x.value ≤ 2147483647) ∧ r.length ≤ 16
  | 0, _, _, _, _, h, _, _ => by cases h
  | f + 1, acc, l, r, l', h, hp, hl => by
    rw [itemsP] at h
    split at h
    · injection h with h1 _
      subst h1; exact ⟨hp, hl⟩
    · obtain ⟨x, l2, h1, h2⟩ := bind_ok_of h
      split at h2
      · cases h2
      · rename_i hle
        refine items_raw f _ _ _ _ h2 ?_ (by omega)
        intro m hm
        rcases List.mem_append.1 hm with hm | hm
        · exact hp m hm
        · rw [List.mem_singleton] at hm
          subst hm; exact item_raw h1
theorem enum_raw {l l' : List UInt8} {e : Enu} (h : enumP l = .ok e l') : EnuPr e := by
  unfold enumP at h
  obtain ⟨nm, l1, h1, h⟩ := bind_ok_of h
  obtain ⟨u, l2, h2, h⟩ := bind_ok_of h
  obtain ⟨is, l3, h3, h⟩ := bind_ok_of h
  injection h with h4 _
  subst h4
  obtain ⟨g1, g2⟩ := items_raw _ _ _ _ _ h3 (fun _ e => absurd e List.not_mem_nil) (Nat.zero_le _)
  exact ⟨word_name h1, g1, g2⟩
structure FilRaw (F : Fil) : Prop where
  msgs : ∀ m ∈ F.msgs, MsgRaw m
  enums : ∀ e ∈ F.enums, EnuPr e
  len : F.msgs.length + F.enums.length ≤ 10
theorem file_raw : ∀ (f : Nat) (F : Fil) (l : List UInt8) (F' : Fil) (l' : List UInt8), fileP f F l = .ok F' l' → FilRaw F → FilRaw F'
  | 0, _, _, _, _, h, _ => by cases h
  | f + 1, F, l, F', l', h, hF => by
    rw [fileP] at h
    split at h
    · injection h with h1 _
      subst h1; exact hF
    · obtain ⟨G, l3, h1, h2⟩ := bind_ok_of h
      split at h2
      · cases h2
      · rename_i hle
        refine file_raw f G l3 F' l' h2 ?_
        unfold topP at h1
        obtain ⟨w, l2, h3, h1⟩ := bind_ok_of h1
        split at h1
        · obtain ⟨m, l4, h4, h1⟩ := bind_ok_of h1
          injection h1 with h5 _
          subst h5
          refine ⟨?_, hF.enums, by omega⟩
          intro x hx
          rcases List.mem_append.1 hx with hx | hx
          · exact hF.msgs x hx
          · rw [List.mem_singleton] at hx
            subst hx; exact message_raw h4
        · split at h1
          · obtain ⟨m, l4, h4, h1⟩ := bind_ok_of h1
            injection h1 with h5 _
            subst h5
            refine ⟨hF.msgs, ?_, by omega⟩
            intro x hx
            rcases List.mem_append.1 hx with hx | hx
            · exact hF.enums x hx
            · rw [List.mem_singleton] at hx
              subst hx; exact enum_raw h4
          · cases h1
theorem raw_nil : FilRaw ⟨[], []⟩ := ⟨fun _ h => absurd h List.not_mem_nil, fun _ h => absurd h List.not_mem_nil, Nat.zero_le _⟩
theorem parse_raw (s : List UInt8) : FilRaw (parseS s).1 := by
  unfold parseS
  split
  · exact raw_nil
  · split
    · rename_i F l e
      exact file_raw _ _ _ _ _ e raw_nil
    · exact raw_nil
end Go.Proofs.YtbceapeoknngnaaGreatDoor
