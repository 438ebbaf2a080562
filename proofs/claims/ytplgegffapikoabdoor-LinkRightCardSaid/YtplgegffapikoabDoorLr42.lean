/-
  A right file, linked, printed, read and linked again is the same.
-/
import Derived.Test.YtplgegffapikoabDoorLr41
import Derived.Test.YtplgegffapikoabDoorLr22
import Derived.Test.YtplgegffapikoabDoorLr34
set_option linter.unusedVariables false
namespace Go.Proofs.YtplgegffapikoabDoor
theorem firstAtZ : ∀ (l : List Int) (i : Nat), (firstAt i l).1 = 0 → ∀ a ∈ l, a = 0
  | [], _, _, a, ha => by cases ha
  | b :: l, i, h, a, ha => by
    rw [firstAt] at h
    split at h
    · rename_i hb; exact absurd h hb
    · rename_i hb
      rcases List.mem_cons.1 ha with rfl | ha
      · exact Decidable.not_not.1 hb
      · exact firstAtZ l _ h a ha
theorem firstNZ : ∀ (l : List Int), firstN l = 0 → ∀ a ∈ l, a = 0
  | [], _, a, ha => by cases ha
  | b :: l, h, a, ha => by
    rw [firstN] at h
    split at h
    · rename_i hb; exact absurd h hb
    · rename_i hb
      rcases List.mem_cons.1 ha with rfl | ha
      · exact Decidable.not_not.1 hb
      · exact firstNZ l h a ha
theorem idxP_names {α : Type} (nm : α → List UInt8) (t : List UInt8) : ∀ l : List α, idxP (fun a => nm a == t) l = idxP (fun s => s == t) (l.map nm)
  | [] => rfl
  | a :: l => by rw [List.map_cons, idxP, idxP, idxP_names nm t l]
theorem idxP_in {α : Type} {p : α → Bool} {l : List α} (h : ¬ idxP p l < 0) : ∃ i : Nat, ∃ hi : i < l.length, p l[i] = true := by
  rcases idxP_spec p l with ⟨h1, _⟩ | ⟨i, hi, _, h2⟩
  · rw [h1] at h; exact absurd (by decide) h
  · exact ⟨i, hi, h2⟩
/-- what a right file is like -/
structure FilOk (a : Fil) : Prop where
  len : a.msgs.length + a.enums.length ≤ 10
  names : ∀ j, (hj : j < (hadN a).length) → freeN (hadN a)[j] = true ∧ ∀ i, (hi : i < j) → (hadN a)[i] ≠ (hadN a)[j]
  msgs : ∀ m ∈ a.msgs, m.fields.length ≤ 16 ∧ m.barred.length ≤ 16 ∧ (∀ n ∈ m.barred, 0 ≤ n ∧ n ≤ 536870911) ∧ ∀ i, (hi : i < m.fields.length) → fieldN a m i m.fields[i] = 0
  enums : ∀ e ∈ a.enums, e.items.length ≤ 16 ∧ ∀ i, (hi : i < e.items.length) → itemN e.items i e.items[i] = 0
theorem fil_ok {a : Fil} (h : (wrongN a).1 = 0) : FilOk a := by
  unfold wrongN at h
  split at h
  · cases h
  · rename_i h1
    split at h
    · rename_i h2; exact absurd h h2
    · rename_i h2
      split at h
      · rename_i h3; exact absurd h h3
      · rename_i h3
        refine ⟨by omega, ?_, ?_, ?_⟩
        · intro j hj
          have hz := firstAtZ _ _ (Decidable.not_not.1 h2) (nameN (hadN a) j (hadN a)[j]) (by rw [List.mem_iff_getElem]; exact ⟨j, by simpa using hj, by simp⟩)
          unfold nameN at hz
          split at hz
          · cases hz
          · rename_i hn
            simp only [Bool.or_eq_true, Bool.not_eq_true', not_or, Bool.not_eq_false, Bool.not_eq_true] at hn
            refine ⟨hn.1, fun i hi e => ?_⟩
            have h4 := hn.2
            rw [List.any_eq_false] at h4
            have := h4 (hadN a)[i] (by rw [List.mem_take_iff_getElem]; exact ⟨i, by omega, rfl⟩)
            rw [e] at this
            simp at this
        · intro m hm
          have hz := firstAtZ _ _ (Decidable.not_not.1 h3) _ (List.mem_map_of_mem hm)
          unfold msgN at hz
          split at hz
          · cases hz
          · rename_i g1
            split at hz
            · cases hz
            · rename_i g2
              refine ⟨by omega, by omega, fun n hn => ?_, fun i hi => firstNZ _ hz _ (by rw [List.mem_iff_getElem]; exact ⟨i, by simpa using hi, by simp⟩)⟩
              rw [Bool.not_eq_true, List.any_eq_false] at g2
              have := g2 n hn
              rw [decide_eq_true_eq] at this
              omega
        · intro e he
          have hz := firstAtZ _ _ h _ (List.mem_map_of_mem he)
          unfold itemsN at hz
          split at hz
          · cases hz
          · rename_i g1
            exact ⟨by omega, fun i hi => firstNZ _ hz _ (by rw [List.mem_iff_getElem]; exact ⟨i, by simpa using hi, by simp⟩)⟩
theorem free_ok {s : List UInt8} (h : freeN s = true) : typeOk s := by
  unfold freeN at h
  rw [Bool.and_eq_true, Bool.not_eq_true', List.any_eq_false] at h
  obtain ⟨h1, h2⟩ := h
  have hm : ∀ x ∈ words ++ [wRepeated, wReserved, wOneof], s ≠ x := fun x hx e => by
    have := h2 x hx
    rw [e] at this
    simp at this
  refine ⟨NameOk.of _ h1, fun hw => hm s (List.mem_append_left _ hw) rfl, ?_, ?_, ?_⟩
  · exact hm _ (List.mem_append_right _ (by simp))
  · exact hm _ (List.mem_append_right _ (by simp))
  · exact hm _ (List.mem_append_right _ (by simp))
theorem had_msg (a : Fil) {i : Nat} (hi : i < a.msgs.length) (hl : i < (hadN a).length) : (hadN a)[i] = a.msgs[i].name := by
  simp [hadN, hi]
theorem had_enu (a : Fil) {i : Nat} (hi : i < a.enums.length) (hl : a.msgs.length + i < (hadN a).length) : (hadN a)[a.msgs.length + i] = a.enums[i].name := by
  simp [hadN]
theorem sub_name {a : Fil} {x : Fld} (hx : ¬ idxP (fun m => m.name == x.type) a.msgs < 0) : ∃ m ∈ a.msgs, m.name = x.type := by
  obtain ⟨i, hi, e⟩ := idxP_in hx
  exact ⟨a.msgs[i], List.getElem_mem hi, by simpa using e⟩
theorem enu_name {a : Fil} {x : Fld} (hx : ¬ idxP (fun m => m.name == x.type) a.enums < 0) : ∃ m ∈ a.enums, m.name = x.type := by
  obtain ⟨i, hi, e⟩ := idxP_in hx
  exact ⟨a.enums[i], List.getElem_mem hi, by simpa using e⟩
section
variable {a : Fil} (h : FilOk a)
include h
theorem msg_free {m : Msg} (hm : m ∈ a.msgs) : freeN m.name = true := by
  obtain ⟨i, hi, rfl⟩ := List.getElem_of_mem hm
  have hl : i < (hadN a).length := by unfold hadN; simp; omega
  have := (h.names i hl).1
  rw [had_msg a hi] at this
  exact this
theorem enu_free {e : Enu} (he : e ∈ a.enums) : freeN e.name = true := by
  obtain ⟨i, hi, rfl⟩ := List.getElem_of_mem he
  have hl : a.msgs.length + i < (hadN a).length := by unfold hadN; simp; omega
  have := (h.names _ hl).1
  rw [had_enu a hi] at this
  exact this
theorem not_both {m : Msg} {e : Enu} (hm : m ∈ a.msgs) (he : e ∈ a.enums) : m.name ≠ e.name := by
  obtain ⟨i, hi, rfl⟩ := List.getElem_of_mem hm
  obtain ⟨j, hj, rfl⟩ := List.getElem_of_mem he
  have hl : a.msgs.length + j < (hadN a).length := by unfold hadN; simp; omega
  have := (h.names _ hl).2 i (by omega)
  rw [had_msg a hi, had_enu a hj] at this
  exact this
end
/-- what a right field is like -/
structure FieldOk (a : Fil) (x : Fld) : Prop where
  name : NameOk x.name
  num : 0 ≤ x.number ∧ x.number ≤ 536870911
  kind : 1 ≤ x.kind ∧ x.kind ≤ 10
  sub : x.kind = 10 → ¬ idxP (fun m => m.name == x.type) a.msgs < 0
  enu : x.kind = 5 → ¬ idxP (fun m => m.name == x.type) a.enums < 0
  plain : x.kind ≠ 10 → x.kind ≠ 5 → x.type = []
  many : 0 < x.choice → x.many = false
theorem field_ok {a : Fil} {m : Msg} {i : Nat} {x : Fld} (h : fieldN a m i x = 0) : FieldOk a x ∧ ¬ (x.choice ≠ 0 ∧ x.choice ≠ lastC (m.fields.take i) ∧ x.choice ≠ begun 0 (m.fields.take i) + 1) := by
  unfold fieldN at h
  split at h
  · cases h
  · rename_i h1
    split at h
    · cases h
    · rename_i h2
      split at h
      · cases h
      · split at h
        · rename_i h4; exact absurd h h4
        · rename_i h4
          split at h
          · cases h
          · rename_i h5
            have ht := Decidable.not_not.1 h4
            unfold typedN at ht
            split at ht
            · cases ht
            · rename_i t1
              split at ht
              · cases ht
              · rename_i t2
                split at ht
                · cases ht
                · rename_i t3
                  simp only [Bool.or_eq_true, Bool.not_eq_true', not_or, Bool.not_eq_false] at h1
                  refine ⟨⟨NameOk.of _ h1.1, by omega, by omega, fun e g => t2 (.inl ⟨e, g⟩), fun e g => t2 (.inr ⟨e, g⟩), fun e1 e2 => ?_, fun hc => ?_⟩, h5⟩
                  · by_cases hx : x.type = []
                    · exact hx
                    · exact absurd (.inl ⟨e1, e2, hx⟩) t3
                  · cases hm : x.many
                    · rfl
                    · exact absurd (.inr ⟨hc, hm⟩) t3
theorem choices_fwd {l : List Fld} (h : ∀ i, (hi : i < l.length) → ¬ (l[i].choice ≠ 0 ∧ l[i].choice ≠ lastC (l.take i) ∧ l[i].choice ≠ begun 0 (l.take i) + 1)) :
    ∀ i, i ≤ l.length → 0 ≤ lastC (l.take i) ∧ (0 < lastC (l.take i) → lastC (l.take i) = begun 0 (l.take i))
  | 0, _ => ⟨by simp [lastC], fun h0 => by simp [lastC] at h0⟩
  | i + 1, hi => by
    obtain ⟨g1, g2⟩ := choices_fwd h i (by omega)
    have hx := h i (by omega)
    have hb := begun_bd (l.take i) 0
    have hb2 := begun_take (l := l) (k := i) (by omega)
    have hlc : lastC (l.take (i + 1)) = (l[i]'(by omega)).choice := by
      rw [lastC_take (by omega) hi]
      congr 1
    rw [hlc, hb2]
    by_cases h0 : (l[i]'(by omega)).choice = 0
    · rw [h0]; omega
    · by_cases h1 : (l[i]'(by omega)).choice = lastC (l.take i)
      · rw [if_neg (fun e => e.2 h1), h1]; omega
      · have h2 : (l[i]'(by omega)).choice = begun 0 (l.take i) + 1 := by
          rcases Decidable.em ((l[i]'(by omega)).choice = begun 0 (l.take i) + 1) with e | e
          · exact e
          · exact absurd ⟨h0, h1, e⟩ hx
        rw [if_pos ⟨h0, h1⟩]
        omega
theorem choices_bwd {l : List Fld} (h : ∀ i, (hi : i < l.length) → ¬ (l[i].choice ≠ 0 ∧ l[i].choice ≠ lastC (l.take i) ∧ l[i].choice ≠ begun 0 (l.take i) + 1)) :
    ∀ n i, i + n = l.length → numF (lastC (l.take i)) (begun 0 (l.take i)) (l.drop i) = l.drop i
  | 0, i, hi => by rw [List.drop_of_length_le (by omega), numF]
  | n + 1, i, hi => by
    have hlt : i < l.length := by omega
    have ih := choices_bwd h n (i + 1) (by omega)
    obtain ⟨g1, g2⟩ := choices_fwd h i (by omega)
    obtain ⟨k1, k2⟩ := choices_fwd h (i + 1) (by omega)
    have hx := h i hlt
    have hb2 := begun_take (l := l) (k := i) hlt
    have hlc : lastC (l.take (i + 1)) = l[i].choice := by
      rw [lastC_take (by omega) (by omega)]
      congr 1
    rw [hlc] at ih k1 k2
    rw [List.drop_eq_getElem_cons hlt, numF]
    have hk : (if 0 < l[i].choice ∧ l[i].choice ≠ lastC (l.take i) then begun 0 (l.take i) + 1 else begun 0 (l.take i)) = begun 0 (l.take (i + 1)) := by
      rw [hb2]
      by_cases h1 : l[i].choice ≠ 0 ∧ l[i].choice ≠ lastC (l.take i)
      · rw [if_pos h1, if_pos ⟨by omega, h1.2⟩]
      · rw [if_neg h1, if_neg (fun e => h1 ⟨by omega, e.2⟩)]
        omega
    rw [hk, ih]
    congr 1
    by_cases h0 : 0 < l[i].choice
    · rw [if_pos h0, ← k2 h0]
    · rw [if_neg h0]
theorem fields_pos {l : List Fld} (h : ∀ i, (hi : i < l.length) → ¬ (l[i].choice ≠ 0 ∧ l[i].choice ≠ lastC (l.take i) ∧ l[i].choice ≠ begun 0 (l.take i) + 1)) : ∀ x ∈ l, 0 ≤ x.choice := by
  intro x hx
  obtain ⟨i, hi, rfl⟩ := List.getElem_of_mem hx
  have := (choices_fwd h (i + 1) (by omega)).1
  rw [lastC_take (by omega) (by omega)] at this
  exact this
section
variable {a : Fil} (h : FilOk a)
include h
theorem msg_choices {m : Msg} (hm : m ∈ a.msgs) : ∀ i, (hi : i < m.fields.length) → ¬ (m.fields[i].choice ≠ 0 ∧ m.fields[i].choice ≠ lastC (m.fields.take i) ∧ m.fields[i].choice ≠ begun 0 (m.fields.take i) + 1) :=
  fun i hi => (field_ok ((h.msgs m hm).2.2.2 i hi)).2
theorem msg_field {m : Msg} (hm : m ∈ a.msgs) {x : Fld} (hx : x ∈ m.fields) : FieldOk a x ∧ 0 ≤ x.choice := by
  have hc := fields_pos (msg_choices h hm) x hx
  obtain ⟨i, hi, rfl⟩ := List.getElem_of_mem hx
  exact ⟨(field_ok ((h.msgs m hm).2.2.2 i hi)).1, hc⟩
theorem msg_num {m : Msg} (hm : m ∈ a.msgs) : numF 0 0 m.fields = m.fields := by
  have := choices_bwd (msg_choices h hm) m.fields.length 0 (by omega)
  simpa [lastC, begun] using this
theorem right_pr : FilPr a := by
  refine ⟨fun m hm => ⟨NameOk.of _ ?_, fun x hx => ?_, (h.msgs m hm).1, (h.msgs m hm).2.2.1, (h.msgs m hm).2.1⟩, fun e he => ⟨NameOk.of _ ?_, fun x hx => ?_, (h.enums e he).1⟩, h.len⟩
  · have := msg_free h hm
    unfold freeN at this
    exact (Bool.and_eq_true _ _ ▸ this).1
  · obtain ⟨f1, f2⟩ := msg_field h hm hx
    refine ⟨f1.name, f1.num, ?_, f2, f1.many⟩
    by_cases k10 : x.kind = 10
    · obtain ⟨m', hm', e⟩ := sub_name (f1.sub k10)
      exact .inr ⟨.inr k10, e ▸ free_ok (msg_free h hm')⟩
    · by_cases k5 : x.kind = 5
      · obtain ⟨m', hm', e⟩ := enu_name (f1.enu k5)
        exact .inr ⟨.inl k5, e ▸ free_ok (enu_free h hm')⟩
      · have := f1.kind
        exact .inl ⟨this.1, by omega, k5, f1.plain k10 k5⟩
  · have := enu_free h he
    unfold freeN at this
    exact (Bool.and_eq_true _ _ ▸ this).1
  · obtain ⟨i, hi, rfl⟩ := List.getElem_of_mem hx
    have hz := (h.enums e he).2 i hi
    unfold itemN at hz
    split at hz
    · cases hz
    · rename_i g1
      split at hz
      · cases hz
      · rename_i g2
        simp only [Bool.or_eq_true, Bool.not_eq_true', not_or, Bool.not_eq_false] at g1
        exact ⟨NameOk.of _ g1.1, by omega, by omega⟩
theorem right_num : numbered a = a := by
  obtain ⟨ms, es⟩ := a
  unfold numbered
  simp only
  congr 1
  have : ∀ m ∈ ms, numM m = m := fun m hm => by
    have := msg_num h hm
    obtain ⟨n, f, b⟩ := m
    unfold numM
    simp only at this ⊢
    rw [this]
  rw [List.map_congr_left this, List.map_id']
theorem right_linkX {p : Fil} (hm : p.msgs.map (·.name) = a.msgs.map (·.name)) (he : p.enums = a.enums) {x : Fld} (hx : FieldOk a x) : linkX p (rawC x) = x := by
  obtain ⟨name, number, kind, type, many, choice⟩ := x
  have i1 : idxP (fun m => m.name == type) p.msgs = idxP (fun m => m.name == type) a.msgs := by
    rw [idxP_names (fun m : Msg => m.name), hm, ← idxP_names (fun m : Msg => m.name)]
  unfold linkX rawC rawF
  simp only [i1, he]
  by_cases k5 : kind = 5
  · subst k5
    have h1 := hx.enu rfl
    simp only at h1
    rw [if_pos rfl, if_pos]
    refine ⟨rfl, ?_, by omega⟩
    rcases idxP_spec (fun m : Msg => m.name == type) a.msgs with ⟨g1, _⟩ | ⟨i, hi, _, g2⟩
    · rw [g1]; decide
    · exfalso
      obtain ⟨e, hem, hen⟩ := enu_name (x := ⟨name, number, 5, type, many, choice⟩) h1
      refine not_both h (List.getElem_mem hi) hem ?_
      rw [hen]
      simpa using g2
  · rw [if_neg k5, if_neg]
    rintro ⟨g1, g2, _⟩
    exact hx.sub g1 g2
theorem right_link {p : Fil} (hp : p = ⟨a.msgs.map readM, a.enums⟩) : linkF p = a := by
  have hn : p.msgs.map (·.name) = a.msgs.map (·.name) := by
    rw [hp]
    simp only [List.map_map]
    rfl
  have he : p.enums = a.enums := by rw [hp]
  have : p.msgs.map (linkM p) = a.msgs := by
    conv => lhs; rw [hp]
    simp only [List.map_map]
    rw [← hp]
    have : ∀ m ∈ a.msgs, (linkM p ∘ readM) m = m := fun m hm => by
      have h1 := msg_num h hm
      have h2 : ∀ x ∈ m.fields, linkX p (rawC x) = x := fun x hx => right_linkX h hn he (msg_field h hm hx).1
      obtain ⟨n, f, b⟩ := m
      simp only [Function.comp, linkM, readM] at h1 h2 ⊢
      rw [h1, List.map_map]
      congr 1
      have h3 : ∀ x ∈ f, (linkX p ∘ rawC) x = x := h2
      rw [List.map_congr_left h3, List.map_id']
    rw [List.map_congr_left this, List.map_id']
  unfold linkF
  rw [this, he]
theorem right_self : linkF a = a := by
  obtain ⟨ms, es⟩ := a
  unfold linkF
  simp only
  congr 1
  have : ∀ m ∈ ms, linkM ⟨ms, es⟩ m = m := fun m hm => by
    have h2 : ∀ x ∈ m.fields, linkX ⟨ms, es⟩ x = x := fun x hx => by
      unfold linkX
      rw [if_neg]
      rintro ⟨g1, g2, _⟩
      exact (msg_field h hm hx).1.sub g1 g2
    obtain ⟨n, f, b⟩ := m
    unfold linkM
    simp only at h2 ⊢
    rw [List.map_congr_left h2, List.map_id']
  rw [List.map_congr_left this, List.map_id']
end
theorem wrong_eq {a : Fil} (h : (wrongN a).1 = 0) : wrongN a = (0, 0) := by
  have hf : ∀ (l : List Int) (i : Nat), (firstAt i l).1 = 0 → firstAt i l = (0, 0) := by
    intro l
    induction l with
    | nil => intro i _; rfl
    | cons b l ih =>
      intro i hh
      rw [firstAt] at hh ⊢
      split at hh
      · rename_i hb; exact absurd hh hb
      · rename_i hb
        rw [if_neg hb]
        exact ih _ hh
  unfold wrongN at h ⊢
  split at h
  · cases h
  · rename_i h1
    rw [if_neg h1]
    split at h
    · rename_i h2; exact absurd h h2
    · rename_i h2
      rw [if_neg h2]
      split at h
      · rename_i h3; exact absurd h h3
      · rename_i h3
        rw [if_neg h3]
        exact hf _ _ h
/-- WHAT IS LINKED IS RIGHT. -/
theorem link_right {f a : Fil} (h : linkN f = (a, 0, 0)) (h0 : (linkN f).2.1 = 0) (ha : (wrongN (linkF f)).1 = 0) :
    FilOk a ∧ wrongN a = (0, 0) ∧ linkN a = (a, 0, 0) ∧ numbered a = a ∧ FilPr a ∧ linkN ⟨a.msgs.map readM, a.enums⟩ = (a, 0, 0) := by
  have hA : a = linkF f := by
    unfold linkN at h
    rw [if_neg (fun e => e ha)] at h
    injection h with h1 _
    exact h1.symm
  rw [← hA] at ha
  have hok := fil_ok ha
  refine ⟨hok, wrong_eq ha, ?_, right_num hok, right_pr hok, ?_⟩
  · unfold linkN
    rw [right_self hok, if_neg (fun e => e ha)]
  · unfold linkN
    rw [right_link hok rfl, if_neg (fun e => e ha)]
end Go.Proofs.YtplgegffapikoabDoor
