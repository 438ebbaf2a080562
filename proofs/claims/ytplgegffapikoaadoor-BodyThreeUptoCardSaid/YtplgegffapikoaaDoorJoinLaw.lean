/-
  Bodies put together, in plain Lean: what is there of each number; it is no matter which two are put together first; what may be wrong.
-/
import Derived.Test.YtplgegffapikoaaDoorPt33
set_option linter.unusedVariables false
namespace Go.Proofs.YtplgegffapikoaaDoor
open Go.RowKit
/-- Is what is there of a number taken away by one of the values: by another one of its choice? -/
def gone (fs : List Fld) (b : List Val) (n : Int) : Prop := ∃ u ∈ b, ∃ x, fldN fs u.1 = some x ∧ u.1 ≠ n ∧ keepN fs x u.1 n = false
theorem keepN_true {fs : List Fld} {x : Fld} {m n : Int} (hn : n ≠ m) (h : ∀ z, fldN fs n = some z → 0 < x.choice → x.choice ≠ z.choice) (h0 : 0 ≤ x.choice) : keepN fs x m n = true := by
  unfold keepN
  rw [Bool.and_eq_true, Bool.or_eq_true]
  refine ⟨by simpa using hn, ?_⟩
  by_cases e : x.choice = 0
  · exact .inl (by simpa using e)
  · refine .inr ?_
    cases hz : fs.find? (fun z => z.number == n) with
    | none => rfl
    | some z =>
      have := h z hz (by omega)
      simp only [bne_iff_ne, ne_eq]
      omega
theorem keepN_false {fs : List Fld} {x : Fld} {m n : Int} (hn : n ≠ m) (h : keepN fs x m n = false) : x.choice ≠ 0 ∧ ∃ z, fldN fs n = some z ∧ z.choice = x.choice := by
  unfold keepN at h
  rw [Bool.and_eq_false_iff, Bool.or_eq_false_iff] at h
  rcases h with h | ⟨h1, h2⟩
  · simp at h; exact absurd h hn
  · refine ⟨by simpa using h1, ?_⟩
    cases hz : fs.find? (fun z => z.number == n) with
    | none => rw [hz] at h2; cases h2
    | some z => rw [hz] at h2; exact ⟨z, hz, by simpa using h2⟩
theorem keepN_same {fs : List Fld} {x z : Fld} {m n : Int} (hn : n ≠ m) (h0 : x.choice ≠ 0) (hz : fldN fs n = some z) (hc : z.choice = x.choice) : keepN fs x m n = false := by
  unfold keepN
  rw [show fs.find? (fun z => z.number == n) = some z from hz]
  simp [h0, hc]
/-- How a right body's values are. -/
structure OkV (fs : List Fld) (l : List Val) : Prop where
  ris : RisingV l
  fld : ∀ v ∈ l, ∃ x, fldN fs v.1 = some x ∧ plainN x v = false
  one : ∀ u ∈ l, ∀ v ∈ l, u.1 ≠ v.1 → ∀ x y, fldN fs u.1 = some x → fldN fs v.1 = some y → 0 < x.choice → x.choice ≠ y.choice
theorem OkV.tail {fs : List Fld} {v : Val} {l : List Val} (h : OkV fs (v :: l)) : OkV fs l :=
  ⟨h.ris.of_cons, fun u hu => h.fld u (List.mem_cons_of_mem _ hu), fun u hu w hw => h.one u (List.mem_cons_of_mem _ hu) w (List.mem_cons_of_mem _ hw)⟩
theorem plain_both {jb : Int → Bod → Bod → Bod} {f : Fil} {x : Fld} {o : Option Val} {v : Val} (h : plainN x v = false) : plainN x (bothV jb f x o v) = false := by
  unfold bothV
  cases o with
  | none => exact h
  | some o =>
    simp only
    split
    · rename_i hm
      unfold plainN
      rw [hm]; rfl
    · split
      · rename_i hk
        unfold plainN
        rw [hk]; simp
      · exact h
theorem find_cons_self {v : Val} {l : List Val} : findV (v :: l) v.1 = some v := by unfold findV; rw [List.find?_cons_of_pos (by simp)]
theorem find_cons_ne {v : Val} {l : List Val} {n : Int} (h : n ≠ v.1) : findV (v :: l) n = findV l n := by unfold findV; rw [List.find?_cons_of_neg (by simp; omega)]
theorem findV_non {l : List Val} {n : Int} (h : ∀ u ∈ l, u.1 ≠ n) : findV l n = none := by
  unfold findV
  rw [List.find?_eq_none]
  intro u hu
  simpa using h u hu
theorem findV_non' {l : List Val} {n : Int} (h : findV l n = none) : ∀ u ∈ l, u.1 ≠ n := by
  unfold findV at h
  rw [List.find?_eq_none] at h
  intro u hu
  simpa using h u hu
/-- What is there of a number, behind all of them. -/
theorem find_join {jb : Int → Bod → Bod → Bod} {f : Fil} {fs : List Fld} (hch : ∀ z ∈ fs, 0 ≤ z.choice) : ∀ {b : List Val} {a : List Val} (ha : RisingV a) (hb : OkV fs b) (n : Int),
    (∀ v x, findV b n = some v → fldN fs n = some x → findV (b.foldl (joinV jb f fs) a) n = some (bothV jb f x (findV a n) v)) ∧
    (findV b n = none → gone fs b n → findV (b.foldl (joinV jb f fs) a) n = none) ∧ (findV b n = none → ¬ gone fs b n → findV (b.foldl (joinV jb f fs) a) n = findV a n) := by
  intro b
  induction b with
  | nil => exact fun ha _ n => ⟨fun v x h => (by cases h), fun _ ⟨u, hu, _⟩ => (by cases hu), fun _ _ => rfl⟩
  | cons v b ih =>
    intro a ha hb n
    obtain ⟨x, hx, hpl⟩ := hb.fld v List.mem_cons_self
    have hxm := fldN_mem hx
    have hx0 := hch x hxm.1
    have hstep : joinV jb f fs a v = setV fs a (bothV jb f x (findV a v.1) v) := by unfold joinV; rw [hx]
    have hbn : (bothV jb f x (findV a v.1) v).1 = v.1 := bothV_num _ _ _ _ _
    have hxb : fldN fs (bothV jb f x (findV a v.1) v).1 = some x := by rw [hbn]; exact hx
    have ha' : RisingV (joinV jb f fs a v) := by rw [hstep]; exact rising_set ha _
    have hfs : ∀ k, findV (joinV jb f fs a v) k = if k = v.1 then some (bothV jb f x (findV a v.1) v) else if keepN fs x v.1 k = true then findV a k else none := fun k => by
      rw [hstep, find_set ha hxb, hbn, plain_both hpl]
      rfl
    have hkeep : ∀ u ∈ b, ∀ y, fldN fs u.1 = some y → keepN fs x v.1 u.1 = true := fun u hu y hy => by
      have hne : v.1 ≠ u.1 := by have := List.rel_of_pairwise_cons hb.ris hu; omega
      exact keepN_true (Ne.symm hne) (fun z hz hpos => hb.one v List.mem_cons_self u (List.mem_cons_of_mem _ hu) hne x z hx hz hpos) hx0
    obtain ⟨i1, i2, i3⟩ := ih ha' hb.tail n
    rw [List.foldl_cons]
    by_cases hn : n = v.1
    · subst hn
      have hbn' : findV b v.1 = none := findV_non fun u hu => by have := List.rel_of_pairwise_cons hb.ris hu; omega
      have hng : ¬ gone fs b v.1 := fun ⟨u, hu, y, hy, hne, hk⟩ => by
        obtain ⟨h0, z, hz, hc⟩ := keepN_false (Ne.symm hne) hk
        rw [hx] at hz
        obtain rfl := Option.some.inj hz
        have hy0 := hch y (fldN_mem hy).1
        exact hb.one u (List.mem_cons_of_mem _ hu) v List.mem_cons_self hne y x hy hx (by omega) hc.symm
      refine ⟨fun w y hw hy => ?_, fun h => ?_, fun h => ?_⟩
      · rw [find_cons_self] at hw
        obtain rfl := Option.some.inj hw
        rw [hx] at hy
        obtain rfl := Option.some.inj hy
        rw [i3 hbn' hng, hfs, if_pos rfl]
      · rw [find_cons_self] at h; cases h
      · rw [find_cons_self] at h; cases h
    · rw [find_cons_ne hn]
      refine ⟨fun w y hw hy => ?_, fun h hg => ?_, fun h hg => ?_⟩
      · rw [i1 w y hw hy, hfs, if_neg hn]
        obtain ⟨hwm, hwn⟩ := findV_mem hw
        rw [← hwn, if_pos (hkeep w hwm y (by rw [hwn]; exact hy))]
      · by_cases hgb : gone fs b n
        · exact i2 h hgb
        · rw [i3 h hgb, hfs, if_neg hn]
          obtain ⟨u, hu, y, hy, hne, hk⟩ := hg
          rcases List.mem_cons.1 hu with rfl | hu
          · rw [hx] at hy
            obtain rfl := Option.some.inj hy
            rw [hk]; rfl
          · exact absurd ⟨u, hu, y, hy, hne, hk⟩ hgb
      · rw [i3 h (fun ⟨u, hu, y, hy, hne, hk⟩ => hg ⟨u, List.mem_cons_of_mem _ hu, y, hy, hne, hk⟩), hfs, if_neg hn]
        rw [if_pos]
        cases hk : keepN fs x v.1 n with
        | true => rfl
        | false => exact absurd ⟨v, List.mem_cons_self, x, hx, Ne.symm hn, hk⟩ hg
theorem rising_join {jb : Int → Bod → Bod → Bod} {f : Fil} {fs : List Fld} : ∀ {b a : List Val}, RisingV a → RisingV (b.foldl (joinV jb f fs) a)
  | [], _, h => h
  | v :: b, a, h => by
    rw [List.foldl_cons]
    refine rising_join ?_
    unfold joinV
    split
    · exact h
    · exact rising_set h _
/-- Lists that rise and have the same are the same. -/
theorem rising_ext : ∀ {l r : List Val}, RisingV l → RisingV r → (∀ n, findV l n = findV r n) → l = r
  | [], [], _, _, _ => rfl
  | [], v :: r, _, _, h => by have := h v.1; rw [find_cons_self] at this; cases this
  | v :: l, [], _, _, h => by have := h v.1; rw [find_cons_self] at this; cases this
  | v :: l, u :: r, hl, hr, h => by
    have hvu : v = u := by
      have h1 := h v.1
      have h2 := h u.1
      rw [find_cons_self] at h1 h2
      obtain ⟨m1, _⟩ := findV_mem h1.symm
      obtain ⟨m2, _⟩ := findV_mem h2
      rcases List.mem_cons.1 m1 with e | m1
      · exact e
      · rcases List.mem_cons.1 m2 with e | m2
        · exact e.symm
        · have := List.rel_of_pairwise_cons hr m1
          have := List.rel_of_pairwise_cons hl m2
          omega
    subst hvu
    rw [rising_ext hl.of_cons hr.of_cons fun n => ?_]
    by_cases hn : n = v.1
    · subst hn
      rw [findV_non fun w hw => by have := List.rel_of_pairwise_cons hl hw; omega, findV_non fun w hw => by have := List.rel_of_pairwise_cons hr hw; omega]
    · have := h n
      rwa [find_cons_ne hn, find_cons_ne hn] at this
end Go.Proofs.YtplgegffapikoaaDoor
