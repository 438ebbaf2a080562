/-
  Has a file a message that is one of a choice?
  Bodies put together, in plain Lean: what is there of each number; it is no matter which two are put together first; what may be wrong.
  Bodies put together, in plain Lean: it is no matter which two are put together first; what may be wrong.
  Bodies put together, in plain Lean: of three it is no matter which two are put together first; a body and nothing are it.
  Bodies put together, in plain Lean: how many that nobody knows; the last one counts.
  Three bodies put together, in plain Lean, with what is wrong.
  BodyLast, in plain Lean; and a body of one value.
  presslaw4.file, and the values that presslaw4.alive asks with.
  presslaw4.alive (written by gen_alive.py).
-/
import Derived.Test.YtplgegffapikoaaDoorPt13
import Derived.Test.YtplgegffapikoaaDoorPt33
import Derived.Test.YtplgegffapikoaaDoorPt12
import Derived.Test.YtplgegffapikoaaDoorPt11
set_option linter.unusedVariables false
namespace Go.Proofs.YtplgegffapikoaaDoor
open Go.RowKit
/-- Is a field a message, and one of a choice? -/
def mixedF (x : Fld) : Bool := x.kind == 10 && decide (0 < x.choice)
def mixedN (f : Fil) : Bool := f.msgs.any fun m => m.fields.any mixedF
theorem any_at {α : Type} {p : α → Bool} {l : List α} {k : Nat} (hk : k < l.length) (h : p l[k] = true) : l.any p = true := List.any_eq_true.2 ⟨_, List.getElem_mem hk, h⟩
theorem any_none {α : Type} {p : α → Bool} {l : List α} (h : ∀ j, (hj : j < l.length) → p l[j] = false) : l.any p = false := by
  rw [List.any_eq_false]
  intro x hx
  obtain ⟨j, hj, rfl⟩ := List.getElem_of_mem hx
  rw [h j hj]; decide
end Go.Proofs.YtplgegffapikoaaDoor
set_option linter.unusedVariables false
namespace Go.Proofs.YtplgegffapikoaaDoor
open Go.RowKit
/-- Is what is there of a number taken away by one of the values: by another one of its choice? -/
def gone (fs : List Fld) (b : List Val) (n : Int) : Prop := ∃ u ∈ b, ∃ x, fldN fs u.1 = some x ∧ u.1 ≠ n ∧ keepN fs x u.1 n = false
theorem keepN_true {fs : List Fld} {x : Fld} {m n : Int} (hn : n ≠ m) (h : ∀ z, fldN fs n = some z → 0 < x.choice → x.choice ≠ z.choice) (h0 : 0 ≤ x.choice) : keepN fs x m n = true := by
  unfold keepN
  rw [Bool.and_eq_true, Bool.or_eq_true]
  refine ⟨by simpa using hn, ?_⟩
  by_cases e : x.choice = 0
  · exact .inl (by simpa using e)
  · refine .inr ?_
    cases hz : fs.find? (fun z => z.number == n) with
    | none => rfl
    | some z =>
      have := h z hz (by omega)
      simp only [bne_iff_ne, ne_eq]
      omega
theorem keepN_false {fs : List Fld} {x : Fld} {m n : Int} (hn : n ≠ m) (h : keepN fs x m n = false) : x.choice ≠ 0 ∧ ∃ z, fldN fs n = some z ∧ z.choice = x.choice := by
  unfold keepN at h
  rw [Bool.and_eq_false_iff, Bool.or_eq_false_iff] at h
  rcases h with h | ⟨h1, h2⟩
  · simp at h; exact absurd h hn
  · refine ⟨by simpa using h1, ?_⟩
    cases hz : fs.find? (fun z => z.number == n) with
    | none => rw [hz] at h2; cases h2
    | some z => rw [hz] at h2; exact ⟨z, hz, by simpa using h2⟩
theorem keepN_same {fs : List Fld} {x z : Fld} {m n : Int} (hn : n ≠ m) (h0 : x.choice ≠ 0) (hz : fldN fs n = some z) (hc : z.choice = x.choice) : keepN fs x m n = false := by
  unfold keepN
  rw [show fs.find? (fun z => z.number == n) = some z from hz]
  simp [h0, hc]
/-- How a right body's values are. -/
structure OkV (fs : List Fld) (l : List Val) : Prop where
  ris : RisingV l
  fld : ∀ v ∈ l, ∃ x, fldN fs v.1 = some x ∧ plainN x v = false
  one : ∀ u ∈ l, ∀ v ∈ l, u.1 ≠ v.1 → ∀ x y, fldN fs u.1 = some x → fldN fs v.1 = some y → 0 < x.choice → x.choice ≠ y.choice
theorem OkV.tail {fs : List Fld} {v : Val} {l : List Val} (h : OkV fs (v :: l)) : OkV fs l :=
  ⟨h.ris.of_cons, fun u hu => h.fld u (List.mem_cons_of_mem _ hu), fun u hu w hw => h.one u (List.mem_cons_of_mem _ hu) w (List.mem_cons_of_mem _ hw)⟩
theorem plain_both {jb : Int → Bod → Bod → Bod} {f : Fil} {x : Fld} {o : Option Val} {v : Val} (h : plainN x v = false) : plainN x (bothV jb f x o v) = false := by
  unfold bothV
  cases o with
  | none => exact h
  | some o =>
    simp only
    split
    · rename_i hm
      unfold plainN
      rw [hm]; rfl
    · split
      · rename_i hk
        unfold plainN
        rw [hk]; simp
      · exact h
theorem find_cons_self {v : Val} {l : List Val} : findV (v :: l) v.1 = some v := by unfold findV; rw [List.find?_cons_of_pos (by simp)]
theorem find_cons_ne {v : Val} {l : List Val} {n : Int} (h : n ≠ v.1) : findV (v :: l) n = findV l n := by unfold findV; rw [List.find?_cons_of_neg (by simp; omega)]
theorem findV_non {l : List Val} {n : Int} (h : ∀ u ∈ l, u.1 ≠ n) : findV l n = none := by
  unfold findV
  rw [List.find?_eq_none]
  intro u hu
  simpa using h u hu
theorem findV_non' {l : List Val} {n : Int} (h : findV l n = none) : ∀ u ∈ l, u.1 ≠ n := by
  unfold findV at h
  rw [List.find?_eq_none] at h
  intro u hu
  simpa using h u hu
/-- What is there of a number, behind all of them. -/
theorem find_join {jb : Int → Bod → Bod → Bod} {f : Fil} {fs : List Fld} (hch : ∀ z ∈ fs, 0 ≤ z.choice) : ∀ {b : List Val} {a : List Val} (ha : RisingV a) (hb : OkV fs b) (n : Int),
    (∀ v x, findV b n = some v → fldN fs n = some x → findV (b.foldl (joinV jb f fs) a) n = some (bothV jb f x (findV a n) v)) ∧
    (findV b n = none → gone fs b n → findV (b.foldl (joinV jb f fs) a) n = none) ∧ (findV b n = none → ¬ gone fs b n → findV (b.foldl (joinV jb f fs) a) n = findV a n) := by
  intro b
  induction b with
  | nil => exact fun ha _ n => ⟨fun v x h => (by cases h), fun _ ⟨u, hu, _⟩ => (by cases hu), fun _ _ => rfl⟩
  | cons v b ih =>
    intro a ha hb n
    obtain ⟨x, hx, hpl⟩ := hb.fld v List.mem_cons_self
    have hxm := fldN_mem hx
    have hx0 := hch x hxm.1
    have hstep : joinV jb f fs a v = setV fs a (bothV jb f x (findV a v.1) v) := by unfold joinV; rw [hx]
    have hbn : (bothV jb f x (findV a v.1) v).1 = v.1 := bothV_num _ _ _ _ _
    have hxb : fldN fs (bothV jb f x (findV a v.1) v).1 = some x := by rw [hbn]; exact hx
    have ha' : RisingV (joinV jb f fs a v) := by rw [hstep]; exact rising_set ha _
    have hfs : ∀ k, findV (joinV jb f fs a v) k = if k = v.1 then some (bothV jb f x (findV a v.1) v) else if keepN fs x v.1 k = true then findV a k else none := fun k => by
      rw [hstep, find_set ha hxb, hbn, plain_both hpl]
      rfl
    have hkeep : ∀ u ∈ b, ∀ y, fldN fs u.1 = some y → keepN fs x v.1 u.1 = true := fun u hu y hy => by
      have hne : v.1 ≠ u.1 := by have := List.rel_of_pairwise_cons hb.ris hu; omega
      exact keepN_true (Ne.symm hne) (fun z hz hpos => hb.one v List.mem_cons_self u (List.mem_cons_of_mem _ hu) hne x z hx hz hpos) hx0
    obtain ⟨i1, i2, i3⟩ := ih ha' hb.tail n
    rw [List.foldl_cons]
    by_cases hn : n = v.1
    · subst hn
      have hbn' : findV b v.1 = none := findV_non fun u hu => by have := List.rel_of_pairwise_cons hb.ris hu; omega
      have hng : ¬ gone fs b v.1 := fun ⟨u, hu, y, hy, hne, hk⟩ => by
        obtain ⟨h0, z, hz, hc⟩ := keepN_false (Ne.symm hne) hk
        rw [hx] at hz
        obtain rfl := Option.some.inj hz
        have hy0 := hch y (fldN_mem hy).1
        exact hb.one u (List.mem_cons_of_mem _ hu) v List.mem_cons_self hne y x hy hx (by omega) hc.symm
      refine ⟨fun w y hw hy => ?_, fun h => ?_, fun h => ?_⟩
      · rw [find_cons_self] at hw
        obtain rfl := Option.some.inj hw
        rw [hx] at hy
        obtain rfl := Option.some.inj hy
        rw [i3 hbn' hng, hfs, if_pos rfl]
      · rw [find_cons_self] at h; cases h
      · rw [find_cons_self] at h; cases h
    · rw [find_cons_ne hn]
      refine ⟨fun w y hw hy => ?_, fun h hg => ?_, fun h hg => ?_⟩
      · rw [i1 w y hw hy, hfs, if_neg hn]
        obtain ⟨hwm, hwn⟩ := findV_mem hw
        rw [← hwn, if_pos (hkeep w hwm y (by rw [hwn]; exact hy))]
      · by_cases hgb : gone fs b n
        · exact i2 h hgb
        · rw [i3 h hgb, hfs, if_neg hn]
          obtain ⟨u, hu, y, hy, hne, hk⟩ := hg
          rcases List.mem_cons.1 hu with rfl | hu
          · rw [hx] at hy
            obtain rfl := Option.some.inj hy
            rw [hk]; rfl
          · exact absurd ⟨u, hu, y, hy, hne, hk⟩ hgb
      · rw [i3 h (fun ⟨u, hu, y, hy, hne, hk⟩ => hg ⟨u, List.mem_cons_of_mem _ hu, y, hy, hne, hk⟩), hfs, if_neg hn]
        rw [if_pos]
        cases hk : keepN fs x v.1 n with
        | true => rfl
        | false => exact absurd ⟨v, List.mem_cons_self, x, hx, Ne.symm hn, hk⟩ hg
theorem rising_join {jb : Int → Bod → Bod → Bod} {f : Fil} {fs : List Fld} : ∀ {b a : List Val}, RisingV a → RisingV (b.foldl (joinV jb f fs) a)
  | [], _, h => h
  | v :: b, a, h => by
    rw [List.foldl_cons]
    refine rising_join ?_
    unfold joinV
    split
    · exact h
    · exact rising_set h _
/-- Lists that rise and have the same are the same. -/
theorem rising_ext : ∀ {l r : List Val}, RisingV l → RisingV r → (∀ n, findV l n = findV r n) → l = r
  | [], [], _, _, _ => rfl
  | [], v :: r, _, _, h => by have := h v.1; rw [find_cons_self] at this; cases this
  | v :: l, [], _, _, h => by have := h v.1; rw [find_cons_self] at this; cases this
  | v :: l, u :: r, hl, hr, h => by
    have hvu : v = u := by
      have h1 := h v.1
      have h2 := h u.1
      rw [find_cons_self] at h1 h2
      obtain ⟨m1, _⟩ := findV_mem h1.symm
      obtain ⟨m2, _⟩ := findV_mem h2
      rcases List.mem_cons.1 m1 with e | m1
      · exact e
      · rcases List.mem_cons.1 m2 with e | m2
        · exact e.symm
        · have := List.rel_of_pairwise_cons hr m1
          have := List.rel_of_pairwise_cons hl m2
          omega
    subst hvu
    rw [rising_ext hl.of_cons hr.of_cons fun n => ?_]
    by_cases hn : n = v.1
    · subst hn
      rw [findV_non fun w hw => by have := List.rel_of_pairwise_cons hl hw; omega, findV_non fun w hw => by have := List.rel_of_pairwise_cons hr hw; omega]
    · have := h n
      rwa [find_cons_ne hn, find_cons_ne hn] at this
end Go.Proofs.YtplgegffapikoaaDoor
set_option linter.unusedVariables false
namespace Go.Proofs.YtplgegffapikoaaDoor
open Go.RowKit
theorem okV_right {f : Fil} {k : Nat} {m : Msg} {b : Bod} (h : wrongBF (wrongVF (wrongB f k) f) m b = 0) : OkV m.fields b.values := by
  obtain ⟨g1, g2, _, g4⟩ := valsN_zero (wrongBF_zero h).1
  refine ⟨g2, fun v hv => by obtain ⟨x, e1, e2, _⟩ := g1 v hv; exact ⟨x, e1, (wrongVF_zero e2).2.2.2.2.1⟩, fun u hu v hv hne x y hx hy hpos e => ?_⟩
  obtain ⟨i, hi, rfl⟩ := List.getElem_of_mem hu
  obtain ⟨j, hj, rfl⟩ := List.getElem_of_mem hv
  rcases Nat.lt_trichotomy i j with h1 | h1 | h1
  · exact List.pairwise_iff_getElem.1 g4 i j hi hj h1 x y hx hy hpos e
  · subst h1; exact hne rfl
  · exact List.pairwise_iff_getElem.1 g4 j i hj hi h1 y x hy hx (by omega) e.symm
/-- The values of two bodies put together are as a right body's, but for how many they are. -/
theorem okV_join {jb : Int → Bod → Bod → Bod} {f : Fil} {fs : List Fld} (hch : ∀ z ∈ fs, 0 ≤ z.choice) {a b : List Val} (ha : OkV fs a) (hb : OkV fs b) :
    OkV fs (b.foldl (joinV jb f fs) a) := by
  have hr := rising_join (jb := jb) (f := f) (fs := fs) (b := b) ha.ris
  have hcase : ∀ v ∈ b.foldl (joinV jb f fs) a, (∃ w x, w ∈ b ∧ w.1 = v.1 ∧ fldN fs v.1 = some x ∧ plainN x w = false ∧ v = bothV jb f x (findV a v.1) w) ∨ (v ∈ a ∧ ¬ gone fs b v.1 ∧ findV b v.1 = none) := fun v hv => by
    have hf := rising_find hr hv
    obtain ⟨i1, i2, i3⟩ := find_join (jb := jb) (f := f) hch ha.ris hb v.1
    cases hbv : findV b v.1 with
    | some w =>
      obtain ⟨hm, hn⟩ := findV_mem hbv
      obtain ⟨x, hx, hp⟩ := hb.fld w hm
      rw [hn] at hx
      rw [i1 w x hbv hx] at hf
      exact .inl ⟨w, x, hm, hn, hx, hp, (Option.some.inj hf).symm⟩
    | none =>
      by_cases hg : gone fs b v.1
      · rw [i2 hbv hg] at hf; cases hf
      · rw [i3 hbv hg] at hf
        exact .inr ⟨(findV_mem hf).1, hg, rfl⟩
  refine ⟨hr, fun v hv => ?_, fun u hu v hv hne x y hx hy hpos e => ?_⟩
  · rcases hcase v hv with ⟨w, x, _, _, hx, hp, hv2⟩ | ⟨h, _, _⟩
    · exact ⟨x, hx, by rw [hv2]; exact plain_both hp⟩
    · exact ha.fld v h
  · have hy0 : 0 < y.choice := by omega
    rcases hcase u hu with ⟨w, _, hw, hwn, _⟩ | ⟨h, hg, hn1⟩
    · rcases hcase v hv with ⟨w', _, hw', hwn', _⟩ | ⟨h', hg', hn'⟩
      · exact hb.one w hw w' hw' (by rw [hwn, hwn']; exact hne) x y (by rw [hwn]; exact hx) (by rw [hwn']; exact hy) hpos e
      · exact hg' ⟨w, hw, x, by rw [hwn]; exact hx, by rw [hwn]; exact hne, by rw [hwn]; exact keepN_same (Ne.symm hne) (by omega) hy e.symm⟩
    · rcases hcase v hv with ⟨w', _, hw', hwn', _⟩ | ⟨h', hg', hn'⟩
      · exact hg ⟨w', hw', y, by rw [hwn']; exact hy, by rw [hwn']; exact Ne.symm hne, by rw [hwn']; exact keepN_same hne (by omega) hx e⟩
      · exact ha.one u h v h' hne x y hx hy hpos e
theorem valsN_05 {wv : Fld → Val → Int} {fs : List Fld} : ∀ {l : List Val} {prev : Option Int} {had : List Int}, (∀ v ∈ l, ∃ x, fldN fs v.1 = some x ∧ (wv x v = 0 ∨ wv x v = 5) ∧ (0 < x.choice → x.choice ∉ had)) → RisingV l → (∀ p, prev = some p → ∀ v ∈ l, p < v.1) →
    (∀ u ∈ l, ∀ v ∈ l, u.1 ≠ v.1 → ∀ x y, fldN fs u.1 = some x → fldN fs v.1 = some y → 0 < x.choice → x.choice ≠ y.choice) → valsN wv fs prev had l = 0 ∨ valsN wv fs prev had l = 5
  | [], _, _, _, _, _, _ => .inl rfl
  | v :: l, prev, had, h1, h2, h3, h4 => by
    obtain ⟨x, hx, hw, hc⟩ := h1 v List.mem_cons_self
    rw [valsN, hx]
    simp only
    have hbp : ¬ badPrev prev v.1 = true := by
      cases prev with
      | none => simp [badPrev]
      | some p => have := h3 p rfl v List.mem_cons_self; simp only [badPrev, decide_eq_true_eq]; omega
    rw [if_neg hbp]
    rcases hw with hw | hw
    · rw [if_neg (by simpa using hw), if_neg (fun g => hc g.1 g.2)]
      refine valsN_05 (fun u hu => ?_) h2.of_cons (fun p hp u hu => ?_) (fun u hu w hw => h4 u (List.mem_cons_of_mem _ hu) w (List.mem_cons_of_mem _ hw))
      · obtain ⟨y, hy, hwy, hcy⟩ := h1 u (List.mem_cons_of_mem _ hu)
        refine ⟨y, hy, hwy, fun hpos hm => ?_⟩
        split at hm
        · rename_i hx0
          rcases List.mem_cons.1 hm with e | hm
          · have hlt := List.rel_of_pairwise_cons h2 hu
            exact h4 v List.mem_cons_self u (List.mem_cons_of_mem _ hu) (by omega) x y hx hy hx0 e.symm
          · exact hcy hpos hm
        · exact hcy hpos hm
      · cases hp
        exact List.rel_of_pairwise_cons h2 hu
    · rw [if_pos (by rw [hw]; decide)]
      exact .inr hw
theorem firstN_one (e : Int) : firstN [e] = e := by
  unfold firstN
  split
  · rfl
  · rename_i h; simp only [ne_eq, Classical.not_not] at h; rw [h]; rfl
theorem firstN_all {α : Type} {q : α → Int} {l : List α} (h : ∀ x ∈ l, q x = 0) : firstN (l.map q) = 0 := firstN_map_none fun j hj => h _ (List.getElem_mem hj)
theorem one_of {l : List Bod} (h : l.length = 1) : l = [l.headD bod0] := by
  rcases l with _ | ⟨a, _ | ⟨b, l⟩⟩
  · cases h
  · rfl
  · simp at h
theorem countN_app {kind : Int} {n : Int} {o v : Val} (ho : (countN kind o).2 = true) (hv : (countN kind v).2 = true) : (countN kind (n, o.2.1 ++ v.2.1, o.2.2.1 ++ v.2.2.1, o.2.2.2 ++ v.2.2.2)).2 = true ∧ (countN kind (n, o.2.1 ++ v.2.1, o.2.2.1 ++ v.2.2.1, o.2.2.2 ++ v.2.2.2)).1 = (countN kind o).1 + (countN kind v).1 := by
  unfold countN at ho hv ⊢
  by_cases g : kind = 8 ∨ kind = 9
  · rw [if_pos g] at ho hv
    rw [if_pos g, if_pos g, if_pos g]
    simp only [beq_iff_eq, List.length_append] at ho hv ⊢
    exact ⟨by omega, trivial⟩
  · rw [if_neg g] at ho hv
    rw [if_neg g, if_neg g, if_neg g]
    by_cases g2 : kind = 10
    · rw [if_pos g2] at ho hv
      rw [if_pos g2, if_pos g2, if_pos g2]
      simp only [beq_iff_eq, List.length_append] at ho hv ⊢
      exact ⟨by omega, trivial⟩
    · rw [if_neg g2] at ho hv
      rw [if_neg g2, if_neg g2, if_neg g2]
      simp only [beq_iff_eq, List.length_append] at ho hv ⊢
      exact ⟨by omega, trivial⟩
/-- Both values of a field: nothing wrong with either: nothing, or too many. -/
theorem both_05 {wb : Int → Bod → Int} {jb : Int → Bod → Bod → Bod} {f : Fil} {x : Fld} {o v : Val} (ih : ∀ mi a b, wb mi a = 0 → wb mi b = 0 → wb mi (jb mi a b) = 0 ∨ wb mi (jb mi a b) = 5) (ho : wrongVF wb f x o = 0) (hv : wrongVF wb f x v = 0) :
    wrongVF wb f x (bothV jb f x (some o) v) = 0 ∨ wrongVF wb f x (bothV jb f x (some o) v) = 5 := by
  obtain ⟨o1, o2, o3, o4, o5, o6, o7, o8⟩ := wrongVF_zero ho
  obtain ⟨v1, v2, v3, v4, v5, v6, v7, v8⟩ := wrongVF_zero hv
  unfold bothV
  simp only
  by_cases hm : x.many = true
  · rw [if_pos hm]
    obtain ⟨c1, c2⟩ := countN_app (n := v.1) o1 v1
    unfold wrongVF
    rw [if_neg (by rw [c1]; decide)]
    split
    · exact .inr rfl
    · have hp : ¬ plainN x (v.1, o.2.1 ++ v.2.1, o.2.2.1 ++ v.2.2.1, o.2.2.2 ++ v.2.2.2) = true := by unfold plainN; rw [hm]; simp
      rw [if_neg hp]
      simp only
      rw [firstN_all (q := fitsN x.kind) (fun n hn => by rcases List.mem_append.1 hn with h | h; exact o6 n h; exact v6 n h), if_neg (by decide), firstN_all (q := byteN x.kind) (fun n hn => by rcases List.mem_append.1 hn with h | h; exact o7 n h; exact v7 n h), if_neg (by decide),
        firstN_all (q := wb (msgI f x.type)) (fun n hn => by rcases List.mem_append.1 hn with h | h; exact o8 n h; exact v8 n h)]
      exact .inl rfl
  · rw [if_neg hm]
    have hm' : x.many = false := by simpa using hm
    by_cases hk : x.kind = 10
    · rw [if_pos hk]
      have hos := one_of (by rw [← count_subs (v := o) hk]; exact o4 hm')
      have hvs := one_of (by rw [← count_subs (v := v) hk]; exact v4 hm')
      have e1 := o8 (o.2.2.2.headD bod0) (by rw [hos]; simp)
      have e2 := v8 (v.2.2.2.headD bod0) (by rw [hvs]; simp)
      have e3 := ih _ _ _ e1 e2
      generalize jb (msgI f x.type) (o.2.2.2.headD bod0) (v.2.2.2.headD bod0) = J at *
      have hc : countN x.kind (v.1, v.2.1, v.2.2.1, [J]) = (1, v.2.1.length + v.2.2.1.length == 0) := by rw [hk]; rfl
      have hc2 : (v.2.1.length + v.2.2.1.length == 0) = true := by rw [hk] at v1; exact v1
      unfold wrongVF
      rw [hc, hc2]
      rw [if_neg (by decide), if_neg (by rintro (h | h | ⟨_, h⟩) <;> simp at h), if_neg (by unfold plainN; rw [hk]; simp)]
      simp only
      rw [firstN_all (q := fitsN x.kind) v6, if_neg (by decide), firstN_all (q := byteN x.kind) v7, if_neg (by decide), List.map_cons, List.map_nil, firstN_one]
      exact e3
    · rw [if_neg hk]
      exact .inl hv
/-- Nothing is wrong with two bodies: put together there is nothing wrong, or too many. -/
theorem join_05 {f : Fil} (hright : (wrongN f).1 = 0) : ∀ (k : Nat) (msg : Int) (a b : Bod), wrongB f k msg a = 0 → wrongB f k msg b = 0 → wrongB f k msg (joinB f k msg a b) = 0 ∨ wrongB f k msg (joinB f k msg a b) = 5
  | 0, _, _, _, h, _ => by cases h
  | k + 1, msg, a, b, ha, hb => by
    obtain ⟨k', m, e, hm, ha'⟩ := wrongB_zero ha
    obtain rfl : k = k' := by omega
    obtain ⟨k', m', e, hm', hb'⟩ := wrongB_zero hb
    obtain rfl : k = k' := by omega
    rw [hm] at hm'
    obtain rfl := Option.some.inj hm'
    have hmr := right_msg hright m (List.mem_of_getElem? hm)
    have hch : ∀ z ∈ m.fields, 0 ≤ z.choice := fun z hz => (choice_16 hmr hz).1
    have oa := okV_right ha'
    have ob := okV_right hb'
    have hja : joinB f (k + 1) msg a b = .mk (b.values.foldl (joinV (joinB f k) f m.fields) a.values) (a.unknown ++ b.unknown) := by rw [joinB, hm]
    have oj := okV_join (jb := joinB f k) (f := f) hch oa ob
    obtain ⟨ga, ua⟩ := wrongBF_zero ha'
    obtain ⟨gb, ub⟩ := wrongBF_zero hb'
    obtain ⟨ga1, _, _, _⟩ := valsN_zero ga
    obtain ⟨gb1, _, _, _⟩ := valsN_zero gb
    have hv : ∀ v ∈ b.values.foldl (joinV (joinB f k) f m.fields) a.values, ∃ x, fldN m.fields v.1 = some x ∧ (wrongVF (wrongB f k) f x v = 0 ∨ wrongVF (wrongB f k) f x v = 5) := fun v hv => by
      have hf := rising_find oj.ris hv
      obtain ⟨i1, i2, i3⟩ := find_join (jb := joinB f k) (f := f) hch oa.ris ob v.1
      cases hbv : findV b.values v.1 with
      | some w =>
        obtain ⟨hwm, hwn⟩ := findV_mem hbv
        obtain ⟨x, hx, hw, _⟩ := gb1 w hwm
        rw [hwn] at hx
        rw [i1 w x hbv hx] at hf
        refine ⟨x, hx, ?_⟩
        rw [← Option.some.inj hf]
        cases hav : findV a.values v.1 with
        | none => exact .inl hw
        | some o =>
          obtain ⟨hom, hon⟩ := findV_mem hav
          obtain ⟨y, hy, ho, _⟩ := ga1 o hom
          rw [hon, hx] at hy
          obtain rfl := Option.some.inj hy
          exact both_05 (join_05 hright k) ho hw
      | none =>
        by_cases hg : gone m.fields b.values v.1
        · rw [i2 hbv hg] at hf; cases hf
        · rw [i3 hbv hg] at hf
          obtain ⟨x, hx, hw, _⟩ := ga1 v (findV_mem hf).1
          exact ⟨x, hx, .inl hw⟩
    rw [hja, wrongB, hm]
    simp only
    unfold wrongBF
    show (if valsN _ _ _ _ (b.values.foldl _ _) ≠ 0 then valsN _ _ _ _ (b.values.foldl _ _) else firstN ((a.unknown ++ b.unknown).map _)) = 0 ∨ (if valsN _ _ _ _ (b.values.foldl _ _) ≠ 0 then valsN _ _ _ _ (b.values.foldl _ _) else firstN ((a.unknown ++ b.unknown).map _)) = 5
    rcases valsN_05 (prev := none) (had := []) (fun v h => by obtain ⟨x, h1, h2⟩ := hv v h; exact ⟨x, h1, h2, fun _ h3 => (by cases h3)⟩) oj.ris (fun p hp => by cases hp) oj.one with h | h
    · rw [h, if_neg (by decide), firstN_all (fun r hr => by rcases List.mem_append.1 hr with h | h; exact ua r h; exact ub r h)]
      exact .inl rfl
    · rw [h, if_pos (by decide)]
      exact .inr rfl
end Go.Proofs.YtplgegffapikoaaDoor
set_option linter.unusedVariables false
namespace Go.Proofs.YtplgegffapikoaaDoor
open Go.RowKit
theorem both_none {jb : Int → Bod → Bod → Bod} {f : Fil} {x : Fld} {v : Val} : bothV jb f x none v = v := rfl
theorem both_many {jb : Int → Bod → Bod → Bod} {f : Fil} {x : Fld} {u v : Val} (h : x.many = true) : bothV jb f x (some u) v = (v.1, u.2.1 ++ v.2.1, u.2.2.1 ++ v.2.2.1, u.2.2.2 ++ v.2.2.2) := by
  unfold bothV; simp only; rw [if_pos h]
theorem both_sub {jb : Int → Bod → Bod → Bod} {f : Fil} {x : Fld} {u v : Val} (h : x.many = false) (hk : x.kind = 10) : bothV jb f x (some u) v = (v.1, v.2.1, v.2.2.1, [jb (msgI f x.type) (u.2.2.2.headD bod0) (v.2.2.2.headD bod0)]) := by
  unfold bothV; simp only; rw [if_neg (by rw [h]; decide), if_pos hk]
theorem both_last {jb : Int → Bod → Bod → Bod} {f : Fil} {x : Fld} {o : Option Val} {v : Val} (h : x.many = false) (hk : x.kind ≠ 10) : bothV jb f x o v = v := by
  unfold bothV
  cases o with
  | none => rfl
  | some o => simp only; rw [if_neg (by rw [h]; decide), if_neg hk]
theorem both_assoc {jb : Int → Bod → Bod → Bod} {f : Fil} {x : Fld} {o : Option Val} {v w : Val} (h : x.many = false → x.kind = 10 → ∀ u, o = some u → jb (msgI f x.type) (jb (msgI f x.type) (u.2.2.2.headD bod0) (v.2.2.2.headD bod0)) (w.2.2.2.headD bod0) = jb (msgI f x.type) (u.2.2.2.headD bod0) (jb (msgI f x.type) (v.2.2.2.headD bod0) (w.2.2.2.headD bod0))) :
    bothV jb f x (some (bothV jb f x o v)) w = bothV jb f x o (bothV jb f x (some v) w) := by
  cases o with
  | none => rfl
  | some u =>
    cases hm : x.many with
    | true => rw [both_many hm, both_many hm, both_many hm, both_many hm]; simp only [List.append_assoc]
    | false =>
      by_cases hk : x.kind = 10
      · rw [both_sub hm hk, both_sub hm hk, both_sub hm hk, both_sub hm hk]
        simp only [List.headD_cons]
        rw [h hm hk u rfl]
      · rw [both_last hm hk, both_last hm hk, both_last hm hk]
/-- What is there behind both of a number of one of them. -/
theorem join_has {jb : Int → Bod → Bod → Bod} {f : Fil} {fs : List Fld} (hch : ∀ z ∈ fs, 0 ≤ z.choice) {a b : List Val} (ha : RisingV a) (hb : OkV fs b) {u : Val} (hu : u ∈ b.foldl (joinV jb f fs) a) : (∃ w ∈ b, w.1 = u.1) ∨ (u ∈ a ∧ ¬ gone fs b u.1) := by
  have hf := rising_find (rising_join ha) hu
  obtain ⟨i1, i2, i3⟩ := find_join (jb := jb) (f := f) hch ha hb u.1
  cases hbv : findV b u.1 with
  | some w => exact .inl ⟨w, findV_mem hbv⟩
  | none =>
    by_cases hg : gone fs b u.1
    · rw [i2 hbv hg] at hf; cases hf
    · rw [i3 hbv hg] at hf
      exact .inr ⟨(findV_mem hf).1, hg⟩
theorem join_keeps {jb : Int → Bod → Bod → Bod} {f : Fil} {fs : List Fld} (hch : ∀ z ∈ fs, 0 ≤ z.choice) {a b : List Val} (ha : RisingV a) (hb : OkV fs b) {u : Val} (hu : u ∈ b) : ∃ v ∈ b.foldl (joinV jb f fs) a, v.1 = u.1 := by
  obtain ⟨i1, _, _⟩ := find_join (jb := jb) (f := f) hch ha hb u.1
  obtain ⟨x, hx, _⟩ := hb.fld u hu
  have := i1 u x (rising_find hb.ris hu) hx
  exact ⟨_, (findV_mem this).1, (findV_mem this).2⟩
theorem join_keeps2 {jb : Int → Bod → Bod → Bod} {f : Fil} {fs : List Fld} (hch : ∀ z ∈ fs, 0 ≤ z.choice) {a b : List Val} (ha : RisingV a) (hb : OkV fs b) {u : Val} (hu : u ∈ a) (hg : ¬ gone fs b u.1) : ∃ v ∈ b.foldl (joinV jb f fs) a, v.1 = u.1 := by
  cases hbv : findV b u.1 with
  | some w =>
    obtain ⟨h1, h2⟩ := findV_mem hbv
    rw [← h2]
    exact join_keeps hch ha hb h1
  | none =>
    obtain ⟨_, _, i3⟩ := find_join (jb := jb) (f := f) hch ha hb u.1
    have := i3 hbv hg
    rw [rising_find ha hu] at this
    exact ⟨u, (findV_mem this).1, rfl⟩
theorem gone_of {fs : List Fld} {l r : List Val} {n : Int} (h : gone fs l n) (k : ∀ u ∈ l, (∃ x, fldN fs u.1 = some x ∧ u.1 ≠ n ∧ keepN fs x u.1 n = false) → ∃ v ∈ r, v.1 = u.1) : gone fs r n := by
  obtain ⟨u, hu, x, h1, h2, h3⟩ := h
  obtain ⟨v, hv, e⟩ := k u hu ⟨x, h1, h2, h3⟩
  exact ⟨v, hv, x, by rw [e]; exact h1, by rw [e]; exact h2, by rw [e]; exact h3⟩
theorem join_vals {f : Fil} {k : Nat} {msg : Int} {m : Msg} (hm : f.msgs[msg.toNat]? = some m) (a b : Bod) : joinB f (k + 1) msg a b = .mk (b.values.foldl (joinV (joinB f k) f m.fields) a.values) (a.unknown ++ b.unknown) := by rw [joinB, hm]
set_option maxHeartbeats 1600000 in
theorem join_assoc {f : Fil} (hright : (wrongN f).1 = 0) (hnm : ∀ m ∈ f.msgs, ∀ x ∈ m.fields, x.kind = 10 → x.choice ≤ 0) : ∀ (k : Nat) (msg : Int) (a b c : Bod), wrongB f k msg a = 0 → wrongB f k msg b = 0 → wrongB f k msg c = 0 → wrongB f k msg (joinB f k msg a b) = 0 → wrongB f k msg (joinB f k msg b c) = 0 →
    joinB f k msg (joinB f k msg a b) c = joinB f k msg a (joinB f k msg b c)
  | 0, _, _, _, _, h, _, _, _, _ => by cases h
  | k + 1, msg, a, b, c, ha, hb, hc, hx, hy => by
    obtain ⟨k', m, e, hm, ha'⟩ := wrongB_zero ha
    obtain rfl : k = k' := by omega
    have hof : ∀ p, wrongB f (k + 1) msg p = 0 → wrongBF (wrongVF (wrongB f k) f) m p = 0 := fun p h => by rw [wrongB, hm] at h; exact h
    have hb' := hof b hb
    have hc' := hof c hc
    have hx' := hof _ hx
    have hy' := hof _ hy
    have hmm := List.mem_of_getElem? hm
    have hmr := right_msg hright m hmm
    have hch : ∀ z ∈ m.fields, 0 ≤ z.choice := fun z hz => (choice_16 hmr hz).1
    have hty : ∀ z ∈ m.fields, typedN f z = 0 := fun z hz => by
      obtain ⟨i, hi, rfl⟩ := List.getElem_of_mem hz
      exact (field_facts ((msg_field hmr).2.2 i hi)).2.2.2.1
    have oa := okV_right ha'
    have ob := okV_right hb'
    have oc := okV_right hc'
    have ox := okV_right hx'
    have oy := okV_right hy'
    obtain ⟨ga1, _, _, _⟩ := valsN_zero (wrongBF_zero ha').1
    obtain ⟨gb1, _, _, _⟩ := valsN_zero (wrongBF_zero hb').1
    obtain ⟨gc1, _, _, _⟩ := valsN_zero (wrongBF_zero hc').1
    obtain ⟨gx1, _, _, _⟩ := valsN_zero (wrongBF_zero hx').1
    obtain ⟨gy1, _, _, _⟩ := valsN_zero (wrongBF_zero hy').1
    rw [join_vals hm] at gx1 gy1 ox oy
    rw [join_vals hm a b, join_vals hm b c, join_vals hm, join_vals hm]
    refine Bod.ext' ?_ (List.append_assoc _ _ _)
    show c.values.foldl (joinV (joinB f k) f m.fields) (b.values.foldl (joinV (joinB f k) f m.fields) a.values) = (c.values.foldl (joinV (joinB f k) f m.fields) b.values).foldl (joinV (joinB f k) f m.fields) a.values
    have ox' : OkV m.fields (b.values.foldl (joinV (joinB f k) f m.fields) a.values) := ox
    have oy' : OkV m.fields (c.values.foldl (joinV (joinB f k) f m.fields) b.values) := oy
    have gx : ∀ v ∈ b.values.foldl (joinV (joinB f k) f m.fields) a.values, ∃ x, fldN m.fields v.1 = some x ∧ wrongVF (wrongB f k) f x v = 0 := fun v hv => by obtain ⟨x, h1, h2, _⟩ := gx1 v hv; exact ⟨x, h1, h2⟩
    have gy : ∀ v ∈ c.values.foldl (joinV (joinB f k) f m.fields) b.values, ∃ x, fldN m.fields v.1 = some x ∧ wrongVF (wrongB f k) f x v = 0 := fun v hv => by obtain ⟨x, h1, h2, _⟩ := gy1 v hv; exact ⟨x, h1, h2⟩
    clear gx1 gy1 ox oy hx hy hx' hy'
    refine rising_ext (rising_join ox'.ris) (rising_join oa.ris) fun n => ?_
    obtain ⟨p1, p2, p3⟩ := find_join (jb := joinB f k) (f := f) hch ox'.ris oc n
    obtain ⟨q1, q2, q3⟩ := find_join (jb := joinB f k) (f := f) hch oa.ris oy' n
    obtain ⟨r1, r2, r3⟩ := find_join (jb := joinB f k) (f := f) hch oa.ris ob n
    obtain ⟨s1, s2, s3⟩ := find_join (jb := joinB f k) (f := f) hch ob.ris oc n
    cases hcn : findV c.values n with
    | some w =>
      obtain ⟨hwm, hwn⟩ := findV_mem hcn
      obtain ⟨x, hx, hw, _⟩ := gc1 w hwm
      rw [hwn] at hx
      have hyn := s1 w x hcn hx
      rw [p1 w x hcn hx, q1 _ x hyn hx]
      cases hbn : findV b.values n with
      | some v =>
        have hxn := r1 v x hbn hx
        rw [hxn]
        refine congrArg some (both_assoc fun hmy hk u hu => ?_)
        obtain ⟨hum, hun⟩ := findV_mem hu
        obtain ⟨hvm, hvn⟩ := findV_mem hbn
        have fx : ∀ {l : List Val} {z : Val}, (∀ v ∈ l, ∃ x, fldN m.fields v.1 = some x ∧ wrongVF (wrongB f k) f x v = 0) → z ∈ l → z.1 = n → wrongVF (wrongB f k) f x z = 0 := fun {l z} g h1 h2 => by
          obtain ⟨y, h3, h4⟩ := g z h1
          rw [h2, hx] at h3
          rw [Option.some.inj h3]; exact h4
        have wu := fx (fun v hv => by obtain ⟨x, h1, h2, _⟩ := ga1 v hv; exact ⟨x, h1, h2⟩) hum hun
        have wv := fx (fun v hv => by obtain ⟨x, h1, h2, _⟩ := gb1 v hv; exact ⟨x, h1, h2⟩) hvm hvn
        have wx := fx gx (findV_mem hxn).1 (findV_mem hxn).2
        have wy := fx gy (findV_mem hyn).1 (findV_mem hyn).2
        rw [hu, both_sub hmy hk] at wx
        rw [hbn, both_sub hmy hk] at wy
        have hd : ∀ {z : Val}, wrongVF (wrongB f k) f x z = 0 → wrongB f k (msgI f x.type) (z.2.2.2.headD bod0) = 0 := fun {z} h => by
          obtain ⟨_, _, _, o4, _, _, _, o8⟩ := wrongVF_zero h
          have := one_of (by rw [← count_subs (v := z) hk]; exact o4 hmy)
          exact o8 _ (by rw [this]; simp)
        exact join_assoc hright hnm k _ _ _ _ (hd wu) (hd wv) (hd hw) (hd wx) (hd wy)
      | none =>
        by_cases hg : gone m.fields b.values n
        · rw [r2 hbn hg]
          obtain ⟨u, hu, y, hy, hne, hk⟩ := hg
          obtain ⟨h0, z, hz, hzc⟩ := keepN_false (Ne.symm hne) hk
          rw [hx] at hz
          obtain rfl := Option.some.inj hz
          have hxm := (fldN_mem hx).1
          have h1 := hch x hxm
          have hmy : x.many = false := (typed_facts (hty x hxm)).2.2.2 (by omega)
          have hk10 : x.kind ≠ 10 := fun e => by have := hnm m hmm x hxm e; omega
          simp only [both_last hmy hk10]
        · rw [r3 hbn hg]; rfl
    | none =>
      by_cases hgc : gone m.fields c.values n
      · rw [p2 hcn hgc, q2 (s2 hcn hgc) (gone_of hgc fun u hu _ => join_keeps hch ob.ris oc hu)]
      · rw [p3 hcn hgc]
        cases hbn : findV b.values n with
        | some v =>
          obtain ⟨hvm, hvn⟩ := findV_mem hbn
          obtain ⟨x, hx, _, _⟩ := gb1 v hvm
          rw [hvn] at hx
          rw [r1 v x hbn hx, q1 v x (by rw [s3 hcn hgc]; exact hbn) hx]
        | none =>
          have hyn : findV (c.values.foldl (joinV (joinB f k) f m.fields) b.values) n = none := by rw [s3 hcn hgc]; exact hbn
          by_cases hgb : gone m.fields b.values n
          · rw [r2 hbn hgb, q2 hyn (gone_of hgb fun u hu ⟨x, hx, hne, hk⟩ => ?_)]
            refine join_keeps2 hch ob.ris oc hu fun ⟨w, hw, y, hy, hne2, hk2⟩ => ?_
            obtain ⟨h0, z, hz, hzc⟩ := keepN_false (Ne.symm hne) hk
            obtain ⟨h0', z', hz', hzc'⟩ := keepN_false (Ne.symm hne2) hk2
            rw [hx] at hz'
            obtain rfl := Option.some.inj hz'
            have hwn : w.1 ≠ n := fun e => findV_non' hcn w hw e
            exact hgc ⟨w, hw, y, hy, hwn, keepN_same (Ne.symm hwn) h0' hz (by rw [hzc, hzc'])⟩
          · rw [r3 hbn hgb, q3 hyn fun hg => ?_]
            obtain ⟨u, hu, x, hx, hne, hk⟩ := hg
            rcases join_has hch ob.ris oc hu with ⟨w, hw, e⟩ | ⟨h, _⟩
            · exact hgc ⟨w, hw, x, by rw [e]; exact hx, by rw [e]; exact hne, by rw [e]; exact hk⟩
            · exact hgb ⟨u, h, x, hx, hne, hk⟩
theorem join_nil {f : Fil} {k : Nat} {msg : Int} {a : Bod} (h : wrongB f k msg a = 0) : joinB f k msg a bod0 = a := by
  obtain ⟨k', m, rfl, hm, _⟩ := wrongB_zero h
  rw [join_vals hm]
  exact Bod.ext' rfl (List.append_nil _)
theorem nil_join {f : Fil} (hright : (wrongN f).1 = 0) {k : Nat} {msg : Int} {a : Bod} (h : wrongB f k msg a = 0) : joinB f k msg bod0 a = a := by
  obtain ⟨k', m, rfl, hm, ha⟩ := wrongB_zero h
  have hmr := right_msg hright m (List.mem_of_getElem? hm)
  have hch : ∀ z ∈ m.fields, 0 ≤ z.choice := fun z hz => (choice_16 hmr hz).1
  have oa := okV_right ha
  rw [join_vals hm]
  refine Bod.ext' ?_ rfl
  show a.values.foldl (joinV (joinB f k') f m.fields) [] = a.values
  refine rising_ext (rising_join List.Pairwise.nil) oa.ris fun n => ?_
  obtain ⟨i1, i2, i3⟩ := find_join (jb := joinB f k') (f := f) hch (a := []) List.Pairwise.nil oa n
  cases hn : findV a.values n with
  | some v =>
    obtain ⟨hvm, hvn⟩ := findV_mem hn
    obtain ⟨x, hx, _⟩ := oa.fld v hvm
    rw [hvn] at hx
    rw [i1 v x hn hx]
    rfl
  | none =>
    by_cases hg : gone m.fields a.values n
    · exact i2 hn hg
    · rw [i3 hn hg]; rfl
theorem nil_right {f : Fil} {k : Nat} {msg : Int} {m : Msg} (hm : f.msgs[msg.toNat]? = some m) : wrongB f (k + 1) msg bod0 = 0 := by
  rw [wrongB, hm]
  rfl
end Go.Proofs.YtplgegffapikoaaDoor
set_option linter.unusedVariables false
namespace Go.Proofs.YtplgegffapikoaaDoor
open Go.RowKit
/-- No list of what nobody knows grows more than twice. -/
theorem unk_join {f : Fil} (hright : (wrongN f).1 = 0) {N : Nat} : ∀ (k : Nat) (msg : Int) (a b : Bod), wrongB f k msg a = 0 → wrongB f k msg b = 0 → UnkLe N k a → UnkLe N k b → UnkLe (2 * N) k (joinB f k msg a b)
  | 0, _, _, _, h, _, _, _ => by cases h
  | k + 1, msg, a, b, ha, hb, na, nb => by
    obtain ⟨k', m, e, hm, ha'⟩ := wrongB_zero ha
    obtain rfl : k = k' := by omega
    have hb' : wrongBF (wrongVF (wrongB f k) f) m b = 0 := by rw [wrongB, hm] at hb; exact hb
    have hmr := right_msg hright m (List.mem_of_getElem? hm)
    have hch : ∀ z ∈ m.fields, 0 ≤ z.choice := fun z hz => (choice_16 hmr hz).1
    have oa := okV_right ha'
    have ob := okV_right hb'
    obtain ⟨ga1, _, _, _⟩ := valsN_zero (wrongBF_zero ha').1
    obtain ⟨gb1, _, _, _⟩ := valsN_zero (wrongBF_zero hb').1
    have hle : N ≤ 2 * N := by omega
    rw [join_vals hm]
    refine ⟨?_, fun v hv s hs => ?_⟩
    · show (a.unknown ++ b.unknown).length ≤ _
      rw [List.length_append]
      have := na.top; have := nb.top
      omega
    · have hv' : v ∈ b.values.foldl (joinV (joinB f k) f m.fields) a.values := hv
      have hf := rising_find (rising_join oa.ris) hv'
      obtain ⟨i1, i2, i3⟩ := find_join (jb := joinB f k) (f := f) hch oa.ris ob v.1
      cases hbv : findV b.values v.1 with
      | some w =>
        obtain ⟨hwm, hwn⟩ := findV_mem hbv
        obtain ⟨x, hx, hw, _⟩ := gb1 w hwm
        rw [hwn] at hx
        rw [i1 w x hbv hx] at hf
        rw [← Option.some.inj hf] at hs
        cases hav : findV a.values v.1 with
        | none => rw [hav, both_none] at hs; exact (nb.2 w hwm s hs).mono hle
        | some o =>
          rw [hav] at hs
          obtain ⟨hom, hon⟩ := findV_mem hav
          obtain ⟨y, hy, ho, _⟩ := ga1 o hom
          rw [hon, hx] at hy
          obtain rfl := Option.some.inj hy
          cases hmy : x.many with
          | true =>
            rw [both_many hmy] at hs
            rcases List.mem_append.1 hs with h | h
            · exact (na.2 o hom s h).mono hle
            · exact (nb.2 w hwm s h).mono hle
          | false =>
            by_cases hk : x.kind = 10
            · rw [both_sub hmy hk] at hs
              obtain rfl : s = joinB f k (msgI f x.type) (o.2.2.2.headD bod0) (w.2.2.2.headD bod0) := by simpa using hs
              have hd : ∀ {z : Val}, wrongVF (wrongB f k) f x z = 0 → z.2.2.2.headD bod0 ∈ z.2.2.2 ∧ wrongB f k (msgI f x.type) (z.2.2.2.headD bod0) = 0 := fun {z} h => by
                obtain ⟨_, _, _, o4, _, _, _, o8⟩ := wrongVF_zero h
                have h1 := one_of (by rw [← count_subs (v := z) hk]; exact o4 hmy)
                have h2 : z.2.2.2.headD bod0 ∈ z.2.2.2 := by rw [h1]; simp
                exact ⟨h2, o8 _ h2⟩
              exact unk_join hright k _ _ _ (hd ho).2 (hd hw).2 (na.2 o hom _ (hd ho).1) (nb.2 w hwm _ (hd hw).1)
            · rw [both_last hmy hk] at hs
              exact (nb.2 w hwm s hs).mono hle
      | none =>
        by_cases hg : gone m.fields b.values v.1
        · rw [i2 hbv hg] at hf; cases hf
        · rw [i3 hbv hg] at hf
          exact (na.2 v (findV_mem hf).1 s hs).mono hle
/-- A right message's fields are found by their numbers. -/
theorem fld_self {f : Fil} {m : Msg} (h : msgN f m = 0) {x : Fld} (hx : x ∈ m.fields) : fldN m.fields x.number = some x := by
  obtain ⟨i, hi, rfl⟩ := List.getElem_of_mem hx
  have h3 := (field_facts ((msg_field h).2.2 i hi)).2.2.1
  unfold fldN
  rw [List.find?_eq_some_iff_getElem]
  refine ⟨by simp, i, hi, rfl, fun j hj => ?_⟩
  have := h3 m.fields[j] (by rw [List.mem_take_iff_getElem]; exact ⟨j, by omega, rfl⟩)
  simpa using this
theorem gone_iff {f : Fil} {m : Msg} (h : msgN f m = 0) {x : Fld} (hx : x ∈ m.fields) {b : List Val} (ob : OkV m.fields b) (hn : findV b x.number = none) :
    gone m.fields b x.number ↔ ∃ y ∈ m.fields, (findV b y.number).isSome = true ∧ 0 < x.choice ∧ y.choice = x.choice := by
  have hfx := fld_self h hx
  constructor
  · rintro ⟨u, hu, y, hy, hne, hk⟩
    obtain ⟨h0, z, hz, hzc⟩ := keepN_false (Ne.symm hne) hk
    rw [hfx] at hz
    obtain rfl := Option.some.inj hz
    obtain ⟨hym, hyn⟩ := fldN_mem hy
    have := (choice_16 h hx).1
    refine ⟨y, hym, ?_, by omega, hzc.symm⟩
    rw [hyn, rising_find ob.ris hu]; rfl
  · rintro ⟨y, hy, hs, hp, hc⟩
    obtain ⟨u, hu⟩ := Option.isSome_iff_exists.1 hs
    obtain ⟨hum, hun⟩ := findV_mem hu
    have hne : u.1 ≠ x.number := fun e => findV_non' hn u hum e
    exact ⟨u, hum, y, by rw [hun]; exact fld_self h hy, hne, keepN_same (Ne.symm hne) (by omega) hfx hc.symm⟩
def lens (v : Val) : Nat := v.2.1.length + v.2.2.1.length + v.2.2.2.length
/-- What BodyLast says of a field. -/
theorem last_field {f : Fil} (hright : (wrongN f).1 = 0) {k : Nat} {m : Msg} (hmm : m ∈ f.msgs) {x : Fld} (hx : x ∈ m.fields) {a b : List Val} (oa : OkV m.fields a) (ob : OkV m.fields b) :
    (x.many = true → lens ((findV (b.foldl (joinV (joinB f k) f m.fields) a) x.number).getD val0) = lens ((findV a x.number).getD val0) + lens ((findV b x.number).getD val0)) ∧
    (∀ v, x.many = false → findV b x.number = some v → (x.kind ≠ 10 ∨ findV a x.number = none) → findV (b.foldl (joinV (joinB f k) f m.fields) a) x.number = some v) ∧
    (findV b x.number = none → findV (b.foldl (joinV (joinB f k) f m.fields) a) x.number = if (∃ y ∈ m.fields, (findV b y.number).isSome = true ∧ 0 < x.choice ∧ y.choice = x.choice) then none else findV a x.number) := by
  have hmr := right_msg hright m hmm
  have hch : ∀ z ∈ m.fields, 0 ≤ z.choice := fun z hz => (choice_16 hmr hz).1
  have hfx := fld_self hmr hx
  obtain ⟨i1, i2, i3⟩ := find_join (jb := joinB f k) (f := f) hch oa.ris ob x.number
  have hlast : findV b x.number = none → findV (b.foldl (joinV (joinB f k) f m.fields) a) x.number = if (∃ y ∈ m.fields, (findV b y.number).isSome = true ∧ 0 < x.choice ∧ y.choice = x.choice) then none else findV a x.number := fun hn => by
    by_cases hg : gone m.fields b x.number
    · rw [i2 hn hg, if_pos ((gone_iff hmr hx ob hn).1 hg)]
    · rw [i3 hn hg, if_neg (fun h => hg ((gone_iff hmr hx ob hn).2 h))]
  refine ⟨fun hmy => ?_, fun v hmy hv hk => ?_, hlast⟩
  · cases hv : findV b x.number with
    | some v =>
      rw [i1 v x hv hfx]
      cases ha : findV a x.number with
      | none => rw [both_none]; simp [lens, val0]
      | some u =>
        rw [both_many hmy]
        simp only [lens, Option.getD_some, List.length_append]
        omega
    | none =>
      rw [hlast hv, if_neg]
      · simp [lens, val0]
      · rintro ⟨y, _, _, hp, _⟩
        obtain ⟨i, hi, rfl⟩ := List.getElem_of_mem hx
        have := (typed_facts (field_facts ((msg_field hmr).2.2 i hi)).2.2.2.1).2.2.2 hp
        rw [hmy] at this; cases this
  · rw [i1 v x hv hfx]
    rcases hk with hk | hk
    · rw [both_last hmy hk]
    · rw [hk, both_none]
end Go.Proofs.YtplgegffapikoaaDoor
set_option linter.unusedVariables false
namespace Go.Proofs.YtplgegffapikoaaDoor
open Go.RowKit
theorem joinA_ok {f : Fil} {msg : Int} {a b : Bod} (h : (joinA f msg a b).2 = 0) : wrongA f msg a = 0 ∧ wrongA f msg b = 0 ∧ wrongA f msg (joinB f 12 msg a b) = 0 ∧ joinA f msg a b = (joinB f 12 msg a b, 0) := by
  unfold joinA at h ⊢
  by_cases h1 : wrongA f msg a = 0
  · rw [if_neg (by simpa using h1)] at h ⊢
    by_cases h2 : wrongA f msg b = 0
    · rw [if_neg (by simpa using h2)] at h ⊢
      by_cases h3 : wrongA f msg (joinB f 12 msg a b) = 0
      · rw [if_neg (by simpa using h3)] at h ⊢
        exact ⟨h1, h2, h3, rfl⟩
      · rw [if_pos h3] at h; exact absurd h h3
    · rw [if_pos h2] at h; exact absurd h h2
  · rw [if_pos h1] at h; exact absurd h h1
theorem joinA_eq {f : Fil} {msg : Int} {a b : Bod} (h1 : wrongA f msg a = 0) (h2 : wrongA f msg b = 0) (h3 : wrongA f msg (joinB f 12 msg a b) = 0) : joinA f msg a b = (joinB f 12 msg a b, 0) := by
  unfold joinA
  rw [if_neg (by simpa using h1), if_neg (by simpa using h2), if_neg (by simpa using h3)]
theorem wrongA_is {f : Fil} {msg : Int} (hr : (wrongN f).1 = 0) (h0 : 0 ≤ msg) (h1 : msg < f.msgs.length) (x : Bod) : wrongA f msg x = wrongB f 12 msg x := by
  unfold wrongA
  rw [if_neg (by simpa using hr), if_neg (by omega)]
theorem joinA_05 {f : Fil} {msg : Int} {a b : Bod} (h1 : wrongA f msg a = 0) (h2 : wrongA f msg b = 0) : (joinA f msg a b).2 = 0 ∨ (joinA f msg a b).2 = 5 := by
  obtain ⟨hr, g0, g1, ha⟩ := wrongA_zero h1
  obtain ⟨_, _, _, hb⟩ := wrongA_zero h2
  unfold joinA
  rw [if_neg (by simpa using h1), if_neg (by simpa using h2), wrongA_is hr g0 g1]
  rcases join_05 hr 12 msg a b ha hb with h | h
  · rw [if_neg (by simpa using h)]; exact .inl rfl
  · rw [if_pos (by rw [h]; decide)]; exact .inr h
theorem joinA_nil {f : Fil} {msg : Int} {a : Bod} (h : wrongA f msg a = 0) : joinA f msg a bod0 = (a, 0) ∧ joinA f msg bod0 a = (a, 0) := by
  obtain ⟨hr, g0, g1, ha⟩ := wrongA_zero h
  obtain ⟨k', m, e, hm, _⟩ := wrongB_zero ha
  have h0 : wrongA f msg bod0 = 0 := by rw [wrongA_is hr g0 g1]; exact nil_right (k := 11) hm
  have e1 := join_nil ha
  have e2 := nil_join hr ha
  refine ⟨?_, ?_⟩
  · rw [joinA_eq h h0 (by rw [e1]; exact h), e1]
  · rw [joinA_eq h0 h (by rw [e2]; exact h), e2]
theorem joinA_unk {f : Fil} {msg : Int} {a b : Bod} {N : Nat} (h : (joinA f msg a b).2 = 0) (na : UnkLe N 12 a) (nb : UnkLe N 12 b) : UnkLe (2 * N) 12 (joinA f msg a b).1 := by
  obtain ⟨h1, h2, h3, e⟩ := joinA_ok h
  obtain ⟨hr, g0, g1, ha⟩ := wrongA_zero h1
  obtain ⟨_, _, _, hb⟩ := wrongA_zero h2
  rw [e]
  exact unk_join hr 12 msg a b ha hb na nb
/-- Of three bodies it is no matter which two are put together first. -/
theorem joinA_three {f : Fil} {msg : Int} {a b c : Bod} (hx : (joinA f msg a b).2 = 0) (hy : (joinA f msg b c).2 = 0) (hmx : mixedN f = false) :
    ((joinA f msg (joinA f msg a b).1 c).2 = 0 ∨ (joinA f msg (joinA f msg a b).1 c).2 = 5) ∧ ((joinA f msg a (joinA f msg b c).1).2 = 0 ∨ (joinA f msg a (joinA f msg b c).1).2 = 5) ∧
      ((joinA f msg (joinA f msg a b).1 c).2 = 0 → (joinA f msg a (joinA f msg b c).1).2 = 0 → (joinA f msg (joinA f msg a b).1 c).1 = (joinA f msg a (joinA f msg b c).1).1) := by
  obtain ⟨wa, wb, wx, ex⟩ := joinA_ok hx
  obtain ⟨_, wc, wy, ey⟩ := joinA_ok hy
  rw [ex, ey]
  simp only
  refine ⟨joinA_05 wx wc, joinA_05 wa wy, fun h1 h2 => ?_⟩
  obtain ⟨_, _, _, e1⟩ := joinA_ok h1
  obtain ⟨_, _, _, e2⟩ := joinA_ok h2
  rw [e1, e2]
  simp only
  obtain ⟨hr, g0, g1, ha⟩ := wrongA_zero wa
  have hnm : ∀ m ∈ f.msgs, ∀ x ∈ m.fields, x.kind = 10 → x.choice ≤ 0 := fun m hm x hxm hk => by
    unfold mixedN at hmx
    have h3 := List.any_eq_false.1 hmx m hm
    have h4 : mixedF x = false := by
      cases e : mixedF x with
      | false => rfl
      | true => exact absurd (List.any_eq_true.2 ⟨x, hxm, e⟩) h3
    unfold mixedF at h4
    rw [hk] at h4
    have : ¬ 0 < x.choice := by simpa using h4
    omega
  exact join_assoc hr hnm 12 msg a b c ha (wrongA_zero wb).2.2.2 (wrongA_zero wc).2.2.2 (wrongA_zero wx).2.2.2 (wrongA_zero wy).2.2.2
theorem unk_nil (N k : Nat) : UnkLe N k bod0 := by
  cases k with
  | zero => exact Nat.zero_le _
  | succ k => exact ⟨Nat.zero_le _, fun v hv => by cases hv⟩
end Go.Proofs.YtplgegffapikoaaDoor
set_option linter.unusedVariables false
namespace Go.Proofs.YtplgegffapikoaaDoor
open Go.RowKit
theorem joinA_err {f : Fil} {msg : Int} {a b : Bod} (h : (joinA f msg a b).2 ≠ 0) : (joinA f msg a b).1 = bod0 := by
  unfold joinA at h ⊢
  by_cases h1 : wrongA f msg a = 0
  · rw [if_neg (by simpa using h1)] at h ⊢
    by_cases h2 : wrongA f msg b = 0
    · rw [if_neg (by simpa using h2)] at h ⊢
      by_cases h3 : wrongA f msg (joinB f 12 msg a b) = 0
      · rw [if_neg (by simpa using h3)] at h; exact absurd rfl h
      · rw [if_pos h3]
    · rw [if_pos h2]
  · rw [if_pos h1]
/-- Has the second one another one of the field's choice? -/
def goneP (b : List Val) (x y : Fld) : Bool := (findV b y.number).isSome && decide (0 < x.choice) && (y.choice == x.choice)
def goneN (b : List Val) (x : Fld) (l : List Fld) : Bool := l.any (goneP b x)
theorem goneN_snoc {b : List Val} {x : Fld} {l : List Fld} {k : Nat} (h : k < l.length) : goneN b x (l.take (k + 1)) = (goneN b x (l.take k) || goneP b x l[k]) := by
  unfold goneN
  rw [List.take_succ_eq_append_getElem h, List.any_append, List.any_cons, List.any_nil, Bool.or_false]
theorem goneN_iff {b : List Val} {x : Fld} {l : List Fld} : goneN b x l = true ↔ ∃ y ∈ l, (findV b y.number).isSome = true ∧ 0 < x.choice ∧ y.choice = x.choice := by
  unfold goneN goneP
  rw [List.any_eq_true]
  constructor
  · rintro ⟨y, hy, h⟩
    rw [Bool.and_eq_true, Bool.and_eq_true, decide_eq_true_eq, beq_iff_eq] at h
    exact ⟨y, hy, h.1.1, h.1.2, h.2⟩
  · rintro ⟨y, hy, h1, h2, h3⟩
    refine ⟨y, hy, ?_⟩
    rw [Bool.and_eq_true, Bool.and_eq_true, decide_eq_true_eq, beq_iff_eq]
    exact ⟨⟨h1, h2⟩, h3⟩
/-- Of two right bodies put together, of each field of their message. -/
theorem last_law {f : Fil} {mi : Nat} {a b : Bod} (h : (joinA f (mi : Int) a b).2 = 0) (hmi : mi < f.msgs.length) {k : Nat} (hk : k < (f.msgs[mi]).fields.length) :
    (((f.msgs[mi]).fields[k]).many = true → lens ((findV (joinA f mi a b).1.values ((f.msgs[mi]).fields[k]).number).getD val0) = lens ((findV a.values ((f.msgs[mi]).fields[k]).number).getD val0) + lens ((findV b.values ((f.msgs[mi]).fields[k]).number).getD val0)) ∧
    (∀ v, ((f.msgs[mi]).fields[k]).many = false → findV b.values ((f.msgs[mi]).fields[k]).number = some v → (((f.msgs[mi]).fields[k]).kind ≠ 10 ∨ findV a.values ((f.msgs[mi]).fields[k]).number = none) → findV (joinA f mi a b).1.values ((f.msgs[mi]).fields[k]).number = some v) ∧
    (findV b.values ((f.msgs[mi]).fields[k]).number = none → findV (joinA f mi a b).1.values ((f.msgs[mi]).fields[k]).number = if goneN b.values ((f.msgs[mi]).fields[k]) (f.msgs[mi]).fields = true then none else findV a.values ((f.msgs[mi]).fields[k]).number) := by
  obtain ⟨h1, h2, _, e⟩ := joinA_ok h
  obtain ⟨hr, _, _, ha⟩ := wrongA_zero h1
  obtain ⟨_, _, _, hb⟩ := wrongA_zero h2
  have hm : f.msgs[((mi : Int)).toNat]? = some f.msgs[mi] := by rw [Int.toNat_natCast, List.getElem?_eq_getElem hmi]
  rw [wrongB, hm] at ha hb
  rw [e, join_vals hm]
  obtain ⟨g1, g2, g3⟩ := last_field hr (k := 11) (List.getElem_mem hmi) (List.getElem_mem hk) (okV_right ha) (okV_right hb)
  refine ⟨g1, g2, fun hn => ?_⟩
  have := g3 hn
  by_cases hg : goneN b.values ((f.msgs[mi]).fields[k]) (f.msgs[mi]).fields = true
  · rw [if_pos hg]; rw [if_pos (goneN_iff.1 hg)] at this; exact this
  · rw [if_neg hg]; rw [if_neg (fun h => hg (goneN_iff.2 h))] at this; exact this
theorem last_unk {f : Fil} {mi : Nat} {a b : Bod} (h : (joinA f (mi : Int) a b).2 = 0) (hmi : mi < f.msgs.length) : (joinA f mi a b).1.unknown.length = a.unknown.length + b.unknown.length := by
  obtain ⟨_, _, _, e⟩ := joinA_ok h
  have hm : f.msgs[((mi : Int)).toNat]? = some f.msgs[mi] := by rw [Int.toNat_natCast, List.getElem?_eq_getElem hmi]
  rw [e, join_vals hm]
  exact List.length_append
end Go.Proofs.YtplgegffapikoaaDoor
set_option linter.unusedVariables false
namespace Go.Proofs.YtplgegffapikoaaDoor
open Go.RowKit
/-- A block that holds a list, element by element. -/
theorem rds_block {α : Type} {D : Lay α} {size : Nat} {S : Nat → Prop} {W : World} {g : Nat} {cs : Array Value} {t : TypeId} {l : List α} (hb : W.heap[g]? = some (.cells cs t (0, 0))) (hS : S g) (hm : l.length ≤ maxLen) (hd : ∀ i, (hi : i < l.length) → ((cs.toList.drop (i * size)).take size).length = size ∧ D S W l[i] ((cs.toList.drop (i * size)).take size)) :
    RdS D size S W (.slice (some ⟨g, 0, none⟩) l.length l.length) l := by
  refine ⟨some ⟨g, 0, none⟩, l.length, rfl, Nat.le_refl _, hm, (fun h => by cases h), fun i hi => ?_⟩
  obtain ⟨h1, h2⟩ := hd i hi
  refine ⟨g, 0, (cs.toList.drop (i * size)).take size, rfl, hS, lt_of_block hb, h1, fun j u hu => ?_, h2⟩
  have hj : j < size := by have := (List.getElem?_eq_some_iff.1 hu).1; omega
  rw [List.getElem?_take_of_lt hj, List.getElem?_drop, Array.getElem?_toList] at hu
  rw [Nat.zero_add]
  have hj2 := (Array.getElem?_eq_some_iff.1 hu).1
  exact cell_of_row W g (i * size + j) _ _ _ hb |>.trans (by simpa using hu)
def fileA : Fil := ⟨[⟨[65], [⟨[120], 1, 1, [], false, 0⟩, ⟨[121], 2, 8, [], true, 0⟩], []⟩], []⟩
def bodA : Bod := .mk [(1, [5], [], []), (2, [], [[113]], [])] []
def bodB : Bod := .mk [(1, [5], [], []), (2, [], [[113], [113]], [])] []
set_option maxRecDepth 100000 in
set_option maxHeartbeats 1600000 in
theorem file_a (w : World) : Calls Tryd.prog 43 #[] w fun e w' => ∃ mb, e = .returned (.agg #[.slice (some ⟨mb, 0, none⟩) 1 1, .slice none 0 0]) ∧ FilV All w' (.agg #[.slice (some ⟨mb, 0, none⟩) 1 1, .slice none 0 0]) fileA ∧ Up w w' := by
  go_enter Tryd.func43, Tryd.ntmps43
  go_wp2_with fail
  generalize hW : ((w.alloc (.cells #[.slice (some ⟨w.heap.size + 1 + 1, 0, none⟩) 1 1, .slice none 0 0] 25)).alloc (.cells #[.string ⟨#[120]⟩, .int .i64 1, .int .i64 1, .string ⟨#[]⟩, .bool false, .int .i64 0, .string ⟨#[121]⟩, .int .i64 2, .int .i64 8, .string ⟨#[]⟩, .bool true, .int .i64 0] 53)).alloc (.cells #[.string ⟨#[65]⟩, .slice (some ⟨w.heap.size + 1, 0, none⟩) 2 2, .slice none 0 0] 48) = W
  have hb0 : W.heap[w.heap.size]? = some (.cells #[.slice (some ⟨w.heap.size + 1 + 1, 0, none⟩) 1 1, .slice none 0 0] 25 (0, 0)) := by rw [← hW]; exact blk_old _ (blk_old _ (blk_new w _ rfl))
  have hb1 : W.heap[w.heap.size + 1]? = some (.cells #[.string ⟨#[120]⟩, .int .i64 1, .int .i64 1, .string ⟨#[]⟩, .bool false, .int .i64 0, .string ⟨#[121]⟩, .int .i64 2, .int .i64 8, .string ⟨#[]⟩, .bool true, .int .i64 0] 53 (0, 0)) := by rw [← hW]; exact blk_old _ (blk_new (w.alloc _) _ (by simp))
  have hb2 : W.heap[w.heap.size + 1 + 1]? = some (.cells #[.string ⟨#[65]⟩, .slice (some ⟨w.heap.size + 1, 0, none⟩) 2 2, .slice none 0 0] 48 (0, 0)) := by rw [← hW]; exact blk_new ((w.alloc _).alloc _) _ (by simp)
  have hu : Up w W := by rw [← hW]; exact (((Up.refl w).alloc _).alloc _).alloc _
  clear hW
  have r0 : W.cell? ⟨w.heap.size, 0, none⟩ = some (.slice (some ⟨w.heap.size + 1 + 1, 0, none⟩) 1 1) := cell_of_row W _ 0 _ _ _ hb0
  have r1 : W.cell? ⟨w.heap.size, 1, none⟩ = some (.slice none 0 0) := cell_of_row W _ 1 _ _ _ hb0
  have hsz : w.heap.size < W.heap.size := lt_of_block hb0
  refine bodyPost_ret (v := .agg #[.slice (some ⟨w.heap.size + 1 + 1, 0, none⟩) 1 1, .slice none 0 0]) (by simp [results, Tryd.results43, go_sem, r0, r1]) rfl ?_
  refine ⟨_, rfl, ⟨_, _, rfl, rds_block (l := fileA.msgs) hb2 trivial (by decide) (fun i hi => ?_), rdS_nil _ _ _ _⟩, hu⟩
  have hi0 : i = 0 := by have h : i < 1 := hi; omega
  subst hi0
  refine ⟨rfl, _, _, rfl, rds_block (l := (fileA.msgs[0]).fields) hb1 trivial (show (2 : Nat) ≤ maxLen by decide) (fun j hj => ?_), rdS_nil _ _ _ _, (show okS [65] by unfold okS; decide)⟩
  have hj2 : j < 2 := hj
  rcases j with _ | _ | j
  · exact ⟨rfl, rfl, (show okI 1 by unfold okI; decide), (show okI 1 by unfold okI; decide), (show okI 0 by unfold okI; decide), (show okS [120] by unfold okS; decide), (show okS [] by unfold okS; decide)⟩
  · exact ⟨rfl, rfl, (show okI 2 by unfold okI; decide), (show okI 8 by unfold okI; decide), (show okI 0 by unfold okI; decide), (show okS [121] by unfold okS; decide), (show okS [] by unfold okS; decide)⟩
  · omega
end Go.Proofs.YtplgegffapikoaaDoor
set_option linter.unusedVariables false
namespace Go.Proofs.YtplgegffapikoaaDoor
open Go.RowKit
theorem unk_A : UnkLe 1 12 bodA := ⟨Nat.zero_le _, fun v hv s hs => by
  have h : v.2.2.2 = [] := by
    have hv' : v ∈ [((1 : Int), [5], ([] : List (List UInt8)), ([] : List Bod)), (2, [], [[113]], [])] := hv
    rcases List.mem_cons.1 hv' with rfl | hv'
    · rfl
    · rcases List.mem_cons.1 hv' with rfl | hv'
      · rfl
      · cases hv'
  rw [h] at hs; cases hs⟩
theorem valid_q : Lib.validD [113] = true := by decide +kernel
theorem wrong_A : wrongA fileA 0 bodA = 0 := by decide +kernel
theorem wrong_B : wrongA fileA 0 bodB = 0 := by decide +kernel
theorem join_A : joinA fileA 0 bodA bodA = (bodB, 0) := by
  have e : joinB fileA 12 0 bodA bodA = bodB := by rfl
  unfold joinA
  rw [wrong_A, e, wrong_B]
  rfl
set_option maxRecDepth 100000 in
set_option maxHeartbeats 6400000 in
theorem alive_true (w : World) (hT : Tabs w) : Calls Tryd.prog 21 #[] w fun e w' => e = .returned (.bool true) ∧ Up w w' := by
  have HT := Lib.hid hT
  clear hT
  go_enter Tryd.func21, Tryd.ntmps21
  go_upto_region 2 with (fail)
  generalize hW : ((((w.alloc (.cells #[.int .u64 5] 35)).alloc (.cells #[.int .u8 113] 5)).alloc (.cells #[.slice (some ⟨w.heap.size + 1, 0, none⟩) 1 1] 73)).alloc (.cells #[.int .i64 1, .slice (some ⟨w.heap.size, 0, none⟩) 1 1, .slice none 0 0, .slice none 0 0, .int .i64 2, .slice none 0 0, .slice (some ⟨w.heap.size + 1 + 1, 0, none⟩) 1 1, .slice none 0 0] 34)).alloc (.cells #[.slice (some ⟨w.heap.size + 1 + 1 + 1, 0, none⟩) 2 2, .slice none 0 0] 29) = w1
  have hb0 : w1.heap[w.heap.size]? = some (.cells #[.int .u64 5] 35 (0, 0)) := by rw [← hW]; exact blk_old _ (blk_old _ (blk_old _ (blk_old _ (blk_new w _ rfl))))
  have hb1 : w1.heap[w.heap.size + 1]? = some (.cells #[.int .u8 113] 5 (0, 0)) := by rw [← hW]; exact blk_old _ (blk_old _ (blk_old _ (blk_new (w.alloc _) _ (by simp))))
  have hb2 : w1.heap[w.heap.size + 2]? = some (.cells #[.slice (some ⟨w.heap.size + 1, 0, none⟩) 1 1] 73 (0, 0)) := by rw [← hW]; exact blk_old _ (blk_old _ (blk_new ((w.alloc _).alloc _) _ (by simp)))
  have hb3 : w1.heap[w.heap.size + 3]? = some (.cells #[.int .i64 1, .slice (some ⟨w.heap.size, 0, none⟩) 1 1, .slice none 0 0, .slice none 0 0, .int .i64 2, .slice none 0 0, .slice (some ⟨w.heap.size + 1 + 1, 0, none⟩) 1 1, .slice none 0 0] 34 (0, 0)) := by rw [← hW]; exact blk_old _ (blk_new (((w.alloc _).alloc _).alloc _) _ (by simp))
  have hb4 : w1.heap[w.heap.size + 4]? = some (.cells #[.slice (some ⟨w.heap.size + 1 + 1 + 1, 0, none⟩) 2 2, .slice none 0 0] 29 (0, 0)) := by rw [← hW]; exact blk_new ((((w.alloc _).alloc _).alloc _).alloc _) _ (by simp)
  have hu1 : Up w w1 := by rw [← hW]; exact ((((((Up.refl w).alloc _).alloc _).alloc _).alloc _).alloc _)
  clear hW
  have hda : DBodF 2 All w1 bodA [.slice (some ⟨w.heap.size + 3, 0, none⟩) 2 2, .slice none 0 0] := by
    refine ⟨_, _, rfl, rds_block (l := bodA.values) hb3 trivial (by decide) (fun i hi => ?_), rdS_nil _ _ _ _, by unfold BodSz; decide⟩
    have hi2 : i < 2 := hi
    rcases i with _ | _ | i
    · exact ⟨rfl, ⟨_, _, _, rfl, (show okI 1 by unfold okI; decide), rds_block (l := [5]) hb0 trivial (by decide) (fun j hj => by
        have : j = 0 := by have h : j < 1 := hj; omega
        subst this
        exact ⟨rfl, rfl, (show (5 : Nat) < 2 ^ 64 by decide)⟩), rdS_nil _ _ _ _, rdS_nil _ _ _ _, (show ValSz ((1 : Int), [5], [], []) by unfold ValSz; decide)⟩⟩
    · exact ⟨rfl, ⟨_, _, _, rfl, (show okI 2 by unfold okI; decide), rdS_nil _ _ _ _, rds_block (l := [[113]]) hb2 trivial (by decide) (fun j hj => by
        have : j = 0 := by have h : j < 1 := hj; omega
        subst this
        exact ⟨rfl, _, rfl, rds_block (D := DU8) (l := [113]) hb1 trivial (by decide) (fun k hk => by
          have : k = 0 := by have h : k < 1 := hk; omega
          subst this
          exact ⟨rfl, rfl⟩), (show (1 : Nat) ≤ 140737488355328 by decide)⟩), rdS_nil _ _ _ _, (show ValSz ((2 : Int), [], [[113]], []) by unfold ValSz; decide)⟩⟩
    · omega
  have HD := Lib.hid (fun W (u : Up w1 W) => stable_bod _ _ _ _ _ _ _ (Keep.upS u) hda)
  have Hu1 := Lib.hid hu1
  have hq4 : w.heap.size + 4 < w1.heap.size := lt_of_block hb4
  have t10 : w1.cell? ⟨w.heap.size + 1 + 1 + 1 + 1, 0, none⟩ = some (.slice (some ⟨w.heap.size + 1 + 1 + 1, 0, none⟩) 2 2) := cell_of_row w1 _ 0 _ _ _ hb4
  have t11 : w1.cell? ⟨w.heap.size + 1 + 1 + 1 + 1, 1, none⟩ = some (.slice none 0 0) := cell_of_row w1 _ 1 _ _ _ hb4
  have DD := Lib.hid (fun W (u : Up w1 W) => (⟨u.cell_some t10, u.cell_some t11⟩ : W.cell? ⟨w.heap.size + 1 + 1 + 1 + 1, 0, none⟩ = some (.slice (some ⟨w.heap.size + 1 + 1 + 1, 0, none⟩) 2 2) ∧ W.cell? ⟨w.heap.size + 1 + 1 + 1 + 1, 1, none⟩ = some (.slice none 0 0)))
  clear hb0 hb1 hb2 hb3 hb4 hu1 hda
  go_cut [2, 3] (fun p e wc => ∃ (G : Nat) (vv vu : Value), p = .pointer (some ⟨G, 0, none⟩) ∧ e = .int .i64 0 ∧ wc.heap[G]? = some (.cells #[vv, vu] 29 (0, 0)) ∧ DBodF 2 All wc bodB [vv, vu] ∧ Up w1 wc)
  case first =>
    refine wp_region_held_drew (S := fun w' => w'.cell? ⟨w.heap.size + 1 + 1 + 1 + 1, 0, none⟩ = some (.slice (some ⟨w.heap.size + 1 + 1 + 1, 0, none⟩) 2 2) ∧ w'.cell? ⟨w.heap.size + 1 + 1 + 1 + 1, 1, none⟩ = some (.slice none 0 0)) (by kernel_rfl) (DD.out _ (Up.refl w1).drew) (fun hHeld => ?_)
    have hu := (Up.refl w1).drew
    have hHeld := DD.out _ hu
    clear t10 t11
    refine wpAnyH_take (i := 1) (v := ?_) (by simp only [List.getElem?_toArray, List.getElem?_cons_succ, List.getElem?_cons_zero] <;> rfl) (by kernel_rfl) (by kernel_rfl) (by kernel_rfl) (fun _ _ _ h => by exact h) (Or.inl ⟨by rfl, ?_⟩) (by assumption) ?_
    rotate_left
    · (intro w hSw; (try dsimp only at hSw); go_simp)
      try with_reducible rfl
    rotate_left
    try simp only [Act.put, List.setIfInBounds_toArray, List.set_cons_zero, List.set_cons_succ]
    refine wpAnyH_take (i := 2) (v := ?_) (by simp only [List.getElem?_toArray, List.getElem?_cons_succ, List.getElem?_cons_zero] <;> rfl) (by kernel_rfl) (by kernel_rfl) (by kernel_rfl) (fun _ _ _ h => by exact h) (Or.inl ⟨by rfl, ?_⟩) (by assumption) ?_
    rotate_left
    · (intro w hSw; (try dsimp only at hSw); go_simp)
      try with_reducible rfl
    rotate_left
    try simp only [Act.put, List.setIfInBounds_toArray, List.set_cons_zero, List.set_cons_succ]
    refine wpAnyH_ready (rs := [0, 7]) (by kernel_rfl) (by simp) ?_
    refine AllReadyH.cons (by simp only [List.getElem?_toArray, List.getElem?_cons_zero] <;> rfl) (fun K hK => ?_) (AllReadyH.cons (by simp only [List.getElem?_toArray, List.getElem?_cons_succ, List.getElem?_cons_zero] <;> rfl) (fun K hK => ?_) AllReadyH.nil)
    · go_simp
      refine (file_a _).mono ?_
      rintro e w5 ⟨mb, rfl, hfa, hs⟩
      have hu := hu.trans hs
      refine hK.out _ _ (DD.out _ hu) (fun hHeld => ?_)
      clear hK K hHeld hs
      have hHeld := DD.out _ hu
      try simp only [Act.put, List.setIfInBounds_toArray, List.set_cons_zero, List.set_cons_succ]
      refine wpAnyH_ready (rs := [3, 7]) (by kernel_rfl) (by simp) ?_
      refine AllReadyH.cons (by simp only [List.getElem?_toArray, List.getElem?_cons_succ, List.getElem?_cons_zero] <;> rfl) (fun K hK => ?_) (AllReadyH.cons (by simp only [List.getElem?_toArray, List.getElem?_cons_succ, List.getElem?_cons_zero] <;> rfl) (fun K hK => ?_) AllReadyH.nil)
      · go_simp
        have hjc := join_any 1 2 (by decide) fileA (.agg #[.slice (some ⟨mb, 0, none⟩) 1 1, .slice none 0 0]) (.slice (some ⟨w.heap.size + 1 + 1 + 1, 0, none⟩) 2 2) (.slice none 0 0) (.slice (some ⟨w.heap.size + 1 + 1 + 1, 0, none⟩) 2 2) (.slice none 0 0) 0 bodA bodA w5 hfa (HD.out _ hu) (HD.out _ hu) (HT.out.up (Hu1.out.trans hu)) unk_A unk_A
        rw [join_A] at hjc
        refine hjc.mono ?_
        rintro e w6 ⟨vv, vu, rfl, hd, hs⟩
        obtain ⟨x1, y1, z1, x2, y2, z2, hxy⟩ := bod_two hd
        simp only [List.cons.injEq, and_true] at hxy
        obtain ⟨rfl, rfl⟩ := hxy
        have H7 := Lib.hid (bod_all hd)
        have hfa := hfa.up hs
        have hu := hu.trans hs
        refine hK.out _ _ (DD.out _ hu) (fun hHeld => ?_)
        clear hK K hHeld hs hd hjc
        have hHeld := DD.out _ hu
        try simp only [Act.put, List.setIfInBounds_toArray, List.set_cons_zero, List.set_cons_succ]
        refine wpAnyH_take (i := 4) (v := ?_) (by simp only [List.getElem?_toArray, List.getElem?_cons_succ, List.getElem?_cons_zero] <;> rfl) (by kernel_rfl) (by kernel_rfl) (by kernel_rfl) (fun _ _ _ h => by exact h) (Or.inl ⟨by rfl, ?_⟩) (by assumption) ?_
        rotate_left
        · (intro w hSw; (try dsimp only at hSw); go_simp)
          try with_reducible rfl
        rotate_left
        try simp only [Act.put, List.setIfInBounds_toArray, List.set_cons_zero, List.set_cons_succ]
        refine wpAnyH_take (i := 5) (v := ?_) (by simp only [List.getElem?_toArray, List.getElem?_cons_succ, List.getElem?_cons_zero] <;> rfl) (by kernel_rfl) (by kernel_rfl) (by kernel_rfl) (fun _ _ _ h => by exact h) (Or.inl ⟨by rfl, ?_⟩) (by assumption) ?_
        rotate_left
        · (intro w hSw; (try dsimp only at hSw); go_simp)
          try with_reducible rfl
        rotate_left
        try simp only [Act.put, List.setIfInBounds_toArray, List.set_cons_zero, List.set_cons_succ]
        refine wpAnyH_take (i := 6) (v := ?_) (by simp only [List.getElem?_toArray, List.getElem?_cons_succ, List.getElem?_cons_zero] <;> rfl) (by kernel_rfl) (by kernel_rfl) (by kernel_rfl) (fun _ _ _ h => by exact h) (Or.inl ⟨by rfl, ?_⟩) (by assumption) ?_
        rotate_left
        · (intro w hSw; (try dsimp only at hSw); go_simp)
          try with_reducible rfl
        rotate_left
        try simp only [Act.put, List.setIfInBounds_toArray, List.set_cons_zero, List.set_cons_succ]
        refine wpAnyH_ready (rs := [7]) (by kernel_rfl) (by simp) ?_
        refine AllReadyH.cons (by simp only [List.getElem?_toArray, List.getElem?_cons_succ, List.getElem?_cons_zero] <;> rfl) (fun K hK => ?_) AllReadyH.nil
        go_simp
        have hs : Up w6 (w6.alloc (.cells #[.slice none 0 0, .slice none 0 0] 29)) := (Up.refl w6).alloc _
        have hka : Keep All w6 (fun b : Nat => b ≠ w6.heap.size) (w6.alloc (.cells #[.slice none 0 0, .slice none 0 0] 29)) := fun k _ hk => ⟨hs.block k hk, Nat.ne_of_lt hk⟩
        have hbg : (w6.alloc (.cells #[.slice none 0 0, .slice none 0 0] 29)).heap[w6.heap.size]? = some (.cells #[.slice none 0 0, .slice none 0 0] 29 (0, 0)) := blk_new w6 (.cells #[.slice none 0 0, .slice none 0 0] 29) rfl
        have hqg0 : ∀ x, w6.heap.size = x → w1.heap.size ≤ x := fun x e => e ▸ hu.size
        have hu : Up w1 (w6.alloc (.cells #[.slice none 0 0, .slice none 0 0] 29)) := hu.trans hs
        refine hK.out _ _ (DD.out _ hu) (fun hHeld => ?_)
        clear hK K hHeld
        obtain ⟨G, hG⟩ : ∃ G, w6.heap.size = G := ⟨_, rfl⟩
        have hqg := hqg0 G hG
        clear hqg0
        rw [hG] at hka hbg
        have hHeld := DD.out _ hu
        have hfa := hfa.up hs
        have H7 := Lib.hid (stable_bod _ _ _ _ _ _ _ hka H7.out)
        obtain ⟨w7, hww7⟩ : ∃ x, w6.alloc (.cells #[.slice none 0 0, .slice none 0 0] 29) = x := ⟨_, rfl⟩
        rw [hww7] at hu hbg hHeld hs hka H7 hfa ⊢
        try rw [hG]
        clear hww7 hka
        try simp only [Act.put, List.setIfInBounds_toArray, List.set_cons_zero, List.set_cons_succ]
        have q0 : w7.cell? ⟨G, 0, none⟩ = some (.slice none 0 0) := cell_of_row w7 G 0 _ _ _ hbg
        have q1 : w7.cell? ⟨G, 1, none⟩ = some (.slice none 0 0) := cell_of_row w7 G 1 _ _ _ hbg
        have tf : ∀ o, w7.frozen? ⟨G, o, none⟩ = false := fun o => frozen_of_row w7 G o _ _ hbg
        have tz : G < w7.heap.size := lt_of_block hbg
        have hfin := Up.setCell (Up.setCell hu (p := ⟨G, 0, none⟩) hqg (.slice x1 y1 z1)) (p := ⟨G, 1, none⟩) hqg (.slice x2 y2 z2)
        have hboxed := box2_set hbg (.slice x1 y1 z1) (.slice x2 y2 z2)
        have hlast := stable_bod _ _ _ _ _ _ _ (((Keep.setCell (S := (fun b : Nat => b ≠ G)) (w := w7) (p := ⟨G, 0, none⟩) (fun h => h rfl) (.slice x1 y1 z1)).trans (Keep.setCell (p := ⟨G, 1, none⟩) (fun h => h rfl) (.slice x2 y2 z2))).trans Keep.all) H7.out
        have Hfin := Lib.hid hfin; have Hboxed := Lib.hid hboxed; have Hlast := Lib.hid hlast
        clear hfin hboxed hlast hbg hqg hu H7
        refine wpAnyH_ready (rs := [8]) (by kernel_rfl) (by simp) ?_
        refine AllReadyH.cons (by simp only [List.getElem?_toArray, List.getElem?_cons_succ, List.getElem?_cons_zero] <;> rfl) (fun K hK => ?_) AllReadyH.nil
        go_simp
        refine hK.out _ _ (DD.out _ Hfin.out) (fun hHeld => ?_)
        clear hK K hHeld q0 q1 tf tz
        have hHeld := DD.out _ Hfin.out
        try simp only [Act.put, List.setIfInBounds_toArray, List.set_cons_zero, List.set_cons_succ]
        refine wpAnyH_take (i := 9) (v := ?_) (by simp only [List.getElem?_toArray, List.getElem?_cons_succ, List.getElem?_cons_zero] <;> rfl) (by kernel_rfl) (by kernel_rfl) (by kernel_rfl) (fun _ _ _ h => by exact h) (Or.inl ⟨by rfl, ?_⟩) (by assumption) ?_
        rotate_left
        · (intro w hSw; (try dsimp only at hSw); go_simp)
          try with_reducible rfl
        rotate_left
        try simp only [Act.put, List.setIfInBounds_toArray, List.set_cons_zero, List.set_cons_succ]
        refine wpAnyH_done (by kernel_rfl) ?_ _
        go_wp2_with fail
        go_meet
        exact ⟨G, _, _, rfl, rfl, Hboxed.out, Hlast.out, Hfin.out⟩
      · go_simp
        have hs : Up w5 (w5.alloc (.cells #[.slice none 0 0, .slice none 0 0] 29)) := (Up.refl w5).alloc _
        have hka : Keep All w5 (fun b : Nat => b ≠ w5.heap.size) (w5.alloc (.cells #[.slice none 0 0, .slice none 0 0] 29)) := fun k _ hk => ⟨hs.block k hk, Nat.ne_of_lt hk⟩
        have hbg : (w5.alloc (.cells #[.slice none 0 0, .slice none 0 0] 29)).heap[w5.heap.size]? = some (.cells #[.slice none 0 0, .slice none 0 0] 29 (0, 0)) := blk_new w5 (.cells #[.slice none 0 0, .slice none 0 0] 29) rfl
        have hqg0 : ∀ x, w5.heap.size = x → w1.heap.size ≤ x := fun x e => e ▸ hu.size
        have hu : Up w1 (w5.alloc (.cells #[.slice none 0 0, .slice none 0 0] 29)) := hu.trans hs
        refine hK.out _ _ (DD.out _ hu) (fun hHeld => ?_)
        clear hK K hHeld
        obtain ⟨G, hG⟩ : ∃ G, w5.heap.size = G := ⟨_, rfl⟩
        have hqg := hqg0 G hG
        clear hqg0
        rw [hG] at hka hbg
        have hHeld := DD.out _ hu
        have hfa := hfa.up hs
        obtain ⟨w6, hww6⟩ : ∃ x, w5.alloc (.cells #[.slice none 0 0, .slice none 0 0] 29) = x := ⟨_, rfl⟩
        rw [hww6] at hu hbg hHeld hs hka  hfa ⊢
        try rw [hG]
        clear hww6 hka
        try simp only [Act.put, List.setIfInBounds_toArray, List.set_cons_zero, List.set_cons_succ]
        refine wpAnyH_ready (rs := [3]) (by kernel_rfl) (by simp) ?_
        refine AllReadyH.cons (by simp only [List.getElem?_toArray, List.getElem?_cons_succ, List.getElem?_cons_zero] <;> rfl) (fun K hK => ?_) AllReadyH.nil
        go_simp
        have hjc := join_any 1 2 (by decide) fileA (.agg #[.slice (some ⟨mb, 0, none⟩) 1 1, .slice none 0 0]) (.slice (some ⟨w.heap.size + 1 + 1 + 1, 0, none⟩) 2 2) (.slice none 0 0) (.slice (some ⟨w.heap.size + 1 + 1 + 1, 0, none⟩) 2 2) (.slice none 0 0) 0 bodA bodA w6 hfa (HD.out _ hu) (HD.out _ hu) (HT.out.up (Hu1.out.trans hu)) unk_A unk_A
        rw [join_A] at hjc
        refine hjc.mono ?_
        rintro e w7 ⟨vv, vu, rfl, hd, hs⟩
        obtain ⟨x1, y1, z1, x2, y2, z2, hxy⟩ := bod_two hd
        simp only [List.cons.injEq, and_true] at hxy
        obtain ⟨rfl, rfl⟩ := hxy
        have H7 := Lib.hid (stable_bod 2 _ _ (fun b : Nat => b ≠ G) _ _ _ (Keep.weak (fun b (hb : From _ b) e => by have h1 : _ ≤ b := hb; have := lt_of_block hbg; omega)) hd)
        have hbg := hs.blk hbg
        have hfa := hfa.up hs
        have hu := hu.trans hs
        refine hK.out _ _ (DD.out _ hu) (fun hHeld => ?_)
        clear hK K hHeld hs hd hjc
        have hHeld := DD.out _ hu
        try simp only [Act.put, List.setIfInBounds_toArray, List.set_cons_zero, List.set_cons_succ]
        refine wpAnyH_take (i := 4) (v := ?_) (by simp only [List.getElem?_toArray, List.getElem?_cons_succ, List.getElem?_cons_zero] <;> rfl) (by kernel_rfl) (by kernel_rfl) (by kernel_rfl) (fun _ _ _ h => by exact h) (Or.inl ⟨by rfl, ?_⟩) (by assumption) ?_
        rotate_left
        · (intro w hSw; (try dsimp only at hSw); go_simp)
          try with_reducible rfl
        rotate_left
        try simp only [Act.put, List.setIfInBounds_toArray, List.set_cons_zero, List.set_cons_succ]
        refine wpAnyH_take (i := 5) (v := ?_) (by simp only [List.getElem?_toArray, List.getElem?_cons_succ, List.getElem?_cons_zero] <;> rfl) (by kernel_rfl) (by kernel_rfl) (by kernel_rfl) (fun _ _ _ h => by exact h) (Or.inl ⟨by rfl, ?_⟩) (by assumption) ?_
        rotate_left
        · (intro w hSw; (try dsimp only at hSw); go_simp)
          try with_reducible rfl
        rotate_left
        try simp only [Act.put, List.setIfInBounds_toArray, List.set_cons_zero, List.set_cons_succ]
        refine wpAnyH_take (i := 6) (v := ?_) (by simp only [List.getElem?_toArray, List.getElem?_cons_succ, List.getElem?_cons_zero] <;> rfl) (by kernel_rfl) (by kernel_rfl) (by kernel_rfl) (fun _ _ _ h => by exact h) (Or.inl ⟨by rfl, ?_⟩) (by assumption) ?_
        rotate_left
        · (intro w hSw; (try dsimp only at hSw); go_simp)
          try with_reducible rfl
        rotate_left
        try simp only [Act.put, List.setIfInBounds_toArray, List.set_cons_zero, List.set_cons_succ]
        have q0 : w7.cell? ⟨G, 0, none⟩ = some (.slice none 0 0) := cell_of_row w7 G 0 _ _ _ hbg
        have q1 : w7.cell? ⟨G, 1, none⟩ = some (.slice none 0 0) := cell_of_row w7 G 1 _ _ _ hbg
        have tf : ∀ o, w7.frozen? ⟨G, o, none⟩ = false := fun o => frozen_of_row w7 G o _ _ hbg
        have tz : G < w7.heap.size := lt_of_block hbg
        have hfin := Up.setCell (Up.setCell hu (p := ⟨G, 0, none⟩) hqg (.slice x1 y1 z1)) (p := ⟨G, 1, none⟩) hqg (.slice x2 y2 z2)
        have hboxed := box2_set hbg (.slice x1 y1 z1) (.slice x2 y2 z2)
        have hlast := stable_bod _ _ _ _ _ _ _ (((Keep.setCell (S := (fun b : Nat => b ≠ G)) (w := w7) (p := ⟨G, 0, none⟩) (fun h => h rfl) (.slice x1 y1 z1)).trans (Keep.setCell (p := ⟨G, 1, none⟩) (fun h => h rfl) (.slice x2 y2 z2))).trans Keep.all) H7.out
        have Hfin := Lib.hid hfin; have Hboxed := Lib.hid hboxed; have Hlast := Lib.hid hlast
        clear hfin hboxed hlast hbg hqg hu H7
        refine wpAnyH_ready (rs := [8]) (by kernel_rfl) (by simp) ?_
        refine AllReadyH.cons (by simp only [List.getElem?_toArray, List.getElem?_cons_succ, List.getElem?_cons_zero] <;> rfl) (fun K hK => ?_) AllReadyH.nil
        go_simp
        refine hK.out _ _ (DD.out _ Hfin.out) (fun hHeld => ?_)
        clear hK K hHeld q0 q1 tf tz
        have hHeld := DD.out _ Hfin.out
        try simp only [Act.put, List.setIfInBounds_toArray, List.set_cons_zero, List.set_cons_succ]
        refine wpAnyH_take (i := 9) (v := ?_) (by simp only [List.getElem?_toArray, List.getElem?_cons_succ, List.getElem?_cons_zero] <;> rfl) (by kernel_rfl) (by kernel_rfl) (by kernel_rfl) (fun _ _ _ h => by exact h) (Or.inl ⟨by rfl, ?_⟩) (by assumption) ?_
        rotate_left
        · (intro w hSw; (try dsimp only at hSw); go_simp)
          try with_reducible rfl
        rotate_left
        try simp only [Act.put, List.setIfInBounds_toArray, List.set_cons_zero, List.set_cons_succ]
        refine wpAnyH_done (by kernel_rfl) ?_ _
        go_wp2_with fail
        go_meet
        exact ⟨G, _, _, rfl, rfl, Hboxed.out, Hlast.out, Hfin.out⟩
    · go_simp
      have hs : Up w1 ((w1.alloc (.cells #[.slice none 0 0, .slice none 0 0] 29)).drew) := ((Up.refl w1).alloc _).drew
      have hka : Keep All w1 (fun b : Nat => b ≠ w1.heap.size) ((w1.alloc (.cells #[.slice none 0 0, .slice none 0 0] 29)).drew) := fun k _ hk => ⟨hs.block k hk, Nat.ne_of_lt hk⟩
      have hbg : ((w1.alloc (.cells #[.slice none 0 0, .slice none 0 0] 29)).drew).heap[w1.heap.size]? = some (.cells #[.slice none 0 0, .slice none 0 0] 29 (0, 0)) := blk_new w1 (.cells #[.slice none 0 0, .slice none 0 0] 29) rfl
      have hqg0 : ∀ x, w1.heap.size = x → w1.heap.size ≤ x := fun x e => Nat.le_of_eq e
      have hu : Up w1 ((w1.alloc (.cells #[.slice none 0 0, .slice none 0 0] 29)).drew) := hs
      refine hK.out _ _ (DD.out _ hu) (fun hHeld => ?_)
      clear hK K hHeld
      obtain ⟨G, hG⟩ : ∃ G, w1.heap.size = G := ⟨_, rfl⟩
      have hqg := hqg0 G hG
      clear hqg0
      rw [hG] at hka hbg
      have hHeld := DD.out _ hu
      obtain ⟨w5, hww5⟩ : ∃ x, (w1.alloc (.cells #[.slice none 0 0, .slice none 0 0] 29)).drew = x := ⟨_, rfl⟩
      rw [hww5] at hu hbg hHeld hs hka  ⊢
      try rw [hG]
      clear hww5 hka
      try simp only [Act.put, List.setIfInBounds_toArray, List.set_cons_zero, List.set_cons_succ]
      refine wpAnyH_ready (rs := [0]) (by kernel_rfl) (by simp) ?_
      refine AllReadyH.cons (by simp only [List.getElem?_toArray, List.getElem?_cons_zero] <;> rfl) (fun K hK => ?_) AllReadyH.nil
      go_simp
      refine (file_a _).mono ?_
      rintro e w6 ⟨mb, rfl, hfa, hs⟩
      have hbg := hs.blk hbg
      have hu := hu.trans hs
      refine hK.out _ _ (DD.out _ hu) (fun hHeld => ?_)
      clear hK K hHeld hs
      have hHeld := DD.out _ hu
      try simp only [Act.put, List.setIfInBounds_toArray, List.set_cons_zero, List.set_cons_succ]
      refine wpAnyH_ready (rs := [3]) (by kernel_rfl) (by simp) ?_
      refine AllReadyH.cons (by simp only [List.getElem?_toArray, List.getElem?_cons_succ, List.getElem?_cons_zero] <;> rfl) (fun K hK => ?_) AllReadyH.nil
      go_simp
      have hjc := join_any 1 2 (by decide) fileA (.agg #[.slice (some ⟨mb, 0, none⟩) 1 1, .slice none 0 0]) (.slice (some ⟨w.heap.size + 1 + 1 + 1, 0, none⟩) 2 2) (.slice none 0 0) (.slice (some ⟨w.heap.size + 1 + 1 + 1, 0, none⟩) 2 2) (.slice none 0 0) 0 bodA bodA w6 hfa (HD.out _ hu) (HD.out _ hu) (HT.out.up (Hu1.out.trans hu)) unk_A unk_A
      rw [join_A] at hjc
      refine hjc.mono ?_
      rintro e w7 ⟨vv, vu, rfl, hd, hs⟩
      obtain ⟨x1, y1, z1, x2, y2, z2, hxy⟩ := bod_two hd
      simp only [List.cons.injEq, and_true] at hxy
      obtain ⟨rfl, rfl⟩ := hxy
      have H7 := Lib.hid (stable_bod 2 _ _ (fun b : Nat => b ≠ G) _ _ _ (Keep.weak (fun b (hb : From _ b) e => by have h1 : _ ≤ b := hb; have := lt_of_block hbg; omega)) hd)
      have hbg := hs.blk hbg
      have hfa := hfa.up hs
      have hu := hu.trans hs
      refine hK.out _ _ (DD.out _ hu) (fun hHeld => ?_)
      clear hK K hHeld hs hd hjc
      have hHeld := DD.out _ hu
      try simp only [Act.put, List.setIfInBounds_toArray, List.set_cons_zero, List.set_cons_succ]
      refine wpAnyH_take (i := 4) (v := ?_) (by simp only [List.getElem?_toArray, List.getElem?_cons_succ, List.getElem?_cons_zero] <;> rfl) (by kernel_rfl) (by kernel_rfl) (by kernel_rfl) (fun _ _ _ h => by exact h) (Or.inl ⟨by rfl, ?_⟩) (by assumption) ?_
      rotate_left
      · (intro w hSw; (try dsimp only at hSw); go_simp)
        try with_reducible rfl
      rotate_left
      try simp only [Act.put, List.setIfInBounds_toArray, List.set_cons_zero, List.set_cons_succ]
      refine wpAnyH_take (i := 5) (v := ?_) (by simp only [List.getElem?_toArray, List.getElem?_cons_succ, List.getElem?_cons_zero] <;> rfl) (by kernel_rfl) (by kernel_rfl) (by kernel_rfl) (fun _ _ _ h => by exact h) (Or.inl ⟨by rfl, ?_⟩) (by assumption) ?_
      rotate_left
      · (intro w hSw; (try dsimp only at hSw); go_simp)
        try with_reducible rfl
      rotate_left
      try simp only [Act.put, List.setIfInBounds_toArray, List.set_cons_zero, List.set_cons_succ]
      refine wpAnyH_take (i := 6) (v := ?_) (by simp only [List.getElem?_toArray, List.getElem?_cons_succ, List.getElem?_cons_zero] <;> rfl) (by kernel_rfl) (by kernel_rfl) (by kernel_rfl) (fun _ _ _ h => by exact h) (Or.inl ⟨by rfl, ?_⟩) (by assumption) ?_
      rotate_left
      · (intro w hSw; (try dsimp only at hSw); go_simp)
        try with_reducible rfl
      rotate_left
      try simp only [Act.put, List.setIfInBounds_toArray, List.set_cons_zero, List.set_cons_succ]
      have q0 : w7.cell? ⟨G, 0, none⟩ = some (.slice none 0 0) := cell_of_row w7 G 0 _ _ _ hbg
      have q1 : w7.cell? ⟨G, 1, none⟩ = some (.slice none 0 0) := cell_of_row w7 G 1 _ _ _ hbg
      have tf : ∀ o, w7.frozen? ⟨G, o, none⟩ = false := fun o => frozen_of_row w7 G o _ _ hbg
      have tz : G < w7.heap.size := lt_of_block hbg
      have hfin := Up.setCell (Up.setCell hu (p := ⟨G, 0, none⟩) hqg (.slice x1 y1 z1)) (p := ⟨G, 1, none⟩) hqg (.slice x2 y2 z2)
      have hboxed := box2_set hbg (.slice x1 y1 z1) (.slice x2 y2 z2)
      have hlast := stable_bod _ _ _ _ _ _ _ (((Keep.setCell (S := (fun b : Nat => b ≠ G)) (w := w7) (p := ⟨G, 0, none⟩) (fun h => h rfl) (.slice x1 y1 z1)).trans (Keep.setCell (p := ⟨G, 1, none⟩) (fun h => h rfl) (.slice x2 y2 z2))).trans Keep.all) H7.out
      have Hfin := Lib.hid hfin; have Hboxed := Lib.hid hboxed; have Hlast := Lib.hid hlast
      clear hfin hboxed hlast hbg hqg hu H7
      refine wpAnyH_ready (rs := [8]) (by kernel_rfl) (by simp) ?_
      refine AllReadyH.cons (by simp only [List.getElem?_toArray, List.getElem?_cons_succ, List.getElem?_cons_zero] <;> rfl) (fun K hK => ?_) AllReadyH.nil
      go_simp
      refine hK.out _ _ (DD.out _ Hfin.out) (fun hHeld => ?_)
      clear hK K hHeld q0 q1 tf tz
      have hHeld := DD.out _ Hfin.out
      try simp only [Act.put, List.setIfInBounds_toArray, List.set_cons_zero, List.set_cons_succ]
      refine wpAnyH_take (i := 9) (v := ?_) (by simp only [List.getElem?_toArray, List.getElem?_cons_succ, List.getElem?_cons_zero] <;> rfl) (by kernel_rfl) (by kernel_rfl) (by kernel_rfl) (fun _ _ _ h => by exact h) (Or.inl ⟨by rfl, ?_⟩) (by assumption) ?_
      rotate_left
      · (intro w hSw; (try dsimp only at hSw); go_simp)
        try with_reducible rfl
      rotate_left
      try simp only [Act.put, List.setIfInBounds_toArray, List.set_cons_zero, List.set_cons_succ]
      refine wpAnyH_done (by kernel_rfl) ?_ _
      go_wp2_with fail
      go_meet
      exact ⟨G, _, _, rfl, rfl, Hboxed.out, Hlast.out, Hfin.out⟩
  case rest =>
  obtain ⟨G, vv, vu, rfl, rfl, hbg, hdb, huc⟩ := hcut
  obtain ⟨x1, y1, z1, x2, y2, z2, hxy⟩ := bod_two hdb
  simp only [List.cons.injEq, and_true] at hxy
  obtain ⟨rfl, rfl⟩ := hxy
  have g0 : wc.cell? ⟨G, 0, none⟩ = some (.slice x1 y1 z1) := cell_of_row wc _ 0 _ _ _ hbg
  have g1 : wc.cell? ⟨G, 1, none⟩ = some (.slice x2 y2 z2) := cell_of_row wc _ 1 _ _ _ hbg
  obtain ⟨v1, v2, hvv, hvals, _, _⟩ := id hdb
  simp only [List.cons.injEq, and_true] at hvv
  obtain ⟨rfl, rfl⟩ := hvv
  have hget := get_v 1 (.slice x1 y1 z1) (.slice x2 y2 z2) bodB.values 2 wc hvals ⟨_, _, _, rfl⟩
  rw [show (findV bodB.values 2).getD val0 = ((2 : Int), ([] : List Nat), [[113], [113]], ([] : List Bod)) from rfl, show (findV bodB.values 2).isSome = true from rfl] at hget
  have Hget := Lib.hid hget
  have Huc := Lib.hid huc
  clear hget hvals hdb hbg huc t10 t11
  go_wp2_with fail
  refine Hget.out.mono ?_
  rintro e w5 ⟨s1, t1, s2, t2, s3, t3, rfl, _, hu5⟩
  have Hu5 := Lib.hid (Huc.out.trans hu5)
  clear hu5 g0 g1 Hget
  go_upto_region 4 with (fail)
  have hbv := blk_new w5 (.cells #[.int .i64 2, .slice s1 0 t1, .slice s2 2 t2, .slice s3 0 t3] 34) (g := w5.heap.size) rfl
  have hu6 := Hu5.out.trans ((Up.refl w5).alloc (.cells #[.int .i64 2, .slice s1 0 t1, .slice s2 2 t2, .slice s3 0 t3] 34))
  obtain ⟨V, hV⟩ : ∃ V, w5.heap.size = V := ⟨_, rfl⟩
  rw [hV] at hbv ⊢
  generalize hw6 : w5.alloc (.cells #[.int .i64 2, .slice s1 0 t1, .slice s2 2 t2, .slice s3 0 t3] 34) = w6 at *
  clear hw6
  have HV := Lib.hid (fun W (u : Up w6 W) => (cell_of_row W _ 2 _ _ _ (u.blk hbv) : W.cell? ⟨V, 2, none⟩ = some (.slice s2 2 t2)))
  have Hu6 := Lib.hid hu6
  have DD2 : Hid (∀ W, Up w6 W → W.cell? ⟨w.heap.size + 1 + 1 + 1 + 1, 0, none⟩ = some (.slice (some ⟨w.heap.size + 1 + 1 + 1, 0, none⟩) 2 2) ∧ W.cell? ⟨w.heap.size + 1 + 1 + 1 + 1, 1, none⟩ = some (.slice none 0 0) ∧ W.cell? ⟨V, 2, none⟩ = some (.slice s2 2 t2)) := Lib.hid (fun W u => ⟨(DD.out _ (Hu6.out.trans u)).1, (DD.out _ (Hu6.out.trans u)).2, HV.out _ u⟩)
  clear hu6 hbv DD
  refine wp_region_held_drew (S := fun w' => w'.cell? ⟨w.heap.size + 1 + 1 + 1 + 1, 0, none⟩ = some (.slice (some ⟨w.heap.size + 1 + 1 + 1, 0, none⟩) 2 2) ∧ w'.cell? ⟨w.heap.size + 1 + 1 + 1 + 1, 1, none⟩ = some (.slice none 0 0) ∧ w'.cell? ⟨V, 2, none⟩ = some (.slice s2 2 t2)) (by kernel_rfl) (DD2.out _ (Up.refl w6).drew) (fun hHeld => ?_)
  have hu := (Up.refl w6).drew
  have hHeld := DD2.out _ hu
  refine wpAnyH_take (i := 0) (v := ?_) (by simp only [List.getElem?_toArray, List.getElem?_cons_zero] <;> rfl) (by kernel_rfl) (by kernel_rfl) (by kernel_rfl) (fun _ _ _ h => by exact h) (Or.inl ⟨by rfl, ?_⟩) (by assumption) ?_
  rotate_left
  · (intro w hSw; (try dsimp only at hSw); go_simp)
    try with_reducible rfl
  rotate_left
  try simp only [Act.put, List.setIfInBounds_toArray, List.set_cons_zero, List.set_cons_succ]
  refine wpAnyH_take (i := 1) (v := ?_) (by simp only [List.getElem?_toArray, List.getElem?_cons_succ, List.getElem?_cons_zero] <;> rfl) (by kernel_rfl) (by kernel_rfl) (by kernel_rfl) (fun _ _ _ h => by exact h) (Or.inl ⟨by rfl, ?_⟩) (by assumption) ?_
  rotate_left
  · (intro w hSw; (try dsimp only at hSw); go_simp)
    try with_reducible rfl
  rotate_left
  try simp only [Act.put, List.setIfInBounds_toArray, List.set_cons_zero, List.set_cons_succ]
  refine wpAnyH_take (i := 2) (v := ?_) (by simp only [List.getElem?_toArray, List.getElem?_cons_succ, List.getElem?_cons_zero] <;> rfl) (by kernel_rfl) (by kernel_rfl) (by kernel_rfl) (fun _ _ _ h => by exact h) (Or.inl ⟨by rfl, ?_⟩) (by assumption) ?_
  rotate_left
  · (intro w hSw; (try dsimp only at hSw); go_simp)
    try with_reducible rfl
  rotate_left
  try simp only [Act.put, List.setIfInBounds_toArray, List.set_cons_zero, List.set_cons_succ]
  refine wpAnyH_take (i := 3) (v := ?_) (by simp only [List.getElem?_toArray, List.getElem?_cons_succ, List.getElem?_cons_zero] <;> rfl) (by kernel_rfl) (by kernel_rfl) (by kernel_rfl) (fun _ _ _ h => by exact h) (Or.inl ⟨by rfl, ?_⟩) (by assumption) ?_
  rotate_left
  · (intro w hSw; (try dsimp only at hSw); go_simp)
    try with_reducible rfl
  rotate_left
  try simp only [Act.put, List.setIfInBounds_toArray, List.set_cons_zero, List.set_cons_succ]
  refine wpAnyH_take (i := 4) (v := ?_) (by simp only [List.getElem?_toArray, List.getElem?_cons_succ, List.getElem?_cons_zero] <;> rfl) (by kernel_rfl) (by kernel_rfl) (by kernel_rfl) (fun _ _ _ h => by exact h) (Or.inl ⟨by rfl, ?_⟩) (by assumption) ?_
  rotate_left
  · (intro w hSw; (try dsimp only at hSw); go_simp)
    try with_reducible rfl
  rotate_left
  try simp only [Act.put, List.setIfInBounds_toArray, List.set_cons_zero, List.set_cons_succ]
  refine wpAnyH_take (i := 5) (v := ?_) (by simp only [List.getElem?_toArray, List.getElem?_cons_succ, List.getElem?_cons_zero] <;> rfl) (by kernel_rfl) (by kernel_rfl) (by kernel_rfl) (fun _ _ _ h => by exact h) (Or.inl ⟨by rfl, ?_⟩) (by assumption) ?_
  rotate_left
  · (intro w hSw; (try dsimp only at hSw); go_simp)
    try with_reducible rfl
  rotate_left
  try simp only [Act.put, List.setIfInBounds_toArray, List.set_cons_zero, List.set_cons_succ]
  refine wpAnyH_take (i := 6) (v := ?_) (by simp only [List.getElem?_toArray, List.getElem?_cons_succ, List.getElem?_cons_zero] <;> rfl) (by kernel_rfl) (by kernel_rfl) (by kernel_rfl) (fun _ _ _ h => by exact h) (Or.inl ⟨by rfl, ?_⟩) (by assumption) ?_
  rotate_left
  · (intro w hSw; (try dsimp only at hSw); go_simp)
    try with_reducible rfl
  rotate_left
  try simp only [Act.put, List.setIfInBounds_toArray, List.set_cons_zero, List.set_cons_succ]
  refine wpAnyH_take (i := 7) (v := ?_) (by simp only [List.getElem?_toArray, List.getElem?_cons_succ, List.getElem?_cons_zero] <;> rfl) (by kernel_rfl) (by kernel_rfl) (by kernel_rfl) (fun _ _ _ h => by exact h) (Or.inl ⟨by rfl, ?_⟩) (by assumption) ?_
  rotate_left
  · (intro w hSw; (try dsimp only at hSw); go_simp)
    try with_reducible rfl
  rotate_left
  try simp only [Act.put, List.setIfInBounds_toArray, List.set_cons_zero, List.set_cons_succ]
  refine wpAnyH_take (i := 8) (v := ?_) (by simp only [List.getElem?_toArray, List.getElem?_cons_succ, List.getElem?_cons_zero] <;> rfl) (by kernel_rfl) (by kernel_rfl) (by kernel_rfl) (fun _ _ _ h => by exact h) (Or.inl ⟨by rfl, ?_⟩) (by assumption) ?_
  rotate_left
  · (intro w hSw; (try dsimp only at hSw); go_simp)
    try with_reducible rfl
  rotate_left
  try simp only [Act.put, List.setIfInBounds_toArray, List.set_cons_zero, List.set_cons_succ]
  refine wpAnyH_take (i := 9) (v := ?_) (by simp only [List.getElem?_toArray, List.getElem?_cons_succ, List.getElem?_cons_zero] <;> rfl) (by kernel_rfl) (by kernel_rfl) (by kernel_rfl) (fun _ _ _ h => by exact h) (Or.inl ⟨by rfl, ?_⟩) (by assumption) ?_
  rotate_left
  · (intro w hSw; (try dsimp only at hSw); go_simp)
    try with_reducible rfl
  rotate_left
  try simp only [Act.put, List.setIfInBounds_toArray, List.set_cons_zero, List.set_cons_succ]
  refine wpAnyH_take (i := 10) (v := ?_) (by simp only [List.getElem?_toArray, List.getElem?_cons_succ, List.getElem?_cons_zero] <;> rfl) (by kernel_rfl) (by kernel_rfl) (by kernel_rfl) (fun _ _ _ h => by exact h) (Or.inl ⟨by rfl, ?_⟩) (by assumption) ?_
  rotate_left
  · (intro w hSw; (try dsimp only at hSw); go_simp)
    try with_reducible rfl
  rotate_left
  try simp only [Act.put, List.setIfInBounds_toArray, List.set_cons_zero, List.set_cons_succ]
  refine wpAnyH_take (i := 11) (v := ?_) (by simp only [List.getElem?_toArray, List.getElem?_cons_succ, List.getElem?_cons_zero] <;> rfl) (by kernel_rfl) (by kernel_rfl) (by kernel_rfl) (fun _ _ _ h => by exact h) (Or.inl ⟨by rfl, ?_⟩) (by assumption) ?_
  rotate_left
  · (intro w hSw; (try dsimp only at hSw); go_simp)
    try with_reducible rfl
  rotate_left
  try simp only [Act.put, List.setIfInBounds_toArray, List.set_cons_zero, List.set_cons_succ]
  refine wpAnyH_take (i := 13) (v := ?_) (by simp only [List.getElem?_toArray, List.getElem?_cons_succ, List.getElem?_cons_zero] <;> rfl) (by kernel_rfl) (by kernel_rfl) (by kernel_rfl) (fun _ _ _ h => by exact h) (Or.inl ⟨by rfl, ?_⟩) (by assumption) ?_
  rotate_left
  · (intro w hSw; (try dsimp only at hSw); go_simp)
    try with_reducible rfl
  rotate_left
  try simp only [Act.put, List.setIfInBounds_toArray, List.set_cons_zero, List.set_cons_succ]
  refine wpAnyH_ready (rs := [12]) (by kernel_rfl) (by simp) ?_
  refine AllReadyH.cons (by simp only [List.getElem?_toArray, List.getElem?_cons_succ, List.getElem?_cons_zero] <;> rfl) (fun K hK => ?_) AllReadyH.nil
  go_simp
  refine (file_a _).mono ?_
  rintro e w7 ⟨mb7, rfl, hfa7, hs7⟩
  have hu := hu.trans hs7
  refine hK.out _ _ (DD2.out _ hu) (fun hHeld => ?_)
  clear hK K hHeld
  have hHeld := DD2.out _ hu
  try simp only [Act.put, List.setIfInBounds_toArray, List.set_cons_zero, List.set_cons_succ]
  refine wpAnyH_ready (rs := [14]) (by kernel_rfl) (by simp) ?_
  refine AllReadyH.cons (by simp only [List.getElem?_toArray, List.getElem?_cons_succ, List.getElem?_cons_zero] <;> rfl) (fun K hK => ?_) AllReadyH.nil
  go_simp
  have hwc := wrong_bod 2 (.agg #[.slice (some ⟨mb7, 0, none⟩) 1 1, .slice none 0 0]) (.slice (some ⟨w.heap.size + 1 + 1 + 1, 0, none⟩) 2 2) (.slice none 0 0) fileA 0 bodA w7 hfa7 (HD.out _ (Hu6.out.trans hu)) (HT.out.up (Hu1.out.trans (Hu6.out.trans hu)))
  rw [wrong_A] at hwc
  refine hwc.mono ?_
  rintro e w8 ⟨rfl, hs8⟩
  clear hwc
  have hu := hu.trans hs8
  refine hK.out _ _ (DD2.out _ hu) (fun hHeld => ?_)
  clear hK K hHeld
  have hHeld := DD2.out _ hu
  try simp only [Act.put, List.setIfInBounds_toArray, List.set_cons_zero, List.set_cons_succ]
  refine wpAnyH_take (i := 15) (v := ?_) (by simp only [List.getElem?_toArray, List.getElem?_cons_succ, List.getElem?_cons_zero] <;> rfl) (by kernel_rfl) (by kernel_rfl) (by kernel_rfl) (fun _ _ _ h => by exact h) (Or.inl ⟨by rfl, ?_⟩) (by assumption) ?_
  rotate_left
  · (intro w hSw; (try dsimp only at hSw); go_simp)
    try with_reducible rfl
  rotate_left
  try simp only [Act.put, List.setIfInBounds_toArray, List.set_cons_zero, List.set_cons_succ]
  refine wpAnyH_take (i := 16) (v := ?_) (by simp only [List.getElem?_toArray, List.getElem?_cons_succ, List.getElem?_cons_zero] <;> rfl) (by kernel_rfl) (by kernel_rfl) (by kernel_rfl) (fun _ _ _ h => by exact h) (Or.inl ⟨by rfl, ?_⟩) (by assumption) ?_
  rotate_left
  · (intro w hSw; (try dsimp only at hSw); go_simp)
    try with_reducible rfl
  rotate_left
  try simp only [Act.put, List.setIfInBounds_toArray, List.set_cons_zero, List.set_cons_succ]
  refine wpAnyH_take (i := 17) (v := ?_) (by simp only [List.getElem?_toArray, List.getElem?_cons_succ, List.getElem?_cons_zero] <;> rfl) (by kernel_rfl) (by kernel_rfl) (by kernel_rfl) (fun _ _ _ h => by exact h) (Or.inl ⟨by rfl, ?_⟩) (by assumption) ?_
  rotate_left
  · (intro w hSw; (try dsimp only at hSw); go_simp)
    try with_reducible rfl
  rotate_left
  try simp only [Act.put, List.setIfInBounds_toArray, List.set_cons_zero, List.set_cons_succ]
  refine wpAnyH_ready (rs := [18]) (by kernel_rfl) (by simp) ?_
  refine AllReadyH.cons (by simp only [List.getElem?_toArray, List.getElem?_cons_succ, List.getElem?_cons_zero] <;> rfl) (fun K hK => ?_) AllReadyH.nil
  go_simp
  refine (file_a _).mono ?_
  rintro e w9 ⟨mb9, rfl, hfa9, hs9⟩
  have hu := hu.trans hs9
  refine hK.out _ _ (DD2.out _ hu) (fun hHeld => ?_)
  clear hK K hHeld
  have hHeld := DD2.out _ hu
  try simp only [Act.put, List.setIfInBounds_toArray, List.set_cons_zero, List.set_cons_succ]
  obtain ⟨vm, ve, e9, hm9, _⟩ := hfa9
  simp only [Value.agg.injEq, Array.mk.injEq, List.cons.injEq, and_true] at e9
  obtain ⟨rfl, rfl⟩ := e9
  obtain ⟨mb, mo, cs, e9, _, _, hcs, hd9⟩ := hm9.at (i := 0) (by decide)
  simp only [Value.slice.injEq, Option.some.injEq, Addr.mk.injEq, and_true] at e9
  obtain ⟨hmb, hmo⟩ := e9
  subst hmb
  obtain rfl : mo = 0 := hmo.symm
  obtain ⟨vf, vb, hd9, hfs9, hbs9, _⟩ := hd9
  subst hd9
  obtain ⟨fa9, fc9, rfl, _, _⟩ := hfs9.val
  obtain ⟨ba9, bc9, rfl, _, _⟩ := hbs9.val
  have c0 : w9.cell? ⟨mb9, 0, none⟩ = some (.string ⟨#[65]⟩) := hcs 0 _ rfl
  have c1 : w9.cell? ⟨mb9, 1, none⟩ = some (.slice fa9 2 fc9) := hcs 1 _ rfl
  have c2 : w9.cell? ⟨mb9, 2, none⟩ = some (.slice ba9 0 bc9) := hcs 2 _ rfl
  have Hfs9 := Lib.hid hfs9
  clear hcs hm9 hbs9 hfs9
  have hfd : ∀ w : World, (Instr.field 25 (.agg #[.slice (some ⟨mb9, 0, none⟩) 1 1, .slice none 0 0]) 0).run Tryd.prog w = .ok (.slice (some ⟨mb9, 0, none⟩) 1 1) w := fun _ => by kernel_rfl
  refine wpAnyH_take (i := 19) (v := ?_) (by simp only [List.getElem?_toArray, List.getElem?_cons_succ, List.getElem?_cons_zero] <;> rfl) (by kernel_rfl) (by kernel_rfl) (by kernel_rfl) (fun _ _ _ h => by exact h) (Or.inl ⟨by rfl, ?_⟩) (by assumption) ?_
  rotate_left
  · (intro w hSw; (try dsimp only at hSw); go_simp)
    try with_reducible rfl
  rotate_left
  try simp only [Act.put, List.setIfInBounds_toArray, List.set_cons_zero, List.set_cons_succ]
  refine wpAnyH_take (i := 20) (v := ?_) (by simp only [List.getElem?_toArray, List.getElem?_cons_succ, List.getElem?_cons_zero] <;> rfl) (by kernel_rfl) (by kernel_rfl) (by kernel_rfl) (fun _ _ _ h => by exact h) (Or.inl ⟨by rfl, ?_⟩) (by assumption) ?_
  rotate_left
  · (intro w hSw; (try dsimp only at hSw); go_simp)
    try with_reducible rfl
  rotate_left
  try simp only [Act.put, List.setIfInBounds_toArray, List.set_cons_zero, List.set_cons_succ]
  refine wpAnyH_ready (rs := [21]) (by kernel_rfl) (by simp) ?_
  refine AllReadyH.cons (by simp only [List.getElem?_toArray, List.getElem?_cons_succ, List.getElem?_cons_zero] <;> rfl) (fun K hK => ?_) AllReadyH.nil
  go_simp
  refine hK.out _ _ (DD2.out _ hu) (fun hHeld => ?_)
  clear hK K hHeld
  have hHeld := DD2.out _ hu
  try simp only [Act.put, List.setIfInBounds_toArray, List.set_cons_zero, List.set_cons_succ]
  refine wpAnyH_ready (rs := [22]) (by kernel_rfl) (by simp) ?_
  refine AllReadyH.cons (by simp only [List.getElem?_toArray, List.getElem?_cons_succ, List.getElem?_cons_zero] <;> rfl) (fun K hK => ?_) AllReadyH.nil
  go_simp
  have hfc := field_any (.string ⟨[65].toArray⟩) (.slice fa9 2 fc9) (.slice ba9 0 bc9) (fileA.msgs[0]).fields 2 w9 ⟨_, rfl⟩ ⟨_, _, _, rfl⟩ Hfs9.out
  rw [show idxP (fun x : Fld => x.number == 2) (fileA.msgs[0]).fields = 1 from rfl] at hfc
  refine hfc.mono ?_
  rintro e w10 ⟨rfl, hs10⟩
  clear hfc
  have hu := hu.trans hs10
  refine hK.out _ _ (DD2.out _ hu) (fun hHeld => ?_)
  clear hK K hHeld
  have hHeld := DD2.out _ hu
  try simp only [Act.put, List.setIfInBounds_toArray, List.set_cons_zero, List.set_cons_succ]
  refine wpAnyH_take (i := 23) (v := ?_) (by simp only [List.getElem?_toArray, List.getElem?_cons_succ, List.getElem?_cons_zero] <;> rfl) (by kernel_rfl) (by kernel_rfl) (by kernel_rfl) (fun _ _ _ h => by exact h) (Or.inl ⟨by rfl, ?_⟩) (by assumption) ?_
  rotate_left
  · (intro w hSw; (try dsimp only at hSw); go_simp)
    try with_reducible rfl
  rotate_left
  try simp only [Act.put, List.setIfInBounds_toArray, List.set_cons_zero, List.set_cons_succ]
  refine wpAnyH_take (i := 24) (v := ?_) (by simp only [List.getElem?_toArray, List.getElem?_cons_succ, List.getElem?_cons_zero] <;> rfl) (by kernel_rfl) (by kernel_rfl) (by kernel_rfl) (fun _ _ _ h => by exact h) (Or.inl ⟨by rfl, ?_⟩) (by assumption) ?_
  rotate_left
  · (intro w hSw; (try dsimp only at hSw); go_simp)
    try with_reducible rfl
  rotate_left
  try simp only [Act.put, List.setIfInBounds_toArray, List.set_cons_zero, List.set_cons_succ]
  refine wpAnyH_take (i := 25) (v := ?_) (by simp only [List.getElem?_toArray, List.getElem?_cons_succ, List.getElem?_cons_zero] <;> rfl) (by kernel_rfl) (by kernel_rfl) (by kernel_rfl) (fun _ _ _ h => by exact h) (Or.inl ⟨by rfl, ?_⟩) (by assumption) ?_
  rotate_left
  · (intro w hSw; (try dsimp only at hSw); go_simp)
    try with_reducible rfl
  rotate_left
  try simp only [Act.put, List.setIfInBounds_toArray, List.set_cons_zero, List.set_cons_succ]
  refine wpAnyH_ready (rs := [26]) (by kernel_rfl) (by simp) ?_
  refine AllReadyH.cons (by simp only [List.getElem?_toArray, List.getElem?_cons_succ, List.getElem?_cons_zero] <;> rfl) (fun K hK => ?_) AllReadyH.nil
  go_simp
  refine (fits_any 4 2 _ (by decide)).mono ?_
  rintro e w11 ⟨rfl, rfl⟩
  rw [show fitsN 4 2 = 3 from rfl]
  have hu := hu
  refine hK.out _ _ (DD2.out _ hu) (fun hHeld => ?_)
  clear hK K hHeld
  have hHeld := DD2.out _ hu
  try simp only [Act.put, List.setIfInBounds_toArray, List.set_cons_zero, List.set_cons_succ]
  refine wpAnyH_take (i := 27) (v := ?_) (by simp only [List.getElem?_toArray, List.getElem?_cons_succ, List.getElem?_cons_zero] <;> rfl) (by kernel_rfl) (by kernel_rfl) (by kernel_rfl) (fun _ _ _ h => by exact h) (Or.inl ⟨by rfl, ?_⟩) (by assumption) ?_
  rotate_left
  · (intro w hSw; (try dsimp only at hSw); go_simp)
    try with_reducible rfl
  rotate_left
  try simp only [Act.put, List.setIfInBounds_toArray, List.set_cons_zero, List.set_cons_succ]
  refine wpAnyH_take (i := 28) (v := ?_) (by simp only [List.getElem?_toArray, List.getElem?_cons_succ, List.getElem?_cons_zero] <;> rfl) (by kernel_rfl) (by kernel_rfl) (by kernel_rfl) (fun _ _ _ h => by exact h) (Or.inl ⟨by rfl, ?_⟩) (by assumption) ?_
  rotate_left
  · (intro w hSw; (try dsimp only at hSw); go_simp)
    try with_reducible rfl
  rotate_left
  try simp only [Act.put, List.setIfInBounds_toArray, List.set_cons_zero, List.set_cons_succ]
  refine wpAnyH_take (i := 29) (v := ?_) (by simp only [List.getElem?_toArray, List.getElem?_cons_succ, List.getElem?_cons_zero] <;> rfl) (by kernel_rfl) (by kernel_rfl) (by kernel_rfl) (fun _ _ _ h => by exact h) (Or.inl ⟨by rfl, ?_⟩) (by assumption) ?_
  rotate_left
  · (intro w hSw; (try dsimp only at hSw); go_simp)
    try with_reducible rfl
  rotate_left
  try simp only [Act.put, List.setIfInBounds_toArray, List.set_cons_zero, List.set_cons_succ]
  refine wpAnyH_done (by kernel_rfl) ?_ _
  go_wp2_with fail
  go_ret
  exact ⟨rfl, Hu1.out.trans (Hu6.out.trans hu)⟩
end Go.Proofs.YtplgegffapikoaaDoor
