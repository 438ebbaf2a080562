/-
  Bodies put together, in plain Lean: it is no matter which two are put together first; what may be wrong.
-/
import Derived.Test.YtplgegffapikoaaDoorJoinLaw
set_option linter.unusedVariables false
namespace Go.Proofs.YtplgegffapikoaaDoor
open Go.RowKit
theorem okV_right {f : Fil} {k : Nat} {m : Msg} {b : Bod} (h : wrongBF (wrongVF (wrongB f k) f) m b = 0) : OkV m.fields b.values := by
  obtain ⟨g1, g2, _, g4⟩ := valsN_zero (wrongBF_zero h).1
  refine ⟨g2, fun v hv => by obtain ⟨x, e1, e2, _⟩ := g1 v hv; exact ⟨x, e1, (wrongVF_zero e2).2.2.2.2.1⟩, fun u hu v hv hne x y hx hy hpos e => ?_⟩
  obtain ⟨i, hi, rfl⟩ := List.getElem_of_mem hu
  obtain ⟨j, hj, rfl⟩ := List.getElem_of_mem hv
  rcases Nat.lt_trichotomy i j with h1 | h1 | h1
  · exact List.pairwise_iff_getElem.1 g4 i j hi hj h1 x y hx hy hpos e
  · subst h1; exact hne rfl
  · exact List.pairwise_iff_getElem.1 g4 j i hj hi h1 y x hy hx (by omega) e.symm
/-- The values of two bodies put together are as a right body's, but for how many they are. -/
theorem okV_join {jb : Int → Bod → Bod → Bod} {f : Fil} {fs : List Fld} (hch : ∀ z ∈ fs, 0 ≤ z.choice) {a b : List Val} (ha : OkV fs a) (hb : OkV fs b) :
    OkV fs (b.foldl (joinV jb f fs) a) := by
  have hr := rising_join (jb := jb) (f := f) (fs := fs) (b := b) ha.ris
  have hcase : ∀ v ∈ b.foldl (joinV jb f fs) a, (∃ w x, w ∈ b ∧ w.1 = v.1 ∧ fldN fs v.1 = some x ∧ plainN x w = false ∧ v = bothV jb f x (findV a v.1) w) ∨ (v ∈ a ∧ ¬ gone fs b v.1 ∧ findV b v.1 = none) := fun v hv => by
    have hf := rising_find hr hv
    obtain ⟨i1, i2, i3⟩ := find_join (jb := jb) (f := f) hch ha.ris hb v.1
    cases hbv : findV b v.1 with
    | some w =>
      obtain ⟨hm, hn⟩ := findV_mem hbv
      obtain ⟨x, hx, hp⟩ := hb.fld w hm
      rw [hn] at hx
      rw [i1 w x hbv hx] at hf
      exact .inl ⟨w, x, hm, hn, hx, hp, (Option.some.inj hf).symm⟩
    | none =>
      by_cases hg : gone fs b v.1
      · rw [i2 hbv hg] at hf; cases hf
      · rw [i3 hbv hg] at hf
        exact .inr ⟨(findV_mem hf).1, hg, rfl⟩
  refine ⟨hr, fun v hv => ?_, fun u hu v hv hne x y hx hy hpos e => ?_⟩
  · rcases hcase v hv with ⟨w, x, _, _, hx, hp, hv2⟩ | ⟨h, _, _⟩
    · exact ⟨x, hx, by rw [hv2]; exact plain_both hp⟩
    · exact ha.fld v h
  · have hy0 : 0 < y.choice := by omega
    rcases hcase u hu with ⟨w, _, hw, hwn, _⟩ | ⟨h, hg, hn1⟩
    · rcases hcase v hv with ⟨w', _, hw', hwn', _⟩ | ⟨h', hg', hn'⟩
      · exact hb.one w hw w' hw' (by rw [hwn, hwn']; exact hne) x y (by rw [hwn]; exact hx) (by rw [hwn']; exact hy) hpos e
      · exact hg' ⟨w, hw, x, by rw [hwn]; exact hx, by rw [hwn]; exact hne, by rw [hwn]; exact keepN_same (Ne.symm hne) (by omega) hy e.symm⟩
    · rcases hcase v hv with ⟨w', _, hw', hwn', _⟩ | ⟨h', hg', hn'⟩
      · exact hg ⟨w', hw', y, by rw [hwn']; exact hy, by rw [hwn']; exact Ne.symm hne, by rw [hwn']; exact keepN_same hne (by omega) hx e⟩
      · exact ha.one u h v h' hne x y hx hy hpos e
theorem valsN_05 {wv : Fld → Val → Int} {fs : List Fld} : ∀ {l : List Val} {prev : Option Int} {had : List Int}, (∀ v ∈ l, ∃ x, fldN fs v.1 = some x ∧ (wv x v = 0 ∨ wv x v = 5) ∧ (0 < x.choice → x.choice ∉ had)) → RisingV l → (∀ p, prev = some p → ∀ v ∈ l, p < v.1) →
    (∀ u ∈ l, ∀ v ∈ l, u.1 ≠ v.1 → ∀ x y, fldN fs u.1 = some x → fldN fs v.1 = some y → 0 < x.choice → x.choice ≠ y.choice) → valsN wv fs prev had l = 0 ∨ valsN wv fs prev had l = 5
  | [], _, _, _, _, _, _ => .inl rfl
  | v :: l, prev, had, h1, h2, h3, h4 => by
    obtain ⟨x, hx, hw, hc⟩ := h1 v List.mem_cons_self
    rw [valsN, hx]
    simp only
    have hbp : ¬ badPrev prev v.1 = true := by
      cases prev with
      | none => simp [badPrev]
      | some p => have := h3 p rfl v List.mem_cons_self; simp only [badPrev, decide_eq_true_eq]; omega
    rw [if_neg hbp]
    rcases hw with hw | hw
    · rw [if_neg (by simpa using hw), if_neg (fun g => hc g.1 g.2)]
      refine valsN_05 (fun u hu => ?_) h2.of_cons (fun p hp u hu => ?_) (fun u hu w hw => h4 u (List.mem_cons_of_mem _ hu) w (List.mem_cons_of_mem _ hw))
      · obtain ⟨y, hy, hwy, hcy⟩ := h1 u (List.mem_cons_of_mem _ hu)
        refine ⟨y, hy, hwy, fun hpos hm => ?_⟩
        split at hm
        · rename_i hx0
          rcases List.mem_cons.1 hm with e | hm
          · have hlt := List.rel_of_pairwise_cons h2 hu
            exact h4 v List.mem_cons_self u (List.mem_cons_of_mem _ hu) (by omega) x y hx hy hx0 e.symm
          · exact hcy hpos hm
        · exact hcy hpos hm
      · cases hp
        exact List.rel_of_pairwise_cons h2 hu
    · rw [if_pos (by rw [hw]; decide)]
      exact .inr hw
theorem firstN_one (e : Int) : firstN [e] = e := by
  unfold firstN
  split
  · rfl
  · rename_i h; simp only [ne_eq, Classical.not_not] at h; rw [h]; rfl
theorem firstN_all {α : Type} {q : α → Int} {l : List α} (h : ∀ x ∈ l, q x = 0) : firstN (l.map q) = 0 := firstN_map_none fun j hj => h _ (List.getElem_mem hj)
theorem one_of {l : List Bod} (h : l.length = 1) : l = [l.headD bod0] := by
  rcases l with _ | ⟨a, _ | ⟨b, l⟩⟩
  · cases h
  · rfl
  · simp at h
theorem countN_app {kind : Int} {n : Int} {o v : Val} (ho : (countN kind o).2 = true) (hv : (countN kind v).2 = true) : (countN kind (n, o.2.1 ++ v.2.1, o.2.2.1 ++ v.2.2.1, o.2.2.2 ++ v.2.2.2)).2 = true ∧ (countN kind (n, o.2.1 ++ v.2.1, o.2.2.1 ++ v.2.2.1, o.2.2.2 ++ v.2.2.2)).1 = (countN kind o).1 + (countN kind v).1 := by
  unfold countN at ho hv ⊢
  by_cases g : kind = 8 ∨ kind = 9
  · rw [if_pos g] at ho hv
    rw [if_pos g, if_pos g, if_pos g]
    simp only [beq_iff_eq, List.length_append] at ho hv ⊢
    exact ⟨by omega, trivial⟩
  · rw [if_neg g] at ho hv
    rw [if_neg g, if_neg g, if_neg g]
    by_cases g2 : kind = 10
    · rw [if_pos g2] at ho hv
      rw [if_pos g2, if_pos g2, if_pos g2]
      simp only [beq_iff_eq, List.length_append] at ho hv ⊢
      exact ⟨by omega, trivial⟩
    · rw [if_neg g2] at ho hv
      rw [if_neg g2, if_neg g2, if_neg g2]
      simp only [beq_iff_eq, List.length_append] at ho hv ⊢
      exact ⟨by omega, trivial⟩
/-- Both values of a field: nothing wrong with either: nothing, or too many. -/
theorem both_05 {wb : Int → Bod → Int} {jb : Int → Bod → Bod → Bod} {f : Fil} {x : Fld} {o v : Val} (ih : ∀ mi a b, wb mi a = 0 → wb mi b = 0 → wb mi (jb mi a b) = 0 ∨ wb mi (jb mi a b) = 5) (ho : wrongVF wb f x o = 0) (hv : wrongVF wb f x v = 0) :
    wrongVF wb f x (bothV jb f x (some o) v) = 0 ∨ wrongVF wb f x (bothV jb f x (some o) v) = 5 := by
  obtain ⟨o1, o2, o3, o4, o5, o6, o7, o8⟩ := wrongVF_zero ho
  obtain ⟨v1, v2, v3, v4, v5, v6, v7, v8⟩ := wrongVF_zero hv
  unfold bothV
  simp only
  by_cases hm : x.many = true
  · rw [if_pos hm]
    obtain ⟨c1, c2⟩ := countN_app (n := v.1) o1 v1
    unfold wrongVF
    rw [if_neg (by rw [c1]; decide)]
    split
    · exact .inr rfl
    · have hp : ¬ plainN x (v.1, o.2.1 ++ v.2.1, o.2.2.1 ++ v.2.2.1, o.2.2.2 ++ v.2.2.2) = true := by unfold plainN; rw [hm]; simp
      rw [if_neg hp]
      simp only
      rw [firstN_all (q := fitsN x.kind) (fun n hn => by rcases List.mem_append.1 hn with h | h; exact o6 n h; exact v6 n h), if_neg (by decide), firstN_all (q := byteN x.kind) (fun n hn => by rcases List.mem_append.1 hn with h | h; exact o7 n h; exact v7 n h), if_neg (by decide),
        firstN_all (q := wb (msgI f x.type)) (fun n hn => by rcases List.mem_append.1 hn with h | h; exact o8 n h; exact v8 n h)]
      exact .inl rfl
  · rw [if_neg hm]
    have hm' : x.many = false := by simpa using hm
    by_cases hk : x.kind = 10
    · rw [if_pos hk]
      have hos := one_of (by rw [← count_subs (v := o) hk]; exact o4 hm')
      have hvs := one_of (by rw [← count_subs (v := v) hk]; exact v4 hm')
      have e1 := o8 (o.2.2.2.headD bod0) (by rw [hos]; simp)
      have e2 := v8 (v.2.2.2.headD bod0) (by rw [hvs]; simp)
      have e3 := ih _ _ _ e1 e2
      generalize jb (msgI f x.type) (o.2.2.2.headD bod0) (v.2.2.2.headD bod0) = J at *
      have hc : countN x.kind (v.1, v.2.1, v.2.2.1, [J]) = (1, v.2.1.length + v.2.2.1.length == 0) := by rw [hk]; rfl
      have hc2 : (v.2.1.length + v.2.2.1.length == 0) = true := by rw [hk] at v1; exact v1
      unfold wrongVF
      rw [hc, hc2]
      rw [if_neg (by decide), if_neg (by rintro (h | h | ⟨_, h⟩) <;> simp at h), if_neg (by unfold plainN; rw [hk]; simp)]
      simp only
      rw [firstN_all (q := fitsN x.kind) v6, if_neg (by decide), firstN_all (q := byteN x.kind) v7, if_neg (by decide), List.map_cons, List.map_nil, firstN_one]
      exact e3
    · rw [if_neg hk]
      exact .inl hv
/-- Nothing is wrong with two bodies: put together there is nothing wrong, or too many. -/
theorem join_05 {f : Fil} (hright : (wrongN f).1 = 0) : ∀ (k : Nat) (msg : Int) (a b : Bod), wrongB f k msg a = 0 → wrongB f k msg b = 0 → wrongB f k msg (joinB f k msg a b) = 0 ∨ wrongB f k msg (joinB f k msg a b) = 5
  | 0, _, _, _, h, _ => by cases h
  | k + 1, msg, a, b, ha, hb => by
    obtain ⟨k', m, e, hm, ha'⟩ := wrongB_zero ha
    obtain rfl : k = k' := by omega
    obtain ⟨k', m', e, hm', hb'⟩ := wrongB_zero hb
    obtain rfl : k = k' := by omega
    rw [hm] at hm'
    obtain rfl := Option.some.inj hm'
    have hmr := right_msg hright m (List.mem_of_getElem? hm)
    have hch : ∀ z ∈ m.fields, 0 ≤ z.choice := fun z hz => (choice_16 hmr hz).1
    have oa := okV_right ha'
    have ob := okV_right hb'
    have hja : joinB f (k + 1) msg a b = .mk (b.values.foldl (joinV (joinB f k) f m.fields) a.values) (a.unknown ++ b.unknown) := by rw [joinB, hm]
    have oj := okV_join (jb := joinB f k) (f := f) hch oa ob
    obtain ⟨ga, ua⟩ := wrongBF_zero ha'
    obtain ⟨gb, ub⟩ := wrongBF_zero hb'
    obtain ⟨ga1, _, _, _⟩ := valsN_zero ga
    obtain ⟨gb1, _, _, _⟩ := valsN_zero gb
    have hv : ∀ v ∈ b.values.foldl (joinV (joinB f k) f m.fields) a.values, ∃ x, fldN m.fields v.1 = some x ∧ (wrongVF (wrongB f k) f x v = 0 ∨ wrongVF (wrongB f k) f x v = 5) := fun v hv => by
      have hf := rising_find oj.ris hv
      obtain ⟨i1, i2, i3⟩ := find_join (jb := joinB f k) (f := f) hch oa.ris ob v.1
      cases hbv : findV b.values v.1 with
      | some w =>
        obtain ⟨hwm, hwn⟩ := findV_mem hbv
        obtain ⟨x, hx, hw, _⟩ := gb1 w hwm
        rw [hwn] at hx
        rw [i1 w x hbv hx] at hf
        refine ⟨x, hx, ?_⟩
        rw [← Option.some.inj hf]
        cases hav : findV a.values v.1 with
        | none => exact .inl hw
        | some o =>
          obtain ⟨hom, hon⟩ := findV_mem hav
          obtain ⟨y, hy, ho, _⟩ := ga1 o hom
          rw [hon, hx] at hy
          obtain rfl := Option.some.inj hy
          exact both_05 (join_05 hright k) ho hw
      | none =>
        by_cases hg : gone m.fields b.values v.1
        · rw [i2 hbv hg] at hf; cases hf
        · rw [i3 hbv hg] at hf
          obtain ⟨x, hx, hw, _⟩ := ga1 v (findV_mem hf).1
          exact ⟨x, hx, .inl hw⟩
    rw [hja, wrongB, hm]
    simp only
    unfold wrongBF
    show (if valsN _ _ _ _ (b.values.foldl _ _) ≠ 0 then valsN _ _ _ _ (b.values.foldl _ _) else firstN ((a.unknown ++ b.unknown).map _)) = 0 ∨ (if valsN _ _ _ _ (b.values.foldl _ _) ≠ 0 then valsN _ _ _ _ (b.values.foldl _ _) else firstN ((a.unknown ++ b.unknown).map _)) = 5
    rcases valsN_05 (prev := none) (had := []) (fun v h => by obtain ⟨x, h1, h2⟩ := hv v h; exact ⟨x, h1, h2, fun _ h3 => (by cases h3)⟩) oj.ris (fun p hp => by cases hp) oj.one with h | h
    · rw [h, if_neg (by decide), firstN_all (fun r hr => by rcases List.mem_append.1 hr with h | h; exact ua r h; exact ub r h)]
      exact .inl rfl
    · rw [h, if_pos (by decide)]
      exact .inr rfl
end Go.Proofs.YtplgegffapikoaaDoor
