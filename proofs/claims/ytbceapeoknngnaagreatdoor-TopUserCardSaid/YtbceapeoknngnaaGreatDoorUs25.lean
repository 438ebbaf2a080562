/-
  A value comes to a right body, two bodies are put together: the right one, or too many; in plain Lean.
-/
import Derived.Test.YtbceapeoknngnaaGreatDoorUs24
set_option linter.unusedVariables false
namespace Go.Proofs.YtbceapeoknngnaaGreatDoor
open Go.RowKit
structure FitV (wb : Int → Bod → Int) (f : Fil) (x : Fld) (v : Val) : Prop where
 cnt : (countN x.kind v).2 = true
 one : 1 ≤ (countN x.kind v).1
 alone : x.many = false → (countN x.kind v).1 = 1
 nums : ∀ n ∈ v.2.1, fitsN x.kind n = 0
 texts : ∀ b ∈ v.2.2.1, byteN x.kind b = 0
 subs : ∀ s ∈ v.2.2.2, wb (msgI f x.type) s = 0
theorem wrongVF_iff {wb : Int → Bod → Int} {f : Fil} {x : Fld} {v : Val} : wrongVF wb f x v = 0 ↔ FitV wb f x v ∧ (countN x.kind v).1 ≤ 60 ∧ plainN x v = false := by
 constructor
 · intro h; obtain ⟨h1, h2, h3, h4, h5, h6, h7, h8⟩ := wrongVF_zero h; exact ⟨⟨h1, h2, h4, h6, h7, h8⟩, h3, h5⟩
 · rintro ⟨⟨h1, h2, h4, h6, h7, h8⟩, h3, h5⟩; unfold wrongVF; rw [if_neg (by rw [h1]; decide), if_neg (by rintro (h | h | ⟨h, g⟩); omega; omega; have := h4 h; omega), if_neg (by rw [h5]; decide)]; rw [firstN_all (q := fitsN x.kind) h6, if_neg (by decide), firstN_all (q := byteN x.kind) h7, if_neg (by decide)]; exact firstN_all h8
theorem max_count {kind : Int} {v : Val} (h : (countN kind v).2 = true) : maxV v = (countN kind v).1 := by
 unfold maxV; unfold countN at h ⊢
 by_cases g : kind = 8 ∨ kind = 9
 · rw [if_pos g] at h ⊢; simp only [beq_iff_eq] at h ⊢; omega
 · rw [if_neg g] at h ⊢
   by_cases g2 : kind = 10
   · rw [if_pos g2] at h ⊢; simp only [beq_iff_eq] at h ⊢; omega
   · rw [if_neg g2] at h ⊢; simp only [beq_iff_eq] at h ⊢; omega
theorem plain_many {x : Fld} {v : Val} (h : x.many = true) : plainN x v = false := by
 unfold plainN; rw [h]; rfl
theorem fit_both {wb : Int → Bod → Int} {jb : Int → Bod → Bod → Bod} {f : Fil} {x : Fld} {o v : Val} (ho : FitV wb f x o) (hv : FitV wb f x v)
   (hj : x.many = false → x.kind = 10 → wb (msgI f x.type) (jb (msgI f x.type) (o.2.2.2.headD bod0) (v.2.2.2.headD bod0)) = 0) : FitV wb f x (bothV jb f x (some o) v) := by
 unfold bothV; simp only
 by_cases hm : x.many = true
 · rw [if_pos hm]; obtain ⟨c1, c2⟩ := countN_app (n := v.1) ho.cnt hv.cnt; have := ho.one; refine ⟨c1, by omega, (fun h => by rw [hm] at h; cases h), fun n hn => ?_, fun n hn => ?_, fun n hn => ?_⟩
   · rcases List.mem_append.1 hn with h | h
     · exact ho.nums n h
     · exact hv.nums n h
   · rcases List.mem_append.1 hn with h | h
     · exact ho.texts n h
     · exact hv.texts n h
   · rcases List.mem_append.1 hn with h | h
     · exact ho.subs n h
     · exact hv.subs n h
 · rw [if_neg hm]; have hm' : x.many = false := by simpa using hm
   by_cases hk : x.kind = 10
   · rw [if_pos hk]; have hj := hj hm' hk; generalize jb (msgI f x.type) (o.2.2.2.headD bod0) (v.2.2.2.headD bod0) = J at *; (have hc : countN x.kind (v.1, v.2.1, v.2.2.1, [J]) = (1, v.2.1.length + v.2.2.1.length == 0) := by rw [hk]; rfl); (have hc2 : (v.2.1.length + v.2.2.1.length == 0) = true := by have := hv.cnt; rw [hk] at this; exact this); exact ⟨by rw [hc]; exact hc2, by rw [hc]; exact Nat.le_refl _, fun _ => by rw [hc], hv.nums, hv.texts, fun s hs => by obtain rfl : s = J := (by simpa using hs); exact hj⟩
   · rw [if_neg hk]; exact hv
theorem valsN_0 {wv : Fld → Val → Int} {fs : List Fld} : ∀ {l : List Val} {prev : Option Int} {had : List Int}, (∀ v ∈ l, ∃ x, fldN fs v.1 = some x ∧ wv x v = 0 ∧ (0 < x.choice → x.choice ∉ had)) → RisingV l → (∀ p, prev = some p → ∀ v ∈ l, p < v.1) →
   (∀ u ∈ l, ∀ v ∈ l, u.1 ≠ v.1 → ∀ x y, fldN fs u.1 = some x → fldN fs v.1 = some y → 0 < x.choice → x.choice ≠ y.choice) → valsN wv fs prev had l = 0
 | [], _, _, _, _, _, _ => rfl
 | v :: l, prev, had, h1, h2, h3, h4 => by
   obtain ⟨x, hx, hw, hc⟩ := h1 v List.mem_cons_self; rw [valsN, hx]; simp only
   have hbp : ¬ badPrev prev v.1 = true := by
     cases prev with
     | none => simp [badPrev]
     | some p => have := h3 p rfl v List.mem_cons_self; simp only [badPrev, decide_eq_true_eq]; omega
   rw [if_neg hbp]; rw [if_neg (by simpa using hw), if_neg (fun g => hc g.1 g.2)]; refine valsN_0 (fun u hu => ?_) h2.of_cons (fun p hp u hu => ?_) (fun u hu w hw => h4 u (List.mem_cons_of_mem _ hu) w (List.mem_cons_of_mem _ hw))
   · obtain ⟨y, hy, hwy, hcy⟩ := h1 u (List.mem_cons_of_mem _ hu); refine ⟨y, hy, hwy, fun hpos hm => ?_⟩; split at hm
     · rename_i hx0; rcases List.mem_cons.1 hm with e | hm
       · have hlt := List.rel_of_pairwise_cons h2 hu; exact h4 v List.mem_cons_self u (List.mem_cons_of_mem _ hu) (by omega) x y hx hy hx0 e.symm
       · exact hcy hpos hm
     · exact hcy hpos hm
   · (cases hp); exact List.rel_of_pairwise_cons h2 hu
structure AllV (wb : Int → Bod → Int) (f : Fil) (fs : List Fld) (l : List Val) : Prop where
 ris : RisingV l
 fld : ∀ v ∈ l, ∃ x, fldN fs v.1 = some x ∧ wrongVF wb f x v = 0
 one : ∀ u ∈ l, ∀ v ∈ l, u.1 ≠ v.1 → ∀ x y, fldN fs u.1 = some x → fldN fs v.1 = some y → 0 < x.choice → x.choice ≠ y.choice
theorem AllV.ok {wb : Int → Bod → Int} {f : Fil} {fs : List Fld} {l : List Val} (h : AllV wb f fs l) : OkV fs l :=
 ⟨h.ris, fun v hv => by obtain ⟨x, h1, h2⟩ := h.fld v hv; exact ⟨x, h1, (wrongVF_iff.1 h2).2.2⟩, h.one⟩
theorem AllV.nil {wb : Int → Bod → Int} {f : Fil} {fs : List Fld} : AllV wb f fs [] := ⟨List.Pairwise.nil, (fun v h => by cases h), (fun v h => by cases h)⟩
theorem AllV.tail {wb : Int → Bod → Int} {f : Fil} {fs : List Fld} {v : Val} {l : List Val} (h : AllV wb f fs (v :: l)) : AllV wb f fs l :=
 ⟨h.ris.of_cons, fun u hu => h.fld u (List.mem_cons_of_mem _ hu), fun u hu w hw => h.one u (List.mem_cons_of_mem _ hu) w (List.mem_cons_of_mem _ hw)⟩
theorem allV_iff {wb : Int → Bod → Int} {f : Fil} {fs : List Fld} {l : List Val} (hch : ∀ z ∈ fs, 0 ≤ z.choice) : valsN (wrongVF wb f) fs none [] l = 0 ↔ AllV wb f fs l := by
 constructor
 · intro h; obtain ⟨g1, g2, _, g4⟩ := valsN_zero h; refine ⟨g2, fun v hv => by obtain ⟨x, e1, e2, _⟩ := g1 v hv; exact ⟨x, e1, e2⟩, fun u hu v hv hne x y hx hy hpos e => ?_⟩; obtain ⟨i, hi, rfl⟩ := List.getElem_of_mem hu; obtain ⟨j, hj, rfl⟩ := List.getElem_of_mem hv; rcases Nat.lt_trichotomy i j with hlt | heq | hlt
   · exact List.pairwise_iff_getElem.1 g4 i j hi hj hlt x y hx hy hpos e
   · subst heq; exact hne rfl
   · exact List.pairwise_iff_getElem.1 g4 j i hj hi hlt y x hy hx (by omega) e.symm
 · intro h; exact valsN_0 (fun v hv => by obtain ⟨x, e1, e2⟩ := h.fld v hv; exact ⟨x, e1, e2, fun _ h => by cases h⟩) h.ris (fun p hp => by cases hp) h.one
theorem set_right {wb : Int → Bod → Int} {f : Fil} {fs : List Fld} {l : List Val} (hch : ∀ z ∈ fs, 0 ≤ z.choice) (h : AllV wb f fs l) {v : Val} {x : Fld} (hx : fldN fs v.1 = some x) (hv : FitV wb f x v) (h60 : (countN x.kind v).1 ≤ 60) : AllV wb f fs (setV fs l v) := by
 have hm := fun y => set_mem_iff (fs := fs) h.ris hx y; refine ⟨rising_set h.ris v, fun y hy => ?_, fun u hu w hw hne a b ha hb hpos e => ?_⟩
 · rcases (hm y).1 hy with ⟨h1, _⟩ | ⟨h1, rfl⟩
   · exact h.fld y h1
   · exact ⟨x, hx, wrongVF_iff.2 ⟨hv, h60, h1⟩⟩
 · rcases (hm u).1 hu with ⟨h1, k1⟩ | ⟨h1, rfl⟩
   · rcases (hm w).1 hw with ⟨h2, k2⟩ | ⟨h2, rfl⟩
     · exact h.one u h1 w h2 hne a b ha hb hpos e
     · rw [hx] at hb; obtain rfl := Option.some.inj hb; have := keepN_same hne (by omega) ha e; rw [k1] at this; cases this
   · rcases (hm w).1 hw with ⟨h2, k2⟩ | ⟨h2, rfl⟩
     · rw [hx] at ha; obtain rfl := Option.some.inj ha; have := keepN_same (Ne.symm hne) (by omega) hb e.symm; rw [k2] at this; cases this
     · exact absurd rfl hne
theorem set_set {fs : List Fld} {l : List Val} (h : RisingV l) {u v : Val} {x : Fld} (hu : fldN fs u.1 = some x) (e : v.1 = u.1) : setV fs (setV fs l u) v = setV fs l v := by
 (have hv : fldN fs v.1 = some x := by rw [e]; exact hu); refine rising_ext (rising_set (rising_set h u) v) (rising_set h v) fun n => ?_; rw [find_set (rising_set h u) hv, find_set h hv]; split
 · rfl
 · rename_i hn; split
   · rename_i hk; rw [find_set h hu, if_neg (by rw [← e]; exact hn), if_pos (by rw [← e]; exact hk)]
   · rfl
abbrev JnOk (wb : Int → Bod → Int) (jb : Int → Bod → Bod → Bod) (jn : Int → Bod → Bod → Bod × Int) : Prop := ∀ mi a b, wb mi a = 0 → wb mi b = 0 → (wb mi (jb mi a b) = 0 ∧ jn mi a b = (jb mi a b, 0)) ∨ (wb mi (jb mi a b) = 5 ∧ (jn mi a b).2 = 5)
theorem add_ok {wb : Int → Bod → Int} {jb : Int → Bod → Bod → Bod} {jn : Int → Bod → Bod → Bod × Int} {f : Fil} {fs : List Fld} (hjn : JnOk wb jb jn) {b : Bod} (h : AllV wb f fs b.values) {x : Fld} {v : Val} (hx : fldN fs v.1 = some x) (hv : FitV wb f x v) :
   (FitV wb f x (bothV jb f x (findV b.values v.1) v) ∧ (countN x.kind (bothV jb f x (findV b.values v.1) v)).1 ≤ 60 ∧ addC jn f fs b x v = (.mk (setV fs b.values (bothV jb f x (findV b.values v.1) v)) b.unknown, 0)) ∨
   ((wrongVF wb f x (bothV jb f x (findV b.values v.1) v) ≠ 0) ∧ addC jn f fs b x v = (bod0, 5)) := by
 have hxn : x.number = v.1 := (fldN_mem hx).2
 have hfin : ∀ u : Val, FitV wb f x u → (FitV wb f x u ∧ (countN x.kind u).1 ≤ 60 ∧ finC fs b u = (.mk (setV fs b.values u) b.unknown, 0)) ∨ (wrongVF wb f x u ≠ 0 ∧ finC fs b u = (bod0, 5)) := by
   intro u hu; unfold finC; rw [max_count hu.cnt]
   by_cases h6 : 60 < (countN x.kind u).1
   · rw [if_pos h6]; exact .inr ⟨fun g => by have := (wrongVF_iff.1 g).2.1; omega, rfl⟩
   · rw [if_neg h6]; exact .inl ⟨hu, by omega, rfl⟩
 unfold addC; rw [hxn]
 cases ho : findV b.values v.1 with
 | none => exact hfin v hv
 | some o =>
   obtain ⟨hom, hon⟩ := findV_mem ho; obtain ⟨y, hy, hwo⟩ := h.fld o hom; rw [hon, hx] at hy; obtain rfl := Option.some.inj hy; have hof := (wrongVF_iff.1 hwo).1; simp only
   by_cases hm : x.many = true
   · rw [if_pos hm, both_many hm]; refine hfin _ ?_; (have := fit_both (jb := jb) hof hv (fun g => by rw [hm] at g; cases g)); rw [both_many hm] at this; exact this
   · rw [if_neg hm]; have hm' : x.many = false := by simpa using hm
     by_cases hk : x.kind = 10
     · rw [if_pos hk, both_sub hm' hk]; have hos := one_of (by rw [← count_subs (v := o) hk]; exact hof.alone hm'); have hvs := one_of (by rw [← count_subs (v := v) hk]; exact hv.alone hm'); have e1 := hof.subs (o.2.2.2.headD bod0) (by rw [hos]; simp); have e2 := hv.subs (v.2.2.2.headD bod0) (by rw [hvs]; simp); have hb := fun (hj : wb (msgI f x.type) (jb (msgI f x.type) (o.2.2.2.headD bod0) (v.2.2.2.headD bod0)) = 0) => fit_both (jb := jb) hof hv (fun _ _ => hj); rw [both_sub hm' hk] at hb; rcases hjn _ _ _ e1 e2 with ⟨g1, g2⟩ | ⟨g1, g2⟩
       · rw [g2]; simp only [ne_eq, not_true_eq_false, if_false]; exact hfin _ (hb g1)
       · rw [g2, if_pos (by decide)]; refine .inr ⟨fun g => ?_, rfl⟩; have := (wrongVF_iff.1 g).1.subs _ List.mem_cons_self; rw [g1] at this; cases this
     · rw [if_neg hk, both_last hm' hk]; exact hfin v hv
theorem joinL_ok {wb : Int → Bod → Int} {jb : Int → Bod → Bod → Bod} {jn : Int → Bod → Bod → Bod × Int} {f : Fil} {fs : List Fld} (hch : ∀ z ∈ fs, 0 ≤ z.choice) (hjn : JnOk wb jb jn) : ∀ (l : List Val) (a : Bod), AllV wb f fs a.values → AllV wb f fs l →
   (AllV wb f fs (l.foldl (joinV jb f fs) a.values) ∧ joinL (addC jn f fs) fs l a = (.mk (l.foldl (joinV jb f fs) a.values) a.unknown, 0)) ∨ (¬ AllV wb f fs (l.foldl (joinV jb f fs) a.values) ∧ (joinL (addC jn f fs) fs l a) = (bod0, 5))
 | [], a, ha, _ => .inl ⟨ha, by rw [joinL]; cases a; rfl⟩
 | v :: l, a, ha, hl => by
   obtain ⟨x, hx, hw⟩ := hl.fld v List.mem_cons_self; have hfit := wrongVF_iff.1 hw; (have hstep : joinV jb f fs a.values v = setV fs a.values (bothV jb f x (findV a.values v.1) v) := by unfold joinV; rw [hx]); have hbn : (bothV jb f x (findV a.values v.1) v).1 = v.1 := bothV_num _ _ _ _ _; rw [joinL, hx]; simp only [List.foldl_cons]; rcases add_ok hjn ha hx hfit.1 with ⟨g1, g2, g3⟩ | ⟨g1, g2⟩
   · rw [g3]; simp only [ne_eq, not_true_eq_false, if_false]; have := joinL_ok hch hjn l (.mk (setV fs a.values (bothV jb f x (findV a.values v.1) v)) a.unknown) (set_right hch ha (by rw [hbn]; exact hx) g1 g2) hl.tail; rw [hstep]; exact this
   · rw [g2, if_pos (by decide)]; refine .inr ⟨fun hall => g1 ?_, rfl⟩; have hj := (find_join (jb := jb) (f := f) hch ha.ris hl.ok v.1).1 v x find_cons_self hx; rw [List.foldl_cons] at hj; obtain ⟨hmem, hnum⟩ := findV_mem hj; obtain ⟨y, hy, hwy⟩ := hall.fld _ hmem; rw [hnum, hx] at hy; obtain rfl := Option.some.inj hy; exact hwy
theorem joinK_ok {f : Fil} (hright : (wrongN f).1 = 0) : ∀ (k j : Nat), k ≤ j → JnOk (wrongB f k) (joinB f k) (joinK f j)
 | 0, _, _ => fun _ _ _ h => by cases h
 | k + 1, 0, h => by omega
 | k + 1, j + 1, hkj => by
   intro msg a b ha hb; have h05 := join_05 hright (k + 1) msg a b ha hb; obtain ⟨k', m, e, hm, ha'⟩ := wrongB_zero ha; (obtain rfl : k = k' := by omega); obtain ⟨k', m', e, hm', hb'⟩ := wrongB_zero hb; (obtain rfl : k = k' := by omega); rw [hm] at hm'; obtain rfl := Option.some.inj hm'; have hmr := right_msg hright m (List.mem_of_getElem? hm); have hch : ∀ z ∈ m.fields, 0 ≤ z.choice := fun z hz => (choice_16 hmr hz).1; obtain ⟨ga, ua⟩ := wrongBF_zero ha'; obtain ⟨gb, ub⟩ := wrongBF_zero hb'; have hja : joinB f (k + 1) msg a b = .mk (b.values.foldl (joinV (joinB f k) f m.fields) a.values) (a.unknown ++ b.unknown) := by rw [joinB, hm]
   have hiff : wrongB f (k + 1) msg (joinB f (k + 1) msg a b) = 0 ↔ AllV (wrongB f k) f m.fields (b.values.foldl (joinV (joinB f k) f m.fields) a.values) := by
     rw [← allV_iff hch, hja, wrongB, hm]; simp only; unfold wrongBF; show (if valsN _ _ _ _ (b.values.foldl _ _) ≠ 0 then valsN _ _ _ _ (b.values.foldl _ _) else firstN ((a.unknown ++ b.unknown).map _)) = 0 ↔ _; constructor
     · intro h; apply Classical.byContradiction; intro h2; rw [if_pos h2] at h; exact h2 h
     · intro h; rw [h, if_neg (by decide), firstN_all (fun r hr => by rcases List.mem_append.1 hr with h | h; exact ua r h; exact ub r h)]
   have hl := joinL_ok hch (joinK_ok hright k j (by omega)) b.values a ((allV_iff hch).1 ga) ((allV_iff hch).1 gb)
   have hk : joinK f (j + 1) msg a b = (let p := joinL (addC (joinK f j) f m.fields) m.fields b.values a
     if p.2 ≠ 0 then (bod0, p.2) else (.mk p.1.values (p.1.unknown ++ b.unknown), 0)) := by rw [joinK, hm]
   rcases hl with ⟨l1, l2⟩ | ⟨l1, l2⟩
   · refine .inl ⟨hiff.2 l1, ?_⟩; rw [hk, l2, hja]; rfl
   · refine .inr ⟨?_, ?_⟩
     · rcases h05 with h | h
       · exact absurd (hiff.1 h) l1
       · exact h
     · rw [hk, l2]; rfl
end Go.Proofs.YtbceapeoknngnaaGreatDoor
