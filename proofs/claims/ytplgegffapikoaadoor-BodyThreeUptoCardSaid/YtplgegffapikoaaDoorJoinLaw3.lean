/-
  Bodies put together, in plain Lean: of three it is no matter which two are put together first; a body and nothing are it.
-/
import Derived.Test.YtplgegffapikoaaDoorJoinLaw2
set_option linter.unusedVariables false
namespace Go.Proofs.YtplgegffapikoaaDoor
open Go.RowKit
theorem both_none {jb : Int → Bod → Bod → Bod} {f : Fil} {x : Fld} {v : Val} : bothV jb f x none v = v := rfl
theorem both_many {jb : Int → Bod → Bod → Bod} {f : Fil} {x : Fld} {u v : Val} (h : x.many = true) : bothV jb f x (some u) v = (v.1, u.2.1 ++ v.2.1, u.2.2.1 ++ v.2.2.1, u.2.2.2 ++ v.2.2.2) := by
  unfold bothV; simp only; rw [if_pos h]
theorem both_sub {jb : Int → Bod → Bod → Bod} {f : Fil} {x : Fld} {u v : Val} (h : x.many = false) (hk : x.kind = 10) : bothV jb f x (some u) v = (v.1, v.2.1, v.2.2.1, [jb (msgI f x.type) (u.2.2.2.headD bod0) (v.2.2.2.headD bod0)]) := by
  unfold bothV; simp only; rw [if_neg (by rw [h]; decide), if_pos hk]
theorem both_last {jb : Int → Bod → Bod → Bod} {f : Fil} {x : Fld} {o : Option Val} {v : Val} (h : x.many = false) (hk : x.kind ≠ 10) : bothV jb f x o v = v := by
  unfold bothV
  cases o with
  | none => rfl
  | some o => simp only; rw [if_neg (by rw [h]; decide), if_neg hk]
theorem both_assoc {jb : Int → Bod → Bod → Bod} {f : Fil} {x : Fld} {o : Option Val} {v w : Val} (h : x.many = false → x.kind = 10 → ∀ u, o = some u → jb (msgI f x.type) (jb (msgI f x.type) (u.2.2.2.headD bod0) (v.2.2.2.headD bod0)) (w.2.2.2.headD bod0) = jb (msgI f x.type) (u.2.2.2.headD bod0) (jb (msgI f x.type) (v.2.2.2.headD bod0) (w.2.2.2.headD bod0))) :
    bothV jb f x (some (bothV jb f x o v)) w = bothV jb f x o (bothV jb f x (some v) w) := by
  cases o with
  | none => rfl
  | some u =>
    cases hm : x.many with
    | true => rw [both_many hm, both_many hm, both_many hm, both_many hm]; simp only [List.append_assoc]
    | false =>
      by_cases hk : x.kind = 10
      · rw [both_sub hm hk, both_sub hm hk, both_sub hm hk, both_sub hm hk]
        simp only [List.headD_cons]
        rw [h hm hk u rfl]
      · rw [both_last hm hk, both_last hm hk, both_last hm hk]
/-- What is there behind both of a number of one of them. -/
theorem join_has {jb : Int → Bod → Bod → Bod} {f : Fil} {fs : List Fld} (hch : ∀ z ∈ fs, 0 ≤ z.choice) {a b : List Val} (ha : RisingV a) (hb : OkV fs b) {u : Val} (hu : u ∈ b.foldl (joinV jb f fs) a) : (∃ w ∈ b, w.1 = u.1) ∨ (u ∈ a ∧ ¬ gone fs b u.1) := by
  have hf := rising_find (rising_join ha) hu
  obtain ⟨i1, i2, i3⟩ := find_join (jb := jb) (f := f) hch ha hb u.1
  cases hbv : findV b u.1 with
  | some w => exact .inl ⟨w, findV_mem hbv⟩
  | none =>
    by_cases hg : gone fs b u.1
    · rw [i2 hbv hg] at hf; cases hf
    · rw [i3 hbv hg] at hf
      exact .inr ⟨(findV_mem hf).1, hg⟩
theorem join_keeps {jb : Int → Bod → Bod → Bod} {f : Fil} {fs : List Fld} (hch : ∀ z ∈ fs, 0 ≤ z.choice) {a b : List Val} (ha : RisingV a) (hb : OkV fs b) {u : Val} (hu : u ∈ b) : ∃ v ∈ b.foldl (joinV jb f fs) a, v.1 = u.1 := by
  obtain ⟨i1, _, _⟩ := find_join (jb := jb) (f := f) hch ha hb u.1
  obtain ⟨x, hx, _⟩ := hb.fld u hu
  have := i1 u x (rising_find hb.ris hu) hx
  exact ⟨_, (findV_mem this).1, (findV_mem this).2⟩
theorem join_keeps2 {jb : Int → Bod → Bod → Bod} {f : Fil} {fs : List Fld} (hch : ∀ z ∈ fs, 0 ≤ z.choice) {a b : List Val} (ha : RisingV a) (hb : OkV fs b) {u : Val} (hu : u ∈ a) (hg : ¬ gone fs b u.1) : ∃ v ∈ b.foldl (joinV jb f fs) a, v.1 = u.1 := by
  cases hbv : findV b u.1 with
  | some w =>
    obtain ⟨h1, h2⟩ := findV_mem hbv
    rw [← h2]
    exact join_keeps hch ha hb h1
  | none =>
    obtain ⟨_, _, i3⟩ := find_join (jb := jb) (f := f) hch ha hb u.1
    have := i3 hbv hg
    rw [rising_find ha hu] at this
    exact ⟨u, (findV_mem this).1, rfl⟩
theorem gone_of {fs : List Fld} {l r : List Val} {n : Int} (h : gone fs l n) (k : ∀ u ∈ l, (∃ x, fldN fs u.1 = some x ∧ u.1 ≠ n ∧ keepN fs x u.1 n = false) → ∃ v ∈ r, v.1 = u.1) : gone fs r n := by
  obtain ⟨u, hu, x, h1, h2, h3⟩ := h
  obtain ⟨v, hv, e⟩ := k u hu ⟨x, h1, h2, h3⟩
  exact ⟨v, hv, x, by rw [e]; exact h1, by rw [e]; exact h2, by rw [e]; exact h3⟩
theorem join_vals {f : Fil} {k : Nat} {msg : Int} {m : Msg} (hm : f.msgs[msg.toNat]? = some m) (a b : Bod) : joinB f (k + 1) msg a b = .mk (b.values.foldl (joinV (joinB f k) f m.fields) a.values) (a.unknown ++ b.unknown) := by rw [joinB, hm]
set_option maxHeartbeats 1600000 in
theorem join_assoc {f : Fil} (hright : (wrongN f).1 = 0) (hnm : ∀ m ∈ f.msgs, ∀ x ∈ m.fields, x.kind = 10 → x.choice ≤ 0) : ∀ (k : Nat) (msg : Int) (a b c : Bod), wrongB f k msg a = 0 → wrongB f k msg b = 0 → wrongB f k msg c = 0 → wrongB f k msg (joinB f k msg a b) = 0 → wrongB f k msg (joinB f k msg b c) = 0 →
    joinB f k msg (joinB f k msg a b) c = joinB f k msg a (joinB f k msg b c)
  | 0, _, _, _, _, h, _, _, _, _ => by cases h
  | k + 1, msg, a, b, c, ha, hb, hc, hx, hy => by
    obtain ⟨k', m, e, hm, ha'⟩ := wrongB_zero ha
    obtain rfl : k = k' := by omega
    have hof : ∀ p, wrongB f (k + 1) msg p = 0 → wrongBF (wrongVF (wrongB f k) f) m p = 0 := fun p h => by rw [wrongB, hm] at h; exact h
    have hb' := hof b hb
    have hc' := hof c hc
    have hx' := hof _ hx
    have hy' := hof _ hy
    have hmm := List.mem_of_getElem? hm
    have hmr := right_msg hright m hmm
    have hch : ∀ z ∈ m.fields, 0 ≤ z.choice := fun z hz => (choice_16 hmr hz).1
    have hty : ∀ z ∈ m.fields, typedN f z = 0 := fun z hz => by
      obtain ⟨i, hi, rfl⟩ := List.getElem_of_mem hz
      exact (field_facts ((msg_field hmr).2.2 i hi)).2.2.2.1
    have oa := okV_right ha'
    have ob := okV_right hb'
    have oc := okV_right hc'
    have ox := okV_right hx'
    have oy := okV_right hy'
    obtain ⟨ga1, _, _, _⟩ := valsN_zero (wrongBF_zero ha').1
    obtain ⟨gb1, _, _, _⟩ := valsN_zero (wrongBF_zero hb').1
    obtain ⟨gc1, _, _, _⟩ := valsN_zero (wrongBF_zero hc').1
    obtain ⟨gx1, _, _, _⟩ := valsN_zero (wrongBF_zero hx').1
    obtain ⟨gy1, _, _, _⟩ := valsN_zero (wrongBF_zero hy').1
    rw [join_vals hm] at gx1 gy1 ox oy
    rw [join_vals hm a b, join_vals hm b c, join_vals hm, join_vals hm]
    refine Bod.ext' ?_ (List.append_assoc _ _ _)
    show c.values.foldl (joinV (joinB f k) f m.fields) (b.values.foldl (joinV (joinB f k) f m.fields) a.values) = (c.values.foldl (joinV (joinB f k) f m.fields) b.values).foldl (joinV (joinB f k) f m.fields) a.values
    have ox' : OkV m.fields (b.values.foldl (joinV (joinB f k) f m.fields) a.values) := ox
    have oy' : OkV m.fields (c.values.foldl (joinV (joinB f k) f m.fields) b.values) := oy
    have gx : ∀ v ∈ b.values.foldl (joinV (joinB f k) f m.fields) a.values, ∃ x, fldN m.fields v.1 = some x ∧ wrongVF (wrongB f k) f x v = 0 := fun v hv => by obtain ⟨x, h1, h2, _⟩ := gx1 v hv; exact ⟨x, h1, h2⟩
    have gy : ∀ v ∈ c.values.foldl (joinV (joinB f k) f m.fields) b.values, ∃ x, fldN m.fields v.1 = some x ∧ wrongVF (wrongB f k) f x v = 0 := fun v hv => by obtain ⟨x, h1, h2, _⟩ := gy1 v hv; exact ⟨x, h1, h2⟩
    clear gx1 gy1 ox oy hx hy hx' hy'
    refine rising_ext (rising_join ox'.ris) (rising_join oa.ris) fun n => ?_
    obtain ⟨p1, p2, p3⟩ := find_join (jb := joinB f k) (f := f) hch ox'.ris oc n
    obtain ⟨q1, q2, q3⟩ := find_join (jb := joinB f k) (f := f) hch oa.ris oy' n
    obtain ⟨r1, r2, r3⟩ := find_join (jb := joinB f k) (f := f) hch oa.ris ob n
    obtain ⟨s1, s2, s3⟩ := find_join (jb := joinB f k) (f := f) hch ob.ris oc n
    cases hcn : findV c.values n with
    | some w =>
      obtain ⟨hwm, hwn⟩ := findV_mem hcn
      obtain ⟨x, hx, hw, _⟩ := gc1 w hwm
      rw [hwn] at hx
      have hyn := s1 w x hcn hx
      rw [p1 w x hcn hx, q1 _ x hyn hx]
      cases hbn : findV b.values n with
      | some v =>
        have hxn := r1 v x hbn hx
        rw [hxn]
        refine congrArg some (both_assoc fun hmy hk u hu => ?_)
        obtain ⟨hum, hun⟩ := findV_mem hu
        obtain ⟨hvm, hvn⟩ := findV_mem hbn
        have fx : ∀ {l : List Val} {z : Val}, (∀ v ∈ l, ∃ x, fldN m.fields v.1 = some x ∧ wrongVF (wrongB f k) f x v = 0) → z ∈ l → z.1 = n → wrongVF (wrongB f k) f x z = 0 := fun {l z} g h1 h2 => by
          obtain ⟨y, h3, h4⟩ := g z h1
          rw [h2, hx] at h3
          rw [Option.some.inj h3]; exact h4
        have wu := fx (fun v hv => by obtain ⟨x, h1, h2, _⟩ := ga1 v hv; exact ⟨x, h1, h2⟩) hum hun
        have wv := fx (fun v hv => by obtain ⟨x, h1, h2, _⟩ := gb1 v hv; exact ⟨x, h1, h2⟩) hvm hvn
        have wx := fx gx (findV_mem hxn).1 (findV_mem hxn).2
        have wy := fx gy (findV_mem hyn).1 (findV_mem hyn).2
        rw [hu, both_sub hmy hk] at wx
        rw [hbn, both_sub hmy hk] at wy
        have hd : ∀ {z : Val}, wrongVF (wrongB f k) f x z = 0 → wrongB f k (msgI f x.type) (z.2.2.2.headD bod0) = 0 := fun {z} h => by
          obtain ⟨_, _, _, o4, _, _, _, o8⟩ := wrongVF_zero h
          have := one_of (by rw [← count_subs (v := z) hk]; exact o4 hmy)
          exact o8 _ (by rw [this]; simp)
        exact join_assoc hright hnm k _ _ _ _ (hd wu) (hd wv) (hd hw) (hd wx) (hd wy)
      | none =>
        by_cases hg : gone m.fields b.values n
        · rw [r2 hbn hg]
          obtain ⟨u, hu, y, hy, hne, hk⟩ := hg
          obtain ⟨h0, z, hz, hzc⟩ := keepN_false (Ne.symm hne) hk
          rw [hx] at hz
          obtain rfl := Option.some.inj hz
          have hxm := (fldN_mem hx).1
          have h1 := hch x hxm
          have hmy : x.many = false := (typed_facts (hty x hxm)).2.2.2 (by omega)
          have hk10 : x.kind ≠ 10 := fun e => by have := hnm m hmm x hxm e; omega
          simp only [both_last hmy hk10]
        · rw [r3 hbn hg]; rfl
    | none =>
      by_cases hgc : gone m.fields c.values n
      · rw [p2 hcn hgc, q2 (s2 hcn hgc) (gone_of hgc fun u hu _ => join_keeps hch ob.ris oc hu)]
      · rw [p3 hcn hgc]
        cases hbn : findV b.values n with
        | some v =>
          obtain ⟨hvm, hvn⟩ := findV_mem hbn
          obtain ⟨x, hx, _, _⟩ := gb1 v hvm
          rw [hvn] at hx
          rw [r1 v x hbn hx, q1 v x (by rw [s3 hcn hgc]; exact hbn) hx]
        | none =>
          have hyn : findV (c.values.foldl (joinV (joinB f k) f m.fields) b.values) n = none := by rw [s3 hcn hgc]; exact hbn
          by_cases hgb : gone m.fields b.values n
          · rw [r2 hbn hgb, q2 hyn (gone_of hgb fun u hu ⟨x, hx, hne, hk⟩ => ?_)]
            refine join_keeps2 hch ob.ris oc hu fun ⟨w, hw, y, hy, hne2, hk2⟩ => ?_
            obtain ⟨h0, z, hz, hzc⟩ := keepN_false (Ne.symm hne) hk
            obtain ⟨h0', z', hz', hzc'⟩ := keepN_false (Ne.symm hne2) hk2
            rw [hx] at hz'
            obtain rfl := Option.some.inj hz'
            have hwn : w.1 ≠ n := fun e => findV_non' hcn w hw e
            exact hgc ⟨w, hw, y, hy, hwn, keepN_same (Ne.symm hwn) h0' hz (by rw [hzc, hzc'])⟩
          · rw [r3 hbn hgb, q3 hyn fun hg => ?_]
            obtain ⟨u, hu, x, hx, hne, hk⟩ := hg
            rcases join_has hch ob.ris oc hu with ⟨w, hw, e⟩ | ⟨h, _⟩
            · exact hgc ⟨w, hw, x, by rw [e]; exact hx, by rw [e]; exact hne, by rw [e]; exact hk⟩
            · exact hgb ⟨u, h, x, hx, hne, hk⟩
theorem join_nil {f : Fil} {k : Nat} {msg : Int} {a : Bod} (h : wrongB f k msg a = 0) : joinB f k msg a bod0 = a := by
  obtain ⟨k', m, rfl, hm, _⟩ := wrongB_zero h
  rw [join_vals hm]
  exact Bod.ext' rfl (List.append_nil _)
theorem nil_join {f : Fil} (hright : (wrongN f).1 = 0) {k : Nat} {msg : Int} {a : Bod} (h : wrongB f k msg a = 0) : joinB f k msg bod0 a = a := by
  obtain ⟨k', m, rfl, hm, ha⟩ := wrongB_zero h
  have hmr := right_msg hright m (List.mem_of_getElem? hm)
  have hch : ∀ z ∈ m.fields, 0 ≤ z.choice := fun z hz => (choice_16 hmr hz).1
  have oa := okV_right ha
  rw [join_vals hm]
  refine Bod.ext' ?_ rfl
  show a.values.foldl (joinV (joinB f k') f m.fields) [] = a.values
  refine rising_ext (rising_join List.Pairwise.nil) oa.ris fun n => ?_
  obtain ⟨i1, i2, i3⟩ := find_join (jb := joinB f k') (f := f) hch (a := []) List.Pairwise.nil oa n
  cases hn : findV a.values n with
  | some v =>
    obtain ⟨hvm, hvn⟩ := findV_mem hn
    obtain ⟨x, hx, _⟩ := oa.fld v hvm
    rw [hvn] at hx
    rw [i1 v x hn hx]
    rfl
  | none =>
    by_cases hg : gone m.fields a.values n
    · exact i2 hn hg
    · rw [i3 hn hg]; rfl
theorem nil_right {f : Fil} {k : Nat} {msg : Int} {m : Msg} (hm : f.msgs[msg.toNat]? = some m) : wrongB f (k + 1) msg bod0 = 0 := by
  rw [wrongB, hm]
  rfl
end Go.Proofs.YtplgegffapikoaaDoor
