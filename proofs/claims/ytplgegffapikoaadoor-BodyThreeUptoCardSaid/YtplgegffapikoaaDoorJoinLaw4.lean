/-
  Bodies put together, in plain Lean: how many that nobody knows; the last one counts.
-/
import Derived.Test.YtplgegffapikoaaDoorJoinLaw3
set_option linter.unusedVariables false
namespace Go.Proofs.YtplgegffapikoaaDoor
open Go.RowKit
/-- No list of what nobody knows grows more than twice. -/
theorem unk_join {f : Fil} (hright : (wrongN f).1 = 0) {N : Nat} : ∀ (k : Nat) (msg : Int) (a b : Bod), wrongB f k msg a = 0 → wrongB f k msg b = 0 → UnkLe N k a → UnkLe N k b → UnkLe (2 * N) k (joinB f k msg a b)
  | 0, _, _, _, h, _, _, _ => by cases h
  | k + 1, msg, a, b, ha, hb, na, nb => by
    obtain ⟨k', m, e, hm, ha'⟩ := wrongB_zero ha
    obtain rfl : k = k' := by omega
    have hb' : wrongBF (wrongVF (wrongB f k) f) m b = 0 := by rw [wrongB, hm] at hb; exact hb
    have hmr := right_msg hright m (List.mem_of_getElem? hm)
    have hch : ∀ z ∈ m.fields, 0 ≤ z.choice := fun z hz => (choice_16 hmr hz).1
    have oa := okV_right ha'
    have ob := okV_right hb'
    obtain ⟨ga1, _, _, _⟩ := valsN_zero (wrongBF_zero ha').1
    obtain ⟨gb1, _, _, _⟩ := valsN_zero (wrongBF_zero hb').1
    have hle : N ≤ 2 * N := by omega
    rw [join_vals hm]
    refine ⟨?_, fun v hv s hs => ?_⟩
    · show (a.unknown ++ b.unknown).length ≤ _
      rw [List.length_append]
      have := na.top; have := nb.top
      omega
    · have hv' : v ∈ b.values.foldl (joinV (joinB f k) f m.fields) a.values := hv
      have hf := rising_find (rising_join oa.ris) hv'
      obtain ⟨i1, i2, i3⟩ := find_join (jb := joinB f k) (f := f) hch oa.ris ob v.1
      cases hbv : findV b.values v.1 with
      | some w =>
        obtain ⟨hwm, hwn⟩ := findV_mem hbv
        obtain ⟨x, hx, hw, _⟩ := gb1 w hwm
        rw [hwn] at hx
        rw [i1 w x hbv hx] at hf
        rw [← Option.some.inj hf] at hs
        cases hav : findV a.values v.1 with
        | none => rw [hav, both_none] at hs; exact (nb.2 w hwm s hs).mono hle
        | some o =>
          rw [hav] at hs
          obtain ⟨hom, hon⟩ := findV_mem hav
          obtain ⟨y, hy, ho, _⟩ := ga1 o hom
          rw [hon, hx] at hy
          obtain rfl := Option.some.inj hy
          cases hmy : x.many with
          | true =>
            rw [both_many hmy] at hs
            rcases List.mem_append.1 hs with h | h
            · exact (na.2 o hom s h).mono hle
            · exact (nb.2 w hwm s h).mono hle
          | false =>
            by_cases hk : x.kind = 10
            · rw [both_sub hmy hk] at hs
              obtain rfl : s = joinB f k (msgI f x.type) (o.2.2.2.headD bod0) (w.2.2.2.headD bod0) := by simpa using hs
              have hd : ∀ {z : Val}, wrongVF (wrongB f k) f x z = 0 → z.2.2.2.headD bod0 ∈ z.2.2.2 ∧ wrongB f k (msgI f x.type) (z.2.2.2.headD bod0) = 0 := fun {z} h => by
                obtain ⟨_, _, _, o4, _, _, _, o8⟩ := wrongVF_zero h
                have h1 := one_of (by rw [← count_subs (v := z) hk]; exact o4 hmy)
                have h2 : z.2.2.2.headD bod0 ∈ z.2.2.2 := by rw [h1]; simp
                exact ⟨h2, o8 _ h2⟩
              exact unk_join hright k _ _ _ (hd ho).2 (hd hw).2 (na.2 o hom _ (hd ho).1) (nb.2 w hwm _ (hd hw).1)
            · rw [both_last hmy hk] at hs
              exact (nb.2 w hwm s hs).mono hle
      | none =>
        by_cases hg : gone m.fields b.values v.1
        · rw [i2 hbv hg] at hf; cases hf
        · rw [i3 hbv hg] at hf
          exact (na.2 v (findV_mem hf).1 s hs).mono hle
/-- A right message's fields are found by their numbers. -/
theorem fld_self {f : Fil} {m : Msg} (h : msgN f m = 0) {x : Fld} (hx : x ∈ m.fields) : fldN m.fields x.number = some x := by
  obtain ⟨i, hi, rfl⟩ := List.getElem_of_mem hx
  have h3 := (field_facts ((msg_field h).2.2 i hi)).2.2.1
  unfold fldN
  rw [List.find?_eq_some_iff_getElem]
  refine ⟨by simp, i, hi, rfl, fun j hj => ?_⟩
  have := h3 m.fields[j] (by rw [List.mem_take_iff_getElem]; exact ⟨j, by omega, rfl⟩)
  simpa using this
theorem gone_iff {f : Fil} {m : Msg} (h : msgN f m = 0) {x : Fld} (hx : x ∈ m.fields) {b : List Val} (ob : OkV m.fields b) (hn : findV b x.number = none) :
    gone m.fields b x.number ↔ ∃ y ∈ m.fields, (findV b y.number).isSome = true ∧ 0 < x.choice ∧ y.choice = x.choice := by
  have hfx := fld_self h hx
  constructor
  · rintro ⟨u, hu, y, hy, hne, hk⟩
    obtain ⟨h0, z, hz, hzc⟩ := keepN_false (Ne.symm hne) hk
    rw [hfx] at hz
    obtain rfl := Option.some.inj hz
    obtain ⟨hym, hyn⟩ := fldN_mem hy
    have := (choice_16 h hx).1
    refine ⟨y, hym, ?_, by omega, hzc.symm⟩
    rw [hyn, rising_find ob.ris hu]; rfl
  · rintro ⟨y, hy, hs, hp, hc⟩
    obtain ⟨u, hu⟩ := Option.isSome_iff_exists.1 hs
    obtain ⟨hum, hun⟩ := findV_mem hu
    have hne : u.1 ≠ x.number := fun e => findV_non' hn u hum e
    exact ⟨u, hum, y, by rw [hun]; exact fld_self h hy, hne, keepN_same (Ne.symm hne) (by omega) hfx hc.symm⟩
def lens (v : Val) : Nat := v.2.1.length + v.2.2.1.length + v.2.2.2.length
/-- What BodyLast says of a field. -/
theorem last_field {f : Fil} (hright : (wrongN f).1 = 0) {k : Nat} {m : Msg} (hmm : m ∈ f.msgs) {x : Fld} (hx : x ∈ m.fields) {a b : List Val} (oa : OkV m.fields a) (ob : OkV m.fields b) :
    (x.many = true → lens ((findV (b.foldl (joinV (joinB f k) f m.fields) a) x.number).getD val0) = lens ((findV a x.number).getD val0) + lens ((findV b x.number).getD val0)) ∧
    (∀ v, x.many = false → findV b x.number = some v → (x.kind ≠ 10 ∨ findV a x.number = none) → findV (b.foldl (joinV (joinB f k) f m.fields) a) x.number = some v) ∧
    (findV b x.number = none → findV (b.foldl (joinV (joinB f k) f m.fields) a) x.number = if (∃ y ∈ m.fields, (findV b y.number).isSome = true ∧ 0 < x.choice ∧ y.choice = x.choice) then none else findV a x.number) := by
  have hmr := right_msg hright m hmm
  have hch : ∀ z ∈ m.fields, 0 ≤ z.choice := fun z hz => (choice_16 hmr hz).1
  have hfx := fld_self hmr hx
  obtain ⟨i1, i2, i3⟩ := find_join (jb := joinB f k) (f := f) hch oa.ris ob x.number
  have hlast : findV b x.number = none → findV (b.foldl (joinV (joinB f k) f m.fields) a) x.number = if (∃ y ∈ m.fields, (findV b y.number).isSome = true ∧ 0 < x.choice ∧ y.choice = x.choice) then none else findV a x.number := fun hn => by
    by_cases hg : gone m.fields b x.number
    · rw [i2 hn hg, if_pos ((gone_iff hmr hx ob hn).1 hg)]
    · rw [i3 hn hg, if_neg (fun h => hg ((gone_iff hmr hx ob hn).2 h))]
  refine ⟨fun hmy => ?_, fun v hmy hv hk => ?_, hlast⟩
  · cases hv : findV b x.number with
    | some v =>
      rw [i1 v x hv hfx]
      cases ha : findV a x.number with
      | none => rw [both_none]; simp [lens, val0]
      | some u =>
        rw [both_many hmy]
        simp only [lens, Option.getD_some, List.length_append]
        omega
    | none =>
      rw [hlast hv, if_neg]
      · simp [lens, val0]
      · rintro ⟨y, _, _, hp, _⟩
        obtain ⟨i, hi, rfl⟩ := List.getElem_of_mem hx
        have := (typed_facts (field_facts ((msg_field hmr).2.2 i hi)).2.2.2.1).2.2.2 hp
        rw [hmy] at this; cases this
  · rw [i1 v x hv hfx]
    rcases hk with hk | hk
    · rw [both_last hmy hk]
    · rw [hk, both_none]
end Go.Proofs.YtplgegffapikoaaDoor
