/-
  Two bodies put together, in plain Lean.
-/
import Derived.Test.YtplgegffapikoaaDoorPt18
import Derived.Test.YtplgegffapikoaaDoorPt14
set_option linter.unusedVariables false
namespace Go.Proofs.YtplgegffapikoaaDoor
open Go.RowKit
def setV (fs : List Fld) (l : List Val) (v : Val) : List Val := setG (fun y : Val => y.1) fs l v (fun F => plainN F v)
/-- The value that comes to be where v comes behind old. -/
def bothV (jb : Int → Bod → Bod → Bod) (f : Fil) (x : Fld) (old : Option Val) (v : Val) : Val :=
  match old with
  | none => v
  | some o =>
    if x.many = true then (v.1, o.2.1 ++ v.2.1, o.2.2.1 ++ v.2.2.1, o.2.2.2 ++ v.2.2.2)
    else if x.kind = 10 then (v.1, v.2.1, v.2.2.1, [jb (msgI f x.type) (o.2.2.2.headD bod0) (v.2.2.2.headD bod0)])
    else v
def joinV (jb : Int → Bod → Bod → Bod) (f : Fil) (fs : List Fld) (l : List Val) (v : Val) : List Val :=
  match fldN fs v.1 with
  | none => l
  | some x => setV fs l (bothV jb f x (findV l v.1) v)
def joinB (f : Fil) : Nat → Int → Bod → Bod → Bod
  | 0, _, a, _ => a
  | k + 1, msg, a, b => match f.msgs[msg.toNat]? with
    | none => a
    | some m => .mk (b.values.foldl (joinV (joinB f k) f m.fields) a.values) (a.unknown ++ b.unknown)
abbrev RisingV (l : List Val) : Prop := l.Pairwise fun a b => a.1 < b.1
/-- No list of what nobody knows is longer, as deep as this. -/
def UnkLe (N : Nat) : Nat → Bod → Prop
  | 0, b => b.unknown.length ≤ N
  | k + 1, b => b.unknown.length ≤ N ∧ ∀ v ∈ b.values, ∀ s ∈ v.2.2.2, UnkLe N k s
theorem UnkLe.top {N k : Nat} {b : Bod} (h : UnkLe N k b) : b.unknown.length ≤ N := by cases k with | zero => exact h | succ k => exact h.1
theorem UnkLe.mono {N M : Nat} (h : N ≤ M) : ∀ {k : Nat} {b : Bod}, UnkLe N k b → UnkLe M k b
  | 0, b, hb => Nat.le_trans hb h
  | k + 1, b, hb => ⟨Nat.le_trans hb.1 h, fun v hv s hs => UnkLe.mono h (hb.2 v hv s hs)⟩
/-! Lists that rise. -/
theorem findV_mem {l : List Val} {n : Int} {v : Val} (h : findV l n = some v) : v ∈ l ∧ v.1 = n := ⟨List.mem_of_find?_eq_some h, by have := List.find?_some h; simpa using this⟩
theorem rising_find {l : List Val} (h : RisingV l) {v : Val} (hv : v ∈ l) : findV l v.1 = some v := by
  induction l with
  | nil => cases hv
  | cons a l ih =>
    rcases List.mem_cons.1 hv with rfl | hv'
    · unfold findV; rw [List.find?_cons_of_pos (by simp)]
    · have h1 := List.rel_of_pairwise_cons h hv'
      unfold findV
      rw [List.find?_cons_of_neg (by simp; omega)]
      exact ih (List.Pairwise.of_cons h) hv'
/-- Where a number goes. -/
theorem low_split {l : List Val} (h : RisingV l) (n : Int) : l.take (l.takeWhile fun x => decide (x.1 < n)).length = l.filter (fun x => decide (x.1 < n)) ∧ l.drop (l.takeWhile fun x => decide (x.1 < n)).length = l.filter (fun x => !decide (x.1 < n)) := by
  induction l with
  | nil => exact ⟨rfl, rfl⟩
  | cons a l ih =>
    obtain ⟨h1, h2⟩ := ih (List.Pairwise.of_cons h)
    by_cases ha : a.1 < n
    · rw [List.takeWhile_cons, if_pos (by simpa using ha), List.filter_cons, List.filter_cons, if_pos (by simpa using ha), if_neg (by simpa using ha), List.length_cons, List.take_succ_cons, List.drop_succ_cons, h1, h2]
      exact ⟨rfl, rfl⟩
    · have hall : ∀ x ∈ l, ¬ x.1 < n := fun x hx => by have := List.rel_of_pairwise_cons h hx; omega
      have e1 : l.filter (fun x => decide (x.1 < n)) = [] := List.filter_eq_nil_iff.2 (fun x hx => by simpa using hall x hx)
      have e2 : l.filter (fun x => !decide (x.1 < n)) = l := List.filter_eq_self.2 (fun x hx => by simpa using hall x hx)
      rw [List.takeWhile_cons, if_neg (by simpa using ha), List.filter_cons, List.filter_cons, if_neg (by simpa using ha), if_pos (by simpa using ha), e1, e2]
      exact ⟨rfl, rfl⟩
theorem insG_eq {l : List Val} (h : RisingV l) (v : Val) : insG (fun y : Val => y.1) l v = l.filter (fun x => decide (x.1 < v.1)) ++ v :: l.filter (fun x => !decide (x.1 < v.1)) := by
  unfold insG
  rw [(low_split h v.1).1, (low_split h v.1).2]
theorem rising_ins {l : List Val} (h : RisingV l) {v : Val} (hn : ∀ x ∈ l, x.1 ≠ v.1) : RisingV (insG (fun y : Val => y.1) l v) := by
  rw [insG_eq h]
  refine List.pairwise_append.2 ⟨h.sublist List.filter_sublist, List.pairwise_cons.2 ⟨fun x hx => ?_, h.sublist List.filter_sublist⟩, fun x hx y hy => ?_⟩
  · have h1 := (List.mem_filter.1 hx)
    have := hn x h1.1
    have h2 : ¬ x.1 < v.1 := by simpa using h1.2
    omega
  · have h1 : x.1 < v.1 := by simpa using (List.mem_filter.1 hx).2
    rcases List.mem_cons.1 hy with rfl | hy
    · exact h1
    · have h2 : ¬ y.1 < v.1 := by simpa using (List.mem_filter.1 hy).2
      omega
theorem keepN_ne {fs : List Fld} {x : Fld} {n y : Int} (h : keepN fs x n y = true) : y ≠ n := by
  unfold keepN at h
  rw [Bool.and_eq_true] at h
  simpa using h.1
theorem rising_set {fs : List Fld} {l : List Val} (h : RisingV l) (v : Val) : RisingV (setV fs l v) := by
  unfold setV setG
  split
  · exact h
  · split
    · exact h.sublist List.filter_sublist
    · exact rising_ins (h.sublist List.filter_sublist) (fun x hx => keepN_ne (List.mem_filter.1 hx).2)
theorem set_len (fs : List Fld) (l : List Val) (v : Val) : (setV fs l v).length ≤ l.length + 1 := by
  unfold setV setG
  split
  · omega
  · rename_i x _
    have h := filter_len (fun y : Val => keepN fs x v.1 y.1) l
    split
    · simp only at h ⊢; omega
    · unfold insG
      simp only [List.length_append, List.length_cons, List.length_take, List.length_drop] at h ⊢
      omega
theorem set_mem {fs : List Fld} {l : List Val} {v y : Val} (h : y ∈ setV fs l v) : y ∈ l ∨ y = v := setG_mem _ _ _ _ _ y h
theorem set_mem_iff {fs : List Fld} {l : List Val} (h : RisingV l) {v : Val} {x : Fld} (hx : fldN fs v.1 = some x) (y : Val) : y ∈ setV fs l v ↔ (y ∈ l ∧ keepN fs x v.1 y.1 = true) ∨ (plainN x v = false ∧ y = v) := by
  unfold setV setG
  simp only [hx]
  by_cases hp : plainN x v = true
  · rw [if_pos hp, List.mem_filter, hp]
    simp
  · rw [if_neg hp, insG_eq (h.sublist List.filter_sublist)]
    have hp' : plainN x v = false := by simpa using hp
    rw [hp']
    simp only [List.mem_append, List.mem_cons, List.mem_filter]
    constructor
    · rintro (h | h | h)
      · exact .inl h.1
      · exact .inr ⟨trivial, h⟩
      · exact .inl h.1
    · rintro (h | h)
      · by_cases hlt : y.1 < v.1
        · exact .inl ⟨h, by simpa using hlt⟩
        · exact .inr (.inr ⟨h, by simpa using hlt⟩)
      · exact .inr (.inl h.2)
theorem find_iff {l : List Val} (h : RisingV l) (n : Int) (u : Val) : findV l n = some u ↔ u ∈ l ∧ u.1 = n :=
  ⟨findV_mem, fun ⟨h1, h2⟩ => by rw [← h2]; exact rising_find h h1⟩
/-- What is there of a number behind a Set. -/
theorem find_set {fs : List Fld} {l : List Val} (h : RisingV l) {v : Val} {x : Fld} (hx : fldN fs v.1 = some x) (n : Int) :
    findV (setV fs l v) n = if n = v.1 then (if plainN x v = true then none else some v) else if keepN fs x v.1 n = true then findV l n else none := by
  have hr := rising_set (fs := fs) h v
  apply Option.ext
  intro u
  rw [find_iff hr, set_mem_iff h hx]
  by_cases hn : n = v.1
  · subst hn
    rw [if_pos rfl]
    constructor
    · rintro ⟨h1 | h1, h2⟩
      · exact absurd h2 (keepN_ne h1.2)
      · rw [if_neg (by rw [h1.1]; decide), h1.2]
    · intro h1
      split at h1
      · cases h1
      · rename_i hp
        obtain rfl := Option.some.inj h1
        exact ⟨.inr ⟨by simpa using hp, rfl⟩, rfl⟩
  · rw [if_neg hn]
    constructor
    · rintro ⟨h1 | h1, h2⟩
      · rw [h2] at h1
        rw [if_pos h1.2]
        exact (find_iff h n u).2 ⟨h1.1, h2⟩
      · rw [h1.2] at h2; exact absurd h2.symm hn
    · intro h1
      split at h1
      · rename_i hk
        obtain ⟨h2, h3⟩ := (find_iff h n u).1 h1
        exact ⟨.inl ⟨h2, by rw [h3]; exact hk⟩, h3⟩
      · cases h1
/-! What a right body is. -/
theorem valsN_zero {wv : Fld → Val → Int} {fs : List Fld} : ∀ {l : List Val} {prev : Option Int} {had : List Int}, valsN wv fs prev had l = 0 →
    (∀ v ∈ l, ∃ x, fldN fs v.1 = some x ∧ wv x v = 0 ∧ (0 < x.choice → x.choice ∉ had)) ∧ RisingV l ∧ (∀ p, prev = some p → ∀ v ∈ l, p < v.1) ∧
      l.Pairwise (fun a b => ∀ x y, fldN fs a.1 = some x → fldN fs b.1 = some y → 0 < x.choice → x.choice ≠ y.choice)
  | [], _, _, _ => ⟨fun v h => (by cases h), List.Pairwise.nil, fun _ _ v h => (by cases h), List.Pairwise.nil⟩
  | v :: l, prev, had, h => by
    rw [valsN] at h
    cases hx : fldN fs v.1 with
    | none => rw [hx] at h; cases h
    | some x =>
      rw [hx] at h
      simp only at h
      split at h
      · cases h
      rename_i hb
      split at h
      · contradiction
      rename_i hw
      split at h
      · cases h
      rename_i hc
      obtain ⟨h1, h2, h3, h4⟩ := valsN_zero h
      refine ⟨fun u hu => ?_, List.pairwise_cons.2 ⟨fun u hu => h3 _ rfl u hu, h2⟩, fun p hp u hu => ?_, List.pairwise_cons.2 ⟨fun u hu x' y hx' hy hpos => ?_, h4⟩⟩
      · rcases List.mem_cons.1 hu with rfl | hu
        · exact ⟨x, hx, by simpa using hw, fun g1 g2 => hc ⟨g1, g2⟩⟩
        · obtain ⟨y, e1, e2, e3⟩ := h1 u hu
          refine ⟨y, e1, e2, fun g1 g2 => e3 g1 ?_⟩
          split
          · exact List.mem_cons_of_mem _ g2
          · exact g2
      · have hpv : p < v.1 := by
          subst hp
          have : ¬ v.1 ≤ p := by simpa [badPrev] using hb
          omega
        rcases List.mem_cons.1 hu with rfl | hu
        · exact hpv
        · have := h3 _ rfl u hu; omega
      · rw [hx] at hx'
        obtain rfl := Option.some.inj hx'
        obtain ⟨y', e1, e2, e3⟩ := h1 u hu
        rw [hy] at e1
        obtain rfl := Option.some.inj e1
        intro e
        refine e3 (by omega) ?_
        rw [if_pos hpos, ← e]
        exact List.mem_cons_self
/-- What is known of a value with which nothing is wrong. -/
theorem wrongVF_zero {wb : Int → Bod → Int} {f : Fil} {x : Fld} {v : Val} (h : wrongVF wb f x v = 0) :
    (countN x.kind v).2 = true ∧ 1 ≤ (countN x.kind v).1 ∧ (countN x.kind v).1 ≤ 60 ∧ (x.many = false → (countN x.kind v).1 = 1) ∧ plainN x v = false ∧ (∀ n ∈ v.2.1, fitsN x.kind n = 0) ∧ (∀ b ∈ v.2.2.1, byteN x.kind b = 0) ∧ ∀ s ∈ v.2.2.2, wb (msgI f x.type) s = 0 := by
  unfold wrongVF at h
  split at h
  · cases h
  rename_i h1
  split at h
  · cases h
  rename_i h2
  split at h
  · cases h
  rename_i h3
  split at h
  · contradiction
  rename_i h4
  split at h
  · contradiction
  rename_i h5
  refine ⟨by simpa using h1, by omega, by omega, fun hm => ?_, by simpa using h3, fun n hn => ?_, fun b hb => ?_, fun s hs => ?_⟩
  · by_cases g : 1 < (countN x.kind v).1
    · exact absurd (.inr (.inr ⟨hm, g⟩)) h2
    · omega
  · obtain ⟨i, hi, rfl⟩ := List.getElem_of_mem hn
    have := firstN_zero _ (by simpa using h4) i (by simpa using hi)
    simpa using this
  · obtain ⟨i, hi, rfl⟩ := List.getElem_of_mem hb
    have := firstN_zero _ (by simpa using h5) i (by simpa using hi)
    simpa using this
  · obtain ⟨i, hi, rfl⟩ := List.getElem_of_mem hs
    have := firstN_zero _ h i (by simpa using hi)
    simpa using this
theorem count_sum {kind : Int} {v : Val} (h : (countN kind v).2 = true) : v.2.1.length ≤ (countN kind v).1 ∧ v.2.2.1.length ≤ (countN kind v).1 ∧ v.2.2.2.length ≤ (countN kind v).1 := by
  unfold countN at h ⊢
  split at h
  · rename_i g; rw [if_pos g]; simp only [beq_iff_eq] at h; simp only; omega
  · rename_i g; rw [if_neg g]
    split at h
    · rename_i g2; rw [if_pos g2]; simp only [beq_iff_eq] at h; simp only; omega
    · rename_i g2; rw [if_neg g2]; simp only [beq_iff_eq] at h; simp only; omega
theorem count_subs {kind : Int} {v : Val} (h : kind = 10) : (countN kind v).1 = v.2.2.2.length := by
  subst h; rfl
theorem wrongBF_zero {wv : Fld → Val → Int} {m : Msg} {b : Bod} (h : wrongBF wv m b = 0) : valsN wv m.fields none [] b.values = 0 ∧ ∀ r ∈ b.unknown, unkN m.fields r = 0 := by
  unfold wrongBF at h
  split at h
  · contradiction
  rename_i h1
  refine ⟨by simpa using h1, fun r hr => ?_⟩
  obtain ⟨i, hi, rfl⟩ := List.getElem_of_mem hr
  have := firstN_zero _ h i (by simpa using hi)
  simpa using this
theorem wrongB_zero {f : Fil} {k : Nat} {msg : Int} {b : Bod} (h : wrongB f k msg b = 0) : ∃ k' m, k = k' + 1 ∧ f.msgs[msg.toNat]? = some m ∧ wrongBF (wrongVF (wrongB f k') f) m b = 0 := by
  cases k with
  | zero => cases h
  | succ k =>
    rw [wrongB] at h
    cases hm : f.msgs[msg.toNat]? with
    | none => rw [hm] at h; cases h
    | some m => rw [hm] at h; exact ⟨k, m, rfl, rfl, h⟩
end Go.Proofs.YtplgegffapikoaaDoor
