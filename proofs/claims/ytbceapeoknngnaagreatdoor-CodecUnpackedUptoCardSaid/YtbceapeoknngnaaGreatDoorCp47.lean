/-
  Many numbers one by one: all of a body, in plain Lean.
-/
import Derived.Test.YtbceapeoknngnaaGreatDoorCp46
set_option linter.unusedVariables false
namespace Go.Proofs.YtbceapeoknngnaaGreatDoor
open Go.RowKit
def unpsRecs (sub : Fld → Bod → List UInt8) (fs : List Fld) (l : List Val) : List Rec :=
  l.flatMap fun v => match fldN fs v.1 with | none => [] | some x => unpRecs (sub x) x v
theorem readL_unps {wb : Int → Bod → Int} {jb : Int → Bod → Bod → Bod} {jn : Int → Bod → Bod → Bod × Int} {f : Fil} {fs : List Fld} (hch : ∀ z ∈ fs, 0 ≤ z.choice) (hty : ∀ z ∈ fs, typedN f z = 0) (hself : ∀ z ∈ fs, fldN fs z.number = some z) (hjn : JnOk wb jb jn) (rd : Fld → List UInt8 → Bod × Int) (sub : Fld → Bod → List UInt8) (rest : List Rec) :
    ∀ (l : List Val) (a : Bod), AllV wb f fs a.values → AllV wb f fs l → (∀ v ∈ l, Num64 v) → (∀ v ∈ l, ∀ x, fldN fs v.1 = some x → ∀ s ∈ v.2.2.2, rd x (sub x s) = (s, 0)) →
    readL (fun x r => valueC (rd x) x r) (addC jn f fs) fs (unpsRecs sub fs l ++ rest) a = (let p := joinL (addC jn f fs) fs l a
      if p.2 ≠ 0 then (bod0, p.2) else readL (fun x r => valueC (rd x) x r) (addC jn f fs) fs rest p.1)
  | [], a, _, _, _, _ => by rw [joinL]; rfl
  | v :: l, a, ha, hl, h64, hs => by
    obtain ⟨x, hx, hw⟩ := hl.fld v List.mem_cons_self
    obtain ⟨hxm, hxn⟩ := fldN_mem hx
    have e : unpsRecs sub fs (v :: l) ++ rest = unpRecs (sub x) x v ++ (unpsRecs sub fs l ++ rest) := by
      unfold unpsRecs
      rw [List.flatMap_cons, hx, List.append_assoc]
    rw [e, readL_unp hch hjn rd (sub x) (hself x hxm) (hty x hxm) hw hxn.symm (h64 v List.mem_cons_self) (hs v List.mem_cons_self x hx) _ a ha]
    unfold stepL
    rw [joinL, hx]
    simp only
    rcases add_ok hjn ha hx (wrongVF_iff.1 hw).1 with ⟨g1, g2, g3⟩ | ⟨g1, g2⟩
    · rw [g3]
      simp only [ne_eq, not_true_eq_false, if_false]
      exact readL_unps hch hty hself hjn rd sub rest l (.mk _ _) (set_right hch ha (by rw [bothV_num]; exact hx) g1 g2) hl.tail (fun u hu => h64 u (List.mem_cons_of_mem _ hu)) (fun u hu => hs u (List.mem_cons_of_mem _ hu))
    · rw [g2]
      rfl
theorem bytesF_right : ∀ (l : List Rec) (k : Nat) (acc : List UInt8), acc.length ≤ 4000 → (∀ r ∈ l, wrongRec r = 0) → ((bytesF k acc l).2.1 = 0 ∧ (bytesF k acc l).1 = acc ++ l.flatMap oneB ∧ (acc ++ l.flatMap oneB).length ≤ 4000) ∨ (bytesF k acc l).2.1 = 4
  | [], k, acc, ha, _ => .inl ⟨rfl, by simp [bytesF], by simpa using ha⟩
  | r :: l, k, acc, ha, h => by
    rw [bytesF, if_neg (by simpa using h r List.mem_cons_self)]
    by_cases h4 : 4000 < (acc ++ oneB r).length
    · rw [if_pos h4]; exact .inr rfl
    · rw [if_neg h4]
      have := bytesF_right l (k + 1) (acc ++ oneB r) (by omega) (fun q hq => h q (List.mem_cons_of_mem _ hq))
      rw [List.flatMap_cons, ← List.append_assoc]
      exact this
theorem one_value {f : Fil} {mi : Nat} (hmi : mi < f.msgs.length) {x : Bod} (h : wrongA f (mi : Int) x = 0) (h64 : B64 12 x) {v : Val} (hv : v ∈ x.values) :
    wrongA f (mi : Int) (.mk [v] []) = 0 ∧ B64 12 (.mk [v] []) ∧ ∃ z, fldN (f.msgs[mi]).fields v.1 = some z ∧ z.number = v.1 ∧ wrongVF (wrongB f 11) f z v = 0 ∧ typedN f z = 0 ∧ 1 ≤ z.number ∧ z.number < 536870912 := by
  obtain ⟨h1, h2, h3, h4⟩ := wrongA_four h
  have hm : f.msgs[(mi : Int).toNat]? = some f.msgs[mi] := by rw [Int.toNat_natCast, List.getElem?_eq_getElem hmi]
  have hmr := right_msg h1 f.msgs[mi] (List.getElem_mem hmi)
  have hch : ∀ z ∈ f.msgs[mi].fields, 0 ≤ z.choice := fun z hz => (choice_16 hmr hz).1
  obtain ⟨hall, hunk⟩ := (wrongB_is (k := 11) hm hch x).1 h4
  obtain ⟨z, hz, hw⟩ := hall.fld v hv
  obtain ⟨hzm, hzn⟩ := fldN_mem hz
  obtain ⟨i, hi, e⟩ := List.getElem_of_mem hzm
  have hff := field_facts ((msg_field hmr).2.2 i hi)
  rw [e] at hff
  refine ⟨?_, ⟨fun u hu => ?_, fun r hr => by cases hr⟩, z, hz, hzn, hw, hff.2.2.2.1, hff.1, hff.2.1⟩
  · unfold wrongA
    rw [if_neg (by rw [h1]; simp), if_neg (by omega)]
    refine (wrongB_is (k := 11) hm hch _).2 ⟨⟨List.pairwise_singleton _ _, fun u hu => ?_, fun u hu w hw' hne => ?_⟩, fun r hr => by cases hr⟩
    · obtain rfl : u = v := by simpa [Bod.values] using hu
      exact ⟨z, hz, hw⟩
    · obtain rfl : u = v := by simpa [Bod.values] using hu
      obtain rfl : w = u := by simpa [Bod.values] using hw'
      exact absurd rfl hne
  · obtain rfl : u = v := by simpa [Bod.values] using hu
    exact h64.1 u hv
abbrev subC (f : Fil) : Fld → Bod → List UInt8 := fun z s => rawB f 11 (msgI f z.type) s
theorem one_parse {f : Fil} {mi : Nat} (hmi : mi < f.msgs.length) {v : Val} (h : wrongA f (mi : Int) (.mk [v] []) = 0) (h64 : B64 12 (.mk [v] [])) {z : Fld} (hz : fldN (f.msgs[mi]).fields v.1 = some z) (h0 : (bytesC f (mi : Int) (.mk [v] [])).2 = 0) :
    parse (bytesC f (mi : Int) (.mk [v] [])).1 = (valRecs (subC f z) z v, 0, 0) ∧ ∀ r ∈ valRecs (subC f z) z v, wrongRec r = 0 ∧ r.bits < 2 ^ 64 := by
  obtain ⟨h1, h2, h3, h4⟩ := wrongA_four h
  obtain ⟨b1, b2, b3⟩ := bytesC_ok h0
  have hm : f.msgs[(mi : Int).toNat]? = some f.msgs[mi] := by rw [Int.toNat_natCast, List.getElem?_eq_getElem hmi]
  have hr := (recs_right (k := 11) h1 hm h4 h64 (Nat.le_refl _) b3).1
  have e : recsB f 12 (mi : Int) (.mk [v] []) = valRecs (subC f z) z v := by
    rw [recsB_succ hm]
    show valsRecs _ _ [v] ++ [] = _
    unfold valsRecs
    rw [List.flatMap_cons, hz]
    simp
  rw [e] at hr
  rw [b2]
  unfold rawB at b3 ⊢
  rw [e] at b3 ⊢
  exact ⟨parse_flat hr b3, hr⟩
theorem bytesC_04 {f : Fil} {msg : Int} {x : Bod} (h : wrongA f msg x = 0) : (bytesC f msg x).2 = 0 ∨ (bytesC f msg x).2 = 4 := by
  unfold bytesC
  rw [if_neg (by rw [h]; simp)]
  split
  · exact .inr rfl
  · exact .inl rfl
theorem many_how {wb : Int → Bod → Int} {f : Fil} {z : Fld} {v : Val} (hw : wrongVF wb f z v = 0) (ht : typedN f z = 0) (hm : z.many = true) : (v.2.1 = [] ↔ howC z.kind = 2) := by
  obtain ⟨t1, t2, _, _⟩ := typed_facts ht
  rcases fit_shape (wrongVF_iff.1 hw).1 t1 t2 with ⟨g, _, _, hne, _⟩ | ⟨g, _, e, _, _⟩ | ⟨g, _, e, _, _⟩
  · exact ⟨fun h => absurd h hne, fun h => absurd h g⟩
  · exact ⟨fun _ => g, fun _ => by rw [e]⟩
  · exact ⟨fun _ => g, fun _ => by rw [e]⟩
theorem unp_one {wb : Int → Bod → Int} {f : Fil} {z : Fld} {v : Val} {sub : Bod → List UInt8} (hw : wrongVF wb f z v = 0) (ht : typedN f z = 0) (h : z.many = false ∨ v.2.1 = []) : unpRecs sub z v = valRecs sub z v := by
  unfold unpRecs
  rw [if_neg]
  rintro ⟨hm, hk⟩
  rcases h with h | h
  · rw [hm] at h; cases h
  · exact hk ((many_how hw ht hm).1 h)
theorem unp_many {wb : Int → Bod → Int} {f : Fil} {z : Fld} {v : Val} {sub : Bod → List UInt8} (hw : wrongVF wb f z v = 0) (ht : typedN f z = 0) (hm : z.many = true) (hb : v.2.1 ≠ []) (n1 : 1 ≤ z.number) (n2 : z.number < 536870912) (h64 : Num64 v) :
    unpRecs sub z v = v.2.1.map (fun n => ⟨z.number, howC z.kind, toldC z.kind n, []⟩) ∧ ∀ r ∈ unpRecs sub z v, wrongRec r = 0 ∧ r.bits < 2 ^ 64 := by
  have hk : howC z.kind ≠ 2 := fun e => hb ((many_how hw ht hm).2 e)
  have e : unpRecs sub z v = v.2.1.map (fun n => ⟨z.number, howC z.kind, toldC z.kind n, []⟩) := by unfold unpRecs; rw [if_pos ⟨hm, hk⟩]
  refine ⟨e, fun r hr => ?_⟩
  rw [e] at hr
  obtain ⟨q, hq, rfl⟩ := List.mem_map.1 hr
  refine ⟨told_right z.number n1 n2 hk (fun h7 => ?_), by have := told_64 (k := z.kind) (h64 q hq); simpa using this⟩
  have := (wrongVF_iff.1 hw).1.nums q hq
  rw [h7] at this
  have e3 : fitsN 7 q = if 4294967295 < q then 3 else 0 := rfl
  rw [e3] at this
  split at this
  · cases this
  · omega
theorem unps_take (sub : Fld → Bod → List UInt8) (fs : List Fld) (l : List Val) {k : Nat} (hk : k < l.length) {z : Fld} (hz : fldN fs (l[k]).1 = some z) : unpsRecs sub fs (l.take (k + 1)) = unpsRecs sub fs (l.take k) ++ unpRecs (sub z) z l[k] := by
  rw [List.take_succ_eq_append_getElem hk]
  unfold unpsRecs
  rw [List.flatMap_append, List.flatMap_cons, List.flatMap_nil, List.append_nil, hz]
theorem parse_unps {f : Fil} {mi : Nat} (hmi : mi < f.msgs.length) {x : Bod} (h : wrongA f (mi : Int) x = 0) (h64 : B64 12 x) (hr : ∀ r ∈ unpsRecs (subC f) (f.msgs[mi]).fields x.values, wrongRec r = 0 ∧ r.bits < 2 ^ 64) :
    ((bytesP (unpsRecs (subC f) (f.msgs[mi]).fields x.values ++ x.unknown)).2.1 = 0 ∧ parseA f (mi : Int) (bytesP (unpsRecs (subC f) (f.msgs[mi]).fields x.values ++ x.unknown)).1 = (x, 0) ∧ (bytesP (unpsRecs (subC f) (f.msgs[mi]).fields x.values ++ x.unknown)).1.length ≤ 4000) ∨ (bytesP (unpsRecs (subC f) (f.msgs[mi]).fields x.values ++ x.unknown)).2.1 = 4 := by
  obtain ⟨h1, h2, h3, h4⟩ := wrongA_four h
  have hm : f.msgs[(mi : Int).toNat]? = some f.msgs[mi] := by rw [Int.toNat_natCast, List.getElem?_eq_getElem hmi]
  have hmr := right_msg h1 f.msgs[mi] (List.getElem_mem hmi)
  have hch : ∀ z ∈ f.msgs[mi].fields, 0 ≤ z.choice := fun z hz => (choice_16 hmr hz).1
  obtain ⟨hB, uB⟩ := (wrongB_is (k := 11) hm hch x).1 h4
  have hun : ∀ r ∈ x.unknown, wrongRec r = 0 ∧ r.bits < 2 ^ 64 := fun r hr => by
    refine ⟨?_, by have := h64.2 r hr; simpa using this⟩
    have hu := uB r hr
    unfold unkN at hu
    apply Classical.byContradiction
    intro g
    rw [if_pos g] at hu
    exact g hu
  have hall : ∀ r ∈ unpsRecs (subC f) (f.msgs[mi]).fields x.values ++ x.unknown, wrongRec r = 0 ∧ r.bits < 2 ^ 64 := fun r hq => by
    rcases List.mem_append.1 hq with g | g
    · exact hr r g
    · exact hun r g
  rcases bytesF_right _ 0 [] (by simp) (fun r hq => (hall r hq).1) with ⟨g1, g2, g3⟩ | g
  · refine .inl ⟨g1, ?_, by rw [g2]; exact g3⟩
    rw [g2]
    rw [List.nil_append] at g3 ⊢
    have hp := parse_flat hall g3
    have hsz : ∀ v ∈ x.values, ∀ z, fldN f.msgs[mi].fields v.1 = some z → ∀ s ∈ v.2.2.2, (subC f z s).length ≤ 4000 := by
      intro v hv z hz s hs
      obtain ⟨_, _, z', hz', hzn, hw, ht, n1, n2⟩ := one_value hmi h h64 hv
      rw [hz] at hz'
      obtain rfl := Option.some.inj hz'
      have hun1 : unpRecs (subC f z) z v = valRecs (subC f z) z v := by
        by_cases hmz : z.many = true
        · refine unp_one hw ht (.inr ?_)
          apply Classical.byContradiction
          intro hb
          have hk : howC z.kind ≠ 2 := fun e => hb ((many_how hw ht hmz).2 e)
          obtain ⟨t1, t2, _, _⟩ := typed_facts ht
          rcases fit_shape (wrongVF_iff.1 hw).1 t1 t2 with ⟨_, _, e, _, _⟩ | ⟨g, _⟩ | ⟨g, _⟩
          · rw [e] at hs; cases hs
          · exact hk g
          · exact hk g
        · exact unp_one hw ht (.inl (by simpa using hmz))
      refine (valRecs_right n1 n2 ht (wrongVF_iff.1 hw).1 (h64.1 v hv).1 (M := 4000) (Nat.le_trans ?_ g3) (Nat.le_refl _)).2 s hs
      rw [List.flatMap_append, List.length_append, ← hun1]
      refine Nat.le_trans ?_ (Nat.le_add_right _ _)
      unfold unpsRecs
      obtain ⟨p, q, e⟩ := List.append_of_mem hv
      rw [e, List.flatMap_append, List.flatMap_cons, hz]
      simp only [List.flatMap_append, List.length_append]
      omega
    have hrd : ∀ v ∈ x.values, ∀ z, fldN f.msgs[mi].fields v.1 = some z → ∀ s ∈ v.2.2.2, readC f 11 (msgI f z.type) (rawB f 11 (msgI f z.type) s) = (s, 0) := by
      intro v hv z hz s hs
      obtain ⟨y, hy, hw⟩ := hB.fld v hv
      rw [hz] at hy
      obtain rfl := Option.some.inj hy
      have ht := field_typed hmr z (fldN_mem hz).1
      obtain ⟨g1, g2⟩ := (right_val hw ht).2 s hs
      have hmb := msgI_bd f z.type
      exact read_raw h1 11 (by omega) _ s g1 (by omega) g2 ((h64.1 v hv).2 s hs) (hsz v hv z hz s hs)
    have h00 : wrongB f 12 (mi : Int) bod0 = 0 := nil_right hm
    have hnj := nil_join h1 h4
    unfold parseA
    rw [if_neg (by rw [h1]; simp), if_neg (by omega), readC, hp, if_neg (by simp), hm]
    simp only
    have hbb := readL_body h1 (k := 11) (j := 12) (by omega) hm h00 h4 h64 (fun z bs => readC f 11 (msgI f z.type) bs) hrd
    have hjn := joinK_ok h1 11 12 (by omega)
    rw [recsB_succ hm, readL_vals hch (field_typed hmr) (fun z hz => fld_self hmr hz) hjn _ _ x.unknown x.values bod0 AllV.nil hB (fun v hv => (h64.1 v hv).1) hrd] at hbb
    rw [readL_unps hch (field_typed hmr) (fun z hz => fld_self hmr hz) hjn _ (subC f) x.unknown x.values bod0 AllV.nil hB (fun v hv => (h64.1 v hv).1) hrd]
    rcases hbb with ⟨k1, k2⟩ | ⟨k1, k2⟩
    · rw [hnj] at k2; exact k2
    · rw [hnj, h4] at k1; cases k1
  · exact .inr g
end Go.Proofs.YtbceapeoknngnaaGreatDoor
