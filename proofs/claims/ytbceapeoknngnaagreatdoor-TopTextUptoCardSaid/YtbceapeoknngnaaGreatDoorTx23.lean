/-
  A body comes back from its bytes; bytes behind bytes are bodies put together; in plain Lean.
  How many that nobody knows there are in what is read, in plain Lean.
-/
import Derived.Test.YtbceapeoknngnaaGreatDoorTx22
set_option linter.unusedVariables false
namespace Go.Proofs.YtbceapeoknngnaaGreatDoor
open Go.RowKit
def B64 : Nat → Bod → Prop
 | 0, _ => True
 | k + 1, b => (∀ v ∈ b.values, Num64 v ∧ ∀ s ∈ v.2.2.2, B64 k s) ∧ ∀ r ∈ b.unknown, r.bits < 18446744073709551616
theorem flat_mem {α : Type} (g : α → List UInt8) {l : List α} {a : α} (h : a ∈ l) : (g a).length ≤ (l.flatMap g).length := by
 obtain ⟨p, q, rfl⟩ := List.append_of_mem h; rw [List.flatMap_append, List.flatMap_cons, List.length_append, List.length_append]; omega
theorem oneB_sized (num : Int) (t : List UInt8) : t.length ≤ (oneB ⟨num, 2, 0, t⟩).length := recS_len num t
theorem valRecs_right {wb : Int → Bod → Int} {f : Fil} {x : Fld} {v : Val} {sub : Bod → List UInt8} {M : Nat} (n1 : 1 ≤ x.number) (n2 : x.number < 536870912) (ht : typedN f x = 0) (hv : FitV wb f x v) (h64 : Num64 v) (hM : ((valRecs sub x v).flatMap oneB).length ≤ M) (h4 : M ≤ 4000) :
   (∀ r ∈ valRecs sub x v, wrongRec r = 0 ∧ r.bits < 2 ^ 64) ∧ ∀ s ∈ v.2.2.2, (sub s).length ≤ M := by
 obtain ⟨t1, t2, _, _⟩ := typed_facts ht; have hsh := fit_shape hv t1 t2
 have hsz : ∀ t : List UInt8, t.length ≤ 4000 → wrongRec ⟨x.number, 2, 0, t⟩ = 0 ∧ (0 : Nat) < 2 ^ 64 := fun t h => ⟨by
   unfold wrongRec; rw [if_pos (.inr (.inr (.inr rfl))), if_neg (by rintro ⟨_, g⟩; simp only at g; omega), if_neg (by rintro (g | g | ⟨g, _⟩); simp only at g; omega; simp only at g; omega; cases g), if_neg (by rintro (⟨_, g⟩ | ⟨g, _⟩); exact g rfl; exact g rfl)], by decide⟩
 have hmem : ∀ r ∈ valRecs sub x v, (oneB r).length ≤ M := fun r hr => Nat.le_trans (flat_mem oneB hr) hM; have f4 := hv.nums; obtain ⟨n, b, y, s⟩ := v; simp only at h64 hsh f4; rcases hsh with ⟨g, g7, e, hne, hone⟩ | ⟨g, g8, e, hne, hone⟩ | ⟨g, g8, e, hne, hone⟩
 · simp only [Prod.mk.injEq, true_and] at e; obtain ⟨rfl, rfl⟩ := e; refine ⟨?_, fun s hs => by cases hs⟩
   cases hm : x.many with
   | true =>
     (have e2 : valRecs sub x (n, b, [], []) = [⟨x.number, 2, 0, packC x.kind b⟩] := by unfold valRecs; rw [if_pos ⟨hm, g⟩]); rw [e2] at hmem ⊢; intro r hr; (obtain rfl : r = ⟨x.number, 2, 0, packC x.kind b⟩ := by simpa using hr); exact hsz _ (Nat.le_trans (oneB_sized _ _) (Nat.le_trans (hmem _ hr) h4))
   | false =>
     obtain ⟨q, rfl⟩ := hone hm; (have e2 : valRecs sub x (n, [q], [], []) = [⟨x.number, howC x.kind, toldC x.kind q, []⟩] := by unfold valRecs; rw [if_neg (by rw [hm]; simp)]; rfl); rw [e2]; intro r hr; (obtain rfl : r = ⟨x.number, howC x.kind, toldC x.kind q, []⟩ := by simpa using hr); refine ⟨told_right x.number n1 n2 g (fun h7 => ?_), by have := told_64 (k := x.kind) (h64 q (by simp)); simpa using this⟩; have := f4 q (by simp); rw [h7] at this; have e3 : fitsN 7 q = if 4294967295 < q then 3 else 0 := rfl; rw [e3] at this; split at this
     · cases this
     · omega
 · simp only [Prod.mk.injEq, true_and] at e; obtain ⟨rfl, rfl⟩ := e; (have e2 : valRecs sub x (n, [], y, []) = y.map fun t => ⟨x.number, 2, 0, t⟩ := by unfold valRecs; rw [if_neg (by rintro ⟨_, h⟩; exact h g)]; simp); rw [e2] at hmem ⊢; refine ⟨fun r hr => ?_, fun s hs => by cases hs⟩; obtain ⟨t, ht, rfl⟩ := List.mem_map.1 hr; exact hsz _ (Nat.le_trans (oneB_sized _ _) (Nat.le_trans (hmem _ hr) h4))
 · simp only [Prod.mk.injEq, true_and] at e; obtain ⟨rfl, rfl, _⟩ := e; (have e2 : valRecs sub x (n, [], [], s) = s.map fun t => ⟨x.number, 2, 0, sub t⟩ := by unfold valRecs; rw [if_neg (by rintro ⟨_, h⟩; exact h g)]; simp); rw [e2] at hmem ⊢; refine ⟨fun r hr => ?_, fun q hq => ?_⟩
   · obtain ⟨t, ht, rfl⟩ := List.mem_map.1 hr; exact hsz _ (Nat.le_trans (oneB_sized _ _) (Nat.le_trans (hmem _ hr) h4))
   · exact Nat.le_trans (oneB_sized x.number _) (hmem ⟨x.number, 2, 0, sub q⟩ (List.mem_map_of_mem hq))
theorem recsB_succ {f : Fil} {k : Nat} {msg : Int} {b : Bod} {m : Msg} (h : f.msgs[msg.toNat]? = some m) : recsB f (k + 1) msg b = valsRecs (fun x s => rawB f k (msgI f x.type) s) m.fields b.values ++ b.unknown := by
 rw [recsB, h]; rfl
theorem recs_right {f : Fil} (hright : (wrongN f).1 = 0) {k : Nat} {msg : Int} {b : Bod} {m : Msg} (hm : f.msgs[msg.toNat]? = some m) (hb : wrongB f (k + 1) msg b = 0) (h64 : B64 (k + 1) b) {M : Nat} (hM : (rawB f (k + 1) msg b).length ≤ M) (h4 : M ≤ 4000) :
   (∀ r ∈ recsB f (k + 1) msg b, wrongRec r = 0 ∧ r.bits < 2 ^ 64) ∧ (∀ v ∈ b.values, ∀ x, fldN m.fields v.1 = some x → ∀ s ∈ v.2.2.2, (rawB f k (msgI f x.type) s).length ≤ M) := by
 have hmr := right_msg hright m (List.mem_of_getElem? hm); have hch : ∀ z ∈ m.fields, 0 ≤ z.choice := fun z hz => (choice_16 hmr hz).1; obtain ⟨hall, hunk⟩ := (wrongB_is hm hch b).1 hb; have hflat := raw_succ (k := k) (b := b) hm
 have hval : ∀ v ∈ b.values, ∀ x, fldN m.fields v.1 = some x → (∀ r ∈ valRecs (fun s => rawB f k (msgI f x.type) s) x v, wrongRec r = 0 ∧ r.bits < 2 ^ 64) ∧ ∀ s ∈ v.2.2.2, (rawB f k (msgI f x.type) s).length ≤ M := by
   intro v hv x hx; obtain ⟨y, hy, hw⟩ := hall.fld v hv; rw [hx] at hy; obtain rfl := Option.some.inj hy; obtain ⟨hxm, hxn⟩ := fldN_mem hx; obtain ⟨i, hi, e⟩ := List.getElem_of_mem hxm; have hff := field_facts ((msg_field hmr).2.2 i hi); rw [e] at hff; refine valRecs_right hff.1 hff.2.1 hff.2.2.2.1 (wrongVF_iff.1 hw).1 (h64.1 v hv).1 (M := M) ?_ h4; refine Nat.le_trans ?_ hM; rw [hflat, List.length_append]; refine Nat.le_trans ?_ (Nat.le_add_right _ _); unfold valsRecs; obtain ⟨p, q, e⟩ := List.append_of_mem hv; rw [e, List.flatMap_append, List.flatMap_cons, hx]; simp only [List.flatMap_append, List.length_append]; omega
 refine ⟨fun r hr => ?_, fun v hv x hx => (hval v hv x hx).2⟩; rw [recsB_succ hm] at hr; rcases List.mem_append.1 hr with h | h
 · unfold valsRecs at h; obtain ⟨v, hv, hr⟩ := List.mem_flatMap.1 h; obtain ⟨x, hx, _⟩ := hall.fld v hv; rw [hx] at hr; exact (hval v hv x hx).1 r hr
 · have hu := hunk r h; unfold unkN at hu; refine ⟨?_, by have := h64.2 r h; simpa using this⟩; apply Classical.byContradiction; intro g; rw [if_pos g] at hu; exact g hu
theorem unk_none {fs : List Fld} {r : Rec} (h : unkN fs r = 0) : fldN fs r.number = none := by
 unfold unkN at h; split at h
 · contradiction
 · split at h
   · cases h
   · rename_i g; simpa using g
theorem parse_flat {l : List Rec} (h : ∀ r ∈ l, wrongRec r = 0 ∧ r.bits < 2 ^ 64) (h4 : (l.flatMap oneB).length ≤ 4000) : parse (l.flatMap oneB) = (l, 0, 0) := by
 unfold parse; rw [if_neg (by omega)]; exact parseG_put l _ h (by omega)
theorem readL_body {f : Fil} (hright : (wrongN f).1 = 0) {k j : Nat} (hkj : k ≤ j) {msg : Int} {m : Msg} (hm : f.msgs[msg.toNat]? = some m) {a b : Bod} (ha : wrongB f (k + 1) msg a = 0) (hb : wrongB f (k + 1) msg b = 0) (h64 : B64 (k + 1) b)
   (rd : Fld → List UInt8 → Bod × Int) (hrd : ∀ v ∈ b.values, ∀ x, fldN m.fields v.1 = some x → ∀ s ∈ v.2.2.2, rd x (rawB f k (msgI f x.type) s) = (s, 0)) :
   (wrongB f (k + 1) msg (joinB f (k + 1) msg a b) = 0 ∧ readL (fun x r => valueC (rd x) x r) (addC (joinK f j) f m.fields) m.fields (recsB f (k + 1) msg b) a = (joinB f (k + 1) msg a b, 0)) ∨
   (wrongB f (k + 1) msg (joinB f (k + 1) msg a b) = 5 ∧ readL (fun x r => valueC (rd x) x r) (addC (joinK f j) f m.fields) m.fields (recsB f (k + 1) msg b) a = (bod0, 5)) := by
 have hmr := right_msg hright m (List.mem_of_getElem? hm); have hch : ∀ z ∈ m.fields, 0 ≤ z.choice := fun z hz => (choice_16 hmr hz).1; obtain ⟨hA, uA⟩ := (wrongB_is hm hch a).1 ha; obtain ⟨hB, uB⟩ := (wrongB_is hm hch b).1 hb; have hjn := joinK_ok hright k j hkj; rw [recsB_succ hm, readL_vals hch (field_typed hmr) (fun z hz => fld_self hmr hz) hjn rd _ _ b.values a hA hB (fun v hv => (h64.1 v hv).1) hrd]; (have hja : joinB f (k + 1) msg a b = .mk (b.values.foldl (joinV (joinB f k) f m.fields) a.values) (a.unknown ++ b.unknown) := by rw [joinB, hm]); have h05 := join_05 hright (k + 1) msg a b ha hb; have hiff := wrongB_is (k := k) hm hch (joinB f (k + 1) msg a b); rcases joinL_ok hch hjn b.values a hA hB with ⟨g1, g2⟩ | ⟨g1, g2⟩
 · rw [g2]; refine .inl ⟨hiff.2 ?_, ?_⟩
   · rw [hja]; exact ⟨g1, fun r hr => by rcases List.mem_append.1 hr with h | h; exact uA r h; exact uB r h⟩
   · simp only [ne_eq, not_true_eq_false, if_false]; rw [readL_unk _ _ (fun r hr => unk_none (uB r hr)), hja]; rfl
 · rw [g2]; refine .inr ⟨?_, rfl⟩; rcases h05 with h | h
   · have := (hiff.1 h).1; rw [hja] at this; exact absurd this g1
   · exact h
theorem read_raw {f : Fil} (hright : (wrongN f).1 = 0) : ∀ (k : Nat), k ≤ 12 → ∀ (msg : Int) (b : Bod), 0 ≤ msg → msg < f.msgs.length → wrongB f k msg b = 0 → B64 k b → (rawB f k msg b).length ≤ 4000 → readC f k msg (rawB f k msg b) = (b, 0)
 | 0, _, msg, b, _, _, h, _, _ => by cases h
 | k + 1, hk, msg, b, h0, h1, h, h64, h4 => by
   obtain ⟨mi, rfl⟩ : ∃ mi : Nat, msg = mi := ⟨msg.toNat, by omega⟩; (have hmi : mi < f.msgs.length := by omega); (have hm : f.msgs[(mi : Int).toNat]? = some f.msgs[mi] := by rw [Int.toNat_natCast, List.getElem?_eq_getElem hmi]); have hmr := right_msg hright f.msgs[mi] (List.getElem_mem hmi); have hch : ∀ z ∈ f.msgs[mi].fields, 0 ≤ z.choice := fun z hz => (choice_16 hmr hz).1; obtain ⟨r1, r2⟩ := recs_right hright hm h h64 (Nat.le_refl _) h4; have hp : parse (rawB f (k + 1) mi b) = (recsB f (k + 1) mi b, 0, 0) := parse_flat r1 h4; obtain ⟨hB, uB⟩ := (wrongB_is hm hch b).1 h
   have hrd : ∀ v ∈ b.values, ∀ x, fldN f.msgs[mi].fields v.1 = some x → ∀ s ∈ v.2.2.2, readC f k (msgI f x.type) (rawB f k (msgI f x.type) s) = (s, 0) := by
     intro v hv x hx s hs; obtain ⟨y, hy, hw⟩ := hB.fld v hv; rw [hx] at hy; obtain rfl := Option.some.inj hy; have ht := field_typed hmr x (fldN_mem hx).1; obtain ⟨g1, g2⟩ := (right_val hw ht).2 s hs; have hmb := msgI_bd f x.type; exact read_raw hright k (by omega) _ s g1 (by omega) g2 ((h64.1 v hv).2 s hs) (Nat.le_trans (r2 v hv x hx s hs) h4)
   have h00 : wrongB f (k + 1) mi bod0 = 0 := nil_right hm; have hnj := nil_join hright h; rw [readC, hp, if_neg (by simp), hm]; simp only; rcases readL_body hright (show k ≤ 12 by omega) hm h00 h h64 (fun x bs => readC f k (msgI f x.type) bs) hrd with ⟨g1, g2⟩ | ⟨g1, g2⟩
   · rw [hnj] at g2; exact g2
   · rw [hnj, h] at g1; cases g1
theorem unk_plus {f : Fil} (hright : (wrongN f).1 = 0) {A B : Nat} : ∀ (k : Nat) (msg : Int) (a b : Bod), wrongB f k msg a = 0 → wrongB f k msg b = 0 → UnkLe A k a → UnkLe B k b → UnkLe (A + B) k (joinB f k msg a b)
 | 0, _, _, _, h, _, _, _ => by cases h
 | k + 1, msg, a, b, ha, hb, na, nb => by
   obtain ⟨k', m, e, hm, ha'⟩ := wrongB_zero ha; (obtain rfl : k = k' := by omega); (have hb' : wrongBF (wrongVF (wrongB f k) f) m b = 0 := by rw [wrongB, hm] at hb; exact hb); have hmr := right_msg hright m (List.mem_of_getElem? hm); have hch : ∀ z ∈ m.fields, 0 ≤ z.choice := fun z hz => (choice_16 hmr hz).1; have oa := okV_right ha'; have ob := okV_right hb'; obtain ⟨ga1, _, _, _⟩ := valsN_zero (wrongBF_zero ha').1; obtain ⟨gb1, _, _, _⟩ := valsN_zero (wrongBF_zero hb').1; (have hla : A ≤ A + B := by omega); (have hlb : B ≤ A + B := by omega); rw [join_vals hm]; refine ⟨?_, fun v hv s hs => ?_⟩
   · show (a.unknown ++ b.unknown).length ≤ _; rw [List.length_append]; have := na.top; have := nb.top; omega
   · have hv' : v ∈ b.values.foldl (joinV (joinB f k) f m.fields) a.values := hv; have hf := rising_find (rising_join oa.ris) hv'; obtain ⟨i1, i2, i3⟩ := find_join (jb := joinB f k) (f := f) hch oa.ris ob v.1
     cases hbv : findV b.values v.1 with
     | some w =>
       obtain ⟨hwm, hwn⟩ := findV_mem hbv; obtain ⟨x, hx, hw, _⟩ := gb1 w hwm; rw [hwn] at hx; rw [i1 w x hbv hx] at hf; rw [← Option.some.inj hf] at hs
       cases hav : findV a.values v.1 with
       | none => rw [hav, both_none] at hs; exact (nb.2 w hwm s hs).mono hlb
       | some o =>
         rw [hav] at hs; obtain ⟨hom, hon⟩ := findV_mem hav; obtain ⟨y, hy, ho, _⟩ := ga1 o hom; rw [hon, hx] at hy; obtain rfl := Option.some.inj hy
         cases hmy : x.many with
         | true =>
           rw [both_many hmy] at hs; rcases List.mem_append.1 hs with h | h
           · exact (na.2 o hom s h).mono hla
           · exact (nb.2 w hwm s h).mono hlb
         | false =>
           by_cases hk : x.kind = 10
           · rw [both_sub hmy hk] at hs; obtain rfl : s = joinB f k (msgI f x.type) (o.2.2.2.headD bod0) (w.2.2.2.headD bod0) := by simpa using hs
             have hd : ∀ {z : Val}, wrongVF (wrongB f k) f x z = 0 → z.2.2.2.headD bod0 ∈ z.2.2.2 ∧ wrongB f k (msgI f x.type) (z.2.2.2.headD bod0) = 0 := fun {z} h => by
               obtain ⟨_, _, _, o4, _, _, _, o8⟩ := wrongVF_zero h; have h1 := one_of (by rw [← count_subs (v := z) hk]; exact o4 hmy); (have h2 : z.2.2.2.headD bod0 ∈ z.2.2.2 := by rw [h1]; simp); exact ⟨h2, o8 _ h2⟩
             exact unk_plus hright k _ _ _ (hd ho).2 (hd hw).2 (na.2 o hom _ (hd ho).1) (nb.2 w hwm _ (hd hw).1)
           · rw [both_last hmy hk] at hs; exact (nb.2 w hwm s hs).mono hlb
     | none =>
       by_cases hg : gone m.fields b.values v.1
       · rw [i2 hbv hg] at hf; cases hf
       · rw [i3 hbv hg] at hf; exact (na.2 v (findV_mem hf).1 s hs).mono hla
theorem unk_add {f : Fil} (hright : (wrongN f).1 = 0) {A B k : Nat} {fs : List Fld} {jn : Int → Bod → Bod → Bod × Int} (hjn : JnOk (wrongB f k) (joinB f k) jn) {b : Bod} (h : AllV (wrongB f k) f fs b.values) {x : Fld} {v : Val} (hx : fldN fs v.1 = some x) (hv : FitV (wrongB f k) f x v)
   (ub : ∀ o ∈ b.values, ∀ s ∈ o.2.2.2, UnkLe A k s) (uv : ∀ s ∈ v.2.2.2, UnkLe B k s) : ∀ o ∈ (addC jn f fs b x v).1.values, ∀ s ∈ o.2.2.2, UnkLe (A + B) k s := by
 (have hla : A ≤ A + B := by omega); (have hlb : B ≤ A + B := by omega); rcases add_ok hjn h hx hv with ⟨g1, g2, g3⟩ | ⟨g1, g2⟩
 · rw [g3]; intro o ho s hs; have ho : o ∈ setV fs b.values (bothV (joinB f k) f x (findV b.values v.1) v) := ho; rcases set_mem ho with ho | rfl
   · exact (ub o ho s hs).mono hla
   · cases hav : findV b.values v.1 with
     | none => rw [hav, both_none] at hs; exact (uv s hs).mono hlb
     | some o =>
       rw [hav] at hs; obtain ⟨hom, hon⟩ := findV_mem hav; obtain ⟨y, hy, ho⟩ := h.fld o hom; rw [hon, hx] at hy; obtain rfl := Option.some.inj hy; have hof := (wrongVF_iff.1 ho).1
       cases hmy : x.many with
       | true =>
         rw [both_many hmy] at hs; rcases List.mem_append.1 hs with h | h
         · exact (ub o hom s h).mono hla
         · exact (uv s h).mono hlb
       | false =>
         by_cases hk : x.kind = 10
         · rw [both_sub hmy hk] at hs; (obtain rfl : s = joinB f k (msgI f x.type) (o.2.2.2.headD bod0) (v.2.2.2.headD bod0) := by simpa using hs); have hos := one_of (by rw [← count_subs (v := o) hk]; exact hof.alone hmy); have hvs := one_of (by rw [← count_subs (v := v) hk]; exact hv.alone hmy); (have m1 : o.2.2.2.headD bod0 ∈ o.2.2.2 := by rw [hos]; simp); (have m2 : v.2.2.2.headD bod0 ∈ v.2.2.2 := by rw [hvs]; simp); exact unk_plus hright k _ _ _ (hof.subs _ m1) (hv.subs _ m2) (ub o hom _ m1) (uv _ m2)
         · rw [both_last hmy hk] at hs; exact (uv s hs).mono hlb
 · rw [g2]; intro o ho; cases ho
theorem unk_none0 (N k : Nat) : UnkLe N k bod0 := by
 cases k with
 | zero => exact Nat.zero_le _
 | succ k => exact ⟨Nat.zero_le _, fun v hv => by cases hv⟩
theorem unk_value {wb : Int → Bod → Int} {rd : List UInt8 → Bod × Int} {x : Fld} {r : Rec} {k : Nat} (h : ∀ l, UnkLe l.length k (rd l).1) : ∀ s ∈ (valueC rd x r).1.2.2.2, UnkLe r.bytes.length k s := by
 unfold valueC; split
 · exact fun s hs => by cases hs
 split
 · exact fun s hs => by cases hs
 split
 · split
   · exact fun s hs => by cases hs
   · exact fun s hs => by cases hs
 split
 · exact fun s hs => by cases hs
 split
 · exact fun s hs => by cases hs
 · intro s hs; (obtain rfl : s = (rd r.bytes).1 := by simpa using hs); exact h _
theorem rec_len {r : Rec} (h : wrongRec r = 0) : r.bytes.length + 1 ≤ (oneB r).length := by
 obtain ⟨r1, r2, r3, r4, r5⟩ := wrongRec_ok h; have hp := oneB_pos r; rcases r5 with ⟨h2, _, _⟩ | ⟨h2, h3⟩
 · unfold oneB; rw [if_neg (by omega), if_neg (by omega), if_neg (by omega), List.length_append, List.length_append]; (have h1 : 0 < (tagB r.number.toNat r.how.toNat).length := List.length_pos_iff.2 (by unfold tagB; unfold Lib.uvarint; split <;> simp)); omega
 · rw [h3]; simp only [List.length_nil]; omega
theorem readL_unkLe {f : Fil} (hright : (wrongN f).1 = 0) {k : Nat} {jn : Int → Bod → Bod → Bod × Int} {fs : List Fld} (hch : ∀ z ∈ fs, 0 ≤ z.choice) (hty : ∀ z ∈ fs, typedN f z = 0) (hjn : JnOk (wrongB f k) (joinB f k) jn) (rd : Fld → List UInt8 → Bod × Int)
   (hrd : ∀ x r, wrongRec r = 0 → x ∈ fs → x.kind = 10 → r.how = 2 → (rd x r.bytes).2 = 0 → wrongB f k (msgI f x.type) (rd x r.bytes).1 = 0) (hu : ∀ x l, UnkLe l.length k (rd x l).1) : ∀ (l : List Rec) (a : Bod) (N : Nat), AllV (wrongB f k) f fs a.values → (∀ r ∈ l, wrongRec r = 0 ∧ r.bits < 2 ^ 64) →
   UnkLe N (k + 1) a → UnkLe (N + (l.flatMap oneB).length) (k + 1) (readL (fun x r => valueC (rd x) x r) (addC jn f fs) fs l a).1
 | [], a, N, ha, _, h => by rw [readL]; exact h.mono (by simp)
 | r :: l, a, N, ha, hr, h => by
   have hr1 := hr r List.mem_cons_self; have hr2 : ∀ r ∈ l, wrongRec r = 0 ∧ r.bits < 2 ^ 64 := fun z hz => hr z (List.mem_cons_of_mem _ hz); have hlen := rec_len hr1.1; (have e : N + ((r :: l).flatMap oneB).length = (N + (oneB r).length) + (l.flatMap oneB).length := by rw [List.flatMap_cons, List.length_append]; omega); rw [e, readL]; have hmono : UnkLe (N + (oneB r).length) (k + 1) a := h.mono (by omega)
   cases hx : fldN fs r.number with
   | none =>
     simp only; refine readL_unkLe hright hch hty hjn rd hrd hu l _ _ ha hr2 ⟨?_, hmono.2⟩; show (a.unknown ++ [r]).length ≤ _; rw [List.length_append]; have := h.1; simp only [List.length_cons, List.length_nil]; omega
   | some x =>
     simp only; obtain ⟨hxm, hxn⟩ := fldN_mem hx
     by_cases h0 : (valueC (rd x) x r).2.2 = 0
     · rw [if_neg (by simpa using h0)]
       by_cases h1 : (valueC (rd x) x r).2.1 = false
       · rw [if_pos h1]; exact readL_unkLe hright hch hty hjn rd hrd hu l _ _ ha hr2 hmono
       · rw [if_neg h1]; obtain ⟨hf, hn⟩ := value_fit (wb := wrongB f k) (hty x hxm) hr1.1 (by have := hr1.2; omega) (hrd x r hr1.1 hxm) h0 (by simpa using h1); (have hx2 : fldN fs (valueC (rd x) x r).1.1 = some x := by rw [hn, hxn]; exact hx); have hua := unk_add hright hjn ha hx2 hf (A := N) (B := r.bytes.length) h.2 (unk_value (wb := wrongB f k) (hu x)); rcases add_ok hjn ha hx2 hf with ⟨g1, g2, g3⟩ | ⟨g1, g2⟩
         · rw [g3] at hua ⊢; simp only [ne_eq, not_true_eq_false, if_false]; refine readL_unkLe hright hch hty hjn rd hrd hu l (.mk _ _) _ (set_right hch ha (by rw [bothV_num]; exact hx2) g1 g2) hr2 ⟨hmono.1, fun v hv s hs => (hua v hv s hs).mono (by omega)⟩
         · rw [g2, if_pos (by decide)]; exact unk_none0 _ _
     · rw [if_pos h0]; exact unk_none0 _ _
theorem read_unkLe {f : Fil} (hright : (wrongN f).1 = 0) : ∀ (k : Nat), k ≤ 12 → ∀ (msg : Int) (l : List UInt8), UnkLe l.length k (readC f k msg l).1
 | 0, _, msg, l => unk_none0 _ _
 | k + 1, hk, msg, l => by
   rw [readC]
   by_cases hp : (parse l).2.1 = 0
   · rw [if_neg (by simpa using hp)]
     cases hm : f.msgs[msg.toNat]? with
     | none => exact unk_none0 _ _
     | some m =>
       simp only; have hmr := right_msg hright m (List.mem_of_getElem? hm); have hch : ∀ z ∈ m.fields, 0 ≤ z.choice := fun z hz => (choice_16 hmr hz).1; obtain ⟨p1, p2, p3⟩ := parse_right hp; refine (readL_unkLe hright hch (field_typed hmr) (joinK_ok hright k 12 (by omega)) (fun x bs => readC f k (msgI f x.type) bs) (fun x r hr hx h10 h2 hz => ?_) (fun x bs => read_unkLe hright k (by omega) _ _) _ bod0 0 AllV.nil p2 (unk_none0 _ _)).mono (by omega); have hmb := msgI_bd f x.type; have hm0 := (typed_facts (field_typed hmr x hx)).2.2.1 h10; exact read_right hright k (by omega) _ _ hm0 (by omega) hz
   · rw [if_pos hp]; exact unk_none0 _ _
end Go.Proofs.YtbceapeoknngnaaGreatDoor
