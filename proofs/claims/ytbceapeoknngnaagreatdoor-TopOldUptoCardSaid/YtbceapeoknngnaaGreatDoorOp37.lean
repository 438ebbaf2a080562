/-
  How long what is read is, written again, in plain Lean.
  What is read, written again, is not too long for the walk; in plain Lean.
-/
import Derived.Test.YtbceapeoknngnaaGreatDoorOp33
set_option linter.unusedVariables false
namespace Go.Proofs.YtbceapeoknngnaaGreatDoor
open Go.RowKit
def wgtV (wb : Bod → Nat) (v : Val) : Nat := 25 * v.2.1.length + ((v.2.2.1.map fun t => t.length + 25).sum + (v.2.2.2.map fun s => wb s + 25).sum)
def wgtU (l : List Rec) : Nat := (l.map fun r => r.bytes.length + 25).sum
def wgt : Nat → Bod → Nat
 | 0, _ => 0
 | k + 1, b => (b.values.map (wgtV (wgt k))).sum + wgtU b.unknown
theorem sum_append (l r : List Nat) : (l ++ r).sum = l.sum + r.sum := by
 induction l with
 | nil => simp
 | cons a l ih => simp only [List.cons_append, List.sum_cons, ih]; omega
theorem wgtV_cat (wb : Bod → Nat) (n : Int) (u v : Val) : wgtV wb (n, u.2.1 ++ v.2.1, u.2.2.1 ++ v.2.2.1, u.2.2.2 ++ v.2.2.2) = wgtV wb u + wgtV wb v := by
 unfold wgtV; simp only [List.length_append, List.map_append, sum_append]; omega
theorem sum_filter (g : Val → Nat) (p : Val → Bool) : ∀ l : List Val, ((l.filter p).map g).sum + ((l.filter fun v => !p v).map g).sum = (l.map g).sum
 | [] => rfl
 | a :: l => by
   have := sum_filter g p l
   cases h : p a with
   | true => simp only [List.filter_cons, h, if_true, Bool.not_true, Bool.false_eq_true, if_false, List.map_cons, List.sum_cons]; omega
   | false => simp only [List.filter_cons, h, if_true, Bool.not_false, Bool.false_eq_true, if_false, List.map_cons, List.sum_cons]; omega
theorem sum_mem (g : Val → Nat) {l : List Val} {v : Val} (h : v ∈ l) : g v ≤ (l.map g).sum := by
 induction l with
 | nil => cases h
 | cons a l ih =>
   rw [List.map_cons, List.sum_cons]; rcases List.mem_cons.1 h with rfl | h
   · omega
   · have := ih h; omega
theorem sum_ins (g : Val → Nat) (l : List Val) (v : Val) : ((insG (fun y : Val => y.1) l v).map g).sum = (l.map g).sum + g v := by
 unfold insG; generalize (l.takeWhile fun x => decide (x.1 < v.1)).length = n; rw [List.map_append, List.map_cons, sum_append, List.sum_cons]
 have e : (l.map g).sum = ((l.take n).map g).sum + ((l.drop n).map g).sum := by
   rw [← sum_append, ← List.map_append, List.take_append_drop]
 omega
theorem sum_set (g : Val → Nat) (fs : List Fld) (l : List Val) (v : Val) : ((setV fs l v).map g).sum + (match findV l v.1 with | none => 0 | some o => g o) ≤ (l.map g).sum + g v ∨ fldN fs v.1 = none := by
 unfold setV setG
 cases hx : fs.find? (fun z => z.number == v.1) with
 | none => exact .inr hx
 | some x =>
   refine .inl ?_; simp only; have hs := sum_filter g (fun y : Val => keepN fs x v.1 y.1) l
   have hf : (match findV l v.1 with | none => 0 | some o => g o) ≤ ((l.filter fun y => !keepN fs x v.1 y.1).map g).sum := by
     cases ho : findV l v.1 with
     | none => exact Nat.zero_le _
     | some o =>
       obtain ⟨hm, hn⟩ := findV_mem ho; refine sum_mem g (List.mem_filter.2 ⟨hm, ?_⟩)
       cases hk : keepN fs x v.1 o.1 with
       | false => rfl
       | true => exact absurd hn (keepN_ne hk)
   split
   · omega
   · rw [sum_ins]; omega
theorem wgt_both {wb : Bod → Nat} {wr : Int → Bod → Int} {jb : Int → Bod → Bod → Bod} {f : Fil} {x : Fld} {o v : Val} (ho : FitV wr f x o) (hv : FitV wr f x v) (hj : x.many = false → x.kind = 10 → wb (jb (msgI f x.type) (o.2.2.2.headD bod0) (v.2.2.2.headD bod0)) ≤ wb (o.2.2.2.headD bod0) + wb (v.2.2.2.headD bod0)) :
   wgtV wb (bothV jb f x (some o) v) ≤ wgtV wb o + wgtV wb v := by
 cases hm : x.many with
 | true => rw [both_many hm, wgtV_cat]; exact Nat.le_refl _
 | false =>
   by_cases hk : x.kind = 10
   · rw [both_sub hm hk]; have hos := one_of (by rw [← count_subs (v := o) hk]; exact ho.alone hm); have hvs := one_of (by rw [← count_subs (v := v) hk]; exact hv.alone hm); have := hj hm hk; unfold wgtV; generalize o.2.2.2.headD bod0 = A at *; generalize v.2.2.2.headD bod0 = B at *; rw [hos, hvs]; simp only [List.map_cons, List.map_nil, List.sum_cons, List.sum_nil]; omega
   · rw [both_last hm hk]; omega
theorem wgt_add {f : Fil} {k : Nat} {fs : List Fld} {jn : Int → Bod → Bod → Bod × Int} (hjn : JnOk (wrongB f k) (joinB f k) jn) (hj : ∀ mi a b, wrongB f k mi a = 0 → wrongB f k mi b = 0 → wrongB f k mi (joinB f k mi a b) = 0 → wgt k (joinB f k mi a b) ≤ wgt k a + wgt k b) {b : Bod} (h : AllV (wrongB f k) f fs b.values) {x : Fld} {v : Val} (hx : fldN fs v.1 = some x) (hv : FitV (wrongB f k) f x v) :
   wgt (k + 1) (addC jn f fs b x v).1 ≤ wgt (k + 1) b + wgtV (wgt k) v := by
 rcases add_ok hjn h hx hv with ⟨g1, g2, g3⟩ | ⟨g1, g2⟩
 · rw [g3]; show ((setV fs b.values _).map (wgtV (wgt k))).sum + wgtU b.unknown ≤ (b.values.map (wgtV (wgt k))).sum + wgtU b.unknown + wgtV (wgt k) v; have hs := sum_set (wgtV (wgt k)) fs b.values (bothV (joinB f k) f x (findV b.values v.1) v); rw [bothV_num] at hs; rcases hs with hs | hs
   · cases ho : findV b.values v.1 with
     | none =>
       rw [ho] at hs; rw [both_none] at hs ⊢; simp only at hs; omega
     | some o =>
       rw [ho] at hs; obtain ⟨hom, hon⟩ := findV_mem ho; obtain ⟨y, hy, hwo⟩ := h.fld o hom; rw [hon, hx] at hy; obtain rfl := Option.some.inj hy; have hof := (wrongVF_iff.1 hwo).1
       have hb := wgt_both (wb := wgt k) (jb := joinB f k) hof hv (fun hm hk => by
         have hos := one_of (by rw [← count_subs (v := o) hk]; exact hof.alone hm); have hvs := one_of (by rw [← count_subs (v := v) hk]; exact hv.alone hm); refine hj _ _ _ (hof.subs _ (by rw [hos]; simp)) (hv.subs _ (by rw [hvs]; simp)) (g1.subs _ ?_); rw [ho, both_sub hm hk]; exact List.mem_cons_self)
       simp only at hs; omega
   · rw [hx] at hs; cases hs
 · rw [g2]; cases k <;> exact Nat.zero_le _
theorem wgtU_app (l r : List Rec) : wgtU (l ++ r) = wgtU l + wgtU r := by
 unfold wgtU; rw [List.map_append, sum_append]
theorem wgt_joinL {f : Fil} {k : Nat} {fs : List Fld} {jn : Int → Bod → Bod → Bod × Int} (hch : ∀ z ∈ fs, 0 ≤ z.choice) (hjn : JnOk (wrongB f k) (joinB f k) jn) (hj : ∀ mi a b, wrongB f k mi a = 0 → wrongB f k mi b = 0 → wrongB f k mi (joinB f k mi a b) = 0 → wgt k (joinB f k mi a b) ≤ wgt k a + wgt k b) : ∀ (l : List Val) (a : Bod), AllV (wrongB f k) f fs a.values → AllV (wrongB f k) f fs l →
   wgt (k + 1) (joinL (addC jn f fs) fs l a).1 ≤ wgt (k + 1) a + (l.map (wgtV (wgt k))).sum
 | [], a, _, _ => by rw [joinL]; exact Nat.le_refl _
 | v :: l, a, ha, hl => by
   obtain ⟨x, hx, hw⟩ := hl.fld v List.mem_cons_self; have hfit := (wrongVF_iff.1 hw).1; have hwa := wgt_add hjn hj ha hx hfit; rw [joinL, hx, List.map_cons, List.sum_cons]; simp only; rcases add_ok hjn ha hx hfit with ⟨g1, g2, g3⟩ | ⟨g1, g2⟩
   · rw [g3] at hwa ⊢; simp only [ne_eq, not_true_eq_false, if_false] at hwa ⊢; have := wgt_joinL hch hjn hj l (.mk (setV fs a.values (bothV (joinB f k) f x (findV a.values v.1) v)) a.unknown) (set_right hch ha (by rw [bothV_num]; exact hx) g1 g2) hl.tail; omega
   · rw [g2, if_pos (by decide)]; exact Nat.zero_le _
theorem wgt_join {f : Fil} (hright : (wrongN f).1 = 0) : ∀ (k : Nat), k ≤ 12 → ∀ (msg : Int) (a b : Bod), wrongB f k msg a = 0 → wrongB f k msg b = 0 → wrongB f k msg (joinB f k msg a b) = 0 → wgt k (joinB f k msg a b) ≤ wgt k a + wgt k b
 | 0, _, _, _, _, h, _, _ => by cases h
 | k + 1, hk, msg, a, b, ha, hb, hab => by
   obtain ⟨k', m, e, hm, ha'⟩ := wrongB_zero ha; (obtain rfl : k = k' := by omega); have hmr := right_msg hright m (List.mem_of_getElem? hm); have hch : ∀ z ∈ m.fields, 0 ≤ z.choice := fun z hz => (choice_16 hmr hz).1; obtain ⟨hA, uA⟩ := (wrongB_is (k := k) hm hch a).1 ha; obtain ⟨hB, uB⟩ := (wrongB_is (k := k) hm hch b).1 hb; (have hja : joinB f (k + 1) msg a b = .mk (b.values.foldl (joinV (joinB f k) f m.fields) a.values) (a.unknown ++ b.unknown) := by rw [joinB, hm]); have hjn := joinK_ok hright k 12 (by omega); have hw := wgt_joinL hch hjn (wgt_join hright k (by omega)) b.values a hA hB; rcases joinL_ok hch hjn b.values a hA hB with ⟨g1, g2⟩ | ⟨g1, g2⟩
   · rw [g2] at hw; rw [hja]; have e1 : wgt (k + 1) (.mk (b.values.foldl (joinV (joinB f k) f m.fields) a.values) (a.unknown ++ b.unknown)) = ((b.values.foldl (joinV (joinB f k) f m.fields) a.values).map (wgtV (wgt k))).sum + wgtU (a.unknown ++ b.unknown) := rfl; have e2 : wgt (k + 1) (.mk (b.values.foldl (joinV (joinB f k) f m.fields) a.values) a.unknown) = ((b.values.foldl (joinV (joinB f k) f m.fields) a.values).map (wgtV (wgt k))).sum + wgtU a.unknown := rfl; have e3 : wgt (k + 1) b = (b.values.map (wgtV (wgt k))).sum + wgtU b.unknown := rfl; rw [e1, wgtU_app]; simp only at hw; rw [e2] at hw; omega
   · exfalso
     rw [hja] at hab; exact g1 ((wrongB_is (k := k) hm hch _).1 hab).1
theorem pack_err' {kind : Int} : ∀ (f : Nat) (l : List UInt8), (packP kind f l).2 ≠ 0 → (packP kind f l).1 = []
 | 0, l, h => by rw [packP]
 | f + 1, l, h => by
   rw [packP] at h ⊢
   by_cases hl : l = []
   · rw [if_pos hl]
   rw [if_neg hl] at h ⊢
   by_cases hh : (headC (howC kind) l).2.2 = 0
   · rw [if_neg (by simpa using hh)] at h ⊢; simp only at h ⊢
     by_cases hp : (packP kind f (l.drop (headC (howC kind) l).2.1)).2 = 0
     · rw [if_neg (by simpa using hp)] at h; exact absurd rfl h
     · rw [if_pos hp]
   · rw [if_pos hh]
theorem numbers_len' {x : Fld} {r : Rec} (h1 : 1 ≤ x.kind) (h2 : x.kind ≤ 7) : (numbersC x r).1.length ≤ r.bytes.length + 1 := by
 unfold numbersC
 by_cases hh : r.how = howC x.kind
 · rw [if_pos hh]; simp
 · rw [if_neg hh]
   by_cases hm : r.how ≠ 2 ∨ x.many = false
   · rw [if_pos hm]; simp
   · rw [if_neg hm]
     by_cases he : (packP x.kind (r.bytes.length + 1) r.bytes).2 = 0
     · have := (pack_fits h1 h2 _ _ he).2; omega
     · rw [pack_err' _ _ he]; simp
theorem wgt_value {rd : List UInt8 → Bod × Int} {x : Fld} {r : Rec} {k : Nat} (h1 : 1 ≤ x.kind) (h2 : x.kind ≤ 10) (hr : wrongRec r = 0) (h : ∀ l, wgt k (rd l).1 ≤ 25 * l.length) : wgtV (wgt k) (valueC rd x r).1 ≤ 25 * (oneB r).length := by
 have hl := rec_len hr; have nil0 : wgtV (wgt k) (x.number, [], [], []) = 0 := rfl; unfold valueC; split
 · rename_i hk; (have h7 : x.kind ≤ 7 := by rcases kind_how h1 h2 with h | h | h; exact h.2; exact absurd h.1 hk; exact absurd h.1 hk); have := numbers_len' (r := r) h1 h7; show 25 * (numbersC x r).1.length + (0 + 0) ≤ _; omega
 split
 · rw [nil0]; exact Nat.zero_le _
 split
 · split
   · rw [nil0]; exact Nat.zero_le _
   · show 25 * 0 + ((r.bytes.length + 25 + 0) + 0) ≤ _; omega
 split
 · show 25 * 0 + ((r.bytes.length + 25 + 0) + 0) ≤ _; omega
 split
 · rw [nil0]; exact Nat.zero_le _
 · have := h r.bytes; show 25 * 0 + (0 + (wgt k (rd r.bytes).1 + 25 + 0)) ≤ _; omega
theorem wgt_zero (k : Nat) : wgt k bod0 = 0 := by cases k <;> rfl
theorem wgt_readL {f : Fil} (hright : (wrongN f).1 = 0) {k : Nat} (hk : k ≤ 12) {jn : Int → Bod → Bod → Bod × Int} {fs : List Fld} (hch : ∀ z ∈ fs, 0 ≤ z.choice) (hty : ∀ z ∈ fs, typedN f z = 0) (hjn : JnOk (wrongB f k) (joinB f k) jn) (rd : Fld → List UInt8 → Bod × Int)
   (hrd : ∀ x r, wrongRec r = 0 → x ∈ fs → x.kind = 10 → r.how = 2 → (rd x r.bytes).2 = 0 → wrongB f k (msgI f x.type) (rd x r.bytes).1 = 0) (hu : ∀ x l, wgt k (rd x l).1 ≤ 25 * l.length) : ∀ (l : List Rec) (a : Bod), AllV (wrongB f k) f fs a.values → (∀ r ∈ l, wrongRec r = 0 ∧ r.bits < 2 ^ 64) →
   wgt (k + 1) (readL (fun x r => valueC (rd x) x r) (addC jn f fs) fs l a).1 ≤ wgt (k + 1) a + 25 * (l.flatMap oneB).length
 | [], a, ha, _ => by rw [readL]; exact Nat.le_add_right _ _
 | r :: l, a, ha, hr => by
   have hr1 := hr r List.mem_cons_self; have hr2 : ∀ r ∈ l, wrongRec r = 0 ∧ r.bits < 2 ^ 64 := fun z hz => hr z (List.mem_cons_of_mem _ hz); have hlen := rec_len hr1.1; (have e : ((r :: l).flatMap oneB).length = (oneB r).length + (l.flatMap oneB).length := by rw [List.flatMap_cons, List.length_append]); rw [e, readL]
   cases hx : fldN fs r.number with
   | none =>
     simp only; have := wgt_readL hright hk hch hty hjn rd hrd hu l (.mk a.values (a.unknown ++ [r])) ha hr2; have e1 : wgt (k + 1) (.mk a.values (a.unknown ++ [r])) = (a.values.map (wgtV (wgt k))).sum + wgtU (a.unknown ++ [r]) := rfl; have e2 : wgt (k + 1) a = (a.values.map (wgtV (wgt k))).sum + wgtU a.unknown := rfl; have e3 : wgtU [r] = r.bytes.length + 25 + 0 := rfl; rw [e1, wgtU_app, e3] at this; omega
   | some x =>
     simp only; obtain ⟨hxm, hxn⟩ := fldN_mem hx
     by_cases h0 : (valueC (rd x) x r).2.2 = 0
     · rw [if_neg (by simpa using h0)]
       by_cases h1 : (valueC (rd x) x r).2.1 = false
       · rw [if_pos h1]; have := wgt_readL hright hk hch hty hjn rd hrd hu l a ha hr2; omega
       · rw [if_neg h1]; obtain ⟨hf, hn⟩ := value_fit (wb := wrongB f k) (hty x hxm) hr1.1 (by have := hr1.2; omega) (hrd x r hr1.1 hxm) h0 (by simpa using h1); (have hx2 : fldN fs (valueC (rd x) x r).1.1 = some x := by rw [hn, hxn]; exact hx); have hwa := wgt_add hjn (wgt_join hright k hk) ha hx2 hf; have hwv := wgt_value (rd := rd x) (x := x) (r := r) (k := k) (typed_facts (hty x hxm)).1 (typed_facts (hty x hxm)).2.1 hr1.1 (hu x); rcases add_ok hjn ha hx2 hf with ⟨g1, g2, g3⟩ | ⟨g1, g2⟩
         · rw [g3] at hwa ⊢; simp only [ne_eq, not_true_eq_false, if_false] at hwa ⊢; have := wgt_readL hright hk hch hty hjn rd hrd hu l (.mk (setV fs a.values (bothV (joinB f k) f x (findV a.values (valueC (rd x) x r).1.1) (valueC (rd x) x r).1)) a.unknown) (set_right hch ha (by rw [bothV_num]; exact hx2) g1 g2) hr2; omega
         · rw [g2, if_pos (by decide), wgt_zero]; exact Nat.zero_le _
     · rw [if_pos h0, wgt_zero]; exact Nat.zero_le _
theorem wgt_read {f : Fil} (hright : (wrongN f).1 = 0) : ∀ (k : Nat), k ≤ 12 → ∀ (msg : Int) (l : List UInt8), wgt k (readC f k msg l).1 ≤ 25 * l.length
 | 0, _, msg, l => Nat.zero_le _
 | k + 1, hk, msg, l => by
   rw [readC]
   by_cases hp : (parse l).2.1 = 0
   · rw [if_neg (by simpa using hp)]
     cases hm : f.msgs[msg.toNat]? with
     | none => rw [wgt_zero]; exact Nat.zero_le _
     | some m =>
       simp only; have hmr := right_msg hright m (List.mem_of_getElem? hm); have hch : ∀ z ∈ m.fields, 0 ≤ z.choice := fun z hz => (choice_16 hmr hz).1; obtain ⟨p1, p2, p3⟩ := parse_right hp
       have := wgt_readL hright (show k ≤ 12 by omega) hch (field_typed hmr) (joinK_ok hright k 12 (by omega)) (fun x bs => readC f k (msgI f x.type) bs) (fun x r hr hx h10 h2 hz => by
         have hmb := msgI_bd f x.type; have hm0 := (typed_facts (field_typed hmr x hx)).2.2.1 h10; exact read_right hright k (by omega) _ _ hm0 (by omega) hz) (fun x bs => wgt_read hright k (by omega) _ _) (parse l).1 bod0 AllV.nil p2
       rw [wgt_zero] at this; omega
   · rw [if_pos hp, wgt_zero]; exact Nat.zero_le _
end Go.Proofs.YtbceapeoknngnaaGreatDoor
namespace Go.Proofs.YtbceapeoknngnaaGreatDoor
open Go.RowKit Go.Lib
theorem uv10 {n : Nat} (h : n < 18446744073709551616) : (uvarint n).length ≤ 10 := uvarint_length64 h
theorem howC_three {k : Int} (h : howC k ≠ 2) : howC k = 0 ∨ howC k = 1 ∨ howC k = 5 := by
 unfold howC at h ⊢; split
 · exact .inr (.inl rfl)
 · rename_i h6; rw [if_neg h6] at h; split
   · exact .inr (.inr rfl)
   · rename_i h7; rw [if_neg h7] at h; split
     · rename_i h8; rw [if_pos h8] at h; exact absurd rfl h
     · exact .inl rfl
theorem sum_25 : ∀ l : List Nat, (l.map fun _ => 25).sum = 25 * l.length
 | [] => rfl
 | a :: l => by rw [List.map_cons, List.sum_cons, sum_25 l, List.length_cons]; omega
theorem sized_len {num : Int} {t : List UInt8} (n1 : 1 ≤ num) (n2 : num < 536870912) (h : t.length < 18446744073709551616) : (oneB ⟨num, 2, 0, t⟩).length ≤ t.length + 15 := by
 have h1 := tagB_length num.toNat (2 : Int).toNat (by omega) (by decide); have h2 := uv10 h; unfold oneB; show (tagB num.toNat (2 : Int).toNat ++ (if (2 : Int) = 0 then _ else if (2 : Int) = 1 then _ else if (2 : Int) = 5 then _ else uvarint t.length ++ t)).length ≤ _; rw [if_neg (by decide), if_neg (by decide), if_neg (by decide), List.length_append, List.length_append]; show (tagB num.toNat (2 : Int).toNat).length + ((uvarint t.length).length + t.length) ≤ _; omega
theorem num_len {k : Int} {num : Int} {n : Nat} (n1 : 1 ≤ num) (n2 : num < 536870912) (hk : howC k ≠ 2) (h : n < 18446744073709551616) : (oneB ⟨num, howC k, n, []⟩).length ≤ 15 := by
 have hh := howC_three hk; unfold oneB; show (tagB num.toNat (howC k).toNat ++ if howC k = 0 then uvarint n else if howC k = 1 then lowB 8 n else if howC k = 5 then lowB 4 n else _).length ≤ 15; rw [List.length_append]; have h2 := uv10 h; rcases hh with e | e | e
 · rw [e, if_pos rfl]; have h1 := tagB_length num.toNat (0 : Int).toNat (by omega) (by decide); omega
 · rw [e, if_neg (by decide), if_pos rfl, lowB_length]; have h1 := tagB_length num.toNat (1 : Int).toNat (by omega) (by decide); omega
 · rw [e, if_neg (by decide), if_neg (by decide), if_pos rfl, lowB_length]; have h1 := tagB_length num.toNat (5 : Int).toNat (by omega) (by decide); omega
theorem flat_sum {α : Type} (g : α → List UInt8) (h : α → Nat) : ∀ (l : List α), (∀ a ∈ l, (g a).length ≤ h a) → (l.flatMap g).length ≤ (l.map h).sum
 | [], _ => Nat.le_refl _
 | a :: l, hl => by
   rw [List.flatMap_cons, List.length_append, List.map_cons, List.sum_cons]; have h1 := hl a List.mem_cons_self; have h2 := flat_sum g h l (fun b hb => hl b (List.mem_cons_of_mem _ hb)); omega
theorem pack_len {k : Int} (hk : howC k ≠ 2) : ∀ (l : List Nat), (∀ n ∈ l, n < 18446744073709551616) → (packC k l).length ≤ 10 * l.length
 | [], _ => Nat.le_refl _
 | n :: l, h => by
   have e : packC k (n :: l) = (oneB ⟨1, howC k, toldC k n, []⟩).drop 1 ++ packC k l := rfl; have hh := howC_three hk; have h10 := uv10 (told_64 (k := k) (h n List.mem_cons_self))
   have h1 : ((oneB ⟨1, howC k, toldC k n, []⟩).drop 1).length ≤ 10 := by
     rw [drop_tag _ _ hh]; split
     · exact h10
     · split
       · rw [lowB_length]; decide
       · rw [lowB_length]; decide
   rw [e, List.length_append, List.length_cons]; have h2 := pack_len hk l (fun b hb => h b (List.mem_cons_of_mem _ hb)); omega
theorem sum_memB (g : Bod → Nat) {l : List Bod} {v : Bod} (h : v ∈ l) : g v ≤ (l.map g).sum := by
 induction l with
 | nil => cases h
 | cons a l ih =>
   rw [List.map_cons, List.sum_cons]; rcases List.mem_cons.1 h with rfl | h
   · omega
   · have := ih h; omega
theorem val_wgt {wb : Int → Bod → Int} {f : Fil} {x : Fld} {v : Val} {sub : Bod → List UInt8} {ws : Bod → Nat} (n1 : 1 ≤ x.number) (n2 : x.number < 536870912) (ht : typedN f x = 0) (hv : FitV wb f x v) (h60 : (countN x.kind v).1 ≤ 60) (h64 : Num64 v) (hs : ∀ s ∈ v.2.2.2, (sub s).length ≤ ws s) (hz : wgtV ws v < 18446744073709551616) :
   ((valRecs sub x v).flatMap oneB).length ≤ wgtV ws v := by
 obtain ⟨t1, t2, _, _⟩ := typed_facts ht; have hcnt := count_sum hv.cnt; have hone := hv.one; have hsh := fit_shape hv t1 t2; have htx := hv.texts; obtain ⟨n, b, y, s⟩ := v; simp only at h64 hs hsh htx hcnt; rcases hsh with ⟨g, g7, e, hne, hal⟩ | ⟨g, g8, e, hne, hal⟩ | ⟨g, g8, e, hne, hal⟩
 · simp only [Prod.mk.injEq, true_and] at e; obtain ⟨rfl, rfl⟩ := e; have ew : wgtV ws (n, b, [], []) = 25 * b.length := rfl; rw [ew] at hz ⊢; have hb1 : 1 ≤ b.length := List.length_pos_iff.2 hne
   cases hm : x.many with
   | true =>
     (have e2 : valRecs sub x (n, b, [], []) = [⟨x.number, 2, 0, packC x.kind b⟩] := by unfold valRecs; rw [if_pos ⟨hm, g⟩]); rw [e2, List.flatMap_cons, List.flatMap_nil, List.append_nil]; have h1 := pack_len g b h64; have h2 := sized_len (t := packC x.kind b) n1 n2 (by omega); omega
   | false =>
     (have e2 : valRecs sub x (n, b, [], []) = b.map fun q => ⟨x.number, howC x.kind, toldC x.kind q, []⟩ := by unfold valRecs; rw [if_neg (by rw [hm]; simp)]; simp); rw [e2, List.flatMap_map]; have := flat_sum (fun q => oneB ⟨x.number, howC x.kind, toldC x.kind q, []⟩) (fun _ => 25) b (fun q hq => Nat.le_trans (num_len n1 n2 g (told_64 (h64 q hq))) (by omega)); rw [sum_25] at this; omega
 · simp only [Prod.mk.injEq, true_and] at e; obtain ⟨rfl, rfl⟩ := e; (have e2 : valRecs sub x (n, [], y, []) = y.map fun t => ⟨x.number, 2, 0, t⟩ := by unfold valRecs; rw [if_neg (by rintro ⟨_, h⟩; exact h g)]; simp); have ew : wgtV ws (n, [], y, []) = 25 * 0 + ((y.map fun t => t.length + 25).sum + 0) := rfl; rw [e2, List.flatMap_map]
   have := flat_sum (fun t => oneB ⟨x.number, 2, 0, t⟩) (fun t => t.length + 25) y (fun t ht => by
     have h4 : t.length ≤ 4000 := by
       have := htx t ht; unfold byteN at this; split at this
       · cases this
       · omega
     have := sized_len (t := t) n1 n2 (by omega); omega)
   rw [ew]; omega
 · simp only [Prod.mk.injEq, true_and] at e; obtain ⟨rfl, rfl, _⟩ := e; (have e2 : valRecs sub x (n, [], [], s) = s.map fun t => ⟨x.number, 2, 0, sub t⟩ := by unfold valRecs; rw [if_neg (by rintro ⟨_, h⟩; exact h g)]; simp); have ew : wgtV ws (n, [], [], s) = 25 * 0 + (0 + (s.map fun t => ws t + 25).sum) := rfl; rw [ew] at hz ⊢; rw [e2, List.flatMap_map]; have hsm : ∀ t ∈ s, ws t + 25 ≤ (s.map fun t => ws t + 25).sum := fun t ht => sum_memB (fun t => ws t + 25) ht
   have := flat_sum (fun t => oneB ⟨x.number, 2, 0, sub t⟩) (fun t => ws t + 25) s (fun t ht => by
     have h1 := hs t ht; have h2 := hsm t ht; have := sized_len (t := sub t) n1 n2 (by omega); omega)
   omega
theorem raw_wgt {f : Fil} (hright : (wrongN f).1 = 0) : ∀ (k : Nat) (msg : Int) (b : Bod), wrongB f k msg b = 0 → B64 k b → wgt k b < 18446744073709551616 → (rawB f k msg b).length ≤ wgt k b
 | 0, _, _, h, _, _ => by cases h
 | k + 1, msg, b, h, h64, hz => by
   obtain ⟨k', m, e, hm, hb'⟩ := wrongB_zero h; (obtain rfl : k = k' := by omega); have hmr := right_msg hright m (List.mem_of_getElem? hm); have hch : ∀ z ∈ m.fields, 0 ≤ z.choice := fun z hz => (choice_16 hmr hz).1; obtain ⟨hA, uA⟩ := (wrongB_is (k := k) hm hch b).1 h; rw [raw_flat hm, List.length_append]; have ew : wgt (k + 1) b = (b.values.map (wgtV (wgt k))).sum + wgtU b.unknown := rfl; rw [ew] at hz ⊢
   have h1 := flat_sum (valG f k m) (wgtV (wgt k)) b.values (fun v hv => by
     obtain ⟨x, hx, hw⟩ := hA.fld v hv; obtain ⟨hxm, hxn⟩ := fldN_mem hx; obtain ⟨i, hi, e⟩ := List.getElem_of_mem hxm; have hff := field_facts ((msg_field hmr).2.2 i hi); rw [e] at hff; obtain ⟨g1, g2, g3⟩ := wrongVF_iff.1 hw; have hle := sum_mem (wgtV (wgt k)) hv; unfold valG; rw [hx]; simp only; refine val_wgt hff.1 hff.2.1 hff.2.2.2.1 g1 g2 (h64.1 v hv).1 (fun s hs => ?_) (by omega)
     have hws : wgt k s ≤ wgtV (wgt k) v := by
       unfold wgtV; have : wgt k s + 25 ≤ (v.2.2.2.map fun s => wgt k s + 25).sum := sum_memB (fun s => wgt k s + 25) hs; omega
     exact raw_wgt hright k _ s (g1.subs s hs) ((h64.1 v hv).2 s hs) (by omega))
   have h2 := flat_sum oneB (fun r => r.bytes.length + 25) b.unknown (fun r hr => by
     have hu := uA r hr
     have hr0 : wrongRec r = 0 := by
       unfold unkN at hu; apply Classical.byContradiction; intro g; rw [if_pos g] at hu; exact g hu
     obtain ⟨r1, r2, r3, r4, r5⟩ := wrongRec_ok hr0; have h64r := h64.2 r hr; obtain ⟨number, how, bits, bytes⟩ := r; simp only at r1 r2 r3 r4 r5 h64r ⊢; rcases r5 with ⟨rfl, rfl, h4⟩ | ⟨hn, rfl⟩
     · have := sized_len (t := bytes) r1 r2 (by omega); omega
     · have e : (oneB ⟨number, how, bits, []⟩).length ≤ 15 := by
         unfold oneB; show (tagB number.toNat how.toNat ++ if how = 0 then uvarint bits else if how = 1 then lowB 8 bits else if how = 5 then lowB 4 bits else _).length ≤ 15; rw [List.length_append]; have h2 := uv10 h64r; rcases r3 with e | e | e | e
         · rw [e, if_pos rfl]; have h1 := tagB_length number.toNat (0 : Int).toNat (by omega) (by decide); omega
         · rw [e, if_neg (by decide), if_pos rfl, lowB_length]; have h1 := tagB_length number.toNat (1 : Int).toNat (by omega) (by decide); omega
         · rw [e, if_neg (by decide), if_neg (by decide), if_pos rfl, lowB_length]; have h1 := tagB_length number.toNat (5 : Int).toNat (by omega) (by decide); omega
         · exact absurd e hn
       simp only [List.length_nil]; omega)
   have e3 : wgtU b.unknown = (b.unknown.map fun r => r.bytes.length + 25).sum := rfl; omega
end Go.Proofs.YtbceapeoknngnaaGreatDoor
