/-
  A right file's programs are right, in plain Lean.
  What the steps of a right file's program add of a right body, in plain Lean.
  press.num, press.blob.
-/
import Derived.Test.YtbceapeoknngnaaGreatDoorTx24
set_option linter.unusedVariables false
namespace Go.Proofs.YtbceapeoknngnaaGreatDoor
open Go.RowKit
theorem nums_mem {m : Msg} {n : Int} (h : n ∈ numsN m) : ∃ x ∈ m.fields, x.number = n := by
 unfold numsN at h; obtain ⟨x, hx, e⟩ := List.mem_map.1 (List.mem_mergeSort.1 h); exact ⟨x, hx, e⟩
theorem nums_fld {m : Msg} {n : Int} (h : n ∈ numsN m) : fldM m n ∈ m.fields ∧ (fldM m n).number = n := by
 obtain ⟨x, hx, e⟩ := nums_mem h; obtain ⟨k, hk, e1, e2, e3⟩ := idxP_find _ _ (idxP_mem (fun x : Fld => x.number == n) m.fields x hx (by simpa using e)); (have e4 : fldM m n = m.fields[k] := by unfold fldM; rw [e2]; rfl); rw [e4]; exact ⟨List.getElem_mem hk, by simpa using e3⟩
theorem nums_rise {f : Fil} {m : Msg} (h : ∀ i, (hi : i < m.fields.length) → fieldN f m i m.fields[i] = 0) : ∀ k, (hk : k + 1 < (numsN m).length) → (numsN m)[k] < (numsN m)[k + 1] := by
 intro k hk; have hs : (numsN m).Pairwise (fun x y => decide (x ≤ y) = true) := List.pairwise_mergeSort (fun a b c h1 h2 => by simp at *; omega) (fun a b => by simp; omega) _; have hle := (List.pairwise_iff_getElem.1 hs) k (k + 1) (by omega) hk (by omega)
 have hnd : (m.fields.map (·.number)).Pairwise (· ≠ ·) := by
   rw [List.pairwise_iff_getElem]; intro i j hi hj hij; simp only [List.length_map] at hi hj; simp only [List.getElem_map]; obtain ⟨_, _, _, h4, _⟩ := fieldN_ok (h j hj); exact h4 _ (List.mem_iff_getElem.2 ⟨i, by simp; omega, by simp⟩)
 have hnd2 : (numsN m).Pairwise (· ≠ ·) := (List.mergeSort_perm _ _).symm.pairwise hnd (fun h e => h e.symm); have hne := (List.pairwise_iff_getElem.1 hnd2) k (k + 1) (by omega) hk (by omega); simp at hle; omega
theorem prg_ok {f : Fil} {m : Msg} (hm : msgN f m = 0) : PrgOk f.msgs.length (prgN f m) := by
 obtain ⟨h1, _, _, h4⟩ := msgN_ok hm; (have hl : (prgN f m).length = m.fields.length := by unfold prgN numsN; simp); refine ⟨by omega, fun s hs => ?_, fun k hk => ?_⟩
 · obtain ⟨n, hn, rfl⟩ := List.mem_map.1 hs; obtain ⟨hx, _⟩ := nums_fld hn; obtain ⟨i, hi, e⟩ := List.getElem_of_mem hx; rw [← e]; obtain ⟨a1, a2, _, _, a5⟩ := fieldN_ok (h4 i hi); exact step_ok a1 a2 a5
 · unfold prgN at hk ⊢; rw [List.length_map] at hk; have h := nums_rise h4 k hk; have e1 := (nums_fld (List.getElem_mem (show k < (numsN m).length by omega))).2; have e2 := (nums_fld (List.getElem_mem hk)).2; simp only [List.getElem_map]; show (fldM m (numsN m)[k]).number < (fldM m (numsN m)[k + 1]).number; rw [e1, e2]; exact h
def numPr (kind : Int) (n : Nat) : List UInt8 := if howC kind = 0 then Lib.uvarint (toldC kind n) else if howC kind = 1 then lowB 8 (toldC kind n) else lowB 4 (toldC kind n)
theorem rec1_num {x : Fld} (n : Nat) (h : howC x.kind ≠ 2) : rec1 x n = tagB x.number.toNat (howC x.kind).toNat ++ numPr x.kind n := by
 unfold rec1 oneB numPr; rcases howC_three h with e | e | e <;> simp [e]
theorem drop_tagR (h : Int) (hh : h = 0 ∨ h = 1 ∨ h = 5) (l : List UInt8) : (tagB (Int.toNat 1) h.toNat ++ l).drop 1 = l := by
 have : (tagB (Int.toNat 1) h.toNat).length = 1 := by
   rcases hh with rfl | rfl | rfl <;> simp [tagB, Lib.uvarint_small]
 rw [List.drop_append_of_le_length (by omega), List.drop_eq_nil_of_le (by omega), List.nil_append]
theorem pack_num {kind : Int} (h : howC kind ≠ 2) (l : List Nat) : packC kind l = l.flatMap (numPr kind) := by
 unfold packC
 congr 1
 funext n
 unfold oneB numPr; show (tagB (Int.toNat 1) (howC kind).toNat ++ _).drop 1 = _; rw [drop_tagR _ (howC_three h)]; rcases howC_three h with e | e | e <;> simp [e]
theorem recS_tag (num : Int) (t : List UInt8) : recS num t = tagB num.toNat 2 ++ Lib.uvarint t.length ++ t := by
 unfold recS oneB; simp
theorem right_nil {f : Fil} {wb : Int → Bod → Int} {x : Fld} {v : Val} (h : wrongVF wb f x v = 0) :
   (howC x.kind ≠ 2 → v.2.2.1 = [] ∧ v.2.2.2 = []) ∧ (howC x.kind = 2 → x.kind ≠ 10 → v.2.1 = [] ∧ v.2.2.2 = []) ∧ (x.kind = 10 → v.2.1 = [] ∧ v.2.2.1 = []) := by
 unfold wrongVF at h; split at h
 · cases h
 rename_i h1; (have hc : (countN x.kind v).2 = true := by simpa using h1); clear h1 h; unfold countN at hc; refine ⟨fun g => ?_, fun g g2 => ?_, fun g => ?_⟩
 · unfold howC at g; rw [if_neg (fun e => g (by rcases e with e | e <;> rw [e] <;> decide)), if_neg (fun e => g (by rw [e]; decide))] at hc; simp only [beq_iff_eq] at hc; exact ⟨List.eq_nil_of_length_eq_zero (by omega), List.eq_nil_of_length_eq_zero (by omega)⟩
 · have e : x.kind = 8 ∨ x.kind = 9 := by
     unfold howC at g; split at g
     · cases g
     split at g
     · cases g
     split at g
     · omega
     · cases g
   rw [if_pos e] at hc; simp only [beq_iff_eq] at hc; exact ⟨List.eq_nil_of_length_eq_zero (by omega), List.eq_nil_of_length_eq_zero (by omega)⟩
 · rw [if_neg (by omega), if_pos g] at hc; simp only [beq_iff_eq] at hc; exact ⟨List.eq_nil_of_length_eq_zero (by omega), List.eq_nil_of_length_eq_zero (by omega)⟩
theorem add_bits {sub : Bod → List UInt8} {f : Fil} {wb : Int → Bod → Int} {x : Fld} {v : Val} (h : wrongVF wb f x v = 0) (h2 : howC x.kind ≠ 2) (hm : x.many = false) : (valRecs sub x v).flatMap oneB = v.2.1.flatMap (rec1 x) := by
 obtain ⟨e1, e2⟩ := (right_nil h).1 h2; (rw [val_flat _ _ _ (fun g => by rw [hm] at g; cases g.1), e1, e2]); simp
theorem add_pack {sub : Bod → List UInt8} {x : Fld} {v : Val} (h2 : howC x.kind ≠ 2) (hm : x.many = true) : (valRecs sub x v).flatMap oneB = recS x.number (v.2.1.flatMap (numPr x.kind)) := by
 rw [val_pack _ _ _ ⟨hm, h2⟩, pack_num h2]
theorem add_blob {sub : Bod → List UInt8} {f : Fil} {wb : Int → Bod → Int} {x : Fld} {v : Val} (h : wrongVF wb f x v = 0) (h2 : howC x.kind = 2) (h10 : x.kind ≠ 10) : (valRecs sub x v).flatMap oneB = v.2.2.1.flatMap (recS x.number) := by
 obtain ⟨e1, e2⟩ := (right_nil h).2.1 h2 h10; rw [val_flat _ _ _ (fun g => g.2 h2), e1, e2]; simp
theorem add_sub {sub : Bod → List UInt8} {f : Fil} {wb : Int → Bod → Int} {x : Fld} {v : Val} (h : wrongVF wb f x v = 0) (h10 : x.kind = 10) : (valRecs sub x v).flatMap oneB = v.2.2.2.flatMap (fun s => recS x.number (sub s)) := by
 obtain ⟨e1, e2⟩ := (right_nil h).2.2 h10; rw [val_flat _ _ _ (fun g => g.2 (by rw [h10]; decide)), e1, e2]; simp
def stepAt (f : Fil) (k : Nat) (m : Msg) (l : List Val) (n : Int) : List UInt8 := match findV l n with | none => [] | some v => valG f k m v
theorem nums_pw {f : Fil} {m : Msg} (hm : msgN f m = 0) : (numsN m).Pairwise (· < ·) := by
 have h := (msgN_ok hm).2.2.2; have hs : (numsN m).Pairwise (fun x y => decide (x ≤ y) = true) := List.pairwise_mergeSort (fun a b c h1 h2 => by simp at *; omega) (fun a b => by simp; omega) _
 have hnd : (m.fields.map (·.number)).Pairwise (· ≠ ·) := by
   rw [List.pairwise_iff_getElem]; intro i j hi hj hij; simp only [List.length_map] at hi hj; simp only [List.getElem_map]; obtain ⟨_, _, _, h4, _⟩ := fieldN_ok (h j hj); exact h4 _ (List.mem_iff_getElem.2 ⟨i, by simp; omega, by simp⟩)
 have hnd2 : (numsN m).Pairwise (· ≠ ·) := (List.mergeSort_perm _ _).symm.pairwise hnd (fun h e => h e.symm); exact (hs.and hnd2).imp (fun ⟨h1, h2⟩ => by simp at h1; omega)
theorem steps_raw {f : Fil} {k : Nat} {m : Msg} {b : Bod} (hm : msgN f m = 0) (h : wrongBF (wrongVF (wrongB f k) f) m b = 0) : (numsN m).flatMap (stepAt f k m b.values) = b.values.flatMap (valG f k m) := by
 have ho := okV_right h; refine nums_flat (valG f k m) (numsN m) b.values (nums_pw hm) ho.1 (fun v hv => ?_)
 have hvals : ∃ x, fldN m.fields v.1 = some x ∧ wrongVF (wrongB f k) f x v = 0 := by
   exact valsN_ok _ _ _ none [] (wrongBF_zero h).1 v hv
 obtain ⟨x, hx, _⟩ := hvals; have h1 := List.mem_of_find?_eq_some hx; have h2 := List.find?_some hx; unfold numsN; exact List.mem_mergeSort.2 (List.mem_map.2 ⟨x, h1, by simpa using h2⟩)
theorem step_at {f : Fil} {k : Nat} {m : Msg} {b : Bod} (hm : msgN f m = 0) (h : wrongBF (wrongVF (wrongB f k) f) m b = 0) {n : Int} (hn : n ∈ numsN m) :
   (fldM m n).number = n ∧ 1 ≤ n ∧ n < 536870912 ∧ typedN f (fldM m n) = 0 ∧ (findV b.values n = none ∨ ∃ v, findV b.values n = some v ∧ wrongVF (wrongB f k) f (fldM m n) v = 0 ∧ valG f k m v = (valRecs (fun s => rawB f k (msgI f (fldM m n).type) s) (fldM m n) v).flatMap oneB) := by
 obtain ⟨h1, h2⟩ := nums_fld hn; obtain ⟨i, hi, e⟩ := List.getElem_of_mem h1; have hf := field_facts ((msg_field hm).2.2 i hi); rw [e] at hf; rw [h2] at hf; refine ⟨h2, hf.1, hf.2.1, hf.2.2.2.1, ?_⟩
 cases hv : findV b.values n with
 | none => exact .inl rfl
 | some v =>
   right; have hv1 := List.mem_of_find?_eq_some hv; have hv2 : v.1 = n := by have := List.find?_some hv; simpa using this
   have hvals : ∃ x, fldN m.fields v.1 = some x ∧ wrongVF (wrongB f k) f x v = 0 := by
     exact valsN_ok _ _ _ none [] (wrongBF_zero h).1 v hv1
   obtain ⟨x, hx, hw⟩ := hvals
   have hxx : fldM m n = x := by
     unfold fldM; rw [hv2] at hx; rw [show m.fields.find? (fun x => x.number == n) = some x from hx]; rfl
   refine ⟨v, rfl, by rw [hxx]; exact hw, ?_⟩; unfold valG; rw [hx, hxx]
set_option maxRecDepth 100000
open Lib (hid)
theorem lit_news (w : World) (cs : Array Value) (t : TypeId) : ∀ ad, some (⟨w.heap.size, 0, none⟩ : Addr) = some ad → ∀ j u, cs.toList[j]? = some u → (w.alloc (.cells cs t)).cell? (ad.add j) = some u := by
 intro ad h j u hu; obtain rfl := Option.some.inj h; (have hadd : ((⟨w.heap.size, 0, none⟩ : Addr).add j) = ⟨w.heap.size, j, none⟩ := by unfold Addr.add; split <;> simp_all); rw [hadd, cell_of_row (w.alloc (.cells cs t)) w.heap.size j cs t (0, 0) (heap_alloc_new w _)]; simpa using hu
theorem keep_lt {w a c : World} (h : Up w a) (k : Up w c) : Keep (Lt w) a (Lt w) c := fun b hb _ => ⟨(k.block b hb).trans (h.block b hb).symm, hb⟩
theorem u8_low (n : Nat) : (n.toUInt8.toNat : Int) = (n : Int) % 256 := by
 show ((n % 256 : Nat) : Int) = _; omega
theorem low4 (n : Nat) : B8 (lowB 4 n) = [.int .u8 ((n : Int) % 256), .int .u8 ((n : Int) / 256 % 256), .int .u8 ((n : Int) / 65536 % 256), .int .u8 ((n : Int) / 16777216 % 256)] := by
 simp [B8, lowB, Int.ediv_ediv_of_nonneg]
theorem low8 (n : Nat) (hn : n < 18446744073709551616) : B8 (lowB 8 n) = [.int .u8 ((n : Int) % 256), .int .u8 ((n : Int) / 256 % 256), .int .u8 ((n : Int) / 65536 % 256), .int .u8 ((n : Int) / 16777216 % 256), .int .u8 ((n : Int) / 4294967296 % 256), .int .u8 ((n : Int) / 1099511627776 % 256), .int .u8 ((n : Int) / 281474976710656 % 256), .int .u8 ((n : Int) / 72057594037927936)] := by
 (have h : (n : Int) / 72057594037927936 = (n : Int) / 72057594037927936 % 256 := by omega); rw [h]; simp [B8, lowB, Int.ediv_ediv_of_nonneg]
set_option maxHeartbeats 1600000 in
theorem num_c (base : Nat) (v : Value) (l : List UInt8) (kind : Int) (n b o : Nat) (w : World) (hk : howC kind ≠ 2) (hn : n < 18446744073709551616) (hl : l.length ≤ 1099511627776 - 100) (h2 : w.cell? ⟨b, o + 2, none⟩ = some (.int .i64 (howC kind))) (h3 : w.cell? ⟨b, o + 3, none⟩ = some (.int .i64 kind))
   (hown : w.ownsRow base 5 1 v l.length (B8 l)) (hb : base ≤ w.heap.size) :
   Calls Tryz.prog 116 #[v, .pointer (some ⟨b, o, none⟩), .int .u64 n] w fun e w' => ∃ v', e = .returned v' ∧ w'.ownsRow base 5 1 v' (l ++ numPr kind n).length (B8 (l ++ numPr kind n)) ∧ Evo w w' v v' := by
 have Hown := hid hown; obtain ⟨ab, cb, rfl⟩ := own_val hown; clear hown
 by_cases k2 : kind = 2
 · subst k2; (have h0 : -9223372036854775808 ≤ sgn n ∧ sgn n ≤ 9223372036854775807 := by unfold sgn; split <;> omega); have e : numPr 2 n = Lib.uvarint (Lib.zigzag (sgn n)) := rfl; rw [e]; have Hf := hid (fold_any (sgn n) w h0.1 h0.2); have Hs := hid (sgn_wrap n hn); have Hz := hid (Lib.zigzag_lt h0.1 h0.2); clear h0 hk
   go_enter Tryz.func116, Tryz.ntmps116
   go_wp2_with (first
     | (go_at_call 31; go_must (rw [Hs.out]; refine Hf.out.mono ?_; rintro e w1 ⟨rfl, rfl⟩))
     | (go_at_call 109; go_must (refine (put_eq base _ l _ (Lib.zigzag (sgn n)) _ rfl Hz.out (by omega) Hown.out hb).mono ?_; rintro e w2 ⟨v2, rfl, how2, hev2⟩)))
   go_ret
   exact ⟨_, rfl, how2, hev2⟩
 (have b2 : (kind == 2) = false := by simpa using k2); (have ht : toldC kind n = n := by unfold toldC; rw [if_neg k2]); rcases howC_three hk with e | e | e
 · (have e2 : numPr kind n = Lib.uvarint n := by unfold numPr; rw [if_pos e, ht]); rw [e2]; rw [e] at h2; clear e e2 ht hk k2
   go_enter Tryz.func116, Tryz.ntmps116
   go_wp2_with (go_at_call 109; go_must (refine (put_eq base _ l _ n _ rfl hn (by omega) Hown.out hb).mono ?_; rintro e w2 ⟨v2, rfl, how2, hev2⟩))
   go_ret
   exact ⟨_, rfl, how2, hev2⟩
 · (have e2 : numPr kind n = lowB 8 n := by unfold numPr; rw [if_neg (by rw [e]; decide), if_pos e, ht]); rw [e2]; rw [e] at h2; have Hlow := hid (low8 n hn); clear e e2 ht hk k2
   go_enter Tryz.func116, Tryz.ntmps116
   go_wp2_with (at_builtin; go_must (refine wpList_app eU8 _ (by rfl) _ _ (by rfl) base _ l.length _ (by rfl) (Hown.out.alloc _) (some ⟨w.heap.size, 0, none⟩) 8 8 (by rfl) (B8 (lowB 8 n)) (by rw [Hlow.out]; rfl) (fun h => nomatch h) (by rw [Hlow.out]; exact lit_news w _ _) (B8_one _) (by omega) (by unfold maxLen; omega) (by simp; omega) ?_; intro v3 w3 how3 hev3))
   go_ret
   exact ⟨_, rfl, by rw [B8_append, List.length_append, lowB_length]; exact how3, Evo.of_alloc hev3⟩
 · (have e2 : numPr kind n = lowB 4 n := by unfold numPr; rw [if_neg (by rw [e]; decide), if_neg (by rw [e]; decide), ht]); rw [e2]; rw [e] at h2; have Hlow := hid (low4 n); clear e e2 ht hk k2
   go_enter Tryz.func116, Tryz.ntmps116
   go_wp2_with (at_builtin; go_must (refine wpList_app eU8 _ (by rfl) _ _ (by rfl) base _ l.length _ (by rfl) (Hown.out.alloc _) (some ⟨w.heap.size, 0, none⟩) 4 4 (by rfl) (B8 (lowB 4 n)) (by rw [Hlow.out]; rfl) (fun h => nomatch h) (by rw [Hlow.out]; exact lit_news w _ _) (B8_one _) (by omega) (by unfold maxLen; omega) (by simp; omega) ?_; intro v3 w3 how3 hev3))
   go_ret
   exact ⟨_, rfl, by rw [B8_append, List.length_append, lowB_length]; exact how3, Evo.of_alloc hev3⟩
set_option maxHeartbeats 1600000 in
theorem blob_c (base : Nat) (v : Value) (l m : List UInt8) (vb : Value) (n : Int) (b o : Nat) (w : World) (n0 : 0 ≤ n) (n1 : n < 536870912) (hl : l.length + m.length ≤ 1099511627776 - 8200) (h1 : w.cell? ⟨b, o + 1, none⟩ = some (.int .i64 n)) (hv : RdB (Av v) w vb m)
   (hown : w.ownsRow base 5 1 v l.length (B8 l)) (hb : base ≤ w.heap.size) :
   Calls Tryz.prog 117 #[v, .pointer (some ⟨b, o, none⟩), vb] w fun e w' => ∃ v', e = .returned v' ∧ w'.ownsRow base 5 1 v' (l ++ recS n m).length (B8 (l ++ recS n m)) ∧ Evo w w' v v' := by
 obtain ⟨ao, cap, rfl, hc1, hc2⟩ := hv.val; rw [show l ++ recS n m = l ++ tagB n.toNat 2 ++ Lib.uvarint m.length ++ m by rw [recS_tag]; simp only [List.append_assoc]]; have Hv := hid hv; have Hown := hid hown; clear hv hown; have htl := tagB_length n.toNat 2 (by omega) (by omega)
 go_enter Tryz.func117, Tryz.ntmps117
 (go_wp2_with fail); refine (tag_own base v l n 2 _ n0 n1 (by omega) (by omega) (by omega) Hown.out hb).mono ?_; rintro e w1 ⟨v1, rfl, how1, hev1⟩; have hs1 : base ≤ w1.heap.size := Nat.le_trans hb hev1.grown.size; (have hlt : (l ++ tagB n.toNat (Int.toNat 2)).length + m.length ≤ 1099511627776 - 8195 := by simp only [List.length_append]; have : Int.toNat 2 = 2 := rfl; rw [this]; omega); have Hlt := hid hlt; have How1 := hid how1; have Hev1 := hid hev1; clear how1 hev1 hlt htl; (go_wp2_with fail); refine (put_eq base v1 _ _ m.length _ (by first | rfl | (rw [IntKind.wrap_u64]; omega)) (by omega) (by have := Hlt.out; omega) How1.out hs1).mono ?_; rintro e w2 ⟨v2, rfl, how2, hev2⟩; have hs2 : base ≤ w2.heap.size := Nat.le_trans hs1 hev2.grown.size; have Hrd2 := hid (RdB.news (Hv.out.keep stable_u8 (Keep.evo (Hev1.out.trans hev2))))
 have hsum : (l ++ tagB n.toNat (Int.toNat 2) ++ Lib.uvarint m.length).length + m.length ≤ 1099511627776 + 100 := by
   have h1 := Hlt.out; have h2 := Lib.uvarint_length64 (x := m.length) (by omega); rw [List.length_append]; omega
 have How2 := hid how2; have Hev2 := hid hev2; have Hsum := hid hsum; clear how2 hev2 hsum
 go_wp2_with (first
   | (at_builtin; go_must (refine wpList_app eU8 _ (by rfl) _ _ (by rfl) base v2 _ _ (by rfl) How2.out ao m.length cap (by rfl) (B8 m) (by simp [B8]) (Hrd2.out.2.1) (Hrd2.out.2.2) (B8_one _) (by have := Hsum.out; omega) (by have := Hsum.out; unfold maxLen; omega) (by omega) ?_; intro v3 w3 how3 hev3; have How3 := hid how3; have Hev3 := hid hev3; clear how3 hev3)))
 go_ret
 refine ⟨_, rfl, ?_, Hev1.out.trans (Hev2.out.trans Hev3.out)⟩; rw [List.length_append, B8_append]; exact How3.out
end Go.Proofs.YtbceapeoknngnaaGreatDoor
