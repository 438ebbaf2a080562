/-
  How long what is read is, written again, in plain Lean.
  What is read, written again, is not too long for the walk; in plain Lean.
  What nobody knows is kept, in plain Lean.
  The codec's turns, in plain Lean.
  Steps in rising turn, and a body's values: in plain Lean.
  What a file's programs are, in plain Lean.
  What a right file has, in plain Lean.
-/
import Derived.Test.YtbceapeoknngnaaGreatDoorTx23
set_option linter.unusedVariables false
namespace Go.Proofs.YtbceapeoknngnaaGreatDoor
open Go.RowKit
def wgtV (wb : Bod → Nat) (v : Val) : Nat := 25 * v.2.1.length + ((v.2.2.1.map fun t => t.length + 25).sum + (v.2.2.2.map fun s => wb s + 25).sum)
def wgtU (l : List Rec) : Nat := (l.map fun r => r.bytes.length + 25).sum
def wgt : Nat → Bod → Nat
 | 0, _ => 0
 | k + 1, b => (b.values.map (wgtV (wgt k))).sum + wgtU b.unknown
theorem sum_append (l r : List Nat) : (l ++ r).sum = l.sum + r.sum := by
 induction l with
 | nil => simp
 | cons a l ih => simp only [List.cons_append, List.sum_cons, ih]; omega
theorem sum_mem (g : Val → Nat) {l : List Val} {v : Val} (h : v ∈ l) : g v ≤ (l.map g).sum := by
 induction l with
 | nil => cases h
 | cons a l ih =>
   rw [List.map_cons, List.sum_cons]; rcases List.mem_cons.1 h with rfl | h
   · omega
   · have := ih h; omega
end Go.Proofs.YtbceapeoknngnaaGreatDoor
namespace Go.Proofs.YtbceapeoknngnaaGreatDoor
open Go.RowKit Go.Lib
theorem uv10 {n : Nat} (h : n < 18446744073709551616) : (uvarint n).length ≤ 10 := uvarint_length64 h
theorem howC_three {k : Int} (h : howC k ≠ 2) : howC k = 0 ∨ howC k = 1 ∨ howC k = 5 := by
 unfold howC at h ⊢; split
 · exact .inr (.inl rfl)
 · rename_i h6; rw [if_neg h6] at h; split
   · exact .inr (.inr rfl)
   · rename_i h7; rw [if_neg h7] at h; split
     · rename_i h8; rw [if_pos h8] at h; exact absurd rfl h
     · exact .inl rfl
theorem sum_25 : ∀ l : List Nat, (l.map fun _ => 25).sum = 25 * l.length
 | [] => rfl
 | a :: l => by rw [List.map_cons, List.sum_cons, sum_25 l, List.length_cons]; omega
theorem sized_len {num : Int} {t : List UInt8} (n1 : 1 ≤ num) (n2 : num < 536870912) (h : t.length < 18446744073709551616) : (oneB ⟨num, 2, 0, t⟩).length ≤ t.length + 15 := by
 have h1 := tagB_length num.toNat (2 : Int).toNat (by omega) (by decide); have h2 := uv10 h; unfold oneB; show (tagB num.toNat (2 : Int).toNat ++ (if (2 : Int) = 0 then _ else if (2 : Int) = 1 then _ else if (2 : Int) = 5 then _ else uvarint t.length ++ t)).length ≤ _; rw [if_neg (by decide), if_neg (by decide), if_neg (by decide), List.length_append, List.length_append]; show (tagB num.toNat (2 : Int).toNat).length + ((uvarint t.length).length + t.length) ≤ _; omega
theorem num_len {k : Int} {num : Int} {n : Nat} (n1 : 1 ≤ num) (n2 : num < 536870912) (hk : howC k ≠ 2) (h : n < 18446744073709551616) : (oneB ⟨num, howC k, n, []⟩).length ≤ 15 := by
 have hh := howC_three hk; unfold oneB; show (tagB num.toNat (howC k).toNat ++ if howC k = 0 then uvarint n else if howC k = 1 then lowB 8 n else if howC k = 5 then lowB 4 n else _).length ≤ 15; rw [List.length_append]; have h2 := uv10 h; rcases hh with e | e | e
 · rw [e, if_pos rfl]; have h1 := tagB_length num.toNat (0 : Int).toNat (by omega) (by decide); omega
 · rw [e, if_neg (by decide), if_pos rfl, lowB_length]; have h1 := tagB_length num.toNat (1 : Int).toNat (by omega) (by decide); omega
 · rw [e, if_neg (by decide), if_neg (by decide), if_pos rfl, lowB_length]; have h1 := tagB_length num.toNat (5 : Int).toNat (by omega) (by decide); omega
theorem flat_sum {α : Type} (g : α → List UInt8) (h : α → Nat) : ∀ (l : List α), (∀ a ∈ l, (g a).length ≤ h a) → (l.flatMap g).length ≤ (l.map h).sum
 | [], _ => Nat.le_refl _
 | a :: l, hl => by
   rw [List.flatMap_cons, List.length_append, List.map_cons, List.sum_cons]; have h1 := hl a List.mem_cons_self; have h2 := flat_sum g h l (fun b hb => hl b (List.mem_cons_of_mem _ hb)); omega
theorem pack_len {k : Int} (hk : howC k ≠ 2) : ∀ (l : List Nat), (∀ n ∈ l, n < 18446744073709551616) → (packC k l).length ≤ 10 * l.length
 | [], _ => Nat.le_refl _
 | n :: l, h => by
   have e : packC k (n :: l) = (oneB ⟨1, howC k, toldC k n, []⟩).drop 1 ++ packC k l := rfl; have hh := howC_three hk; have h10 := uv10 (told_64 (k := k) (h n List.mem_cons_self))
   have h1 : ((oneB ⟨1, howC k, toldC k n, []⟩).drop 1).length ≤ 10 := by
     rw [drop_tag _ _ hh]; split
     · exact h10
     · split
       · rw [lowB_length]; decide
       · rw [lowB_length]; decide
   rw [e, List.length_append, List.length_cons]; have h2 := pack_len hk l (fun b hb => h b (List.mem_cons_of_mem _ hb)); omega
theorem sum_memB (g : Bod → Nat) {l : List Bod} {v : Bod} (h : v ∈ l) : g v ≤ (l.map g).sum := by
 induction l with
 | nil => cases h
 | cons a l ih =>
   rw [List.map_cons, List.sum_cons]; rcases List.mem_cons.1 h with rfl | h
   · omega
   · have := ih h; omega
theorem val_wgt {wb : Int → Bod → Int} {f : Fil} {x : Fld} {v : Val} {sub : Bod → List UInt8} {ws : Bod → Nat} (n1 : 1 ≤ x.number) (n2 : x.number < 536870912) (ht : typedN f x = 0) (hv : FitV wb f x v) (h60 : (countN x.kind v).1 ≤ 60) (h64 : Num64 v) (hs : ∀ s ∈ v.2.2.2, (sub s).length ≤ ws s) (hz : wgtV ws v < 18446744073709551616) :
   ((valRecs sub x v).flatMap oneB).length ≤ wgtV ws v := by
 obtain ⟨t1, t2, _, _⟩ := typed_facts ht; have hcnt := count_sum hv.cnt; have hone := hv.one; have hsh := fit_shape hv t1 t2; have htx := hv.texts; obtain ⟨n, b, y, s⟩ := v; simp only at h64 hs hsh htx hcnt; rcases hsh with ⟨g, g7, e, hne, hal⟩ | ⟨g, g8, e, hne, hal⟩ | ⟨g, g8, e, hne, hal⟩
 · simp only [Prod.mk.injEq, true_and] at e; obtain ⟨rfl, rfl⟩ := e; have ew : wgtV ws (n, b, [], []) = 25 * b.length := rfl; rw [ew] at hz ⊢; have hb1 : 1 ≤ b.length := List.length_pos_iff.2 hne
   cases hm : x.many with
   | true =>
     (have e2 : valRecs sub x (n, b, [], []) = [⟨x.number, 2, 0, packC x.kind b⟩] := by unfold valRecs; rw [if_pos ⟨hm, g⟩]); rw [e2, List.flatMap_cons, List.flatMap_nil, List.append_nil]; have h1 := pack_len g b h64; have h2 := sized_len (t := packC x.kind b) n1 n2 (by omega); omega
   | false =>
     (have e2 : valRecs sub x (n, b, [], []) = b.map fun q => ⟨x.number, howC x.kind, toldC x.kind q, []⟩ := by unfold valRecs; rw [if_neg (by rw [hm]; simp)]; simp); rw [e2, List.flatMap_map]; have := flat_sum (fun q => oneB ⟨x.number, howC x.kind, toldC x.kind q, []⟩) (fun _ => 25) b (fun q hq => Nat.le_trans (num_len n1 n2 g (told_64 (h64 q hq))) (by omega)); rw [sum_25] at this; omega
 · simp only [Prod.mk.injEq, true_and] at e; obtain ⟨rfl, rfl⟩ := e; (have e2 : valRecs sub x (n, [], y, []) = y.map fun t => ⟨x.number, 2, 0, t⟩ := by unfold valRecs; rw [if_neg (by rintro ⟨_, h⟩; exact h g)]; simp); have ew : wgtV ws (n, [], y, []) = 25 * 0 + ((y.map fun t => t.length + 25).sum + 0) := rfl; rw [e2, List.flatMap_map]
   have := flat_sum (fun t => oneB ⟨x.number, 2, 0, t⟩) (fun t => t.length + 25) y (fun t ht => by
     have h4 : t.length ≤ 4000 := by
       have := htx t ht; unfold byteN at this; split at this
       · cases this
       · omega
     have := sized_len (t := t) n1 n2 (by omega); omega)
   rw [ew]; omega
 · simp only [Prod.mk.injEq, true_and] at e; obtain ⟨rfl, rfl, _⟩ := e; (have e2 : valRecs sub x (n, [], [], s) = s.map fun t => ⟨x.number, 2, 0, sub t⟩ := by unfold valRecs; rw [if_neg (by rintro ⟨_, h⟩; exact h g)]; simp); have ew : wgtV ws (n, [], [], s) = 25 * 0 + (0 + (s.map fun t => ws t + 25).sum) := rfl; rw [ew] at hz ⊢; rw [e2, List.flatMap_map]; have hsm : ∀ t ∈ s, ws t + 25 ≤ (s.map fun t => ws t + 25).sum := fun t ht => sum_memB (fun t => ws t + 25) ht
   have := flat_sum (fun t => oneB ⟨x.number, 2, 0, sub t⟩) (fun t => ws t + 25) s (fun t ht => by
     have h1 := hs t ht; have h2 := hsm t ht; have := sized_len (t := sub t) n1 n2 (by omega); omega)
   omega
theorem raw_wgt {f : Fil} (hright : (wrongN f).1 = 0) : ∀ (k : Nat) (msg : Int) (b : Bod), wrongB f k msg b = 0 → B64 k b → wgt k b < 18446744073709551616 → (rawB f k msg b).length ≤ wgt k b
 | 0, _, _, h, _, _ => by cases h
 | k + 1, msg, b, h, h64, hz => by
   obtain ⟨k', m, e, hm, hb'⟩ := wrongB_zero h; (obtain rfl : k = k' := by omega); have hmr := right_msg hright m (List.mem_of_getElem? hm); have hch : ∀ z ∈ m.fields, 0 ≤ z.choice := fun z hz => (choice_16 hmr hz).1; obtain ⟨hA, uA⟩ := (wrongB_is (k := k) hm hch b).1 h; rw [raw_flat hm, List.length_append]; have ew : wgt (k + 1) b = (b.values.map (wgtV (wgt k))).sum + wgtU b.unknown := rfl; rw [ew] at hz ⊢
   have h1 := flat_sum (valG f k m) (wgtV (wgt k)) b.values (fun v hv => by
     obtain ⟨x, hx, hw⟩ := hA.fld v hv; obtain ⟨hxm, hxn⟩ := fldN_mem hx; obtain ⟨i, hi, e⟩ := List.getElem_of_mem hxm; have hff := field_facts ((msg_field hmr).2.2 i hi); rw [e] at hff; obtain ⟨g1, g2, g3⟩ := wrongVF_iff.1 hw; have hle := sum_mem (wgtV (wgt k)) hv; unfold valG; rw [hx]; simp only; refine val_wgt hff.1 hff.2.1 hff.2.2.2.1 g1 g2 (h64.1 v hv).1 (fun s hs => ?_) (by omega)
     have hws : wgt k s ≤ wgtV (wgt k) v := by
       unfold wgtV; have : wgt k s + 25 ≤ (v.2.2.2.map fun s => wgt k s + 25).sum := sum_memB (fun s => wgt k s + 25) hs; omega
     exact raw_wgt hright k _ s (g1.subs s hs) ((h64.1 v hv).2 s hs) (by omega))
   have h2 := flat_sum oneB (fun r => r.bytes.length + 25) b.unknown (fun r hr => by
     have hu := uA r hr
     have hr0 : wrongRec r = 0 := by
       unfold unkN at hu; apply Classical.byContradiction; intro g; rw [if_pos g] at hu; exact g hu
     obtain ⟨r1, r2, r3, r4, r5⟩ := wrongRec_ok hr0; have h64r := h64.2 r hr; obtain ⟨number, how, bits, bytes⟩ := r; simp only at r1 r2 r3 r4 r5 h64r ⊢; rcases r5 with ⟨rfl, rfl, h4⟩ | ⟨hn, rfl⟩
     · have := sized_len (t := bytes) r1 r2 (by omega); omega
     · have e : (oneB ⟨number, how, bits, []⟩).length ≤ 15 := by
         unfold oneB; show (tagB number.toNat how.toNat ++ if how = 0 then uvarint bits else if how = 1 then lowB 8 bits else if how = 5 then lowB 4 bits else _).length ≤ 15; rw [List.length_append]; have h2 := uv10 h64r; rcases r3 with e | e | e | e
         · rw [e, if_pos rfl]; have h1 := tagB_length number.toNat (0 : Int).toNat (by omega) (by decide); omega
         · rw [e, if_neg (by decide), if_pos rfl, lowB_length]; have h1 := tagB_length number.toNat (1 : Int).toNat (by omega) (by decide); omega
         · rw [e, if_neg (by decide), if_neg (by decide), if_pos rfl, lowB_length]; have h1 := tagB_length number.toNat (5 : Int).toNat (by omega) (by decide); omega
         · exact absurd e hn
       simp only [List.length_nil]; omega)
   have e3 : wgtU b.unknown = (b.unknown.map fun r => r.bytes.length + 25).sum := rfl; omega
end Go.Proofs.YtbceapeoknngnaaGreatDoor
namespace Go.Proofs.YtbceapeoknngnaaGreatDoor
open Go.RowKit
theorem wrongA_four {f : Fil} {msg : Int} {x : Bod} (h : wrongA f msg x = 0) : (wrongN f).1 = 0 ∧ 0 ≤ msg ∧ msg < f.msgs.length ∧ wrongB f 12 msg x = 0 := by
 unfold wrongA at h; split at h
 · contradiction
 rename_i h1; split at h
 · cases h
 · exact ⟨by simpa using h1, by omega, by omega, h⟩
theorem bytesC_ok {f : Fil} {msg : Int} {x : Bod} (h : (bytesC f msg x).2 = 0) : wrongA f msg x = 0 ∧ (bytesC f msg x).1 = rawB f 12 msg x ∧ (rawB f 12 msg x).length ≤ 4000 := by
 unfold bytesC at h ⊢
 by_cases h1 : wrongA f msg x ≠ 0
 · rw [if_pos h1] at h; exact absurd h h1
 · rw [if_neg h1] at h ⊢
   by_cases h2 : 4000 < (rawB f 12 msg x).length
   · rw [if_pos h2] at h; cases h
   · rw [if_neg h2]; exact ⟨by simpa using h1, rfl, by omega⟩
theorem parse_written {f : Fil} {msg : Int} {x : Bod} (h : (bytesC f msg x).2 = 0) (h64 : B64 12 x) : parseA f msg (bytesC f msg x).1 = (x, 0) := by
 obtain ⟨h1, h2, h3⟩ := bytesC_ok h; obtain ⟨g1, g2, g3, g4⟩ := wrongA_four h1; rw [h2]; unfold parseA; rw [if_neg (by rw [g1]; simp), if_neg (by omega), read_raw g1 12 (Nat.le_refl _) msg x g2 g3 g4 h64 h3]
theorem nums_flat {β : Type} (g : Val → List β) : ∀ (N : List Int) (l : List Val), N.Pairwise (· < ·) → RisingV l → (∀ v ∈ l, v.1 ∈ N) → (N.flatMap fun n => match findV l n with | none => [] | some v => g v) = l.flatMap g
 | [], l, _, _, h => by
   (have : l = [] := List.eq_nil_iff_forall_not_mem.2 (fun v hv => by have := h v hv; cases this)); rw [this]; rfl
 | n :: N, [], hN, _, _ => by
   have h0 : ∀ k : Int, findV [] k = none := fun k => rfl
   induction (n :: N) with
   | nil => rfl
   | cons a M ih => rw [List.flatMap_cons, ih, h0]; rfl
 | n :: N, v :: l, hN, hl, h => by
   obtain ⟨hn1, hn2⟩ := List.pairwise_cons.1 hN; obtain ⟨hv1, hv2⟩ := List.pairwise_cons.1 hl; rw [List.flatMap_cons]
   have hcong : ∀ (N' : List Int) (l1 l2 : List Val), (∀ k ∈ N', findV l1 k = findV l2 k) → (N'.flatMap fun n => match findV l1 n with | none => [] | some v => g v) = (N'.flatMap fun n => match findV l2 n with | none => [] | some v => g v) := by
     intro N' l1 l2 hh
     induction N' with
     | nil => rfl
     | cons a M ih => rw [List.flatMap_cons, List.flatMap_cons, hh a List.mem_cons_self, ih (fun k hk => hh k (List.mem_cons_of_mem _ hk))]
   by_cases e : v.1 = n
   · (have hf : findV (v :: l) n = some v := by rw [← e]; exact rising_find hl List.mem_cons_self); rw [hf, List.flatMap_cons]
     congr 1
     rw [hcong N (v :: l) l (fun k hk => by
       have := hn1 k hk; unfold findV; rw [List.find?_cons_of_neg (by simp; omega)])]
     exact nums_flat g N l hn2 hv2 (fun u hu => by
       have h1 := h u (List.mem_cons_of_mem _ hu); rcases List.mem_cons.1 h1 with h2 | h2
       · have := hv1 u hu; omega
       · exact h2)
   · (have hvN : v.1 ∈ N := by rcases List.mem_cons.1 (h v List.mem_cons_self) with h2 | h2; exact absurd h2 e; exact h2); have hlt := hn1 _ hvN
     have hf : findV (v :: l) n = none := findV_non (fun u hu => by
       rcases List.mem_cons.1 hu with rfl | hu
       · exact e
       · have := hv1 u hu; omega)
     rw [hf]; show [] ++ _ = _; rw [List.nil_append]
     exact nums_flat g N (v :: l) hn2 hl (fun u hu => by
       rcases List.mem_cons.1 (h u hu) with h2 | h2
       · rcases List.mem_cons.1 hu with rfl | hu
         · exact absurd h2 e
         · have := hv1 u hu; omega
       · exact h2)
structure Stp where
 kind : Int
 number : Int
 how : Int
 field : Int
 next : Int
deriving DecidableEq
def DStp : Lay Stp := fun _ _ s cs => cs = [.int .i64 s.kind, .int .i64 s.number, .int .i64 s.how, .int .i64 s.field, .int .i64 s.next] ∧ okI s.kind ∧ okI s.number ∧ okI s.how ∧ okI s.field ∧ okI s.next
def DPrg : Lay (List Stp) := fun S w p cs => ∃ v, cs = [v] ∧ RdS DStp 5 S w v p
theorem stable_stp : Stable DStp := fun _ _ _ _ _ _ _ h => h
theorem stable_prg : Stable DPrg := stable_rdS stable_stp 5
def howN (k : Int) : Int := if k = 6 then 1 else if k = 7 then 5 else if k = 8 ∨ k = 9 ∨ k = 10 then 2 else 0
def numsN (m : Msg) : List Int := (m.fields.map (·.number)).mergeSort (fun x y => decide (x ≤ y))
def stepX (f : Fil) (x : Fld) : Stp := ⟨if x.kind = 10 then 4 else if howN x.kind = 2 then 3 else if x.many then 2 else 1, x.number, howN x.kind, x.kind, if x.kind = 10 then idxP (fun m => m.name == x.type) f.msgs else -1⟩
def fldM (m : Msg) (n : Int) : Fld := (m.fields.find? (fun x => x.number == n)).getD ⟨[], 0, 0, [], false, 0⟩
def prgN (f : Fil) (m : Msg) : List Stp := (numsN m).map (fun n => stepX f (fldM m n))
def makeN (f : Fil) : List (List Stp) := f.msgs.map (prgN f)
theorem idxP_find {α : Type} (p : α → Bool) : ∀ (l : List α), 0 ≤ idxP p l → ∃ (k : Nat) (h : k < l.length), idxP p l = k ∧ l.find? p = some l[k] ∧ p l[k] = true
 | [], h => by simp [idxP] at h
 | a :: l, h => by
   unfold idxP at h ⊢
   by_cases hp : p a = true
   · exact ⟨0, by simp, by simp [hp], by simp [hp], by simpa using hp⟩
   · rw [if_neg hp] at h ⊢
     by_cases h0 : 0 ≤ idxP p l
     · obtain ⟨k, hk, e1, e2, e3⟩ := idxP_find p l h0; refine ⟨k + 1, by simpa using hk, ?_, ?_, by simpa using e3⟩
       · simp only [e1]; split <;> omega
       · rw [List.find?_cons_of_neg hp]; simpa using e2
     · split at h <;> omega
theorem idxP_mem {α : Type} (p : α → Bool) (l : List α) (a : α) (ha : a ∈ l) (hp : p a = true) : 0 ≤ idxP p l := by
 have := idxP_any p l; have h2 : l.any p = true := List.any_eq_true.2 ⟨a, ha, hp⟩; rw [h2] at this; exact of_decide_eq_true this
theorem firstAt_zeroP : ∀ (l : List Int) (i : Nat), (firstAt i l).1 = 0 → firstAt i l = (0, 0) ∧ ∀ x ∈ l, x = 0
 | [], _, _ => ⟨rfl, fun x hx => by simp at hx⟩
 | a :: l, i, h => by
   by_cases ha : a = 0
   · rw [firstAt, if_neg (by simpa using ha)] at h ⊢; have ih := firstAt_zeroP l (i + 1) h; exact ⟨ih.1, fun x hx => (List.mem_cons.1 hx).elim (fun e => e.trans ha) (ih.2 x)⟩
   · rw [firstAt, if_pos ha] at h; exact absurd h ha
theorem firstN_zeroP : ∀ (l : List Int), firstN l = 0 → ∀ x ∈ l, x = 0
 | [], _ => fun x hx => by simp at hx
 | a :: l, h => by
   by_cases ha : a = 0
   · rw [firstN, if_neg (by simpa using ha)] at h; exact fun x hx => (List.mem_cons.1 hx).elim (fun e => e.trans ha) (firstN_zeroP l h x)
   · rw [firstN, if_pos ha] at h; exact absurd h ha
theorem wrongN_ok {f : Fil} (h : (wrongN f).1 = 0) : wrongN f = (0, 0) ∧ f.msgs.length + f.enums.length ≤ 10 ∧ namesOk f ∧ (∀ m ∈ f.msgs, msgN f m = 0) ∧ ∀ e ∈ f.enums, itemsN e.items = 0 := by
 unfold wrongN at h ⊢
 by_cases h1 : 10 < f.msgs.length + f.enums.length
 · rw [if_pos h1] at h; exact absurd h (by decide)
 rw [if_neg h1] at h ⊢
 by_cases h2 : (firstAt 0 ((hadN f).mapIdx (nameN (hadN f)))).1 ≠ 0
 · rw [if_pos h2] at h; exact absurd h h2
 rw [if_neg h2] at h ⊢
 by_cases h3 : (firstAt 0 (f.msgs.map (msgN f))).1 ≠ 0
 · rw [if_pos h3] at h; exact absurd h h3
 rw [if_neg h3] at h ⊢; have e1 := firstAt_zeroP _ _ (Decidable.not_not.1 h2); have e2 := firstAt_zeroP _ _ (Decidable.not_not.1 h3); have e3 := firstAt_zeroP _ _ h; refine ⟨e3.1, by omega, fun j hj => e1.2 _ ?_, fun m hm => e2.2 _ (List.mem_map.2 ⟨m, hm, rfl⟩), fun e he => e3.2 _ (List.mem_map.2 ⟨e, he, rfl⟩)⟩; exact List.mem_iff_getElem.2 ⟨j, by simpa using hj, by simp⟩
theorem msgN_ok {f : Fil} {m : Msg} (h : msgN f m = 0) : m.fields.length ≤ 16 ∧ m.barred.length ≤ 16 ∧ (∀ n ∈ m.barred, 0 ≤ n ∧ n < 536870912) ∧ ∀ i, (hi : i < m.fields.length) → fieldN f m i m.fields[i] = 0 := by
 unfold msgN at h
 by_cases h1 : 16 < m.fields.length ∨ 16 < m.barred.length
 · rw [if_pos h1] at h; exact absurd h (by decide)
 rw [if_neg h1] at h
 by_cases h2 : m.barred.any (fun n => decide (n < 0 ∨ 536870912 ≤ n)) = true
 · rw [if_pos h2] at h; exact absurd h (by decide)
 rw [if_neg h2] at h; have e := firstN_zeroP _ h; refine ⟨by omega, by omega, fun n hn => ?_, fun i hi => e _ (List.mem_iff_getElem.2 ⟨i, by simpa using hi, by simp⟩)⟩; have h3 : ¬ decide (n < 0 ∨ 536870912 ≤ n) = true := fun h => h2 (List.any_eq_true.2 ⟨n, hn, h⟩); have h4 : ¬ (n < 0 ∨ 536870912 ≤ n) := fun h => h3 (decide_eq_true h); omega
theorem typedN_ok {f : Fil} {x : Fld} (h : typedN f x = 0) : 1 ≤ x.kind ∧ x.kind ≤ 10 ∧ (x.kind = 10 → 0 ≤ idxP (fun m => m.name == x.type) f.msgs) ∧ (x.kind = 5 → 0 ≤ idxP (fun m => m.name == x.type) f.enums) ∧ (x.kind ≠ 10 → x.kind ≠ 5 → x.type = []) ∧ ¬ (0 < x.choice ∧ x.many = true) := by
 unfold typedN at h
 by_cases h1 : x.kind < 1 ∨ 10 < x.kind
 · rw [if_pos h1] at h; exact absurd h (by decide)
 rw [if_neg h1] at h
 by_cases h2 : (x.kind = 10 ∧ idxP (fun m => m.name == x.type) f.msgs < 0) ∨ (x.kind = 5 ∧ idxP (fun m => m.name == x.type) f.enums < 0)
 · rw [if_pos h2] at h; exact absurd h (by decide)
 rw [if_neg h2] at h
 by_cases h3 : (x.kind ≠ 10 ∧ x.kind ≠ 5 ∧ x.type ≠ []) ∨ (0 < x.choice ∧ x.many = true)
 · rw [if_pos h3] at h; exact absurd h (by decide)
 refine ⟨by omega, by omega, fun h => ?_, fun h => ?_, fun h5 h6 => ?_, fun h => h3 (.inr h)⟩
 · by_cases h4 : 0 ≤ idxP (fun m => m.name == x.type) f.msgs
   · exact h4
   · exact absurd (.inl ⟨h, by omega⟩) h2
 · by_cases h4 : 0 ≤ idxP (fun m => m.name == x.type) f.enums
   · exact h4
   · exact absurd (.inr ⟨h, by omega⟩) h2
 · exact Decidable.not_not.1 fun h7 => h3 (.inl ⟨h5, h6, h7⟩)
theorem fieldN_ok {f : Fil} {m : Msg} {i : Nat} {x : Fld} (h : fieldN f m i x = 0) : 1 ≤ x.number ∧ x.number < 536870912 ∧ (∀ n ∈ m.barred, n ≠ x.number) ∧ (∀ y ∈ m.fields.take i, y.number ≠ x.number) ∧ typedN f x = 0 := by
 unfold fieldN at h
 by_cases h1 : (!named x.name || (m.fields.take i).any (fun y => x.name == y.name)) = true
 · rw [if_pos h1] at h; exact absurd h (by decide)
 rw [if_neg h1] at h
 by_cases h2 : x.number < 1 ∨ 536870912 ≤ x.number ∨ (19000 ≤ x.number ∧ x.number < 20000)
 · rw [if_pos h2] at h; exact absurd h (by decide)
 rw [if_neg h2] at h
 by_cases h3 : (m.barred.any (fun n => x.number == n) || (m.fields.take i).any (fun y => x.number == y.number)) = true
 · rw [if_pos h3] at h; exact absurd h (by decide)
 rw [if_neg h3] at h
 by_cases h4 : typedN f x ≠ 0
 · rw [if_pos h4] at h; exact absurd h h4
 refine ⟨by omega, by omega, fun n hn e => h3 ?_, fun y hy e => h3 ?_, Decidable.not_not.1 h4⟩
 · rw [Bool.or_eq_true]; exact .inl (List.any_eq_true.2 ⟨n, hn, by simp [e]⟩)
 · rw [Bool.or_eq_true]; exact .inr (List.any_eq_true.2 ⟨y, hy, by simp [e]⟩)
structure StepOk (n : Nat) (s : Stp) : Prop where
 kind : 1 ≤ s.kind ∧ s.kind ≤ 4
 field : 1 ≤ s.field ∧ s.field ≤ 10
 number : 1 ≤ s.number ∧ s.number < 536870912
 how : s.how = howN s.field
 sized : s.kind ≤ 2 ↔ s.how ≠ 2
 sub : s.kind = 4 ↔ s.field = 10
 next : if s.kind = 4 then 0 ≤ s.next ∧ s.next < n else s.next = -1
def PrgOk (n : Nat) (p : List Stp) : Prop := p.length ≤ 16 ∧ (∀ s ∈ p, StepOk n s) ∧ ∀ k, (h : k + 1 < p.length) → p[k].number < p[k + 1].number
theorem step_ok {f : Fil} {x : Fld} (h1 : 1 ≤ x.number) (h2 : x.number < 536870912) (ht : typedN f x = 0) : StepOk f.msgs.length (stepX f x) := by
 obtain ⟨k1, k2, k3, _, _, _⟩ := typedN_ok ht
 have hk : (x.kind = 10 ∧ howN x.kind = 2) ∨ (x.kind ≠ 10 ∧ howN x.kind = 2) ∨ (x.kind ≠ 10 ∧ howN x.kind ≠ 2) := by
   by_cases h : x.kind = 10
   · exact .inl ⟨h, by rw [h]; rfl⟩
   · by_cases h' : howN x.kind = 2
     · exact .inr (.inl ⟨h, h'⟩)
     · exact .inr (.inr ⟨h, h'⟩)
 rcases hk with ⟨e1, e2⟩ | ⟨e1, e2⟩ | ⟨e1, e2⟩
 · obtain ⟨k, hk, e3, _⟩ := idxP_find _ _ (k3 e1); (have e : stepX f x = ⟨4, x.number, howN x.kind, x.kind, (k : Int)⟩ := by simp [stepX, e1, e3]); rw [e]; exact ⟨by simp, ⟨k1, k2⟩, ⟨h1, h2⟩, rfl, by simp [e2], by simp [e1], by rw [if_pos rfl]; simp only; omega⟩
 · (have e : stepX f x = ⟨3, x.number, howN x.kind, x.kind, -1⟩ := by simp [stepX, e1, e2]); rw [e]; exact ⟨by simp, ⟨k1, k2⟩, ⟨h1, h2⟩, rfl, by simp [e2], by simp [e1], by simp⟩
 · cases hm : x.many
   · (have e : stepX f x = ⟨1, x.number, howN x.kind, x.kind, -1⟩ := by simp [stepX, e1, e2, hm]); rw [e]; exact ⟨by simp, ⟨k1, k2⟩, ⟨h1, h2⟩, rfl, by simp [e2], by simp [e1], by simp⟩
   · (have e : stepX f x = ⟨2, x.number, howN x.kind, x.kind, -1⟩ := by simp [stepX, e1, e2, hm]); rw [e]; exact ⟨by simp, ⟨k1, k2⟩, ⟨h1, h2⟩, rfl, by simp [e2], by simp [e1], by simp⟩
end Go.Proofs.YtbceapeoknngnaaGreatDoor
