/-
  pressref2.WrongValue.
  What is read is right, in plain Lean.
-/
import Derived.Test.YtbceapeoknngnaaGreatDoorUs26
import Derived.Test.YtbceapeoknngnaaGreatDoorUs25
set_option linter.unusedVariables false
namespace Go.Proofs.YtbceapeoknngnaaGreatDoor
open Go.RowKit
theorem countN_no {kind : Int} (h8 : kind ≠ 8) (h9 : kind ≠ 9) (h10 : kind ≠ 10) (v : Val) : countN kind v = (v.2.1.length, v.2.2.1.length + v.2.2.2.length == 0) := by
 unfold countN; rw [if_neg (by omega), if_neg h10]
theorem head_ok {kind : Int} {l : List UInt8} (hk : howC kind ≠ 2) (hl : l ≠ []) (h : (headC (howC kind) l).2.2 = 0) :
   0 < (headC (howC kind) l).2.1 ∧ (headC (howC kind) l).2.1 ≤ l.length ∧ (headC (howC kind) l).1 < 18446744073709551616 ∧ (kind = 7 → (headC (howC kind) l).1 < 4294967296) := by
 have e0 : ∀ L, headC 0 L = get L := fun _ => rfl; have e1 : ∀ L, headC 1 L = if L.length < 8 then (0, 0, 2) else (lowVal (L.take 8), 8, 0) := fun _ => rfl; have e5 : ∀ L, headC 5 L = if L.length < 4 then (0, 0, 2) else (lowVal (L.take 4), 4, 0) := fun _ => rfl
 have hh : (howC kind = 0 ∧ kind ≠ 7) ∨ (howC kind = 1 ∧ kind ≠ 7) ∨ howC kind = 5 := by
   unfold howC at hk ⊢; split
   · exact .inr (.inl ⟨rfl, by omega⟩)
   · split
     · exact .inr (.inr rfl)
     · split
       · rename_i h6 h7 h8; rw [if_neg h6, if_neg h7, if_pos h8] at hk; exact absurd rfl hk
       · exact .inl ⟨rfl, by assumption⟩
 rcases hh with ⟨hh, h7⟩ | ⟨hh, h7⟩ | hh
 · rw [hh, e0] at h ⊢; obtain ⟨g1, g2, g3, g4⟩ := get_ok h; exact ⟨g1, g2, by omega, fun g => absurd g h7⟩
 · rw [hh, e1] at h ⊢
   by_cases g : l.length < 8
   · rw [if_pos g] at h; cases h
   · rw [if_neg g]; have := lowVal_lt (l.take 8); rw [List.length_take, Nat.min_eq_left (by omega)] at this; exact ⟨show 0 < 8 by decide, by simp only; omega, by simp only; omega, fun g => absurd g h7⟩
 · rw [hh, e5] at h ⊢
   by_cases g : l.length < 4
   · rw [if_pos g] at h; cases h
   · rw [if_neg g]; have := lowVal_lt (l.take 4); rw [List.length_take, Nat.min_eq_left (by omega)] at this; exact ⟨show 0 < 4 by decide, by simp only; omega, by simp only; omega, fun _ => by simp only; omega⟩
theorem pack_fits {kind : Int} (h1 : 1 ≤ kind) (h2 : kind ≤ 7) : ∀ (f : Nat) (l : List UInt8), (packP kind f l).2 = 0 → (∀ n ∈ (packP kind f l).1, fitsN kind n = 0 ∧ n < 18446744073709551616) ∧ (packP kind f l).1.length ≤ l.length
 | 0, l, _ => by
   rw [packP]; exact ⟨fun n hn => (by cases hn), Nat.zero_le _⟩
 | f + 1, l, h => by
   rw [packP] at h ⊢
   by_cases hl : l = []
   · rw [if_pos hl]; exact ⟨fun n hn => (by cases hn), Nat.zero_le _⟩
   rw [if_neg hl] at h ⊢
   by_cases hh : (headC (howC kind) l).2.2 = 0
   · (have hk : howC kind ≠ 2 := fun e => by have := howC_two.1 e; omega); obtain ⟨g1, g2, g3, g4⟩ := head_ok hk hl hh; rw [if_neg (by simpa using hh)] at h ⊢; simp only at h ⊢
     by_cases hp : (packP kind f (l.drop (headC (howC kind) l).2.1)).2 = 0
     · obtain ⟨i1, i2⟩ := pack_fits h1 h2 f _ hp; rw [if_neg (by simpa using hp)]; rw [List.length_drop] at i2; refine ⟨fun n hn => ?_, by simp only [List.length_cons]; omega⟩; rcases List.mem_cons.1 hn with rfl | hn
       · exact back_fits h1 h2 g3 g4
       · exact i1 n hn
     · rw [if_pos hp] at h; exact absurd h hp
   · rw [if_pos hh] at h; exact absurd h hh
theorem numbers_fit {x : Fld} {r : Rec} (h1 : 1 ≤ x.kind) (h2 : x.kind ≤ 7) (hr : wrongRec r = 0) (hb : r.bits < 18446744073709551616) (h : (numbersC x r).2 = 0) :
   (∀ n ∈ (numbersC x r).1, fitsN x.kind n = 0 ∧ n < 18446744073709551616) ∧ (x.many = false → (numbersC x r).1.length = 1) ∧ (numbersC x r).1.length ≤ r.bytes.length + 1 := by
 obtain ⟨r1, r2, r3, r4, r5⟩ := wrongRec_ok hr; unfold numbersC at h ⊢
 by_cases hh : r.how = howC x.kind
 · rw [if_pos hh]; refine ⟨fun n hn => ?_, fun _ => rfl, by simp⟩; (obtain rfl : n = backC x.kind r.bits := by simpa using hn); exact back_fits h1 h2 hb (fun h7 => r4 (by rw [hh, h7]; rfl))
 · rw [if_neg hh] at h ⊢
   by_cases hm : r.how ≠ 2 ∨ x.many = false
   · rw [if_pos hm] at h; cases h
   · rw [if_neg hm] at h ⊢; obtain ⟨i1, i2⟩ := pack_fits h1 h2 _ _ h; exact ⟨i1, fun g => absurd (.inr g) hm, by omega⟩
theorem value_fit {wb : Int → Bod → Int} {f : Fil} {rd : List UInt8 → Bod × Int} {x : Fld} {r : Rec} (ht : typedN f x = 0) (hr : wrongRec r = 0) (hb : r.bits < 18446744073709551616)
   (hrd : x.kind = 10 → r.how = 2 → (rd r.bytes).2 = 0 → wb (msgI f x.type) (rd r.bytes).1 = 0) (h0 : (valueC rd x r).2.2 = 0) (h1 : (valueC rd x r).2.1 = true) :
   FitV wb f x (valueC rd x r).1 ∧ (valueC rd x r).1.1 = x.number := by
 obtain ⟨t1, t2, t3, t4⟩ := typed_facts ht; obtain ⟨r1, r2, r3, r4, r5⟩ := wrongRec_ok hr; unfold valueC at h0 h1 ⊢
 by_cases hk : howC x.kind ≠ 2
 · rw [if_pos hk] at h0 h1 ⊢; have hno : ¬ (x.kind = 8 ∨ x.kind = 9 ∨ x.kind = 10) := fun g => hk (howC_two.2 g); obtain ⟨i1, i2, i3⟩ := numbers_fit t1 (by omega) hr hb h0; have hc := countN_no (kind := x.kind) (by omega) (by omega) (by omega) (x.number, (numbersC x r).1, [], []); (have hl : 0 < (numbersC x r).1.length := by simpa using h1); exact ⟨⟨by rw [hc]; rfl, by rw [hc]; exact hl, fun g => by rw [hc]; exact i2 g, fun n hn => (i1 n hn).1, (fun b hb => by cases hb), (fun b hb => by cases hb)⟩, rfl⟩
 · rw [if_neg hk] at h0 h1 ⊢
   by_cases hw : r.how ≠ 2
   · rw [if_pos hw] at h0; cases h0
   · rw [if_neg hw] at h0 h1 ⊢; (have hw : r.how = 2 := by omega); have h4 : r.bytes.length ≤ 4000 := by rcases r5 with h | h; exact h.2.2; exact absurd hw h.1
     by_cases h8 : x.kind = 8
     · rw [if_pos h8] at h0 h1 ⊢
       by_cases hv : Lib.validD r.bytes = false
       · rw [if_pos hv] at h0; cases h0
       · rw [if_neg hv]; (have hc : countN x.kind (x.number, [], [r.bytes], []) = (1, true) := by rw [h8]; rfl); refine ⟨⟨by rw [hc], by rw [hc]; exact Nat.le_refl _, fun _ => by rw [hc], (fun n hn => by cases hn), fun b hb => ?_, (fun n hn => by cases hn)⟩, rfl⟩; (obtain rfl : b = r.bytes := by simpa using hb); unfold byteN; rw [if_neg (by omega), if_neg (by rintro ⟨_, g⟩; exact hv g)]
     · rw [if_neg h8] at h0 h1 ⊢
       by_cases h9 : x.kind = 9
       · rw [if_pos h9]; (have hc : countN x.kind (x.number, [], [r.bytes], []) = (1, true) := by rw [h9]; rfl); refine ⟨⟨by rw [hc], by rw [hc]; exact Nat.le_refl _, fun _ => by rw [hc], (fun n hn => by cases hn), fun b hb => ?_, (fun n hn => by cases hn)⟩, rfl⟩; (obtain rfl : b = r.bytes := by simpa using hb); unfold byteN; rw [if_neg (by omega), if_neg (by rintro ⟨g, _⟩; exact h8 g)]
       · rw [if_neg h9] at h0 h1 ⊢
         have h10 : x.kind = 10 := by
           have := howC_two.1 (Classical.not_not.1 hk); omega
         by_cases hz : (rd r.bytes).2 ≠ 0
         · rw [if_pos hz] at h0; exact absurd h0 hz
         · rw [if_neg hz]; have hz := hrd h10 hw (by simpa using hz); (have hc : countN x.kind (x.number, [], [], [(rd r.bytes).1]) = (1, true) := by rw [h10]; rfl); refine ⟨⟨by rw [hc], by rw [hc]; exact Nat.le_refl _, fun _ => by rw [hc], (fun n hn => by cases hn), (fun n hn => by cases hn), fun b hb => ?_⟩, rfl⟩; (obtain rfl : b = (rd r.bytes).1 := by simpa using hb); exact hz
theorem value_num {rd : List UInt8 → Bod × Int} {x : Fld} {r : Rec} : (valueC rd x r).1.1 = x.number := by
 unfold valueC; split
 · rfl
 split
 · rfl
 split
 · split <;> rfl
 split
 · rfl
 split <;> rfl
theorem readL_right {wb : Int → Bod → Int} {jb : Int → Bod → Bod → Bod} {jn : Int → Bod → Bod → Bod × Int} {f : Fil} {fs : List Fld} (hch : ∀ z ∈ fs, 0 ≤ z.choice) (hty : ∀ z ∈ fs, typedN f z = 0) (hjn : JnOk wb jb jn) (rd : Fld → List UInt8 → Bod × Int)
   (hrd : ∀ x r, wrongRec r = 0 → x ∈ fs → x.kind = 10 → r.how = 2 → (rd x r.bytes).2 = 0 → wb (msgI f x.type) (rd x r.bytes).1 = 0) : ∀ (l : List Rec) (a : Bod), AllV wb f fs a.values → (∀ r ∈ a.unknown, unkN fs r = 0) → (∀ r ∈ l, wrongRec r = 0 ∧ r.bits < 2 ^ 64) →
   (readL (fun x r => valueC (rd x) x r) (addC jn f fs) fs l a).2 = 0 → AllV wb f fs (readL (fun x r => valueC (rd x) x r) (addC jn f fs) fs l a).1.values ∧ ∀ r ∈ (readL (fun x r => valueC (rd x) x r) (addC jn f fs) fs l a).1.unknown, unkN fs r = 0
 | [], a, ha, hu, _, _ => ⟨ha, hu⟩
 | r :: l, a, ha, hu, hr, h => by
   have hr1 := hr r List.mem_cons_self; have hr2 : ∀ r ∈ l, wrongRec r = 0 ∧ r.bits < 2 ^ 64 := fun z hz => hr z (List.mem_cons_of_mem _ hz); rw [readL] at h ⊢
   cases hx : fldN fs r.number with
   | none =>
     rw [hx] at h; simp only at h ⊢
     exact readL_right hch hty hjn rd hrd l _ ha (fun z hz => by
       rcases List.mem_append.1 hz with h | h
       · exact hu z h
       · (obtain rfl : z = r := by simpa using h); unfold unkN; rw [if_neg (by rw [hr1.1]; decide), hx]; rfl) hr2 h
   | some x =>
     rw [hx] at h; simp only at h ⊢; obtain ⟨hxm, hxn⟩ := fldN_mem hx
     by_cases h0 : (valueC (rd x) x r).2.2 = 0
     · rw [if_neg (by simpa using h0)] at h ⊢
       by_cases h1 : (valueC (rd x) x r).2.1 = false
       · rw [if_pos h1] at h ⊢; exact readL_right hch hty hjn rd hrd l _ ha hu hr2 h
       · rw [if_neg h1] at h ⊢; obtain ⟨hf, hn⟩ := value_fit (wb := wb) (hty x hxm) hr1.1 (by have := hr1.2; omega) (hrd x r hr1.1 hxm) h0 (by simpa using h1); (have hx2 : fldN fs (valueC (rd x) x r).1.1 = some x := by rw [hn, hxn]; exact hx); rcases add_ok hjn ha hx2 hf with ⟨g1, g2, g3⟩ | ⟨g1, g2⟩
         · rw [g3] at h ⊢; simp only [ne_eq, not_true_eq_false, if_false] at h ⊢; exact readL_right hch hty hjn rd hrd l (.mk _ _) (set_right hch ha (by rw [bothV_num]; exact hx2) g1 g2) hu hr2 h
         · rw [g2] at h; rw [if_pos (by decide)] at h; cases h
     · rw [if_pos h0] at h; exact absurd h h0
theorem parse_right {l : List UInt8} (h : (parse l).2.1 = 0) : l.length ≤ 4000 ∧ (∀ r ∈ (parse l).1, wrongRec r = 0 ∧ r.bits < 2 ^ 64) ∧ ((parse l).1.flatMap oneB).length ≤ l.length := by
 unfold parse at h ⊢
 by_cases hl : 4000 < l.length
 · rw [if_pos hl] at h; cases h
 · rw [if_neg hl] at h ⊢; exact ⟨by omega, parseG_right _ l (by omega) h (by omega)⟩
theorem field_typed {f : Fil} {m : Msg} (h : msgN f m = 0) : ∀ x ∈ m.fields, typedN f x = 0 := fun x hx => by
 obtain ⟨i, hi, rfl⟩ := List.getElem_of_mem hx; exact (field_facts ((msg_field h).2.2 i hi)).2.2.2.1
theorem wrongB_is {f : Fil} {k : Nat} {msg : Int} {m : Msg} (hm : f.msgs[msg.toNat]? = some m) (hch : ∀ z ∈ m.fields, 0 ≤ z.choice) (b : Bod) : wrongB f (k + 1) msg b = 0 ↔ AllV (wrongB f k) f m.fields b.values ∧ ∀ r ∈ b.unknown, unkN m.fields r = 0 := by
 rw [← allV_iff hch, wrongB, hm]; simp only; constructor
 · exact wrongBF_zero
 · rintro ⟨h1, h2⟩; unfold wrongBF; rw [h1, if_neg (by decide), firstN_all h2]
theorem read_right {f : Fil} (hright : (wrongN f).1 = 0) : ∀ (k : Nat), k ≤ 12 → ∀ (msg : Int) (l : List UInt8), 0 ≤ msg → msg < f.msgs.length → (readC f k msg l).2 = 0 → wrongB f k msg (readC f k msg l).1 = 0
 | 0, _, msg, l, _, _, h => by cases h
 | k + 1, hk, msg, l, h0, h1, h => by
   obtain ⟨mi, rfl⟩ : ∃ mi : Nat, msg = mi := ⟨msg.toNat, by omega⟩; (have hmi : mi < f.msgs.length := by omega); (have hm : f.msgs[(mi : Int).toNat]? = some f.msgs[mi] := by rw [Int.toNat_natCast, List.getElem?_eq_getElem hmi]); have hmr := right_msg hright f.msgs[mi] (List.getElem_mem hmi); have hch : ∀ z ∈ f.msgs[mi].fields, 0 ≤ z.choice := fun z hz => (choice_16 hmr hz).1; rw [wrongB_is hm hch]; rw [readC] at h ⊢
   by_cases hp : (parse l).2.1 = 0
   · rw [if_neg (by simpa using hp)] at h ⊢; rw [hm] at h ⊢; simp only at h ⊢; refine readL_right hch (field_typed hmr) (joinK_ok hright k 12 (by omega)) (fun x bs => readC f k (msgI f x.type) bs) (fun x r hr hx h10 h2 hz => ?_) _ bod0 AllV.nil (fun r hr => by cases hr) (parse_right hp).2.1 h; have hmb := msgI_bd f x.type; have hm0 := (typed_facts (field_typed hmr x hx)).2.2.1 h10; exact read_right hright k (by omega) _ _ hm0 (by omega) hz
   · rw [if_pos hp] at h; exact absurd h hp
end Go.Proofs.YtbceapeoknngnaaGreatDoor
