/-
  How many that nobody knows there are in what is read, in plain Lean.
  Package wire: number, one; slices.Clone of bytes.
  Package wire: one.
-/
import Derived.Test.YtbceapeoknngnaaGreatDoorUs28
set_option linter.unusedVariables false
namespace Go.Proofs.YtbceapeoknngnaaGreatDoor
open Go.RowKit
theorem unk_plus {f : Fil} (hright : (wrongN f).1 = 0) {A B : Nat} : ∀ (k : Nat) (msg : Int) (a b : Bod), wrongB f k msg a = 0 → wrongB f k msg b = 0 → UnkLe A k a → UnkLe B k b → UnkLe (A + B) k (joinB f k msg a b)
 | 0, _, _, _, h, _, _, _ => by cases h
 | k + 1, msg, a, b, ha, hb, na, nb => by
   obtain ⟨k', m, e, hm, ha'⟩ := wrongB_zero ha; (obtain rfl : k = k' := by omega); (have hb' : wrongBF (wrongVF (wrongB f k) f) m b = 0 := by rw [wrongB, hm] at hb; exact hb); have hmr := right_msg hright m (List.mem_of_getElem? hm); have hch : ∀ z ∈ m.fields, 0 ≤ z.choice := fun z hz => (choice_16 hmr hz).1; have oa := okV_right ha'; have ob := okV_right hb'; obtain ⟨ga1, _, _, _⟩ := valsN_zero (wrongBF_zero ha').1; obtain ⟨gb1, _, _, _⟩ := valsN_zero (wrongBF_zero hb').1; (have hla : A ≤ A + B := by omega); (have hlb : B ≤ A + B := by omega); rw [join_vals hm]; refine ⟨?_, fun v hv s hs => ?_⟩
   · show (a.unknown ++ b.unknown).length ≤ _; rw [List.length_append]; have := na.top; have := nb.top; omega
   · have hv' : v ∈ b.values.foldl (joinV (joinB f k) f m.fields) a.values := hv; have hf := rising_find (rising_join oa.ris) hv'; obtain ⟨i1, i2, i3⟩ := find_join (jb := joinB f k) (f := f) hch oa.ris ob v.1
     cases hbv : findV b.values v.1 with
     | some w =>
       obtain ⟨hwm, hwn⟩ := findV_mem hbv; obtain ⟨x, hx, hw, _⟩ := gb1 w hwm; rw [hwn] at hx; rw [i1 w x hbv hx] at hf; rw [← Option.some.inj hf] at hs
       cases hav : findV a.values v.1 with
       | none => rw [hav, both_none] at hs; exact (nb.2 w hwm s hs).mono hlb
       | some o =>
         rw [hav] at hs; obtain ⟨hom, hon⟩ := findV_mem hav; obtain ⟨y, hy, ho, _⟩ := ga1 o hom; rw [hon, hx] at hy; obtain rfl := Option.some.inj hy
         cases hmy : x.many with
         | true =>
           rw [both_many hmy] at hs; rcases List.mem_append.1 hs with h | h
           · exact (na.2 o hom s h).mono hla
           · exact (nb.2 w hwm s h).mono hlb
         | false =>
           by_cases hk : x.kind = 10
           · rw [both_sub hmy hk] at hs; obtain rfl : s = joinB f k (msgI f x.type) (o.2.2.2.headD bod0) (w.2.2.2.headD bod0) := by simpa using hs
             have hd : ∀ {z : Val}, wrongVF (wrongB f k) f x z = 0 → z.2.2.2.headD bod0 ∈ z.2.2.2 ∧ wrongB f k (msgI f x.type) (z.2.2.2.headD bod0) = 0 := fun {z} h => by
               obtain ⟨_, _, _, o4, _, _, _, o8⟩ := wrongVF_zero h; have h1 := one_of (by rw [← count_subs (v := z) hk]; exact o4 hmy); (have h2 : z.2.2.2.headD bod0 ∈ z.2.2.2 := by rw [h1]; simp); exact ⟨h2, o8 _ h2⟩
             exact unk_plus hright k _ _ _ (hd ho).2 (hd hw).2 (na.2 o hom _ (hd ho).1) (nb.2 w hwm _ (hd hw).1)
           · rw [both_last hmy hk] at hs; exact (nb.2 w hwm s hs).mono hlb
     | none =>
       by_cases hg : gone m.fields b.values v.1
       · rw [i2 hbv hg] at hf; cases hf
       · rw [i3 hbv hg] at hf; exact (na.2 v (findV_mem hf).1 s hs).mono hla
theorem unk_add {f : Fil} (hright : (wrongN f).1 = 0) {A B k : Nat} {fs : List Fld} {jn : Int → Bod → Bod → Bod × Int} (hjn : JnOk (wrongB f k) (joinB f k) jn) {b : Bod} (h : AllV (wrongB f k) f fs b.values) {x : Fld} {v : Val} (hx : fldN fs v.1 = some x) (hv : FitV (wrongB f k) f x v)
   (ub : ∀ o ∈ b.values, ∀ s ∈ o.2.2.2, UnkLe A k s) (uv : ∀ s ∈ v.2.2.2, UnkLe B k s) : ∀ o ∈ (addC jn f fs b x v).1.values, ∀ s ∈ o.2.2.2, UnkLe (A + B) k s := by
 (have hla : A ≤ A + B := by omega); (have hlb : B ≤ A + B := by omega); rcases add_ok hjn h hx hv with ⟨g1, g2, g3⟩ | ⟨g1, g2⟩
 · rw [g3]; intro o ho s hs; have ho : o ∈ setV fs b.values (bothV (joinB f k) f x (findV b.values v.1) v) := ho; rcases set_mem ho with ho | rfl
   · exact (ub o ho s hs).mono hla
   · cases hav : findV b.values v.1 with
     | none => rw [hav, both_none] at hs; exact (uv s hs).mono hlb
     | some o =>
       rw [hav] at hs; obtain ⟨hom, hon⟩ := findV_mem hav; obtain ⟨y, hy, ho⟩ := h.fld o hom; rw [hon, hx] at hy; obtain rfl := Option.some.inj hy; have hof := (wrongVF_iff.1 ho).1
       cases hmy : x.many with
       | true =>
         rw [both_many hmy] at hs; rcases List.mem_append.1 hs with h | h
         · exact (ub o hom s h).mono hla
         · exact (uv s h).mono hlb
       | false =>
         by_cases hk : x.kind = 10
         · rw [both_sub hmy hk] at hs; (obtain rfl : s = joinB f k (msgI f x.type) (o.2.2.2.headD bod0) (v.2.2.2.headD bod0) := by simpa using hs); have hos := one_of (by rw [← count_subs (v := o) hk]; exact hof.alone hmy); have hvs := one_of (by rw [← count_subs (v := v) hk]; exact hv.alone hmy); (have m1 : o.2.2.2.headD bod0 ∈ o.2.2.2 := by rw [hos]; simp); (have m2 : v.2.2.2.headD bod0 ∈ v.2.2.2 := by rw [hvs]; simp); exact unk_plus hright k _ _ _ (hof.subs _ m1) (hv.subs _ m2) (ub o hom _ m1) (uv _ m2)
         · rw [both_last hmy hk] at hs; exact (uv s hs).mono hlb
 · rw [g2]; intro o ho; cases ho
theorem unk_none0 (N k : Nat) : UnkLe N k bod0 := by
 cases k with
 | zero => exact Nat.zero_le _
 | succ k => exact ⟨Nat.zero_le _, fun v hv => by cases hv⟩
theorem unk_value {wb : Int → Bod → Int} {rd : List UInt8 → Bod × Int} {x : Fld} {r : Rec} {k : Nat} (h : ∀ l, UnkLe l.length k (rd l).1) : ∀ s ∈ (valueC rd x r).1.2.2.2, UnkLe r.bytes.length k s := by
 unfold valueC; split
 · exact fun s hs => by cases hs
 split
 · exact fun s hs => by cases hs
 split
 · split
   · exact fun s hs => by cases hs
   · exact fun s hs => by cases hs
 split
 · exact fun s hs => by cases hs
 split
 · exact fun s hs => by cases hs
 · intro s hs; (obtain rfl : s = (rd r.bytes).1 := by simpa using hs); exact h _
theorem rec_len {r : Rec} (h : wrongRec r = 0) : r.bytes.length + 1 ≤ (oneB r).length := by
 obtain ⟨r1, r2, r3, r4, r5⟩ := wrongRec_ok h; have hp := oneB_pos r; rcases r5 with ⟨h2, _, _⟩ | ⟨h2, h3⟩
 · unfold oneB; rw [if_neg (by omega), if_neg (by omega), if_neg (by omega), List.length_append, List.length_append]; (have h1 : 0 < (tagB r.number.toNat r.how.toNat).length := List.length_pos_iff.2 (by unfold tagB; unfold Lib.uvarint; split <;> simp)); omega
 · rw [h3]; simp only [List.length_nil]; omega
theorem readL_unkLe {f : Fil} (hright : (wrongN f).1 = 0) {k : Nat} {jn : Int → Bod → Bod → Bod × Int} {fs : List Fld} (hch : ∀ z ∈ fs, 0 ≤ z.choice) (hty : ∀ z ∈ fs, typedN f z = 0) (hjn : JnOk (wrongB f k) (joinB f k) jn) (rd : Fld → List UInt8 → Bod × Int)
   (hrd : ∀ x r, wrongRec r = 0 → x ∈ fs → x.kind = 10 → r.how = 2 → (rd x r.bytes).2 = 0 → wrongB f k (msgI f x.type) (rd x r.bytes).1 = 0) (hu : ∀ x l, UnkLe l.length k (rd x l).1) : ∀ (l : List Rec) (a : Bod) (N : Nat), AllV (wrongB f k) f fs a.values → (∀ r ∈ l, wrongRec r = 0 ∧ r.bits < 2 ^ 64) →
   UnkLe N (k + 1) a → UnkLe (N + (l.flatMap oneB).length) (k + 1) (readL (fun x r => valueC (rd x) x r) (addC jn f fs) fs l a).1
 | [], a, N, ha, _, h => by rw [readL]; exact h.mono (by simp)
 | r :: l, a, N, ha, hr, h => by
   have hr1 := hr r List.mem_cons_self; have hr2 : ∀ r ∈ l, wrongRec r = 0 ∧ r.bits < 2 ^ 64 := fun z hz => hr z (List.mem_cons_of_mem _ hz); have hlen := rec_len hr1.1; (have e : N + ((r :: l).flatMap oneB).length = (N + (oneB r).length) + (l.flatMap oneB).length := by rw [List.flatMap_cons, List.length_append]; omega); rw [e, readL]; have hmono : UnkLe (N + (oneB r).length) (k + 1) a := h.mono (by omega)
   cases hx : fldN fs r.number with
   | none =>
     simp only; refine readL_unkLe hright hch hty hjn rd hrd hu l _ _ ha hr2 ⟨?_, hmono.2⟩; show (a.unknown ++ [r]).length ≤ _; rw [List.length_append]; have := h.1; simp only [List.length_cons, List.length_nil]; omega
   | some x =>
     simp only; obtain ⟨hxm, hxn⟩ := fldN_mem hx
     by_cases h0 : (valueC (rd x) x r).2.2 = 0
     · rw [if_neg (by simpa using h0)]
       by_cases h1 : (valueC (rd x) x r).2.1 = false
       · rw [if_pos h1]; exact readL_unkLe hright hch hty hjn rd hrd hu l _ _ ha hr2 hmono
       · rw [if_neg h1]; obtain ⟨hf, hn⟩ := value_fit (wb := wrongB f k) (hty x hxm) hr1.1 (by have := hr1.2; omega) (hrd x r hr1.1 hxm) h0 (by simpa using h1); (have hx2 : fldN fs (valueC (rd x) x r).1.1 = some x := by rw [hn, hxn]; exact hx); have hua := unk_add hright hjn ha hx2 hf (A := N) (B := r.bytes.length) h.2 (unk_value (wb := wrongB f k) (hu x)); rcases add_ok hjn ha hx2 hf with ⟨g1, g2, g3⟩ | ⟨g1, g2⟩
         · rw [g3] at hua ⊢; simp only [ne_eq, not_true_eq_false, if_false]; refine readL_unkLe hright hch hty hjn rd hrd hu l (.mk _ _) _ (set_right hch ha (by rw [bothV_num]; exact hx2) g1 g2) hr2 ⟨hmono.1, fun v hv s hs => (hua v hv s hs).mono (by omega)⟩
         · rw [g2, if_pos (by decide)]; exact unk_none0 _ _
     · rw [if_pos h0]; exact unk_none0 _ _
theorem read_unkLe {f : Fil} (hright : (wrongN f).1 = 0) : ∀ (k : Nat), k ≤ 12 → ∀ (msg : Int) (l : List UInt8), UnkLe l.length k (readC f k msg l).1
 | 0, _, msg, l => unk_none0 _ _
 | k + 1, hk, msg, l => by
   rw [readC]
   by_cases hp : (parse l).2.1 = 0
   · rw [if_neg (by simpa using hp)]
     cases hm : f.msgs[msg.toNat]? with
     | none => exact unk_none0 _ _
     | some m =>
       simp only; have hmr := right_msg hright m (List.mem_of_getElem? hm); have hch : ∀ z ∈ m.fields, 0 ≤ z.choice := fun z hz => (choice_16 hmr hz).1; obtain ⟨p1, p2, p3⟩ := parse_right hp; refine (readL_unkLe hright hch (field_typed hmr) (joinK_ok hright k 12 (by omega)) (fun x bs => readC f k (msgI f x.type) bs) (fun x r hr hx h10 h2 hz => ?_) (fun x bs => read_unkLe hright k (by omega) _ _) _ bod0 0 AllV.nil p2 (unk_none0 _ _)).mono (by omega); have hmb := msgI_bd f x.type; have hm0 := (typed_facts (field_typed hmr x hx)).2.2.1 h10; exact read_right hright k (by omega) _ _ hm0 (by omega) hz
   · rw [if_pos hp]; exact unk_none0 _ _
set_option maxRecDepth 100000
open Lib (hid)
set_option maxHeartbeats 400000 in
theorem clone8_any (v : Value) (l : List UInt8) (w : World) (hv : RdB All w v l) (hl : l.length ≤ 1099511627776) :
   Calls Tryz.prog 107 #[v] w fun e w' => ∃ v', e = .returned v' ∧ w'.ownsRow w.heap.size 5 1 v' l.length (B8 l) ∧ Up w w' := by
 obtain ⟨ao, cap, rfl, hc1, hc2⟩ := hv.val; have Hn := hid (RdB.news hv); clear hv; have hnil := fun (w : World) (a : Option Addr) (n c : Nat) => Lib.run_eql_slice_nil (P := Tryz.prog) w 32 5 a n c 0 0 Tryz.underlying32
 cases ao with
 | none =>
   have h0 := Hn.out.2.1 rfl; have : l = [] := List.eq_nil_of_length_eq_zero h0.1; subst this; obtain rfl := h0.2; clear h0
   go_enter Tryz.func107, Tryz.ntmps107
   go_wp2_with fail
   go_ret
   exact ⟨_, rfl, World.ownsRow_nil _ _ _ _, Up.refl _⟩
 | some ad =>
   go_enter Tryz.func107, Tryz.ntmps107
   go_wp2_with (at_builtin; go_loud (refine wpList_app eU8 _ (by rfl) _ _ (by rfl) w.heap.size _ 0 [] (by rfl) (World.ownsRow_lit w #[] 0 (Nat.le_refl _) (by unfold maxLen; omega) (by simp)) (some ad) l.length cap (by rfl) (B8 l) (by simp [B8]) (by simp) (fun ad' h j u hu => ?_) (B8_one _) (by omega) (by unfold maxLen; omega) (by simp) ?_))
   · exact (Up.alloc (Up.refl w) _).cell_some (Hn.out.2.2 ad' h j u hu)
   · intro v1 w1 how1 hev1; go_wp2_with fail
     go_ret
     exact ⟨_, rfl, by simpa using how1, (Up.alloc (Up.refl w) _).evo hev1 (fun k hk => by simp [Value.ownBlock] at hk; omega)⟩
set_option maxHeartbeats 400000 in
theorem number_any (v : Value) (l : List UInt8) (k : Nat) (w : World) (hv : RdB All w v l) (hk : k ≤ 8) :
   Calls Tryz.prog 106 #[v, .int .i64 k] w fun e w' => e = .returned (.tuple #[.int .u64 ((numB k l).1 : Int), .int .i64 (numB k l).2]) ∧ w' = w := by
 obtain ⟨ao, cap, rfl, hc1, hc2⟩ := hv.val
 by_cases hlk : l.length < k
 · go_enter Tryz.func106, Tryz.ntmps106
   go_wp2_with fail
   go_ret2
   unfold numB; rw [if_pos hlk]; exact ⟨rfl, rfl⟩
 · go_enter Tryz.func106, Tryz.ntmps106
   go_wp2_with fail
   go_loop [6, 17] (fun n i => ∃ j : Nat, j ≤ k ∧ i = .int .i64 j ∧ n = .int .u64 (lowVal (l.take j))) (fun _ i => k - (intOf i).toNat)
   case atStart => exact ⟨0, by omega, rfl, rfl⟩
   case round =>
     obtain ⟨j, hj, rfl, rfl⟩ := hrel
     by_cases hlt : j < k
     · obtain ⟨b, o, rfl, hcell⟩ := RdB.cell hv (i := j) (by omega)
       have hs : lowVal (l.take (j + 1)) = lowVal (l.take j) + (l[j]'(by omega)).toNat * 2 ^ (8 * j) := by
         rw [take_snoc l j (by omega), lowVal_snoc, List.length_take, Nat.min_eq_left (by omega)]
       have hlo : lowVal (l.take j) < 2 ^ (8 * j) := by
         have := lowVal_lt (l.take j)
         rwa [List.length_take, Nat.min_eq_left (by omega)] at this
       have hc256 : (l[j]'(by omega)).toNat < 256 := UInt8.toNat_lt _; generalize l[j]'(by omega) = c at *; have hb := num_bits _ j c.toNat hlo hc256 (by omega); have Hb := hid hb; clear hb; have Hs := hid hs; clear hs hlo; generalize lowVal (l.take j) = a at *; go_wp2_with fail
       go_round
       (case rel => exact ⟨j + 1, by omega, by go_num, by rw [Hs.out, ← Hb.out]⟩); case measure => simp [intOf]; omega
     · go_wp2_with fail
       go_ret2
       unfold numB; rw [if_neg hlk, show j = k by omega]; exact ⟨rfl, rfl⟩
end Go.Proofs.YtbceapeoknngnaaGreatDoor
set_option linter.unusedSimpArgs false
namespace Go.Proofs.YtbceapeoknngnaaGreatDoor
open Go.RowKit
set_option maxRecDepth 100000
open Lib (hid)
def OneP (l : List UInt8) (w : World) (e : Ending) (w' : World) : Prop := ∃ vb, e = .returned (.tuple #[.agg #[.int .i64 (oneP l).2.1.number, .int .i64 (oneP l).2.1.how, .int .u64 ((oneP l).2.1.bits : Int), vb], .int .i64 ((oneP l).2.2 : Int), .int .i64 (oneP l).1]) ∧ RdB (fun k => w.heap.size ≤ k) w' vb (oneP l).2.1.bytes ∧ Up w w'
theorem OneP.bad {l : List UInt8} {w w' : World} {x : Int} (h : oneP l = (x, rec0, 0)) (hu : Up w w') : OneP l w (.returned (.tuple #[.agg #[.int .i64 0, .int .i64 0, .int .u64 0, .slice none 0 0], .int .i64 0, .int .i64 x])) w' := by
 unfold OneP; rw [h]; exact ⟨_, rfl, rdB_nil _ _, hu⟩
theorem OneP.good {l : List UInt8} {w w' : World} {number how : Int} {bits n : Nat} (h : oneP l = (0, ⟨number, how, bits, []⟩, n)) (hu : Up w w') (a b : Int) (ha : a = number) (hb : b = how) (m : Int) (hm : m = n) : OneP l w (.returned (.tuple #[.agg #[.int .i64 a, .int .i64 b, .int .u64 (bits : Int), .slice none 0 0], .int .i64 m, .int .i64 0])) w' := by
 subst ha; subst hb; subst hm; unfold OneP; rw [h]; exact ⟨_, rfl, rdB_nil _ _, hu⟩
abbrev box0 : Obj := .cells #[.int .i64 0, .int .i64 0, .int .u64 0, .slice none 0 0] 71
set_option maxHeartbeats 400000 in
theorem one_range (l : List UInt8) (w : World) (ao : Option Addr) (cap tag at_ : Nat) (hl : l.length ≤ 1099511627776) (hv : RdB All w (.slice ao l.length cap) l) (hc1 : l.length ≤ cap) (hc2 : cap ≤ 9223372036854775807)
   (Hg : Hid (Calls Tryz.prog 105 #[.slice ao l.length cap] (w.alloc box0) fun e w' => e = .returned (.tuple #[.int .u64 (tag : Int), .int .i64 (at_ : Int), .int .i64 0]) ∧ w' = w.alloc box0)) (Htag : Hid (tag < 2 ^ 64)) (k1 : 0 < at_) (k2 : at_ ≤ l.length) (h : tag / 8 < 1 ∨ 536870912 ≤ tag / 8) (Hone : Hid (oneP l = (3, rec0, 0))) :
   Calls Tryz.prog 57 #[.slice ao l.length cap] w (OneP l w) := by
 have hv2 : RdB All w (.slice (if cap = at_ then ao else ao.map (·.add at_)) (l.length - at_) (cap - at_)) (l.drop at_) := RdB.drop hv at_ k2 (fun h => by rw [if_neg h]) rfl rfl; have Hv2 := hid hv2; clear hv2; have Hv := hid hv; clear hv; rcases h with hn | hn
 all_goals
   go_enter Tryz.func57, Tryz.ntmps57
   (go_wp2_with fail); refine Hg.out.mono ?_; rintro e w1 ⟨rfl, rfl⟩; (go_wp2_with fail); refine bodyPost_ret (v := .tuple #[.agg #[.int .i64 0, .int .i64 0, .int .u64 0, .slice none 0 0], .int .i64 0, .int .i64 3]) (by simp [results, Tryz.results57, go_sem]) rfl ?_; exact OneP.bad Hone.out (by repeat (first | exact Up.refl _ | assumption | apply Up.alloc | refine Up.setCell ?_ (by simp) _))
set_option maxHeartbeats 400000 in
theorem one_kind (l : List UInt8) (w : World) (ao : Option Addr) (cap tag at_ : Nat) (hl : l.length ≤ 1099511627776) (hv : RdB All w (.slice ao l.length cap) l) (hc1 : l.length ≤ cap) (hc2 : cap ≤ 9223372036854775807)
   (Hg : Hid (Calls Tryz.prog 105 #[.slice ao l.length cap] (w.alloc box0) fun e w' => e = .returned (.tuple #[.int .u64 (tag : Int), .int .i64 (at_ : Int), .int .i64 0]) ∧ w' = w.alloc box0)) (Htag : Hid (tag < 2 ^ 64)) (k1 : 0 < at_) (k2 : at_ ≤ l.length) (hn1 : 1 ≤ tag / 8) (hn2 : tag / 8 < 536870912) (h : Nat) (hh : tag % 8 = h) (h0 : h ≠ 0) (h1 : h ≠ 1) (h2 : h ≠ 2) (h5 : h ≠ 5) (Hone : Hid (oneP l = (1, rec0, 0))) :
   Calls Tryz.prog 57 #[.slice ao l.length cap] w (OneP l w) := by
 have hv2 : RdB All w (.slice (if cap = at_ then ao else ao.map (·.add at_)) (l.length - at_) (cap - at_)) (l.drop at_) := RdB.drop hv at_ k2 (fun h => by rw [if_neg h]) rfl rfl; have Hv2 := hid hv2; clear hv2; have Hv := hid hv; clear hv; (have hb : bits .and .u64 (tag : Int) 7 = (h : Int) := by rw [bits_and7, hh]); (have h7 : h < 8 := by omega); (have hw : wrap64 (h : Int) = (h : Int) := by unfold wrap64; omega); (have g0 : ((h : Int) == 0) = false := by rw [beq_eq_false_iff_ne]; omega); (have g1 : ((h : Int) == 1) = false := by rw [beq_eq_false_iff_ne]; omega); (have g2 : ((h : Int) == 2) = false := by rw [beq_eq_false_iff_ne]; omega); (have g5 : ((h : Int) == 5) = false := by rw [beq_eq_false_iff_ne]; omega); have Hhh := hid hh; clear hh
 go_enter Tryz.func57, Tryz.ntmps57
 (go_wp2_with fail); refine Hg.out.mono ?_; rintro e w1 ⟨rfl, rfl⟩; (go_wp2_with fail); refine bodyPost_ret (v := .tuple #[.agg #[.int .i64 0, .int .i64 0, .int .u64 0, .slice none 0 0], .int .i64 0, .int .i64 1]) (by simp [results, Tryz.results57, go_sem]) rfl ?_; exact OneP.bad Hone.out (by repeat (first | exact Up.refl _ | assumption | apply Up.alloc | refine Up.setCell ?_ (by simp) _))
set_option maxHeartbeats 400000 in
theorem one_varint (l : List UInt8) (w : World) (ao : Option Addr) (cap tag at_ : Nat) (hl : l.length ≤ 1099511627776) (hv : RdB All w (.slice ao l.length cap) l) (hc1 : l.length ≤ cap) (hc2 : cap ≤ 9223372036854775807)
   (Hg : Hid (Calls Tryz.prog 105 #[.slice ao l.length cap] (w.alloc box0) fun e w' => e = .returned (.tuple #[.int .u64 (tag : Int), .int .i64 (at_ : Int), .int .i64 0]) ∧ w' = w.alloc box0)) (Htag : Hid (tag < 2 ^ 64)) (k1 : 0 < at_) (k2 : at_ ≤ l.length) (hn1 : 1 ≤ tag / 8) (hn2 : tag / 8 < 536870912) (h : tag % 8 = 0) (x m : Nat) (e0 : Int) (hgx : get (l.drop at_) = (x, m, e0)) (hm : m ≤ 10) (Hone : Hid (oneP l = if e0 ≠ 0 then (e0, rec0, 0) else (0, ⟨((tag / 8 : Nat) : Int), 0, x, []⟩, at_ + m))) :
   Calls Tryz.prog 57 #[.slice ao l.length cap] w (OneP l w) := by
 have hv2 : RdB All w (.slice (if cap = at_ then ao else ao.map (·.add at_)) (l.length - at_) (cap - at_)) (l.drop at_) := RdB.drop hv at_ k2 (fun h => by rw [if_neg h]) rfl rfl; have Hv2 := hid hv2; clear hv2; have Hv := hid hv; clear hv; (have hb : bits .and .u64 (tag : Int) 7 = 0 := by rw [bits_and7]; omega); have hg2 := fun w' (hu : Up w w') => get_any _ (l.drop at_) w' (Hv2.out.up stable_u8 hu); rw [hgx] at hg2; have Hg2 := hid hg2; clear hg2 hgx
 by_cases he : e0 = 0
 · subst he
   go_enter Tryz.func57, Tryz.ntmps57
   (go_wp2_with fail); refine Hg.out.mono ?_; rintro e w1 ⟨rfl, rfl⟩; go_wp2_with (go_at_call 105; refine (Hg2.out _ (by repeat (first | exact Up.refl _ | assumption | apply Up.alloc | refine Up.setCell ?_ (by simp) _))).mono ?_; rintro e w2 ⟨rfl, rfl⟩)
   all_goals
     refine bodyPost_ret (v := .tuple #[.agg #[.int .i64 ((tag : Int) / 8), .int .i64 0, .int .u64 (x : Int), .slice none 0 0], .int .i64 ((at_ : Int) + m), .int .i64 0]) (by simp [results, Tryz.results57, go_sem]) rfl ?_; have hone := Hone.out; rw [if_neg (by simp)] at hone; exact OneP.good hone (by repeat (first | exact Up.refl _ | assumption | apply Up.alloc | refine Up.setCell ?_ (by simp) _)) _ _ (by simp) (by simp) _ (by simp)
 · (have he2 : (e0 == 0) = false := by rw [beq_eq_false_iff_ne]; exact he); have he3 : (e0 != 0) = true := by rw [bne_iff_ne]; exact he
   go_enter Tryz.func57, Tryz.ntmps57
   (go_wp2_with fail); refine Hg.out.mono ?_; rintro e w1 ⟨rfl, rfl⟩; go_wp2_with (go_at_call 105; refine (Hg2.out _ (by repeat (first | exact Up.refl _ | assumption | apply Up.alloc | refine Up.setCell ?_ (by simp) _))).mono ?_; rintro e w2 ⟨rfl, rfl⟩)
   all_goals
     refine bodyPost_ret (v := .tuple #[.agg #[.int .i64 0, .int .i64 0, .int .u64 0, .slice none 0 0], .int .i64 0, .int .i64 e0]) (by simp [results, Tryz.results57, go_sem]) rfl ?_; have hone := Hone.out; rw [if_pos he] at hone; exact OneP.bad hone (by repeat (first | exact Up.refl _ | assumption | apply Up.alloc | refine Up.setCell ?_ (by simp) _))
set_option maxHeartbeats 400000 in
theorem one_eight (l : List UInt8) (w : World) (ao : Option Addr) (cap tag at_ : Nat) (hl : l.length ≤ 1099511627776) (hv : RdB All w (.slice ao l.length cap) l) (hc1 : l.length ≤ cap) (hc2 : cap ≤ 9223372036854775807)
   (Hg : Hid (Calls Tryz.prog 105 #[.slice ao l.length cap] (w.alloc box0) fun e w' => e = .returned (.tuple #[.int .u64 (tag : Int), .int .i64 (at_ : Int), .int .i64 0]) ∧ w' = w.alloc box0)) (Htag : Hid (tag < 2 ^ 64)) (k1 : 0 < at_) (k2 : at_ ≤ l.length) (hn1 : 1 ≤ tag / 8) (hn2 : tag / 8 < 536870912) (h : tag % 8 = 1) (x : Nat) (e0 : Int) (hgx : numB 8 (l.drop at_) = (x, e0))  (Hone : Hid (oneP l = if e0 ≠ 0 then (e0, rec0, 0) else (0, ⟨((tag / 8 : Nat) : Int), 1, x, []⟩, at_ + 8))) :
   Calls Tryz.prog 57 #[.slice ao l.length cap] w (OneP l w) := by
 have hv2 : RdB All w (.slice (if cap = at_ then ao else ao.map (·.add at_)) (l.length - at_) (cap - at_)) (l.drop at_) := RdB.drop hv at_ k2 (fun h => by rw [if_neg h]) rfl rfl; have Hv2 := hid hv2; clear hv2; have Hv := hid hv; clear hv; (have hb : bits .and .u64 (tag : Int) 7 = 1 := by rw [bits_and7]; omega); have hg2 := fun w' (hu : Up w w') => number_any _ (l.drop at_) 8 w' (Hv2.out.up stable_u8 hu) (by omega); rw [hgx] at hg2; have Hg2 := hid hg2; clear hg2 hgx
 by_cases he : e0 = 0
 · subst he
   go_enter Tryz.func57, Tryz.ntmps57
   (go_wp2_with fail); refine Hg.out.mono ?_; rintro e w1 ⟨rfl, rfl⟩; go_wp2_with (go_at_call 106; refine (Hg2.out _ (by repeat (first | exact Up.refl _ | assumption | apply Up.alloc | refine Up.setCell ?_ (by simp) _))).mono ?_; rintro e w2 ⟨rfl, rfl⟩)
   all_goals
     refine bodyPost_ret (v := .tuple #[.agg #[.int .i64 ((tag : Int) / 8), .int .i64 1, .int .u64 (x : Int), .slice none 0 0], .int .i64 ((at_ : Int) + 8), .int .i64 0]) (by simp [results, Tryz.results57, go_sem]) rfl ?_; have hone := Hone.out; rw [if_neg (by simp)] at hone; exact OneP.good hone (by repeat (first | exact Up.refl _ | assumption | apply Up.alloc | refine Up.setCell ?_ (by simp) _)) _ _ (by simp) (by simp) _ (by simp)
 · (have he2 : (e0 == 0) = false := by rw [beq_eq_false_iff_ne]; exact he); have he3 : (e0 != 0) = true := by rw [bne_iff_ne]; exact he
   go_enter Tryz.func57, Tryz.ntmps57
   (go_wp2_with fail); refine Hg.out.mono ?_; rintro e w1 ⟨rfl, rfl⟩; go_wp2_with (go_at_call 106; refine (Hg2.out _ (by repeat (first | exact Up.refl _ | assumption | apply Up.alloc | refine Up.setCell ?_ (by simp) _))).mono ?_; rintro e w2 ⟨rfl, rfl⟩)
   all_goals
     refine bodyPost_ret (v := .tuple #[.agg #[.int .i64 0, .int .i64 0, .int .u64 0, .slice none 0 0], .int .i64 0, .int .i64 e0]) (by simp [results, Tryz.results57, go_sem]) rfl ?_; have hone := Hone.out; rw [if_pos he] at hone; exact OneP.bad hone (by repeat (first | exact Up.refl _ | assumption | apply Up.alloc | refine Up.setCell ?_ (by simp) _))
set_option maxHeartbeats 400000 in
theorem one_four (l : List UInt8) (w : World) (ao : Option Addr) (cap tag at_ : Nat) (hl : l.length ≤ 1099511627776) (hv : RdB All w (.slice ao l.length cap) l) (hc1 : l.length ≤ cap) (hc2 : cap ≤ 9223372036854775807)
   (Hg : Hid (Calls Tryz.prog 105 #[.slice ao l.length cap] (w.alloc box0) fun e w' => e = .returned (.tuple #[.int .u64 (tag : Int), .int .i64 (at_ : Int), .int .i64 0]) ∧ w' = w.alloc box0)) (Htag : Hid (tag < 2 ^ 64)) (k1 : 0 < at_) (k2 : at_ ≤ l.length) (hn1 : 1 ≤ tag / 8) (hn2 : tag / 8 < 536870912) (h : tag % 8 = 5) (x : Nat) (e0 : Int) (hgx : numB 4 (l.drop at_) = (x, e0))  (Hone : Hid (oneP l = if e0 ≠ 0 then (e0, rec0, 0) else (0, ⟨((tag / 8 : Nat) : Int), 5, x, []⟩, at_ + 4))) :
   Calls Tryz.prog 57 #[.slice ao l.length cap] w (OneP l w) := by
 have hv2 : RdB All w (.slice (if cap = at_ then ao else ao.map (·.add at_)) (l.length - at_) (cap - at_)) (l.drop at_) := RdB.drop hv at_ k2 (fun h => by rw [if_neg h]) rfl rfl; have Hv2 := hid hv2; clear hv2; have Hv := hid hv; clear hv; (have hb : bits .and .u64 (tag : Int) 7 = 5 := by rw [bits_and7]; omega); have hg2 := fun w' (hu : Up w w') => number_any _ (l.drop at_) 4 w' (Hv2.out.up stable_u8 hu) (by omega); rw [hgx] at hg2; have Hg2 := hid hg2; clear hg2 hgx
 by_cases he : e0 = 0
 · subst he
   go_enter Tryz.func57, Tryz.ntmps57
   (go_wp2_with fail); refine Hg.out.mono ?_; rintro e w1 ⟨rfl, rfl⟩; go_wp2_with (go_at_call 106; refine (Hg2.out _ (by repeat (first | exact Up.refl _ | assumption | apply Up.alloc | refine Up.setCell ?_ (by simp) _))).mono ?_; rintro e w2 ⟨rfl, rfl⟩)
   all_goals
     refine bodyPost_ret (v := .tuple #[.agg #[.int .i64 ((tag : Int) / 8), .int .i64 5, .int .u64 (x : Int), .slice none 0 0], .int .i64 ((at_ : Int) + 4), .int .i64 0]) (by simp [results, Tryz.results57, go_sem]) rfl ?_; have hone := Hone.out; rw [if_neg (by simp)] at hone; exact OneP.good hone (by repeat (first | exact Up.refl _ | assumption | apply Up.alloc | refine Up.setCell ?_ (by simp) _)) _ _ (by simp) (by simp) _ (by simp)
 · (have he2 : (e0 == 0) = false := by rw [beq_eq_false_iff_ne]; exact he); have he3 : (e0 != 0) = true := by rw [bne_iff_ne]; exact he
   go_enter Tryz.func57, Tryz.ntmps57
   (go_wp2_with fail); refine Hg.out.mono ?_; rintro e w1 ⟨rfl, rfl⟩; go_wp2_with (go_at_call 106; refine (Hg2.out _ (by repeat (first | exact Up.refl _ | assumption | apply Up.alloc | refine Up.setCell ?_ (by simp) _))).mono ?_; rintro e w2 ⟨rfl, rfl⟩)
   all_goals
     refine bodyPost_ret (v := .tuple #[.agg #[.int .i64 0, .int .i64 0, .int .u64 0, .slice none 0 0], .int .i64 0, .int .i64 e0]) (by simp [results, Tryz.results57, go_sem]) rfl ?_; have hone := Hone.out; rw [if_pos he] at hone; exact OneP.bad hone (by repeat (first | exact Up.refl _ | assumption | apply Up.alloc | refine Up.setCell ?_ (by simp) _))
end Go.Proofs.YtbceapeoknngnaaGreatDoor
