/-
  Package wire: number, one; slices.Clone of bytes.
  Package wire: one.
-/
import Derived.Test.YtbceapeoknngnaaGreatDoorTx29
namespace Go.Proofs.YtbceapeoknngnaaGreatDoor
open Go.RowKit
set_option maxRecDepth 100000
open Lib (hid)
set_option maxHeartbeats 400000 in
theorem clone8_any (v : Value) (l : List UInt8) (w : World) (hv : RdB All w v l) (hl : l.length ≤ 1099511627776) :
   Calls Tryz.prog 107 #[v] w fun e w' => ∃ v', e = .returned v' ∧ w'.ownsRow w.heap.size 5 1 v' l.length (B8 l) ∧ Up w w' := by
 obtain ⟨ao, cap, rfl, hc1, hc2⟩ := hv.val; have Hn := hid (RdB.news hv); clear hv; have hnil := fun (w : World) (a : Option Addr) (n c : Nat) => Lib.run_eql_slice_nil (P := Tryz.prog) w 32 5 a n c 0 0 Tryz.underlying32
 cases ao with
 | none =>
   have h0 := Hn.out.2.1 rfl; have : l = [] := List.eq_nil_of_length_eq_zero h0.1; subst this; obtain rfl := h0.2; clear h0
   go_enter Tryz.func107, Tryz.ntmps107
   go_wp2_with fail
   go_ret
   exact ⟨_, rfl, World.ownsRow_nil _ _ _ _, Up.refl _⟩
 | some ad =>
   go_enter Tryz.func107, Tryz.ntmps107
   go_wp2_with (at_builtin; go_loud (refine wpList_app eU8 _ (by rfl) _ _ (by rfl) w.heap.size _ 0 [] (by rfl) (World.ownsRow_lit w #[] 0 (Nat.le_refl _) (by unfold maxLen; omega) (by simp)) (some ad) l.length cap (by rfl) (B8 l) (by simp [B8]) (by simp) (fun ad' h j u hu => ?_) (B8_one _) (by omega) (by unfold maxLen; omega) (by simp) ?_))
   · exact (Up.alloc (Up.refl w) _).cell_some (Hn.out.2.2 ad' h j u hu)
   · intro v1 w1 how1 hev1; go_wp2_with fail
     go_ret
     exact ⟨_, rfl, by simpa using how1, (Up.alloc (Up.refl w) _).evo hev1 (fun k hk => by simp [Value.ownBlock] at hk; omega)⟩
set_option maxHeartbeats 400000 in
theorem number_any (v : Value) (l : List UInt8) (k : Nat) (w : World) (hv : RdB All w v l) (hk : k ≤ 8) :
   Calls Tryz.prog 106 #[v, .int .i64 k] w fun e w' => e = .returned (.tuple #[.int .u64 ((numB k l).1 : Int), .int .i64 (numB k l).2]) ∧ w' = w := by
 obtain ⟨ao, cap, rfl, hc1, hc2⟩ := hv.val
 by_cases hlk : l.length < k
 · go_enter Tryz.func106, Tryz.ntmps106
   go_wp2_with fail
   go_ret2
   unfold numB; rw [if_pos hlk]; exact ⟨rfl, rfl⟩
 · go_enter Tryz.func106, Tryz.ntmps106
   go_wp2_with fail
   go_loop [6, 17] (fun n i => ∃ j : Nat, j ≤ k ∧ i = .int .i64 j ∧ n = .int .u64 (lowVal (l.take j))) (fun _ i => k - (intOf i).toNat)
   case atStart => exact ⟨0, by omega, rfl, rfl⟩
   case round =>
     obtain ⟨j, hj, rfl, rfl⟩ := hrel
     by_cases hlt : j < k
     · obtain ⟨b, o, rfl, hcell⟩ := RdB.cell hv (i := j) (by omega)
       have hs : lowVal (l.take (j + 1)) = lowVal (l.take j) + (l[j]'(by omega)).toNat * 2 ^ (8 * j) := by
         rw [take_snoc l j (by omega), lowVal_snoc, List.length_take, Nat.min_eq_left (by omega)]
       have hlo : lowVal (l.take j) < 2 ^ (8 * j) := by
         have := lowVal_lt (l.take j)
         rwa [List.length_take, Nat.min_eq_left (by omega)] at this
       have hc256 : (l[j]'(by omega)).toNat < 256 := UInt8.toNat_lt _; generalize l[j]'(by omega) = c at *; have hb := num_bits _ j c.toNat hlo hc256 (by omega); have Hb := hid hb; clear hb; have Hs := hid hs; clear hs hlo; generalize lowVal (l.take j) = a at *; go_wp2_with fail
       go_round
       (case rel => exact ⟨j + 1, by omega, by go_num, by rw [Hs.out, ← Hb.out]⟩); case measure => simp [intOf]; omega
     · go_wp2_with fail
       go_ret2
       unfold numB; rw [if_neg hlk, show j = k by omega]; exact ⟨rfl, rfl⟩
end Go.Proofs.YtbceapeoknngnaaGreatDoor
set_option linter.unusedVariables false
set_option linter.unusedSimpArgs false
namespace Go.Proofs.YtbceapeoknngnaaGreatDoor
open Go.RowKit
set_option maxRecDepth 100000
open Lib (hid)
def OneP (l : List UInt8) (w : World) (e : Ending) (w' : World) : Prop := ∃ vb, e = .returned (.tuple #[.agg #[.int .i64 (oneP l).2.1.number, .int .i64 (oneP l).2.1.how, .int .u64 ((oneP l).2.1.bits : Int), vb], .int .i64 ((oneP l).2.2 : Int), .int .i64 (oneP l).1]) ∧ RdB (fun k => w.heap.size ≤ k) w' vb (oneP l).2.1.bytes ∧ Up w w'
theorem OneP.bad {l : List UInt8} {w w' : World} {x : Int} (h : oneP l = (x, rec0, 0)) (hu : Up w w') : OneP l w (.returned (.tuple #[.agg #[.int .i64 0, .int .i64 0, .int .u64 0, .slice none 0 0], .int .i64 0, .int .i64 x])) w' := by
 unfold OneP; rw [h]; exact ⟨_, rfl, rdB_nil _ _, hu⟩
theorem OneP.good {l : List UInt8} {w w' : World} {number how : Int} {bits n : Nat} (h : oneP l = (0, ⟨number, how, bits, []⟩, n)) (hu : Up w w') (a b : Int) (ha : a = number) (hb : b = how) (m : Int) (hm : m = n) : OneP l w (.returned (.tuple #[.agg #[.int .i64 a, .int .i64 b, .int .u64 (bits : Int), .slice none 0 0], .int .i64 m, .int .i64 0])) w' := by
 subst ha; subst hb; subst hm; unfold OneP; rw [h]; exact ⟨_, rfl, rdB_nil _ _, hu⟩
abbrev box0 : Obj := .cells #[.int .i64 0, .int .i64 0, .int .u64 0, .slice none 0 0] 71
set_option maxHeartbeats 400000 in
theorem one_range (l : List UInt8) (w : World) (ao : Option Addr) (cap tag at_ : Nat) (hl : l.length ≤ 1099511627776) (hv : RdB All w (.slice ao l.length cap) l) (hc1 : l.length ≤ cap) (hc2 : cap ≤ 9223372036854775807)
   (Hg : Hid (Calls Tryz.prog 105 #[.slice ao l.length cap] (w.alloc box0) fun e w' => e = .returned (.tuple #[.int .u64 (tag : Int), .int .i64 (at_ : Int), .int .i64 0]) ∧ w' = w.alloc box0)) (Htag : Hid (tag < 2 ^ 64)) (k1 : 0 < at_) (k2 : at_ ≤ l.length) (h : tag / 8 < 1 ∨ 536870912 ≤ tag / 8) (Hone : Hid (oneP l = (3, rec0, 0))) :
   Calls Tryz.prog 57 #[.slice ao l.length cap] w (OneP l w) := by
 have hv2 : RdB All w (.slice (if cap = at_ then ao else ao.map (·.add at_)) (l.length - at_) (cap - at_)) (l.drop at_) := RdB.drop hv at_ k2 (fun h => by rw [if_neg h]) rfl rfl; have Hv2 := hid hv2; clear hv2; have Hv := hid hv; clear hv; rcases h with hn | hn
 all_goals
   go_enter Tryz.func57, Tryz.ntmps57
   (go_wp2_with fail); refine Hg.out.mono ?_; rintro e w1 ⟨rfl, rfl⟩; (go_wp2_with fail); refine bodyPost_ret (v := .tuple #[.agg #[.int .i64 0, .int .i64 0, .int .u64 0, .slice none 0 0], .int .i64 0, .int .i64 3]) (by simp [results, Tryz.results57, go_sem]) rfl ?_; exact OneP.bad Hone.out (by repeat (first | exact Up.refl _ | assumption | apply Up.alloc | refine Up.setCell ?_ (by simp) _))
set_option maxHeartbeats 400000 in
theorem one_kind (l : List UInt8) (w : World) (ao : Option Addr) (cap tag at_ : Nat) (hl : l.length ≤ 1099511627776) (hv : RdB All w (.slice ao l.length cap) l) (hc1 : l.length ≤ cap) (hc2 : cap ≤ 9223372036854775807)
   (Hg : Hid (Calls Tryz.prog 105 #[.slice ao l.length cap] (w.alloc box0) fun e w' => e = .returned (.tuple #[.int .u64 (tag : Int), .int .i64 (at_ : Int), .int .i64 0]) ∧ w' = w.alloc box0)) (Htag : Hid (tag < 2 ^ 64)) (k1 : 0 < at_) (k2 : at_ ≤ l.length) (hn1 : 1 ≤ tag / 8) (hn2 : tag / 8 < 536870912) (h : Nat) (hh : tag % 8 = h) (h0 : h ≠ 0) (h1 : h ≠ 1) (h2 : h ≠ 2) (h5 : h ≠ 5) (Hone : Hid (oneP l = (1, rec0, 0))) :
   Calls Tryz.prog 57 #[.slice ao l.length cap] w (OneP l w) := by
 have hv2 : RdB All w (.slice (if cap = at_ then ao else ao.map (·.add at_)) (l.length - at_) (cap - at_)) (l.drop at_) := RdB.drop hv at_ k2 (fun h => by rw [if_neg h]) rfl rfl; have Hv2 := hid hv2; clear hv2; have Hv := hid hv; clear hv; (have hb : bits .and .u64 (tag : Int) 7 = (h : Int) := by rw [bits_and7, hh]); (have h7 : h < 8 := by omega); (have hw : wrap64 (h : Int) = (h : Int) := by unfold wrap64; omega); (have g0 : ((h : Int) == 0) = false := by rw [beq_eq_false_iff_ne]; omega); (have g1 : ((h : Int) == 1) = false := by rw [beq_eq_false_iff_ne]; omega); (have g2 : ((h : Int) == 2) = false := by rw [beq_eq_false_iff_ne]; omega); (have g5 : ((h : Int) == 5) = false := by rw [beq_eq_false_iff_ne]; omega); have Hhh := hid hh; clear hh
 go_enter Tryz.func57, Tryz.ntmps57
 (go_wp2_with fail); refine Hg.out.mono ?_; rintro e w1 ⟨rfl, rfl⟩; (go_wp2_with fail); refine bodyPost_ret (v := .tuple #[.agg #[.int .i64 0, .int .i64 0, .int .u64 0, .slice none 0 0], .int .i64 0, .int .i64 1]) (by simp [results, Tryz.results57, go_sem]) rfl ?_; exact OneP.bad Hone.out (by repeat (first | exact Up.refl _ | assumption | apply Up.alloc | refine Up.setCell ?_ (by simp) _))
set_option maxHeartbeats 400000 in
theorem one_varint (l : List UInt8) (w : World) (ao : Option Addr) (cap tag at_ : Nat) (hl : l.length ≤ 1099511627776) (hv : RdB All w (.slice ao l.length cap) l) (hc1 : l.length ≤ cap) (hc2 : cap ≤ 9223372036854775807)
   (Hg : Hid (Calls Tryz.prog 105 #[.slice ao l.length cap] (w.alloc box0) fun e w' => e = .returned (.tuple #[.int .u64 (tag : Int), .int .i64 (at_ : Int), .int .i64 0]) ∧ w' = w.alloc box0)) (Htag : Hid (tag < 2 ^ 64)) (k1 : 0 < at_) (k2 : at_ ≤ l.length) (hn1 : 1 ≤ tag / 8) (hn2 : tag / 8 < 536870912) (h : tag % 8 = 0) (x m : Nat) (e0 : Int) (hgx : get (l.drop at_) = (x, m, e0)) (hm : m ≤ 10) (Hone : Hid (oneP l = if e0 ≠ 0 then (e0, rec0, 0) else (0, ⟨((tag / 8 : Nat) : Int), 0, x, []⟩, at_ + m))) :
   Calls Tryz.prog 57 #[.slice ao l.length cap] w (OneP l w) := by
 have hv2 : RdB All w (.slice (if cap = at_ then ao else ao.map (·.add at_)) (l.length - at_) (cap - at_)) (l.drop at_) := RdB.drop hv at_ k2 (fun h => by rw [if_neg h]) rfl rfl; have Hv2 := hid hv2; clear hv2; have Hv := hid hv; clear hv; (have hb : bits .and .u64 (tag : Int) 7 = 0 := by rw [bits_and7]; omega); have hg2 := fun w' (hu : Up w w') => get_any _ (l.drop at_) w' (Hv2.out.up stable_u8 hu); rw [hgx] at hg2; have Hg2 := hid hg2; clear hg2 hgx
 by_cases he : e0 = 0
 · subst he
   go_enter Tryz.func57, Tryz.ntmps57
   (go_wp2_with fail); refine Hg.out.mono ?_; rintro e w1 ⟨rfl, rfl⟩; go_wp2_with (go_at_call 105; refine (Hg2.out _ (by repeat (first | exact Up.refl _ | assumption | apply Up.alloc | refine Up.setCell ?_ (by simp) _))).mono ?_; rintro e w2 ⟨rfl, rfl⟩)
   all_goals
     refine bodyPost_ret (v := .tuple #[.agg #[.int .i64 ((tag : Int) / 8), .int .i64 0, .int .u64 (x : Int), .slice none 0 0], .int .i64 ((at_ : Int) + m), .int .i64 0]) (by simp [results, Tryz.results57, go_sem]) rfl ?_; have hone := Hone.out; rw [if_neg (by simp)] at hone; exact OneP.good hone (by repeat (first | exact Up.refl _ | assumption | apply Up.alloc | refine Up.setCell ?_ (by simp) _)) _ _ (by simp) (by simp) _ (by simp)
 · (have he2 : (e0 == 0) = false := by rw [beq_eq_false_iff_ne]; exact he); have he3 : (e0 != 0) = true := by rw [bne_iff_ne]; exact he
   go_enter Tryz.func57, Tryz.ntmps57
   (go_wp2_with fail); refine Hg.out.mono ?_; rintro e w1 ⟨rfl, rfl⟩; go_wp2_with (go_at_call 105; refine (Hg2.out _ (by repeat (first | exact Up.refl _ | assumption | apply Up.alloc | refine Up.setCell ?_ (by simp) _))).mono ?_; rintro e w2 ⟨rfl, rfl⟩)
   all_goals
     refine bodyPost_ret (v := .tuple #[.agg #[.int .i64 0, .int .i64 0, .int .u64 0, .slice none 0 0], .int .i64 0, .int .i64 e0]) (by simp [results, Tryz.results57, go_sem]) rfl ?_; have hone := Hone.out; rw [if_pos he] at hone; exact OneP.bad hone (by repeat (first | exact Up.refl _ | assumption | apply Up.alloc | refine Up.setCell ?_ (by simp) _))
set_option maxHeartbeats 400000 in
theorem one_eight (l : List UInt8) (w : World) (ao : Option Addr) (cap tag at_ : Nat) (hl : l.length ≤ 1099511627776) (hv : RdB All w (.slice ao l.length cap) l) (hc1 : l.length ≤ cap) (hc2 : cap ≤ 9223372036854775807)
   (Hg : Hid (Calls Tryz.prog 105 #[.slice ao l.length cap] (w.alloc box0) fun e w' => e = .returned (.tuple #[.int .u64 (tag : Int), .int .i64 (at_ : Int), .int .i64 0]) ∧ w' = w.alloc box0)) (Htag : Hid (tag < 2 ^ 64)) (k1 : 0 < at_) (k2 : at_ ≤ l.length) (hn1 : 1 ≤ tag / 8) (hn2 : tag / 8 < 536870912) (h : tag % 8 = 1) (x : Nat) (e0 : Int) (hgx : numB 8 (l.drop at_) = (x, e0))  (Hone : Hid (oneP l = if e0 ≠ 0 then (e0, rec0, 0) else (0, ⟨((tag / 8 : Nat) : Int), 1, x, []⟩, at_ + 8))) :
   Calls Tryz.prog 57 #[.slice ao l.length cap] w (OneP l w) := by
 have hv2 : RdB All w (.slice (if cap = at_ then ao else ao.map (·.add at_)) (l.length - at_) (cap - at_)) (l.drop at_) := RdB.drop hv at_ k2 (fun h => by rw [if_neg h]) rfl rfl; have Hv2 := hid hv2; clear hv2; have Hv := hid hv; clear hv; (have hb : bits .and .u64 (tag : Int) 7 = 1 := by rw [bits_and7]; omega); have hg2 := fun w' (hu : Up w w') => number_any _ (l.drop at_) 8 w' (Hv2.out.up stable_u8 hu) (by omega); rw [hgx] at hg2; have Hg2 := hid hg2; clear hg2 hgx
 by_cases he : e0 = 0
 · subst he
   go_enter Tryz.func57, Tryz.ntmps57
   (go_wp2_with fail); refine Hg.out.mono ?_; rintro e w1 ⟨rfl, rfl⟩; go_wp2_with (go_at_call 106; refine (Hg2.out _ (by repeat (first | exact Up.refl _ | assumption | apply Up.alloc | refine Up.setCell ?_ (by simp) _))).mono ?_; rintro e w2 ⟨rfl, rfl⟩)
   all_goals
     refine bodyPost_ret (v := .tuple #[.agg #[.int .i64 ((tag : Int) / 8), .int .i64 1, .int .u64 (x : Int), .slice none 0 0], .int .i64 ((at_ : Int) + 8), .int .i64 0]) (by simp [results, Tryz.results57, go_sem]) rfl ?_; have hone := Hone.out; rw [if_neg (by simp)] at hone; exact OneP.good hone (by repeat (first | exact Up.refl _ | assumption | apply Up.alloc | refine Up.setCell ?_ (by simp) _)) _ _ (by simp) (by simp) _ (by simp)
 · (have he2 : (e0 == 0) = false := by rw [beq_eq_false_iff_ne]; exact he); have he3 : (e0 != 0) = true := by rw [bne_iff_ne]; exact he
   go_enter Tryz.func57, Tryz.ntmps57
   (go_wp2_with fail); refine Hg.out.mono ?_; rintro e w1 ⟨rfl, rfl⟩; go_wp2_with (go_at_call 106; refine (Hg2.out _ (by repeat (first | exact Up.refl _ | assumption | apply Up.alloc | refine Up.setCell ?_ (by simp) _))).mono ?_; rintro e w2 ⟨rfl, rfl⟩)
   all_goals
     refine bodyPost_ret (v := .tuple #[.agg #[.int .i64 0, .int .i64 0, .int .u64 0, .slice none 0 0], .int .i64 0, .int .i64 e0]) (by simp [results, Tryz.results57, go_sem]) rfl ?_; have hone := Hone.out; rw [if_pos he] at hone; exact OneP.bad hone (by repeat (first | exact Up.refl _ | assumption | apply Up.alloc | refine Up.setCell ?_ (by simp) _))
set_option maxHeartbeats 400000 in
theorem one_four (l : List UInt8) (w : World) (ao : Option Addr) (cap tag at_ : Nat) (hl : l.length ≤ 1099511627776) (hv : RdB All w (.slice ao l.length cap) l) (hc1 : l.length ≤ cap) (hc2 : cap ≤ 9223372036854775807)
   (Hg : Hid (Calls Tryz.prog 105 #[.slice ao l.length cap] (w.alloc box0) fun e w' => e = .returned (.tuple #[.int .u64 (tag : Int), .int .i64 (at_ : Int), .int .i64 0]) ∧ w' = w.alloc box0)) (Htag : Hid (tag < 2 ^ 64)) (k1 : 0 < at_) (k2 : at_ ≤ l.length) (hn1 : 1 ≤ tag / 8) (hn2 : tag / 8 < 536870912) (h : tag % 8 = 5) (x : Nat) (e0 : Int) (hgx : numB 4 (l.drop at_) = (x, e0))  (Hone : Hid (oneP l = if e0 ≠ 0 then (e0, rec0, 0) else (0, ⟨((tag / 8 : Nat) : Int), 5, x, []⟩, at_ + 4))) :
   Calls Tryz.prog 57 #[.slice ao l.length cap] w (OneP l w) := by
 have hv2 : RdB All w (.slice (if cap = at_ then ao else ao.map (·.add at_)) (l.length - at_) (cap - at_)) (l.drop at_) := RdB.drop hv at_ k2 (fun h => by rw [if_neg h]) rfl rfl; have Hv2 := hid hv2; clear hv2; have Hv := hid hv; clear hv; (have hb : bits .and .u64 (tag : Int) 7 = 5 := by rw [bits_and7]; omega); have hg2 := fun w' (hu : Up w w') => number_any _ (l.drop at_) 4 w' (Hv2.out.up stable_u8 hu) (by omega); rw [hgx] at hg2; have Hg2 := hid hg2; clear hg2 hgx
 by_cases he : e0 = 0
 · subst he
   go_enter Tryz.func57, Tryz.ntmps57
   (go_wp2_with fail); refine Hg.out.mono ?_; rintro e w1 ⟨rfl, rfl⟩; go_wp2_with (go_at_call 106; refine (Hg2.out _ (by repeat (first | exact Up.refl _ | assumption | apply Up.alloc | refine Up.setCell ?_ (by simp) _))).mono ?_; rintro e w2 ⟨rfl, rfl⟩)
   all_goals
     refine bodyPost_ret (v := .tuple #[.agg #[.int .i64 ((tag : Int) / 8), .int .i64 5, .int .u64 (x : Int), .slice none 0 0], .int .i64 ((at_ : Int) + 4), .int .i64 0]) (by simp [results, Tryz.results57, go_sem]) rfl ?_; have hone := Hone.out; rw [if_neg (by simp)] at hone; exact OneP.good hone (by repeat (first | exact Up.refl _ | assumption | apply Up.alloc | refine Up.setCell ?_ (by simp) _)) _ _ (by simp) (by simp) _ (by simp)
 · (have he2 : (e0 == 0) = false := by rw [beq_eq_false_iff_ne]; exact he); have he3 : (e0 != 0) = true := by rw [bne_iff_ne]; exact he
   go_enter Tryz.func57, Tryz.ntmps57
   (go_wp2_with fail); refine Hg.out.mono ?_; rintro e w1 ⟨rfl, rfl⟩; go_wp2_with (go_at_call 106; refine (Hg2.out _ (by repeat (first | exact Up.refl _ | assumption | apply Up.alloc | refine Up.setCell ?_ (by simp) _))).mono ?_; rintro e w2 ⟨rfl, rfl⟩)
   all_goals
     refine bodyPost_ret (v := .tuple #[.agg #[.int .i64 0, .int .i64 0, .int .u64 0, .slice none 0 0], .int .i64 0, .int .i64 e0]) (by simp [results, Tryz.results57, go_sem]) rfl ?_; have hone := Hone.out; rw [if_pos he] at hone; exact OneP.bad hone (by repeat (first | exact Up.refl _ | assumption | apply Up.alloc | refine Up.setCell ?_ (by simp) _))
end Go.Proofs.YtbceapeoknngnaaGreatDoor
