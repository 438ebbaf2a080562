/-
  Package wire: one.
-/
import Derived.Test.YtplgegffapikoaaProg
import Derived.Test.YtplgegffapikoaaBase
import Derived.Test.YtplgegffapikoaaPlainWire
import Derived.Test.YtplgegffapikoaaGet
import Derived.Test.YtplgegffapikoaaOne
import Derived.Outline
set_option linter.unusedVariables false
set_option linter.unusedSimpArgs false
namespace Go.Proofs.Ytplgegffapikoaa
open Go.RowKit

/-- What 'one' answers. -/
def OneP (l : List UInt8) (w : World) (e : Ending) (w' : World) : Prop := ∃ vb, e = .returned (.tuple #[.agg #[.int .i64 (oneP l).2.1.number, .int .i64 (oneP l).2.1.how, .int .u64 ((oneP l).2.1.bits : Int), vb], .int .i64 ((oneP l).2.2 : Int), .int .i64 (oneP l).1]) ∧ RdB (fun k => w.heap.size ≤ k) w' vb (oneP l).2.1.bytes ∧ Up w w'
theorem OneP.bad {l : List UInt8} {w w' : World} {x : Int} (h : oneP l = (x, rec0, 0)) (hu : Up w w') : OneP l w (.returned (.tuple #[.agg #[.int .i64 0, .int .i64 0, .int .u64 0, .slice none 0 0], .int .i64 0, .int .i64 x])) w' := by
  unfold OneP
  rw [h]
  exact ⟨_, rfl, rdB_nil _ _, hu⟩
theorem OneP.good {l : List UInt8} {w w' : World} {number how : Int} {bits n : Nat} (h : oneP l = (0, ⟨number, how, bits, []⟩, n)) (hu : Up w w') (a b : Int) (ha : a = number) (hb : b = how) (m : Int) (hm : m = n) : OneP l w (.returned (.tuple #[.agg #[.int .i64 a, .int .i64 b, .int .u64 (bits : Int), .slice none 0 0], .int .i64 m, .int .i64 0])) w' := by
  subst ha; subst hb; subst hm
  unfold OneP
  rw [h]
  exact ⟨_, rfl, rdB_nil _ _, hu⟩
abbrev box0 : Obj := .cells #[.int .i64 0, .int .i64 0, .int .u64 0, .slice none 0 0] 78

set_option maxRecDepth 100000 in
set_option maxHeartbeats 400000 in
theorem one_range (l : List UInt8) (w : World) (ao : Option Addr) (cap tag at_ : Nat) (hl : l.length ≤ 1099511627776) (hv : RdB All w (.slice ao l.length cap) l) (hc1 : l.length ≤ cap) (hc2 : cap ≤ 9223372036854775807)
    (Hg : Hid (Calls Try.prog 12 #[.slice ao l.length cap] (w.alloc box0) fun e w' => e = .returned (.tuple #[.int .u64 (tag : Int), .int .i64 (at_ : Int), .int .i64 0]) ∧ w' = w.alloc box0)) (Htag : Hid (tag < 2 ^ 64)) (k1 : 0 < at_) (k2 : at_ ≤ l.length) (h : tag / 8 < 1 ∨ 536870912 ≤ tag / 8) (Hone : Hid (oneP l = (3, rec0, 0))) :
    Calls Try.prog 38 #[.slice ao l.length cap] w (OneP l w) := by
  have hv2 : RdB All w (.slice (if cap = at_ then ao else ao.map (·.add at_)) (l.length - at_) (cap - at_)) (l.drop at_) := RdB.drop hv at_ k2 (fun h => by rw [if_neg h]) rfl rfl
  have Hv2 := Lib.hid hv2; clear hv2
  have Hv := Lib.hid hv; clear hv
  rcases h with hn | hn
  all_goals
    go_enter Try.func38, Try.ntmps38
    go_wp2_with fail
    refine Hg.out.mono ?_
    rintro e w1 ⟨rfl, rfl⟩
    go_wp2_with fail
    refine bodyPost_ret (v := .tuple #[.agg #[.int .i64 0, .int .i64 0, .int .u64 0, .slice none 0 0], .int .i64 0, .int .i64 3]) (by simp [results, Try.results38, go_sem]) rfl ?_
    exact OneP.bad Hone.out (by repeat (first | exact Up.refl _ | assumption | apply Up.alloc | refine Up.setCell ?_ (by simp) _))
set_option maxRecDepth 100000 in
set_option maxHeartbeats 400000 in
theorem one_kind (l : List UInt8) (w : World) (ao : Option Addr) (cap tag at_ : Nat) (hl : l.length ≤ 1099511627776) (hv : RdB All w (.slice ao l.length cap) l) (hc1 : l.length ≤ cap) (hc2 : cap ≤ 9223372036854775807)
    (Hg : Hid (Calls Try.prog 12 #[.slice ao l.length cap] (w.alloc box0) fun e w' => e = .returned (.tuple #[.int .u64 (tag : Int), .int .i64 (at_ : Int), .int .i64 0]) ∧ w' = w.alloc box0)) (Htag : Hid (tag < 2 ^ 64)) (k1 : 0 < at_) (k2 : at_ ≤ l.length) (hn1 : 1 ≤ tag / 8) (hn2 : tag / 8 < 536870912) (h : Nat) (hh : tag % 8 = h) (h0 : h ≠ 0) (h1 : h ≠ 1) (h2 : h ≠ 2) (h5 : h ≠ 5) (Hone : Hid (oneP l = (1, rec0, 0))) :
    Calls Try.prog 38 #[.slice ao l.length cap] w (OneP l w) := by
  have hv2 : RdB All w (.slice (if cap = at_ then ao else ao.map (·.add at_)) (l.length - at_) (cap - at_)) (l.drop at_) := RdB.drop hv at_ k2 (fun h => by rw [if_neg h]) rfl rfl
  have Hv2 := Lib.hid hv2; clear hv2
  have Hv := Lib.hid hv; clear hv
  have hb : bits .and .u64 (tag : Int) 7 = (h : Int) := by rw [bits_and7, hh]
  have h7 : h < 8 := by omega
  have hw : wrap64 (h : Int) = (h : Int) := by unfold wrap64; omega
  have g0 : ((h : Int) == 0) = false := by rw [beq_eq_false_iff_ne]; omega
  have g1 : ((h : Int) == 1) = false := by rw [beq_eq_false_iff_ne]; omega
  have g2 : ((h : Int) == 2) = false := by rw [beq_eq_false_iff_ne]; omega
  have g5 : ((h : Int) == 5) = false := by rw [beq_eq_false_iff_ne]; omega
  have Hhh := Lib.hid hh; clear hh
  go_enter Try.func38, Try.ntmps38
  go_wp2_with fail
  refine Hg.out.mono ?_
  rintro e w1 ⟨rfl, rfl⟩
  go_wp2_with fail
  refine bodyPost_ret (v := .tuple #[.agg #[.int .i64 0, .int .i64 0, .int .u64 0, .slice none 0 0], .int .i64 0, .int .i64 1]) (by simp [results, Try.results38, go_sem]) rfl ?_
  exact OneP.bad Hone.out (by repeat (first | exact Up.refl _ | assumption | apply Up.alloc | refine Up.setCell ?_ (by simp) _))
set_option maxRecDepth 100000 in
set_option maxHeartbeats 400000 in
theorem one_varint (l : List UInt8) (w : World) (ao : Option Addr) (cap tag at_ : Nat) (hl : l.length ≤ 1099511627776) (hv : RdB All w (.slice ao l.length cap) l) (hc1 : l.length ≤ cap) (hc2 : cap ≤ 9223372036854775807)
    (Hg : Hid (Calls Try.prog 12 #[.slice ao l.length cap] (w.alloc box0) fun e w' => e = .returned (.tuple #[.int .u64 (tag : Int), .int .i64 (at_ : Int), .int .i64 0]) ∧ w' = w.alloc box0)) (Htag : Hid (tag < 2 ^ 64)) (k1 : 0 < at_) (k2 : at_ ≤ l.length) (hn1 : 1 ≤ tag / 8) (hn2 : tag / 8 < 536870912) (h : tag % 8 = 0) (x m : Nat) (e0 : Int) (hgx : get (l.drop at_) = (x, m, e0)) (hm : m ≤ 10) (Hone : Hid (oneP l = if e0 ≠ 0 then (e0, rec0, 0) else (0, ⟨((tag / 8 : Nat) : Int), 0, x, []⟩, at_ + m))) :
    Calls Try.prog 38 #[.slice ao l.length cap] w (OneP l w) := by
  have hv2 : RdB All w (.slice (if cap = at_ then ao else ao.map (·.add at_)) (l.length - at_) (cap - at_)) (l.drop at_) := RdB.drop hv at_ k2 (fun h => by rw [if_neg h]) rfl rfl
  have Hv2 := Lib.hid hv2; clear hv2
  have Hv := Lib.hid hv; clear hv
  have hb : bits .and .u64 (tag : Int) 7 = 0 := by rw [bits_and7]; omega
  have hg2 := fun w' (hu : Up w w') => get_any _ (l.drop at_) w' (Hv2.out.up stable_u8 hu)
  rw [hgx] at hg2
  have Hg2 := Lib.hid hg2; clear hg2 hgx
  by_cases he : e0 = 0
  · subst he
    go_enter Try.func38, Try.ntmps38
    go_wp2_with fail
    refine Hg.out.mono ?_
    rintro e w1 ⟨rfl, rfl⟩
    go_wp2_with (go_at_call 12; refine (Hg2.out _ (by repeat (first | exact Up.refl _ | assumption | apply Up.alloc | refine Up.setCell ?_ (by simp) _))).mono ?_; rintro e w2 ⟨rfl, rfl⟩)
    all_goals
      refine bodyPost_ret (v := .tuple #[.agg #[.int .i64 ((tag : Int) / 8), .int .i64 0, .int .u64 (x : Int), .slice none 0 0], .int .i64 ((at_ : Int) + m), .int .i64 0]) (by simp [results, Try.results38, go_sem]) rfl ?_
      have hone := Hone.out
      rw [if_neg (by simp)] at hone
      exact OneP.good hone (by repeat (first | exact Up.refl _ | assumption | apply Up.alloc | refine Up.setCell ?_ (by simp) _)) _ _ (by simp) (by simp) _ (by simp)
  · have he2 : (e0 == 0) = false := by rw [beq_eq_false_iff_ne]; exact he
    have he3 : (e0 != 0) = true := by rw [bne_iff_ne]; exact he
    go_enter Try.func38, Try.ntmps38
    go_wp2_with fail
    refine Hg.out.mono ?_
    rintro e w1 ⟨rfl, rfl⟩
    go_wp2_with (go_at_call 12; refine (Hg2.out _ (by repeat (first | exact Up.refl _ | assumption | apply Up.alloc | refine Up.setCell ?_ (by simp) _))).mono ?_; rintro e w2 ⟨rfl, rfl⟩)
    all_goals
      refine bodyPost_ret (v := .tuple #[.agg #[.int .i64 0, .int .i64 0, .int .u64 0, .slice none 0 0], .int .i64 0, .int .i64 e0]) (by simp [results, Try.results38, go_sem]) rfl ?_
      have hone := Hone.out
      rw [if_pos he] at hone
      exact OneP.bad hone (by repeat (first | exact Up.refl _ | assumption | apply Up.alloc | refine Up.setCell ?_ (by simp) _))
set_option maxRecDepth 100000 in
set_option maxHeartbeats 400000 in
theorem one_eight (l : List UInt8) (w : World) (ao : Option Addr) (cap tag at_ : Nat) (hl : l.length ≤ 1099511627776) (hv : RdB All w (.slice ao l.length cap) l) (hc1 : l.length ≤ cap) (hc2 : cap ≤ 9223372036854775807)
    (Hg : Hid (Calls Try.prog 12 #[.slice ao l.length cap] (w.alloc box0) fun e w' => e = .returned (.tuple #[.int .u64 (tag : Int), .int .i64 (at_ : Int), .int .i64 0]) ∧ w' = w.alloc box0)) (Htag : Hid (tag < 2 ^ 64)) (k1 : 0 < at_) (k2 : at_ ≤ l.length) (hn1 : 1 ≤ tag / 8) (hn2 : tag / 8 < 536870912) (h : tag % 8 = 1) (x : Nat) (e0 : Int) (hgx : numB 8 (l.drop at_) = (x, e0))  (Hone : Hid (oneP l = if e0 ≠ 0 then (e0, rec0, 0) else (0, ⟨((tag / 8 : Nat) : Int), 1, x, []⟩, at_ + 8))) :
    Calls Try.prog 38 #[.slice ao l.length cap] w (OneP l w) := by
  have hv2 : RdB All w (.slice (if cap = at_ then ao else ao.map (·.add at_)) (l.length - at_) (cap - at_)) (l.drop at_) := RdB.drop hv at_ k2 (fun h => by rw [if_neg h]) rfl rfl
  have Hv2 := Lib.hid hv2; clear hv2
  have Hv := Lib.hid hv; clear hv
  have hb : bits .and .u64 (tag : Int) 7 = 1 := by rw [bits_and7]; omega
  have hg2 := fun w' (hu : Up w w') => number_any _ (l.drop at_) 8 w' (Hv2.out.up stable_u8 hu) (by omega)
  rw [hgx] at hg2
  have Hg2 := Lib.hid hg2; clear hg2 hgx
  by_cases he : e0 = 0
  · subst he
    go_enter Try.func38, Try.ntmps38
    go_wp2_with fail
    refine Hg.out.mono ?_
    rintro e w1 ⟨rfl, rfl⟩
    go_wp2_with (go_at_call 65; refine (Hg2.out _ (by repeat (first | exact Up.refl _ | assumption | apply Up.alloc | refine Up.setCell ?_ (by simp) _))).mono ?_; rintro e w2 ⟨rfl, rfl⟩)
    all_goals
      refine bodyPost_ret (v := .tuple #[.agg #[.int .i64 ((tag : Int) / 8), .int .i64 1, .int .u64 (x : Int), .slice none 0 0], .int .i64 ((at_ : Int) + 8), .int .i64 0]) (by simp [results, Try.results38, go_sem]) rfl ?_
      have hone := Hone.out
      rw [if_neg (by simp)] at hone
      exact OneP.good hone (by repeat (first | exact Up.refl _ | assumption | apply Up.alloc | refine Up.setCell ?_ (by simp) _)) _ _ (by simp) (by simp) _ (by simp)
  · have he2 : (e0 == 0) = false := by rw [beq_eq_false_iff_ne]; exact he
    have he3 : (e0 != 0) = true := by rw [bne_iff_ne]; exact he
    go_enter Try.func38, Try.ntmps38
    go_wp2_with fail
    refine Hg.out.mono ?_
    rintro e w1 ⟨rfl, rfl⟩
    go_wp2_with (go_at_call 65; refine (Hg2.out _ (by repeat (first | exact Up.refl _ | assumption | apply Up.alloc | refine Up.setCell ?_ (by simp) _))).mono ?_; rintro e w2 ⟨rfl, rfl⟩)
    all_goals
      refine bodyPost_ret (v := .tuple #[.agg #[.int .i64 0, .int .i64 0, .int .u64 0, .slice none 0 0], .int .i64 0, .int .i64 e0]) (by simp [results, Try.results38, go_sem]) rfl ?_
      have hone := Hone.out
      rw [if_pos he] at hone
      exact OneP.bad hone (by repeat (first | exact Up.refl _ | assumption | apply Up.alloc | refine Up.setCell ?_ (by simp) _))
set_option maxRecDepth 100000 in
set_option maxHeartbeats 400000 in
theorem one_four (l : List UInt8) (w : World) (ao : Option Addr) (cap tag at_ : Nat) (hl : l.length ≤ 1099511627776) (hv : RdB All w (.slice ao l.length cap) l) (hc1 : l.length ≤ cap) (hc2 : cap ≤ 9223372036854775807)
    (Hg : Hid (Calls Try.prog 12 #[.slice ao l.length cap] (w.alloc box0) fun e w' => e = .returned (.tuple #[.int .u64 (tag : Int), .int .i64 (at_ : Int), .int .i64 0]) ∧ w' = w.alloc box0)) (Htag : Hid (tag < 2 ^ 64)) (k1 : 0 < at_) (k2 : at_ ≤ l.length) (hn1 : 1 ≤ tag / 8) (hn2 : tag / 8 < 536870912) (h : tag % 8 = 5) (x : Nat) (e0 : Int) (hgx : numB 4 (l.drop at_) = (x, e0))  (Hone : Hid (oneP l = if e0 ≠ 0 then (e0, rec0, 0) else (0, ⟨((tag / 8 : Nat) : Int), 5, x, []⟩, at_ + 4))) :
    Calls Try.prog 38 #[.slice ao l.length cap] w (OneP l w) := by
  have hv2 : RdB All w (.slice (if cap = at_ then ao else ao.map (·.add at_)) (l.length - at_) (cap - at_)) (l.drop at_) := RdB.drop hv at_ k2 (fun h => by rw [if_neg h]) rfl rfl
  have Hv2 := Lib.hid hv2; clear hv2
  have Hv := Lib.hid hv; clear hv
  have hb : bits .and .u64 (tag : Int) 7 = 5 := by rw [bits_and7]; omega
  have hg2 := fun w' (hu : Up w w') => number_any _ (l.drop at_) 4 w' (Hv2.out.up stable_u8 hu) (by omega)
  rw [hgx] at hg2
  have Hg2 := Lib.hid hg2; clear hg2 hgx
  by_cases he : e0 = 0
  · subst he
    go_enter Try.func38, Try.ntmps38
    go_wp2_with fail
    refine Hg.out.mono ?_
    rintro e w1 ⟨rfl, rfl⟩
    go_wp2_with (go_at_call 65; refine (Hg2.out _ (by repeat (first | exact Up.refl _ | assumption | apply Up.alloc | refine Up.setCell ?_ (by simp) _))).mono ?_; rintro e w2 ⟨rfl, rfl⟩)
    all_goals
      refine bodyPost_ret (v := .tuple #[.agg #[.int .i64 ((tag : Int) / 8), .int .i64 5, .int .u64 (x : Int), .slice none 0 0], .int .i64 ((at_ : Int) + 4), .int .i64 0]) (by simp [results, Try.results38, go_sem]) rfl ?_
      have hone := Hone.out
      rw [if_neg (by simp)] at hone
      exact OneP.good hone (by repeat (first | exact Up.refl _ | assumption | apply Up.alloc | refine Up.setCell ?_ (by simp) _)) _ _ (by simp) (by simp) _ (by simp)
  · have he2 : (e0 == 0) = false := by rw [beq_eq_false_iff_ne]; exact he
    have he3 : (e0 != 0) = true := by rw [bne_iff_ne]; exact he
    go_enter Try.func38, Try.ntmps38
    go_wp2_with fail
    refine Hg.out.mono ?_
    rintro e w1 ⟨rfl, rfl⟩
    go_wp2_with (go_at_call 65; refine (Hg2.out _ (by repeat (first | exact Up.refl _ | assumption | apply Up.alloc | refine Up.setCell ?_ (by simp) _))).mono ?_; rintro e w2 ⟨rfl, rfl⟩)
    all_goals
      refine bodyPost_ret (v := .tuple #[.agg #[.int .i64 0, .int .i64 0, .int .u64 0, .slice none 0 0], .int .i64 0, .int .i64 e0]) (by simp [results, Try.results38, go_sem]) rfl ?_
      have hone := Hone.out
      rw [if_pos he] at hone
      exact OneP.bad hone (by repeat (first | exact Up.refl _ | assumption | apply Up.alloc | refine Up.setCell ?_ (by simp) _))
end Go.Proofs.Ytplgegffapikoaa
