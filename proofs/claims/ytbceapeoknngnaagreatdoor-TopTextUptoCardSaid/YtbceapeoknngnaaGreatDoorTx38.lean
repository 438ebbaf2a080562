/-
  Package wire: one.
  Package wire: one, whole; Parse; Bytes.
-/
import Derived.Test.YtbceapeoknngnaaGreatDoorTx37
set_option linter.unusedVariables false
set_option linter.unusedSimpArgs false
namespace Go.Proofs.YtbceapeoknngnaaGreatDoor
open Go.RowKit
set_option maxRecDepth 100000
open Lib (hid)
set_option maxHeartbeats 1600000 in
theorem one_sized (l : List UInt8) (w : World) (ao : Option Addr) (cap tag at_ : Nat) (hl : l.length ≤ 1099511627776) (hv : RdB All w (.slice ao l.length cap) l) (hc1 : l.length ≤ cap) (hc2 : cap ≤ 9223372036854775807)
   (Hg : Hid (Calls Tryz.prog 105 #[.slice ao l.length cap] (w.alloc box0) fun e w' => e = .returned (.tuple #[.int .u64 (tag : Int), .int .i64 (at_ : Int), .int .i64 0]) ∧ w' = w.alloc box0)) (Htag : Hid (tag < 2 ^ 64)) (k1 : 0 < at_) (k2 : at_ ≤ l.length) (hn1 : 1 ≤ tag / 8) (hn2 : tag / 8 < 536870912) (h : tag % 8 = 2) (x m : Nat) (e0 : Int) (hgx : get (l.drop at_) = (x, m, e0)) (hm : e0 = 0 → 0 < m ∧ m ≤ l.length - at_) (Hx : Hid (x < 2 ^ 64)) (Hone : Hid (oneP l = if e0 ≠ 0 then (e0, rec0, 0) else if (l.drop at_).length - m < x then (2, rec0, 0) else (0, ⟨((tag / 8 : Nat) : Int), 2, 0, ((l.drop at_).drop m).take x⟩, at_ + m + x))) :
   Calls Tryz.prog 57 #[.slice ao l.length cap] w (OneP l w) := by
 have hv2 : RdB All w (.slice (if cap = at_ then ao else ao.map (·.add at_)) (l.length - at_) (cap - at_)) (l.drop at_) := RdB.drop hv at_ k2 (fun h => by rw [if_neg h]) rfl rfl; have Hv2 := hid hv2; clear hv2; have Hv := hid hv; clear hv; (have hb : bits .and .u64 (tag : Int) 7 = 2 := by rw [bits_and7]; omega); have Hgx := hid hgx; clear hgx
 by_cases he : e0 = 0
 · subst he; obtain ⟨hm0, hm⟩ := hm rfl
   by_cases hx : l.length - at_ - m < x
   · have hone := Hone.out; rw [if_neg (by simp), if_pos (by rw [List.length_drop]; exact hx)] at hone; have Hone := hid hone; clear hone
     go_enter Tryz.func57, Tryz.ntmps57
     (go_wp2_with fail); refine Hg.out.mono ?_; rintro e w1 ⟨rfl, rfl⟩; go_wp2_with (go_at_call 105; refine (get_eq _ (l.drop at_) _ x m _ Hgx.out (RdB.drop (Hv.out.up stable_u8 (by repeat (first | exact Up.refl _ | assumption | apply Up.alloc | refine Up.setCell ?_ (by simp) _))) at_ k2 (fun h => by first | rfl | (rw [if_neg h])) (by first | rfl | omega) (by first | rfl | omega))).mono ?_; rintro e w2 ⟨rfl, rfl⟩)
     all_goals
       refine bodyPost_ret (v := .tuple #[.agg #[.int .i64 0, .int .i64 0, .int .u64 0, .slice none 0 0], .int .i64 0, .int .i64 2]) (by simp [results, Tryz.results57, go_sem]) rfl ?_; exact OneP.bad Hone.out (by repeat (first | exact Up.refl _ | assumption | apply Up.alloc | refine Up.setCell ?_ (by simp) _))
   · have hone := Hone.out; rw [if_neg (by simp), if_neg (by rw [List.length_drop]; exact hx)] at hone; have Hone := hid hone; clear hone
     have hv3 : RdB All w (.slice (if cap = at_ + m then ao else ao.map (·.add (at_ + m))) x (cap - (at_ + m))) ((((l.drop at_).drop m)).take x) := by
       rw [List.drop_drop]; exact RdB.take (RdB.drop Hv.out (at_ + m) (by omega) (fun h => by rw [if_neg h]) rfl rfl) x (by omega)
     (have htl : (((l.drop at_).drop m).take x).length = x := by simp; omega); generalize htk : ((l.drop at_).drop m).take x = tk at *; have Htk := hid htk; clear htk; have Hv3 := hid hv3; clear hv3; have Htl := hid htl; clear htl
     go_enter Tryz.func57, Tryz.ntmps57
     (go_wp2_with fail); refine Hg.out.mono ?_; rintro e w1 ⟨rfl, rfl⟩; go_wp2_with (first | (go_at_call 105; refine (get_eq _ (l.drop at_) _ x m _ Hgx.out (RdB.drop (Hv.out.up stable_u8 (by repeat (first | exact Up.refl _ | assumption | apply Up.alloc | refine Up.setCell ?_ (by simp) _))) at_ k2 (fun h => by first | rfl | (rw [if_neg h])) (by first | rfl | omega) (by first | rfl | omega))).mono ?_; rintro e w2 ⟨rfl, rfl⟩) | (go_at_call 107; go_must (refine (clone8_any _ _ _ (RdB.take (RdB.drop (Hv.out.up stable_u8 (by repeat (first | exact Up.refl _ | assumption | apply Up.alloc | refine Up.setCell ?_ (by simp) _))) (at_ + m) (by omega) (fun h => by first | rfl | (rw [if_neg h])) rfl (by first | rfl | omega)) x (by omega)) (by simp; omega)).mono ?_; rintro e w3 ⟨vb, rfl, how3, hu3⟩; rw [← List.drop_drop, Htk.out] at how3; have Hhow3 := hid how3; clear how3; obtain ⟨a3, c3, rfl, _, _⟩ := (rdB_of_owns (S := All) Hhow3.out (fun _ _ => trivial)).val; have hz : w.heap.size + 1 < w3.heap.size := (by have h9 := hu3.size; simp at h9; omega); have hk0 : w3.heap[w.heap.size]? = some box0 := hu3.blk ((Below.heap_alloc _ _ _ (by simp)).trans (heap_alloc_new w _)); have hk1 : w3.heap[w.heap.size + 1]? = some (.cells #[.int .i64 ((tag : Int) / 8), .int .i64 2, .int .u64 0, .slice none 0 0] 71) := hu3.blk (by have h9 := heap_alloc_new (w.alloc box0) (.cells #[.int .i64 ((tag : Int) / 8), .int .i64 2, .int .u64 0, .slice none 0 0] 71); simpa using h9); have q00 : w3.cell? ⟨w.heap.size, 0, none⟩ = some (.int .i64 0) := cell_of_row w3 _ 0 _ _ _ hk0; have q01 : w3.cell? ⟨w.heap.size, 1, none⟩ = some (.int .i64 0) := cell_of_row w3 _ 1 _ _ _ hk0; have q02 : w3.cell? ⟨w.heap.size, 2, none⟩ = some (.int .u64 0) := cell_of_row w3 _ 2 _ _ _ hk0; have q03 : w3.cell? ⟨w.heap.size, 3, none⟩ = some (.slice none 0 0) := cell_of_row w3 _ 3 _ _ _ hk0; have q10 : w3.cell? ⟨w.heap.size + 1, 0, none⟩ = some (.int .i64 ((tag : Int) / 8)) := cell_of_row w3 _ 0 _ _ _ hk1; have q11 : w3.cell? ⟨w.heap.size + 1, 1, none⟩ = some (.int .i64 2) := cell_of_row w3 _ 1 _ _ _ hk1; have q12 : w3.cell? ⟨w.heap.size + 1, 2, none⟩ = some (.int .u64 0) := cell_of_row w3 _ 2 _ _ _ hk1; have q13 : w3.cell? ⟨w.heap.size + 1, 3, none⟩ = some (.slice none 0 0) := cell_of_row w3 _ 3 _ _ _ hk1; have f0 : ∀ o, w3.frozen? ⟨w.heap.size, o, none⟩ = false := (fun o => frozen_of_row w3 _ o _ _ hk0); have f1 : ∀ o, w3.frozen? ⟨w.heap.size + 1, o, none⟩ = false := (fun o => frozen_of_row w3 _ o _ _ hk1); clear hk0 hk1)))
     all_goals
       refine bodyPost_ret (v := .tuple #[.agg #[.int .i64 ((tag : Int) / 8), .int .i64 2, .int .u64 0, .slice a3 tk.length c3], .int .i64 ((at_ : Int) + ((m : Int) + (x : Int))), .int .i64 0]) (by simp [results, Tryz.results57, go_sem, q00, q01, q02, q03, q10, q11, q12, q13]) rfl ?_; have hr3 : RdB (fun k => w.heap.size + 2 ≤ k) w3 (.slice a3 tk.length c3) tk := rdB_of_owns Hhow3.out (fun k hk => by have h9 := (Hhow3.out.lt k hk).1; simp at h9; omega); unfold OneP; rw [Hone.out]; refine ⟨_, by simp [Int.add_assoc], hr3.keep stable_u8 ?_, ?_⟩
       · refine Keep.trans (S' := fun k => w.heap.size + 2 ≤ k) ?_ (Keep.weak (fun k hk => by omega))
         with_reducible refine Keep.trans ?_ (Keep.setCell ?_ _)
         with_reducible refine Keep.trans ?_ (Keep.setCell ?_ _)
         with_reducible refine Keep.trans ?_ (Keep.setCell ?_ _)
         with_reducible refine Keep.trans ?_ (Keep.setCell ?_ _)
         with_reducible refine Keep.setCell ?_ _
         all_goals (show ¬ (w.heap.size + 2 ≤ _); simp)
       · repeat (with_reducible refine Up.setCell ?_ ?_ _)
         · exact (Up.alloc (Up.alloc (Up.refl w) _) _).trans hu3
         all_goals simp
 · (have he2 : (e0 == 0) = false := by rw [beq_eq_false_iff_ne]; exact he); have he3 : (e0 != 0) = true := by rw [bne_iff_ne]; exact he
   go_enter Tryz.func57, Tryz.ntmps57
   (go_wp2_with fail); refine Hg.out.mono ?_; rintro e w1 ⟨rfl, rfl⟩; go_wp2_with (go_at_call 105; refine (get_eq _ (l.drop at_) _ x m _ Hgx.out (RdB.drop (Hv.out.up stable_u8 (by repeat (first | exact Up.refl _ | assumption | apply Up.alloc | refine Up.setCell ?_ (by simp) _))) at_ k2 (fun h => by first | rfl | (rw [if_neg h])) (by first | rfl | omega) (by first | rfl | omega))).mono ?_; rintro e w2 ⟨rfl, rfl⟩)
   all_goals
     refine bodyPost_ret (v := .tuple #[.agg #[.int .i64 0, .int .i64 0, .int .u64 0, .slice none 0 0], .int .i64 0, .int .i64 e0]) (by simp [results, Tryz.results57, go_sem]) rfl ?_; have hone := Hone.out; rw [if_pos he] at hone; exact OneP.bad hone (by repeat (first | exact Up.refl _ | assumption | apply Up.alloc | refine Up.setCell ?_ (by simp) _))
set_option maxHeartbeats 400000 in
theorem one_bad (l : List UInt8) (w : World) (ao : Option Addr) (cap : Nat) (e0 : Int) (he : e0 ≠ 0)
   (Hg : Hid (Calls Tryz.prog 105 #[.slice ao l.length cap] (w.alloc box0) fun e w' => e = .returned (.tuple #[.int .u64 (0 : Int), .int .i64 (0 : Int), .int .i64 e0]) ∧ w' = w.alloc box0)) (Hone : Hid (oneP l = (e0, rec0, 0))) :
   Calls Tryz.prog 57 #[.slice ao l.length cap] w (OneP l w) := by
 have he3 : (e0 != 0) = true := by rw [bne_iff_ne]; exact he
 go_enter Tryz.func57, Tryz.ntmps57
 (go_wp2_with (go_at_call 105; refine Hg.out.mono ?_; rintro e w1 ⟨rfl, rfl⟩)); refine bodyPost_ret (v := .tuple #[.agg #[.int .i64 0, .int .i64 0, .int .u64 0, .slice none 0 0], .int .i64 0, .int .i64 e0]) (by simp [results, Tryz.results57, go_sem]) rfl ?_; exact OneP.bad Hone.out (Up.alloc (Up.refl w) _)
theorem one_any (v : Value) (l : List UInt8) (w : World) (hv : RdB All w v l) (hl : l.length ≤ 1099511627776) :
   Calls Tryz.prog 57 #[v] w (OneP l w) := by
 obtain ⟨ao, cap, rfl, hc1, hc2⟩ := hv.val; have hg := get_any _ l (w.alloc box0) (hv.up stable_u8 (Up.alloc (Up.refl w) _)); have hok := @get_ok l; have herr := @get_err l; have hone : oneP l = oneP l := rfl
 conv at hone => rhs; unfold oneP
 simp only at hone; generalize get l = g at *; obtain ⟨tag, at_, e0⟩ := g; simp only at *
 by_cases he : e0 = 0
 · subst he; obtain ⟨k1, k2, k3, k4⟩ := hok rfl; rw [if_neg (by simp)] at hone
   by_cases hnum : tag / 8 < 1 ∨ 536870912 ≤ tag / 8
   · rw [if_pos hnum] at hone; exact one_range l w ao cap tag at_ hl hv hc1 hc2 hg k4 k1 k2 hnum hone
   · rw [if_neg hnum] at hone; (have hn1 : 1 ≤ tag / 8 := by omega); have hn2 : tag / 8 < 536870912 := by omega
     by_cases h0 : tag % 8 = 0
     · rw [if_pos h0] at hone; have hm := @get_ok (l.drop at_); generalize hgx : get (l.drop at_) = h at *; obtain ⟨x, m, e1⟩ := h; have herr2 := @get_err (l.drop at_); rw [hgx] at herr2; refine one_varint l w ao cap tag at_ hl hv hc1 hc2 hg k4 k1 k2 hn1 hn2 h0 x m e1 hgx ?_ hone
       by_cases h1 : e1 = 0
       · exact (hm h1).2.2.1
       · rcases herr2 h1 with h | h <;> (simp only [Prod.mk.injEq] at h; omega)
     · rw [if_neg h0] at hone
       by_cases h1 : tag % 8 = 1
       · rw [if_pos h1] at hone; generalize hgx : numB 8 (l.drop at_) = h at *; obtain ⟨x, e1⟩ := h; exact one_eight l w ao cap tag at_ hl hv hc1 hc2 hg k4 k1 k2 hn1 hn2 h1 x e1 hgx hone
       · rw [if_neg h1] at hone
         by_cases h5 : tag % 8 = 5
         · rw [if_pos h5] at hone; generalize hgx : numB 4 (l.drop at_) = h at *; obtain ⟨x, e1⟩ := h; exact one_four l w ao cap tag at_ hl hv hc1 hc2 hg k4 k1 k2 hn1 hn2 h5 x e1 hgx hone
         · rw [if_neg h5] at hone
           by_cases h2 : tag % 8 = 2
           · rw [if_pos h2] at hone; have hm := @get_ok (l.drop at_); generalize hgx : get (l.drop at_) = h at *; obtain ⟨x, m, e1⟩ := h
             have hx : x < 2 ^ 64 := by
               by_cases h1 : e1 = 0
               · exact (hm h1).2.2.2
               · have herr2 := @get_err (l.drop at_); rw [hgx] at herr2; rcases herr2 h1 with h | h <;> (simp only [Prod.mk.injEq] at h; omega)
             refine one_sized l w ao cap tag at_ hl hv hc1 hc2 hg k4 k1 k2 hn1 hn2 h2 x m e1 hgx (fun h => ?_) hx hone; have := hm h; simp only [List.length_drop] at this; omega
           · rw [if_neg h2] at hone; exact one_kind l w ao cap tag at_ hl hv hc1 hc2 hg k4 k1 k2 hn1 hn2 _ rfl h0 h1 h2 h5 hone
 · rw [if_pos he] at hone; rcases herr he with h | h
   all_goals
     simp only [Prod.mk.injEq] at h; obtain ⟨rfl, rfl, rfl⟩ := h; exact one_bad l w ao cap _ he hg hone
theorem one_eq (v : Value) (l : List UInt8) (w : World) (x : Int) (r : Rec) (n : Nat) (h : oneP l = (x, r, n)) (hv : RdB All w v l) (hl : l.length ≤ 1099511627776) :
   Calls Tryz.prog 57 #[v] w fun e w' => ∃ vb, e = .returned (.tuple #[.agg #[.int .i64 r.number, .int .i64 r.how, .int .u64 (r.bits : Int), vb], .int .i64 (n : Int), .int .i64 x]) ∧ RdB (fun k => w.heap.size ≤ k) w' vb r.bytes ∧ Up w w' := by
 have := one_any v l w hv hl; unfold OneP at this; rw [h] at this; exact this
theorem eRec : Elem Tryz.prog 27 71 4 48 (.agg #[.int .i64 0, .int .i64 0, .int .u64 0, .slice none 0 0]) := ⟨Tryz.underlying27, info_parts (by kernel_rfl), rfl, by decide⟩
set_option maxHeartbeats 800000 in
theorem parse_any (v : Value) (l : List UInt8) (w : World) (hv : RdB All w v l) :
   Calls Tryz.prog 30 #[v] w fun e w' => ∃ v', e = .returned (.tuple #[v', .agg #[.int .i64 (parse l).2.1, .int .i64 ((parse l).2.2 : Int)]]) ∧ OwnS DRec (w.heap.size + 1) 71 4 (fun k => w.heap.size + 1 ≤ k) w' v' (parse l).1 ∧ Up w w' := by
 obtain ⟨ao, cap, rfl, hc1, hc2⟩ := hv.val; have Hv := hid hv; clear hv
 by_cases h4 : 4000 < l.length
 · go_enter Tryz.func30, Tryz.ntmps30
   (go_wp2_with fail); refine bodyPost_ret (v := .tuple #[.slice none 0 0, .agg #[.int .i64 4, .int .i64 0]]) (by simp [results, Tryz.results30, go_sem]) rfl ?_; unfold parse; rw [if_pos h4]; exact ⟨_, rfl, OwnS.nil _ _ _ _ _ _, Up.alloc (Up.refl w) _⟩
 · go_enter Tryz.func30, Tryz.ntmps30
   go_wp2_with fail
   go_loopw [4, 5] (fun o i wr => ∃ (k f : Nat) (out : List Rec), k ≤ l.length ∧ l.length - k < f ∧ i = .int .i64 k ∧ out.length ≤ k ∧ parseC k out (parseG f (l.drop k)) = parse l ∧ OwnS DRec (w.heap.size + 1) 71 4 (fun k => w.heap.size + 1 ≤ k) wr o out ∧ Up w wr ∧
       wr.heap[w.heap.size]? = some (.cells #[.int .i64 0, .int .i64 0] 67 (0, 0)))
     (fun _ i _ => l.length - (intOf i).toNat)
   case atStart => exact ⟨0, l.length + 1, [], by omega, by omega, rfl, by simp, by unfold parse; rw [if_neg h4, List.drop_zero]; exact parseC_start _, OwnS.nil _ _ _ _ _ _, Up.alloc (Up.refl w) _, heap_alloc_new w _⟩
   case round =>
     obtain ⟨k, f, out, hk, hf, rfl, hok, hp, how, hu, hbx⟩ := hrel; have q0 : wr.cell? ⟨w.heap.size, 0, none⟩ = some (.int .i64 0) := cell_of_row wr _ 0 _ _ _ hbx; have q1 : wr.cell? ⟨w.heap.size, 1, none⟩ = some (.int .i64 0) := cell_of_row wr _ 1 _ _ _ hbx; have f0 : ∀ o, wr.frozen? ⟨w.heap.size, o, none⟩ = false := fun o => frozen_of_row wr _ o _ _ hbx; have hwz : w.heap.size + 1 ≤ wr.heap.size := lt_of_block hbx; have Hp := hid hp; clear hp; have How := hid how; clear how; have Hbx := hid hbx; clear hbx; obtain ⟨xs0, hxs0⟩ := How.out.own; have Hown := hid hxs0; clear hxs0
     by_cases hlt : k < l.length
     · have hne : l.drop k ≠ [] := by
         intro h; have := congrArg List.length h; simp at this; omega
       obtain ⟨f', rfl⟩ : ∃ f', f = f' + 1 := ⟨f - 1, by omega⟩; have Hu := hid hu; clear hu; have hok1 := @oneP_ok (l.drop k); have her1 := @oneP_err (l.drop k); have hst := parseC_step k out f' (l.drop k) hne; rw [Hp.out, List.drop_drop] at hst; have hpe := Hp.out; rw [parseG, if_neg hne] at hpe; generalize hx : oneP (l.drop k) = o at *; obtain ⟨x, r, n⟩ := o; simp only at *; have Hx := hid hx; clear hx; have Hp2 := Hp; clear Hp
       by_cases ho : x = 0
       · obtain ⟨hn1, hn2, hb64, hr1, hr2, hr3, hr4⟩ := hok1 ho; simp only [List.length_drop] at hn2; have Hst := hid (hst ho); clear hst; have Hb64 := hid hb64; clear hb64 hne hok1 her1 hpe Hp2; subst ho
         go_wp2_with (first
           | (go_at_call 57; go_must (refine (one_eq _ (l.drop k) _ 0 r n Hx.out (RdB.drop (Hv.out.up stable_u8 Hu.out) k hk (fun h => by first | rfl | (rw [if_neg h])) (by first | rfl | omega) (by first | rfl | omega)) (by simp; omega)).mono ?_; rintro e w2 ⟨vb, rfl, hrb, hu2⟩; obtain ⟨a3, c3, rfl, hc31, hc32⟩ := hrb.val; have Hrb := hid hrb; clear hrb; obtain ⟨xs, hxs⟩ := (How.out.up stable_rec hu2).own; have Hxs := hid hxs; clear hxs; have hz2 : w.heap.size + 1 ≤ w2.heap.size := Nat.le_trans hwz hu2.size))
           | (at_builtin; go_must (refine wpList_app1 eRec _ (by rfl) _ _ (by rfl) (w.heap.size + 1) _ _ _ (by rfl) (Hxs.out.alloc _) _ (by rfl) (by simp) (by rfl) (oc (by rfl)) (by omega) (by unfold maxLen; omega) (by simp; omega) ?_; intro v1 w1 how1 hev1)))
         go_roundw
         case rel =>
           have hev := hev1.of_alloc; have hlt4 := fun j (hj : u4.ownBlock = some j) => Hown.out.lt j hj; have hkeep : RdB (Av2 (fun k => w.heap.size + 1 ≤ k) u4) w2 (.slice a3 r.bytes.length c3) r.bytes := Hrb.out.keep stable_u8 (Keep.weak (fun j hj => ⟨by omega, fun e => by have := (hlt4 j e).2; omega⟩)); refine ⟨k + n, f', out ++ [r], by omega, by omega, by go_num, by simp; omega, Hst.out.symm, OwnS.snoc stable_rec (How.out.up stable_rec hu2) Hxs.out how1 hev rfl ⟨_, rfl, hkeep, Hb64.out⟩, (Hu.out.trans hu2).evo hev (fun j hj => by have := (hlt4 j hj).1; omega), hev.blk (hu2.blk Hbx.out) (fun e => by have := (hlt4 _ e).1; omega)⟩
         case measure => simp [intOf]; omega
       · have her := her1 ho; simp only [Prod.mk.injEq, true_and] at her; obtain ⟨rfl, rfl⟩ := her; rw [if_pos ho] at hpe; have Hpe := hid hpe; (have ho2 : (x != 0) = true := by rw [bne_iff_ne]; exact ho); clear hpe hst hok1 Hp2 hne
         go_wp2_with (first
           | (go_at_call 57; go_must (refine (one_eq _ (l.drop k) _ x _ _ Hx.out (RdB.drop (Hv.out.up stable_u8 Hu.out) k hk (fun h => by first | rfl | (rw [if_neg h])) (by first | rfl | omega) (by first | rfl | omega)) (by simp; omega)).mono ?_; rintro e w2 ⟨vb, rfl, hrb, hu2⟩; obtain ⟨a3, c3, rfl, hc31, hc32⟩ := hrb.val; clear hrb; have hbx := hu2.blk Hbx.out; have p0 : w2.cell? ⟨w.heap.size, 0, none⟩ = some (.int .i64 0) := cell_of_row w2 _ 0 _ _ _ hbx; have p1 : w2.cell? ⟨w.heap.size, 1, none⟩ = some (.int .i64 0) := cell_of_row w2 _ 1 _ _ _ hbx; have g0 : ∀ o, w2.frozen? ⟨w.heap.size, o, none⟩ = false := (fun o => frozen_of_row w2 _ o _ _ hbx); have hz2 : w.heap.size < w2.heap.size := Nat.lt_of_lt_of_le hwz hu2.size; clear hbx)))
         refine bodyPost_ret (v := .tuple #[.slice none 0 0, .agg #[.int .i64 x, .int .i64 k]]) (by simp [results, Tryz.results30, go_sem, p0, p1, hz2]) rfl ?_; (have hp : parse l = ([], x, k) := by rw [← Hpe.out]; simp [parseC, ho]); rw [hp]; refine ⟨_, rfl, OwnS.nil _ _ _ _ _ _, ?_⟩
         with_reducible refine Up.alloc ?_ _
         repeat (with_reducible refine Up.setCell ?_ ?_ _)
         · exact Hu.out.trans hu2
         all_goals simp
     · have Hu := hid hu; clear hu; (go_wp2_with fail); refine bodyPost_ret (v := .tuple #[u4, .agg #[.int .i64 0, .int .i64 0]]) (by simp [results, Tryz.results30, go_sem, q0, q1]) rfl ?_; have hp := Hp.out; obtain ⟨f', rfl⟩ : ∃ f', f = f' + 1 := ⟨f - 1, by omega⟩; rw [List.drop_eq_nil_of_le (by omega), parseG, if_pos rfl] at hp; simp [parseC] at hp; rw [← hp]; refine ⟨_, rfl, ?_, ?_⟩
       · with_reducible refine OwnS.setCell stable_rec ?_ ?_ ?_ _
         · with_reducible refine OwnS.setCell stable_rec How.out ?_ ?_ _
           · exact fun e => by have := (Hown.out.lt _ e).1; simp at this; omega
           · simp
         · exact fun e => by have := (Hown.out.lt _ e).1; simp at this; omega
         · simp
       · repeat (with_reducible refine Up.setCell ?_ ?_ _)
         · exact Hu.out
         all_goals simp
end Go.Proofs.YtbceapeoknngnaaGreatDoor
