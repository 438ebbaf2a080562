/-
  slices.IndexFunc, slices.ContainsFunc (written by gen_idx.py).
-/
import Derived.Test.YtbceapeoknngnaaGreatDoorTx03
import Derived.Shelf.Abstract
set_option linter.unusedVariables false
namespace Go.Proofs.YtbceapeoknngnaaGreatDoor
open Go.RowKit
set_option maxRecDepth 100000
open Lib (hid)
set_option maxHeartbeats 800000 in
theorem indexF_msg (v : Value) (l : List Msg) (p : Msg → Bool) (g : FuncId) (eg : ∀ args w, (callFunc g args).run Tryz.prog w = .ok (.enter g args) w) (caps : Array Value) (w : World) (hv : RdS DMsg 3 All w v l)
   (hp : ∀ x cs wr, x ∈ l → Up w wr → DMsg All wr x cs → Calls Tryz.prog g (#[.agg cs.toArray] ++ caps) wr fun e w' => e = .returned (.bool (p x)) ∧ Up wr w') :
   Calls Tryz.prog 145 #[v, .func (.func g) #[] caps] w fun e w' => e = .returned (.int .i64 (idxP p l)) ∧ Up w w' := by
 obtain ⟨ao, cap, rfl, hc1, hc2⟩ := hv.val; have Hv := hid hv; clear hv; have Hp := hid hp; clear hp
 go_enter Tryz.func145, Tryz.ntmps145
 (go_wp2_with fail); (go_loopw [8] (fun i wr => ∃ k : Nat, k ≤ l.length ∧ i = .int .i64 k ∧ Up w wr ∧ ∀ j, (hj : j < l.length) → j < k → p l[j] = false) (fun i _ => l.length - (intOf i).toNat)); case atStart => exact ⟨0, by omega, rfl, Up.refl _, fun j _ h => absurd h (by omega)⟩
 case round =>
   obtain ⟨k, hk, rfl, hu, hg⟩ := hrel; have Hg := hid hg; clear hg
   by_cases hlt : k < l.length
   · obtain ⟨b, o, cs, rfl, hb, hl, hcs, hd⟩ := (Hv.out.up stable_msg hu).at hlt; have hcall := Hp.out _ _ wr (List.getElem_mem hlt) hu hd; obtain ⟨vf, vb, hd, _, _, _⟩ := hd; subst hd; have c0 := hcs 0 _ rfl; have c1 := hcs 1 _ rfl; have c2 := hcs 2 _ rfl; simp only [Nat.add_zero] at c0; clear hcs hl; (have i0 : (0 : Int) ≤ (k : Int) := by omega); (have i1 : (k : Int) < (l.length : Int) := by omega); have hgg := fun e => idxP_at p l k hlt Hg.out e; have Hgg := hid hgg; clear hgg; have Hgn := hid (fun e => no_more (p := p) hlt Hg.out e); have Hu := hid hu; clear hu; generalize l[k] = x at *
     cases he : p x with
     | true =>
       rw [he] at hcall; have Hcall := hid hcall; clear hcall; go_wp2_with (go_at_fn g; refine Hcall.out.mono ?_; rintro e w1 ⟨rfl, hu1⟩)
       go_ret
       exact ⟨ret_int (Hgg.out he).symm, Hu.out.trans hu1⟩
     | false =>
       rw [he] at hcall; have Hcall := hid hcall; clear hcall; go_wp2_with (go_at_fn g; refine Hcall.out.mono ?_; rintro e w1 ⟨rfl, hu1⟩)
       go_roundw
       (case rel => exact ⟨k + 1, by omega, by go_num, Hu.out.trans hu1, Hgn.out he⟩); case measure => simp [intOf]; omega
   · go_wp2_with fail
     go_ret
     exact ⟨ret_int (idxP_none _ _ (fun j hj => Hg.out j hj (by omega))).symm, hu⟩
set_option maxHeartbeats 800000 in
theorem indexF_enu (v : Value) (l : List Enu) (p : Enu → Bool) (g : FuncId) (eg : ∀ args w, (callFunc g args).run Tryz.prog w = .ok (.enter g args) w) (caps : Array Value) (w : World) (hv : RdS DEnu 2 All w v l)
   (hp : ∀ x cs wr, x ∈ l → Up w wr → DEnu All wr x cs → Calls Tryz.prog g (#[.agg cs.toArray] ++ caps) wr fun e w' => e = .returned (.bool (p x)) ∧ Up wr w') :
   Calls Tryz.prog 147 #[v, .func (.func g) #[] caps] w fun e w' => e = .returned (.int .i64 (idxP p l)) ∧ Up w w' := by
 obtain ⟨ao, cap, rfl, hc1, hc2⟩ := hv.val; have Hv := hid hv; clear hv; have Hp := hid hp; clear hp
 go_enter Tryz.func147, Tryz.ntmps147
 (go_wp2_with fail); (go_loopw [8] (fun i wr => ∃ k : Nat, k ≤ l.length ∧ i = .int .i64 k ∧ Up w wr ∧ ∀ j, (hj : j < l.length) → j < k → p l[j] = false) (fun i _ => l.length - (intOf i).toNat)); case atStart => exact ⟨0, by omega, rfl, Up.refl _, fun j _ h => absurd h (by omega)⟩
 case round =>
   obtain ⟨k, hk, rfl, hu, hg⟩ := hrel; have Hg := hid hg; clear hg
   by_cases hlt : k < l.length
   · obtain ⟨b, o, cs, rfl, hb, hl, hcs, hd⟩ := (Hv.out.up stable_enu hu).at hlt; have hcall := Hp.out _ _ wr (List.getElem_mem hlt) hu hd; obtain ⟨vf, hd, _, _⟩ := hd; subst hd; have c0 := hcs 0 _ rfl; have c1 := hcs 1 _ rfl; simp only [Nat.add_zero] at c0; clear hcs hl; (have i0 : (0 : Int) ≤ (k : Int) := by omega); (have i1 : (k : Int) < (l.length : Int) := by omega); have hgg := fun e => idxP_at p l k hlt Hg.out e; have Hgg := hid hgg; clear hgg; have Hgn := hid (fun e => no_more (p := p) hlt Hg.out e); have Hu := hid hu; clear hu; generalize l[k] = x at *
     cases he : p x with
     | true =>
       rw [he] at hcall; have Hcall := hid hcall; clear hcall; go_wp2_with (go_at_fn g; refine Hcall.out.mono ?_; rintro e w1 ⟨rfl, hu1⟩)
       go_ret
       exact ⟨ret_int (Hgg.out he).symm, Hu.out.trans hu1⟩
     | false =>
       rw [he] at hcall; have Hcall := hid hcall; clear hcall; go_wp2_with (go_at_fn g; refine Hcall.out.mono ?_; rintro e w1 ⟨rfl, hu1⟩)
       go_roundw
       (case rel => exact ⟨k + 1, by omega, by go_num, Hu.out.trans hu1, Hgn.out he⟩); case measure => simp [intOf]; omega
   · go_wp2_with fail
     go_ret
     exact ⟨ret_int (idxP_none _ _ (fun j hj => Hg.out j hj (by omega))).symm, hu⟩
set_option maxHeartbeats 800000 in
theorem indexF_fld (v : Value) (l : List Fld) (p : Fld → Bool) (g : FuncId) (eg : ∀ args w, (callFunc g args).run Tryz.prog w = .ok (.enter g args) w) (caps : Array Value) (w : World) (hv : RdS DFld 6 All w v l)
   (hp : ∀ x cs wr, x ∈ l → Up w wr → DFld All wr x cs → Calls Tryz.prog g (#[.agg cs.toArray] ++ caps) wr fun e w' => e = .returned (.bool (p x)) ∧ Up wr w') :
   Calls Tryz.prog 84 #[v, .func (.func g) #[] caps] w fun e w' => e = .returned (.int .i64 (idxP p l)) ∧ Up w w' := by
 obtain ⟨ao, cap, rfl, hc1, hc2⟩ := hv.val; have Hv := hid hv; clear hv; have Hp := hid hp; clear hp
 go_enter Tryz.func84, Tryz.ntmps84
 (go_wp2_with fail); (go_loopw [8] (fun i wr => ∃ k : Nat, k ≤ l.length ∧ i = .int .i64 k ∧ Up w wr ∧ ∀ j, (hj : j < l.length) → j < k → p l[j] = false) (fun i _ => l.length - (intOf i).toNat)); case atStart => exact ⟨0, by omega, rfl, Up.refl _, fun j _ h => absurd h (by omega)⟩
 case round =>
   obtain ⟨k, hk, rfl, hu, hg⟩ := hrel; have Hg := hid hg; clear hg
   by_cases hlt : k < l.length
   · obtain ⟨b, o, cs, rfl, hb, hl, hcs, hd⟩ := (Hv.out.up stable_fld hu).at hlt; have hcall := Hp.out _ _ wr (List.getElem_mem hlt) hu hd; obtain ⟨hd, _, _, _, _, _⟩ := hd; subst hd; have c0 := hcs 0 _ rfl; have c1 := hcs 1 _ rfl; have c2 := hcs 2 _ rfl; have c3 := hcs 3 _ rfl; have c4 := hcs 4 _ rfl; have c5 := hcs 5 _ rfl; simp only [Nat.add_zero] at c0; clear hcs hl; (have i0 : (0 : Int) ≤ (k : Int) := by omega); (have i1 : (k : Int) < (l.length : Int) := by omega); have hgg := fun e => idxP_at p l k hlt Hg.out e; have Hgg := hid hgg; clear hgg; have Hgn := hid (fun e => no_more (p := p) hlt Hg.out e); have Hu := hid hu; clear hu; generalize l[k] = x at *
     cases he : p x with
     | true =>
       rw [he] at hcall; have Hcall := hid hcall; clear hcall; go_wp2_with (go_at_fn g; refine Hcall.out.mono ?_; rintro e w1 ⟨rfl, hu1⟩)
       go_ret
       exact ⟨ret_int (Hgg.out he).symm, Hu.out.trans hu1⟩
     | false =>
       rw [he] at hcall; have Hcall := hid hcall; clear hcall; go_wp2_with (go_at_fn g; refine Hcall.out.mono ?_; rintro e w1 ⟨rfl, hu1⟩)
       go_roundw
       (case rel => exact ⟨k + 1, by omega, by go_num, Hu.out.trans hu1, Hgn.out he⟩); case measure => simp [intOf]; omega
   · go_wp2_with fail
     go_ret
     exact ⟨ret_int (idxP_none _ _ (fun j hj => Hg.out j hj (by omega))).symm, hu⟩
set_option maxHeartbeats 800000 in
theorem containsF_fld (v : Value) (l : List Fld) (p : Fld → Bool) (g : FuncId) (eg : ∀ args w, (callFunc g args).run Tryz.prog w = .ok (.enter g args) w) (caps : Array Value) (w : World) (hv : RdS DFld 6 All w v l)
   (hp : ∀ x cs wr, x ∈ l → Up w wr → DFld All wr x cs → Calls Tryz.prog g (#[.agg cs.toArray] ++ caps) wr fun e w' => e = .returned (.bool (p x)) ∧ Up wr w') :
   Calls Tryz.prog 126 #[v, .func (.func g) #[] caps] w fun e w' => e = .returned (.bool (l.any p)) ∧ Up w w' := by
 go_enter Tryz.func126, Tryz.ntmps126
 (go_wp2_with fail); refine (indexF_fld v l p g eg caps w hv hp).mono ?_; rintro e w1 ⟨rfl, hu⟩; have hi := idxP_any p l; generalize idxP p l = i at *; go_wp2_with fail
 go_ret
 exact ⟨rfl, hu⟩
set_option maxHeartbeats 800000 in
theorem indexF_itm (v : Value) (l : List Itm) (p : Itm → Bool) (g : FuncId) (eg : ∀ args w, (callFunc g args).run Tryz.prog w = .ok (.enter g args) w) (caps : Array Value) (w : World) (hv : RdS DItm 2 All w v l)
   (hp : ∀ x cs wr, x ∈ l → Up w wr → DItm All wr x cs → Calls Tryz.prog g (#[.agg cs.toArray] ++ caps) wr fun e w' => e = .returned (.bool (p x)) ∧ Up wr w') :
   Calls Tryz.prog 181 #[v, .func (.func g) #[] caps] w fun e w' => e = .returned (.int .i64 (idxP p l)) ∧ Up w w' := by
 obtain ⟨ao, cap, rfl, hc1, hc2⟩ := hv.val; have Hv := hid hv; clear hv; have Hp := hid hp; clear hp
 go_enter Tryz.func181, Tryz.ntmps181
 (go_wp2_with fail); (go_loopw [8] (fun i wr => ∃ k : Nat, k ≤ l.length ∧ i = .int .i64 k ∧ Up w wr ∧ ∀ j, (hj : j < l.length) → j < k → p l[j] = false) (fun i _ => l.length - (intOf i).toNat)); case atStart => exact ⟨0, by omega, rfl, Up.refl _, fun j _ h => absurd h (by omega)⟩
 case round =>
   obtain ⟨k, hk, rfl, hu, hg⟩ := hrel; have Hg := hid hg; clear hg
   by_cases hlt : k < l.length
   · obtain ⟨b, o, cs, rfl, hb, hl, hcs, hd⟩ := (Hv.out.up stable_itm hu).at hlt; have hcall := Hp.out _ _ wr (List.getElem_mem hlt) hu hd; obtain ⟨hd, _, _⟩ := hd; subst hd; have c0 := hcs 0 _ rfl; have c1 := hcs 1 _ rfl; simp only [Nat.add_zero] at c0; clear hcs hl; (have i0 : (0 : Int) ≤ (k : Int) := by omega); (have i1 : (k : Int) < (l.length : Int) := by omega); have hgg := fun e => idxP_at p l k hlt Hg.out e; have Hgg := hid hgg; clear hgg; have Hgn := hid (fun e => no_more (p := p) hlt Hg.out e); have Hu := hid hu; clear hu; generalize l[k] = x at *
     cases he : p x with
     | true =>
       rw [he] at hcall; have Hcall := hid hcall; clear hcall; go_wp2_with (go_at_fn g; refine Hcall.out.mono ?_; rintro e w1 ⟨rfl, hu1⟩)
       go_ret
       exact ⟨ret_int (Hgg.out he).symm, Hu.out.trans hu1⟩
     | false =>
       rw [he] at hcall; have Hcall := hid hcall; clear hcall; go_wp2_with (go_at_fn g; refine Hcall.out.mono ?_; rintro e w1 ⟨rfl, hu1⟩)
       go_roundw
       (case rel => exact ⟨k + 1, by omega, by go_num, Hu.out.trans hu1, Hgn.out he⟩); case measure => simp [intOf]; omega
   · go_wp2_with fail
     go_ret
     exact ⟨ret_int (idxP_none _ _ (fun j hj => Hg.out j hj (by omega))).symm, hu⟩
set_option maxHeartbeats 800000 in
theorem containsF_itm (v : Value) (l : List Itm) (p : Itm → Bool) (g : FuncId) (eg : ∀ args w, (callFunc g args).run Tryz.prog w = .ok (.enter g args) w) (caps : Array Value) (w : World) (hv : RdS DItm 2 All w v l)
   (hp : ∀ x cs wr, x ∈ l → Up w wr → DItm All wr x cs → Calls Tryz.prog g (#[.agg cs.toArray] ++ caps) wr fun e w' => e = .returned (.bool (p x)) ∧ Up wr w') :
   Calls Tryz.prog 131 #[v, .func (.func g) #[] caps] w fun e w' => e = .returned (.bool (l.any p)) ∧ Up w w' := by
 go_enter Tryz.func131, Tryz.ntmps131
 (go_wp2_with fail); refine (indexF_itm v l p g eg caps w hv hp).mono ?_; rintro e w1 ⟨rfl, hu⟩; have hi := idxP_any p l; generalize idxP p l = i at *; go_wp2_with fail
 go_ret
 exact ⟨rfl, hu⟩
set_option maxHeartbeats 800000 in
theorem indexF_int (v : Value) (l : List Int) (p : Int → Bool) (g : FuncId) (eg : ∀ args w, (callFunc g args).run Tryz.prog w = .ok (.enter g args) w) (caps : Array Value) (w : World) (hv : RdS DInt 1 All w v l)
   (hp : ∀ x cs wr, x ∈ l → Up w wr → DInt All wr x cs → Calls Tryz.prog g (#[.int .i64 x] ++ caps) wr fun e w' => e = .returned (.bool (p x)) ∧ Up wr w') :
   Calls Tryz.prog 179 #[v, .func (.func g) #[] caps] w fun e w' => e = .returned (.int .i64 (idxP p l)) ∧ Up w w' := by
 obtain ⟨ao, cap, rfl, hc1, hc2⟩ := hv.val; have Hv := hid hv; clear hv; have Hp := hid hp; clear hp
 go_enter Tryz.func179, Tryz.ntmps179
 (go_wp2_with fail); (go_loopw [8] (fun i wr => ∃ k : Nat, k ≤ l.length ∧ i = .int .i64 k ∧ Up w wr ∧ ∀ j, (hj : j < l.length) → j < k → p l[j] = false) (fun i _ => l.length - (intOf i).toNat)); case atStart => exact ⟨0, by omega, rfl, Up.refl _, fun j _ h => absurd h (by omega)⟩
 case round =>
   obtain ⟨k, hk, rfl, hu, hg⟩ := hrel; have Hg := hid hg; clear hg
   by_cases hlt : k < l.length
   · obtain ⟨b, o, cs, rfl, hb, hl, hcs, hd⟩ := (Hv.out.up stable_int hu).at hlt; have hcall := Hp.out _ _ wr (List.getElem_mem hlt) hu hd; obtain ⟨hd, _⟩ := hd; subst hd; have c0 := hcs 0 _ rfl; simp only [Nat.add_zero, Nat.mul_one] at c0; clear hcs hl; (have i0 : (0 : Int) ≤ (k : Int) := by omega); (have i1 : (k : Int) < (l.length : Int) := by omega); have hgg := fun e => idxP_at p l k hlt Hg.out e; have Hgg := hid hgg; clear hgg; have Hgn := hid (fun e => no_more (p := p) hlt Hg.out e); have Hu := hid hu; clear hu; generalize l[k] = x at *
     cases he : p x with
     | true =>
       rw [he] at hcall; have Hcall := hid hcall; clear hcall; go_wp2_with (go_at_fn g; refine Hcall.out.mono ?_; rintro e w1 ⟨rfl, hu1⟩)
       go_ret
       exact ⟨ret_int (Hgg.out he).symm, Hu.out.trans hu1⟩
     | false =>
       rw [he] at hcall; have Hcall := hid hcall; clear hcall; go_wp2_with (go_at_fn g; refine Hcall.out.mono ?_; rintro e w1 ⟨rfl, hu1⟩)
       go_roundw
       (case rel => exact ⟨k + 1, by omega, by go_num, Hu.out.trans hu1, Hgn.out he⟩); case measure => simp [intOf]; omega
   · go_wp2_with fail
     go_ret
     exact ⟨ret_int (idxP_none _ _ (fun j hj => Hg.out j hj (by omega))).symm, hu⟩
set_option maxHeartbeats 800000 in
theorem containsF_int (v : Value) (l : List Int) (p : Int → Bool) (g : FuncId) (eg : ∀ args w, (callFunc g args).run Tryz.prog w = .ok (.enter g args) w) (caps : Array Value) (w : World) (hv : RdS DInt 1 All w v l)
   (hp : ∀ x cs wr, x ∈ l → Up w wr → DInt All wr x cs → Calls Tryz.prog g (#[.int .i64 x] ++ caps) wr fun e w' => e = .returned (.bool (p x)) ∧ Up wr w') :
   Calls Tryz.prog 124 #[v, .func (.func g) #[] caps] w fun e w' => e = .returned (.bool (l.any p)) ∧ Up w w' := by
 go_enter Tryz.func124, Tryz.ntmps124
 (go_wp2_with fail); refine (indexF_int v l p g eg caps w hv hp).mono ?_; rintro e w1 ⟨rfl, hu⟩; have hi := idxP_any p l; generalize idxP p l = i at *; go_wp2_with fail
 go_ret
 exact ⟨rfl, hu⟩
end Go.Proofs.YtbceapeoknngnaaGreatDoor
