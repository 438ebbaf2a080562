/-
  presslaw3.LinkBarred.
-/
import Derived.Test.YtplgegffapikoabDoorPars9
import Derived.Test.YtplgegffapikoabDoorWrongL
import Derived.Test.YtplgegffapikoabDoorBarredPlain
import Derived.Test.YtplgegffapikoabDoorBarredK
import Derived.Deep.RegionLaw
import Derived.Deep.DeepCutAuto
set_option linter.unusedVariables false
namespace Go.Proofs.YtplgegffapikoabDoor
open Go.RowKit
theorem one_msg : ∀ S w a cs, DMsg S w a cs → ∀ u ∈ cs, u.oneCell' = true := by
  rintro S w a cs ⟨vf, vb, rfl, hf, hb, _⟩ u hu
  obtain ⟨fo, fc, rfl, _, _⟩ := hf.val
  obtain ⟨bo, bc, rfl, _, _⟩ := hb.val
  simp only [List.mem_cons, List.not_mem_nil, or_false] at hu
  rcases hu with rfl | rfl | rfl <;> rfl
theorem cell_evo {W w5 : World} {v0 v5 : Value} {b : Nat} {cs : Array Value} {t : TypeId} (hev : Evo W w5 v0 v5) (hb : W.heap[b]? = some (.cells cs t (0, 0))) (hne : v0.ownBlock ≠ some b) (j : Nat) : w5.cell? ⟨b, j, none⟩ = cs[j]? := cell_of_row _ _ _ _ _ _ (hev.blk hb hne)
theorem own_at {w : World} {base : Nat} {e : TypeId} {size g n cap : Nat} {xs : List Value} (h : w.ownsRow base e size (.slice (some ⟨g, 0, none⟩) n cap) n xs) {j : Nat} (hj : j < n * size) : ∃ u, w.cell? ⟨g, j, none⟩ = some u := by
  have h1 := h.cellAt j hj
  have h2 : xs.length = n * size := h.1
  exact ⟨xs[j]'(by omega), by rw [h1, List.getElem?_eq_getElem (by omega)]⟩
theorem lo_evo {wz W w5 : World} {v0 v5 : Value} (hU : Up wz W) (hev : Evo W w5 v0 v5) (h0 : ∀ j, v0.ownBlock = some j → wz.heap.size ≤ j) : ∀ j, v5.ownBlock = some j → wz.heap.size ≤ j := fun j hj => by
  rcases hev.place j hj with h | h
  · exact h0 j h
  · exact Nat.le_trans hU.size h
theorem own0 {w : World} {g base : Nat} {e : TypeId} (hg : w.heap[g]? = some (.cells #[] e (0, 0))) (hb : base ≤ g) : w.ownsRow base e 1 (.slice (some ⟨g, 0, none⟩) 0 0) 0 [] :=
  ⟨rfl, .inr ⟨g, 0, #[], rfl, hb, hg, Nat.le_refl _, by unfold maxLen; omega, rfl, rfl⟩⟩
set_option maxRecDepth 100000 in
set_option maxHeartbeats 12800000 in
theorem linkBarred_any (v : Value) (f : Fil) (k at_ : Int) (w : World) (hf : FilV All w v f) (hsz : FilSz f) (hev : EvR w)
    (hal : ∀ w, EvR w → Calls Tryd.prog 21 #[] w fun e w' => e = .returned (.bool true) ∧ Up w w') :
    Calls Tryd.prog 6 #[v, .int .i64 k, .int .i64 at_] w fun e w' => e = .returned (.bool true) ∧ Up w w' := by
  have Hf := Lib.hid hf
  obtain ⟨vm, ve, rfl, hm, he⟩ := hf
  obtain ⟨mo, mc, rfl, hmc1, hmc2⟩ := hm.val
  obtain ⟨eo, ec, rfl, hec1, hec2⟩ := he.val
  have Hs := Lib.hid hsz; have Hev := Lib.hid hev; have Hal := Lib.hid hal; have Hm := Lib.hid hm; have He := Lib.hid he
  clear hm he hsz hev hal
  have hfd : ∀ (a b : Int) (w : World), (Instr.field 28 (.agg #[.int .i64 a, .int .i64 b]) 0).run Tryd.prog w = .ok (.int .i64 a) w := fun _ _ _ => by kernel_rfl
  go_enter Tryd.func6, Tryd.ntmps6
  go_upto_region 1 with (fail)
  have hb0 := blk_new w (.cells #[.slice mo f.msgs.length mc, .slice eo f.enums.length ec] 25) rfl
  have hu0 := (Up.refl w).alloc (.cells #[.slice mo f.msgs.length mc, .slice eo f.enums.length ec] 25)
  generalize hw1 : w.alloc (.cells #[.slice mo f.msgs.length mc, .slice eo f.enums.length ec] 25) = w1 at *
  have Hb0 := Lib.hid hb0; have Hu0 := Lib.hid hu0
  clear hw1 hb0 hu0
  go_wp2_with fail
  refine (Hal.out _ (Hev.out.up Hu0.out)).mono ?_
  rintro e w2 ⟨rfl, hu2⟩
  have hb := hu2.blk Hb0.out
  have b0 : w2.cell? ⟨w.heap.size, 0, none⟩ = some (.slice mo f.msgs.length mc) := cell_of_row w2 _ 0 _ _ _ hb
  have b1 : w2.cell? ⟨w.heap.size, 1, none⟩ = some (.slice eo f.enums.length ec) := cell_of_row w2 _ 1 _ _ _ hb
  have Hu2 := Lib.hid (Hu0.out.trans hu2); have Hb2 := Lib.hid hb
  clear hu2 hb Hb0 Hu0
  have hwr := wrong_l (.agg #[.slice mo f.msgs.length mc, .slice eo f.enums.length ec]) f w2 (Hf.out.up Hu2.out)
  obtain ⟨er, hwe⟩ : ∃ er, wrongN f = er := ⟨_, rfl⟩
  rw [hwe] at hwr
  obtain ⟨er, ea⟩ := er
  simp only at hwr
  have Hwr := Lib.hid hwr; have Hwe := Lib.hid hwe
  clear hwr hwe
  by_cases h1 : er ≠ 0 ∨ k < 0 ∨ (f.msgs.length : Int) ≤ k
  · have hcs : (er ≠ 0) ∨ (er = 0 ∧ k < 0) ∨ (er = 0 ∧ ¬ k < 0 ∧ (f.msgs.length : Int) ≤ k) := by omega
    rcases hcs with q1 | ⟨q1, q2⟩ | ⟨q1, q2, q3⟩
    · have e1 : (er != 0) = true := by simpa using q1
      go_wp2_with (first | (go_at_call 22; go_must (refine Hwr.out.mono ?_; rintro e w3 ⟨rfl, hu3⟩; have b0 := hu3.cell_some b0; have b1 := hu3.cell_some b1)))
      go_ret
      exact ⟨rfl, Hu2.out.trans hu3⟩
    · have e1 : (er != 0) = false := by simpa using q1
      go_wp2_with (first | (go_at_call 22; go_must (refine Hwr.out.mono ?_; rintro e w3 ⟨rfl, hu3⟩; have b0 := hu3.cell_some b0; have b1 := hu3.cell_some b1)))
      go_ret
      exact ⟨rfl, Hu2.out.trans hu3⟩
    · have e1 : (er != 0) = false := by simpa using q1
      go_wp2_with (first | (go_at_call 22; go_must (refine Hwr.out.mono ?_; rintro e w3 ⟨rfl, hu3⟩; have b0 := hu3.cell_some b0; have b1 := hu3.cell_some b1)))
      go_ret
      exact ⟨rfl, Hu2.out.trans hu3⟩
  · have q1 : er = 0 := by omega
    have e1 : (er != 0) = false := by simpa using q1
    obtain ⟨K, rfl⟩ : ∃ K : Nat, k = K := ⟨k.toNat, by omega⟩
    have q2 : ¬ (K : Int) < 0 := by omega
    have hK : K < f.msgs.length := by omega
    have q3 : ¬ (f.msgs.length : Int) ≤ (K : Int) := by omega
    have H0 := Lib.hid (show (wrongN f).1 = 0 by rw [Hwe.out]; exact q1)
    have HK := Lib.hid hK
    clear h1 q1
    obtain ⟨b, o, cs, hmo, hbl, hl, hcs, hd⟩ := (Hm.out.up stable_msg Hu2.out).at hK
    obtain ⟨vf, vb, hd, hf1, hb1, hn⟩ := hd
    obtain ⟨fo, fc, rfl, hfc1, hfc2⟩ := hf1.val
    obtain ⟨bo, bc, rfl, hbc1, hbc2⟩ := hb1.val
    subst hmo
    subst hd
    have c0 := hcs 0 _ rfl
    have c1 := hcs 1 _ rfl
    have c2 := hcs 2 _ rfl
    simp only [Nat.add_zero] at c0
    have hxm : f.msgs[K]? = some f.msgs[K] := List.getElem?_eq_getElem hK
    have hme : f.msgs[K] ∈ f.msgs := List.getElem_mem hK
    generalize f.msgs[K] = x at *
    have Hx := Lib.hid hxm; have Hme := Lib.hid hme
    have Hf1 := Lib.hid hf1; have Hb1 := Lib.hid hb1; have Hn := Lib.hid hn
    have Hfb := Lib.hid (show x.fields.length ≤ 16 ∧ x.barred.length ≤ 16 from by
      have hm0 := (wrong_zero H0.out).2.2 x hme
      exact ⟨(msg_zero hm0).1, (msg_zero hm0).2.1⟩)
    clear hcs hl hf1 hb1 hn hxm hme
    have k1 : (K : Int) < (f.msgs.length : Int) := by omega
    have k0 : (0 : Int) ≤ (K : Int) := by omega
    go_wp2_with (first | (go_at_call 22; go_must (refine Hwr.out.mono ?_; rintro e w3 ⟨rfl, hu3⟩; have b0 := hu3.cell_some b0; have b1 := hu3.cell_some b1; have c0 := hu3.cell_some c0; have c1 := hu3.cell_some c1; have c2 := hu3.cell_some c2; have Hu3 := Lib.hid hu3; clear hu3)))
    have HbM := Lib.hid (blk_new w3 (.cells #[.string ⟨x.name.toArray⟩, .slice fo x.fields.length fc, .slice bo x.barred.length bc] 46) (g := w3.heap.size) rfl)
    have HuM := Lib.hid (Hu2.out.trans (Hu3.out.trans ((Up.refl w3).alloc (.cells #[.string ⟨x.name.toArray⟩, .slice fo x.fields.length fc, .slice bo x.barred.length bc] 46))))
    have HU24 := Lib.hid (Hu3.out.trans ((Up.refl w3).alloc (.cells #[.string ⟨x.name.toArray⟩, .slice fo x.fields.length fc, .slice bo x.barred.length bc] 46)))
    generalize w3.alloc (.cells #[.string ⟨x.name.toArray⟩, .slice fo x.fields.length fc, .slice bo x.barred.length bc] 46) = w4 at *
    obtain ⟨M, hM⟩ : ∃ M, w3.heap.size = M := ⟨_, rfl⟩
    rw [hM] at HbM ⊢
    have HM := Lib.hid (show w.heap.size ≤ M ∧ w2.heap.size ≤ M from by have := Hu2.out.size; have := Hu3.out.size; omega)
    have Hbox := Lib.hid (HU24.out.blk Hb2.out)
    clear hM c0 c1 c2 b0 b1
    go_loopw [39] (fun i wr => ∃ p : Nat, p ≤ x.barred.length ∧ i = .int .i64 p ∧ Up w4 wr) (fun i _ => x.barred.length - (intOf i).toNat)
    case atStart => exact ⟨0, by omega, rfl, Up.refl _⟩
    case round =>
      obtain ⟨p, hp, rfl, hu⟩ := hrel
      have Hu := Lib.hid hu
      by_cases hlt : p < x.barred.length
      · obtain ⟨b', o', cs', hbo, hb', hl', hcs', hd'⟩ := (Hb1.out.up stable_int (HU24.out.trans hu)).at hlt
        obtain ⟨hd', _⟩ := hd'
        subst hd'
        subst hbo
        have d0 := hcs' 0 _ rfl
        simp only [Nat.mul_one, Nat.add_zero] at d0
        have hun := Lib.hid (fun (q : Nat) (hq : q < x.fields.length) => bar_unused H0.out Hme.out hq hlt)
        generalize x.barred[p] = n at *
        have i0 : (0 : Int) ≤ (p : Int) := by omega
        have i1 : (p : Int) < (x.barred.length : Int) := by omega
        have m1 : wr.cell? ⟨M, 1, none⟩ = some (.slice fo x.fields.length fc) := cell_of_row wr M 1 _ _ _ (hu.blk HbM.out)
        obtain ⟨wr', rfl⟩ : ∃ wr' : World, wr' = wr := ⟨_, rfl⟩
        clear hcs' hl' hu
        go_wp2_with fail
        clear m1 d0
        go_loopw [46] (fun i wr2 => ∃ q : Nat, q ≤ x.fields.length ∧ i = .int .i64 q ∧ Up wr' wr2) (fun i _ => x.fields.length - (intOf i).toNat)
        case atStart => exact ⟨0, by omega, rfl, Up.refl _⟩
        case round =>
          obtain ⟨q, hq, rfl, hu5⟩ := hrel
          have Hu5 := Lib.hid hu5
          by_cases hlt5 : q < x.fields.length
          · obtain ⟨b5, o5, cs5, hfo, hb5, hl5, hcs5, hd5⟩ := (Hf1.out.up stable_fld (HU24.out.trans (Hu.out.trans hu5))).at hlt5
            obtain ⟨hd5, _⟩ := hd5
            subst hd5
            subst hfo
            have c0 := hcs5 0 _ rfl; have c1 := hcs5 1 _ rfl; have c2 := hcs5 2 _ rfl; have c3 := hcs5 3 _ rfl; have c4 := hcs5 4 _ rfl; have c5 := hcs5 5 _ rfl
            simp only [Nat.add_zero] at c0
            have hne := hun.out q hlt5
            generalize x.fields[q] = y at *
            have j0 : (0 : Int) ≤ (q : Int) := by omega
            have j1 : (q : Int) < (x.fields.length : Int) := by omega
            clear hcs5 hl5 hu5
            go_wp2_with fail
            go_roundw
            case rel => exact ⟨q + 1, by omega, by go_num, Hu5.out.alloc _⟩
            case measure => simp [intOf]; omega
          · go_wp2_with fail
            go_roundw
            case rel => exact ⟨p + 1, by omega, by go_num, Hu.out.trans hu5⟩
            case measure => simp [intOf]; omega
      · have Hbz := Lib.hid (hu.blk HbM.out)
        have m1 : wr.cell? ⟨M, 1, none⟩ = some (.slice fo x.fields.length fc) := cell_of_row wr M 1 _ _ _ Hbz.out
        have m2 : wr.cell? ⟨M, 2, none⟩ = some (.slice bo x.barred.length bc) := cell_of_row wr M 2 _ _ _ Hbz.out
        have mz := lt_of_block Hbz.out
        by_cases h9 : at_ < 0 ∨ (x.fields.length : Int) ≤ at_ ∨ 16 ≤ x.barred.length
        · have hcs : at_ < 0 ∨ (¬ at_ < 0 ∧ (x.fields.length : Int) ≤ at_) ∨ (¬ at_ < 0 ∧ ¬ (x.fields.length : Int) ≤ at_ ∧ (16 : Int) ≤ (x.barred.length : Int)) := by omega
          rcases hcs with r1 | ⟨r1, r2⟩ | ⟨r1, r2, r3⟩
          all_goals
            go_wp2_with fail
            go_ret
            exact ⟨rfl, HuM.out.trans hu⟩
        · obtain ⟨A, rfl⟩ : ∃ A : Nat, at_ = A := ⟨at_.toNat, by omega⟩
          have hA : A < x.fields.length := by omega
          have hbl16 : x.barred.length < 16 := by omega
          have r1 : ¬ (A : Int) < 0 := by omega
          have r2 : ¬ (x.fields.length : Int) ≤ (A : Int) := by omega
          have r3 : ¬ (16 : Int) ≤ (x.barred.length : Int) := by omega
          go_upto_region 18 with (fail)
          have HUz := Lib.hid (HU24.out.trans hu)
          obtain ⟨b5, o5, cs5, hfo, hb5, hl5, hcs5, hd5⟩ := (Hf1.out.up stable_fld HUz.out).at hA
          obtain ⟨hd5, hok5⟩ := hd5
          subst hd5
          subst hfo
          have c1 := hcs5 1 _ rfl
          have Hy := Lib.hid (List.getElem?_eq_getElem hA)
          have hbw := Lib.hid (bar_wrong H0.out Hx.out hA hbl16)
          have Hok5 := Lib.hid hok5
          clear hcs5 hl5 hok5 h9
          generalize x.fields[A] = y at *
          obtain ⟨wz, rfl⟩ : ∃ wz : World, wz = wr := ⟨_, rfl⟩
          have C1 := Lib.hid c1; have HbZ := Hbz
          obtain ⟨_, hnn, css, hcl, hel, hfl, hnw⟩ := RdS.css (by decide) Hb1.out
          have Hel := Lib.hid hel; have Hnw := Lib.hid hnw; have Hfl := Lib.hid hfl; have Hcl := Lib.hid hcl; have Hnn := Lib.hid hnn
          have Hone := Lib.hid (ones_of (D := DInt) (S := All) (w := w2) (l := x.barred) (size := 1) one_num hcl hel)
          have HA : Hid True := Lib.hid trivial
          have j0 : (0 : Int) ≤ (A : Int) := by omega
          have j1 : (A : Int) < (x.fields.length : Int) := by omega
          have hMw : M < wz.heap.size := mz
          have mf := fun oo => frozen_of_row wz M oo _ _ HbZ.out
          clear hel hnw hfl hcl hnn
          go_cut [] (fun wc => ∃ (a6 : Option Addr) (c6 : Nat) (w6 : World), Up wz w6 ∧ w6.ownsRow (M + 1) 3 1 (.slice a6 (x.barred.length + 1) c6) (x.barred.length + 1) (css.flatten ++ [.int .i64 y.number]) ∧ wc = w6.setCell ⟨M, 2, none⟩ (.slice a6 (x.barred.length + 1) c6))
          case first =>
            --[
            go_region_law (first
              | (have hx := HA.out; clear HA; refine step_app eNum _ (by rfl) _ _ (by rfl) (M + 1) _ 0 [] (by rfl) (own0 (by first | exact blk_new _ _ (by first | rfl | simp) | exact blk_old _ (blk_new _ _ (by first | rfl | simp))) (by first | omega | (simp; omega))) bo x.barred.length bc (by rfl) css.flatten Hfl.out Hnn.out (fun ad h j u hu => (HUz.out.trans (show Up wz _ from (by repeat (first | (with_reducible exact Up.refl _) | (with_reducible refine Up.alloc ?_ _) | (with_reducible refine Up.drew ?_))))).cell_some (Hnw.out ad h j u hu)) Hone.out (by omega) (by unfold maxLen; omega) (by first | omega | (simp; omega)) ?_; intro v5 w5 how5 hev5; simp only [Nat.zero_add, List.nil_append] at how5; have HLo := Lib.hid (lo_evo (wz := wz) (by repeat (first | (with_reducible exact Up.refl _) | (with_reducible refine Up.alloc ?_ _) | (with_reducible refine Up.drew ?_))) hev5 (fun j hj => by simp [Value.ownBlock] at hj; first | omega | (subst hj; simp) | (subst hj; simp; omega))); have UPz : Up wz w5 := Up.evo (show Up wz _ from (by repeat (first | (with_reducible exact Up.refl _) | (with_reducible refine Up.alloc ?_ _) | (with_reducible refine Up.drew ?_)))) hev5 (fun j hj => by simp [Value.ownBlock] at hj; first | omega | (subst hj; simp) | (subst hj; simp; omega)); obtain ⟨a5, c5, rfl⟩ := own_val how5; have hbM := UPz.blk HbZ.out; have m1 : w5.cell? ⟨M, 1, none⟩ = some (.slice (some ⟨b5, o5, none⟩) x.fields.length fc) := cell_of_row w5 M 1 _ _ _ hbM; have m2 : w5.cell? ⟨M, 2, none⟩ = some (.slice bo x.barred.length bc) := cell_of_row w5 M 2 _ _ _ hbM; have mf := fun oo => frozen_of_row w5 M oo _ _ hbM; have mz := lt_of_block hbM; have c1 := UPz.cell_some C1.out)
              | (refine step_app1 eNum _ (by rfl) _ _ (by rfl) (M + 1) _ _ _ (by rfl) how5 _ (by rfl) (by first | rfl | simp) (by rfl) (oc (by rfl)) (by omega) (by unfold maxLen; omega) (by first | omega | (simp; omega)) ?_; intro v6 w6 how6 hev6; have UP6 : Up wz w6 := Up.evo UPz hev6 (fun j hj => HLo.out j hj); obtain ⟨a6, c6, rfl⟩ := own_val how6; have hbM := UP6.blk HbZ.out; have m1 : w6.cell? ⟨M, 1, none⟩ = some (.slice (some ⟨b5, o5, none⟩) x.fields.length fc) := cell_of_row w6 M 1 _ _ _ hbM; have m2 : w6.cell? ⟨M, 2, none⟩ = some (.slice bo x.barred.length bc) := cell_of_row w6 M 2 _ _ _ hbM; have mf := fun oo => frozen_of_row w6 M oo _ _ hbM; have mz := lt_of_block hbM; have c1 := UP6.cell_some C1.out; have Hw6 := Lib.hid how6; have HU6 := Lib.hid UP6; have HB6 := Lib.hid hbM)
              | (refine step_app eNum _ (by rfl) _ _ (by rfl) (M + 1) _ _ _ (by rfl) how5 (some ⟨wz.heap.size, 0, none⟩) 1 1 (by rfl) [.int .i64 y.number] (by rfl) (fun h => nomatch h) (fun ad h j u hu => by obtain rfl := Option.some.inj h; rw [Addr.add_lit, Nat.zero_add, cell_evo (b := wz.heap.size) (cs := #[.int .i64 y.number]) (t := 3) hev5 (by first | exact blk_new _ _ (by first | rfl | simp) | exact blk_old _ (blk_new _ _ (by first | rfl | simp))) (by simp [Value.ownBlock]) j]; simpa using hu) (oc (cs := #[.int .i64 y.number]) (by rfl)) (by omega) (by unfold maxLen; omega) (by first | omega | (simp; omega)) ?_; intro v6 w6 how6 hev6; have UP6 : Up wz w6 := Up.evo UPz hev6 (fun j hj => HLo.out j hj); obtain ⟨a6, c6, rfl⟩ := own_val how6; have hbM := UP6.blk HbZ.out; have m1 : w6.cell? ⟨M, 1, none⟩ = some (.slice (some ⟨b5, o5, none⟩) x.fields.length fc) := cell_of_row w6 M 1 _ _ _ hbM; have m2 : w6.cell? ⟨M, 2, none⟩ = some (.slice bo x.barred.length bc) := cell_of_row w6 M 2 _ _ _ hbM; have mf := fun oo => frozen_of_row w6 M oo _ _ hbM; have mz := lt_of_block hbM; have c1 := UP6.cell_some C1.out; have Hw6 := Lib.hid how6; have HU6 := Lib.hid UP6; have HB6 := Lib.hid hbM)
              | (refine step_app eNum _ (by rfl) _ _ (by rfl) (M + 1) _ _ _ (by rfl) how5 (some ⟨wz.heap.size + 1, 0, none⟩) 1 1 (by rfl) [.int .i64 y.number] (by rfl) (fun h => nomatch h) (fun ad h j u hu => by obtain rfl := Option.some.inj h; rw [Addr.add_lit, Nat.zero_add, cell_evo (b := wz.heap.size + 1) (cs := #[.int .i64 y.number]) (t := 3) hev5 (by first | exact blk_new _ _ (by first | rfl | simp) | exact blk_old _ (blk_new _ _ (by first | rfl | simp))) (by simp [Value.ownBlock]) j]; simpa using hu) (oc (cs := #[.int .i64 y.number]) (by rfl)) (by omega) (by unfold maxLen; omega) (by first | omega | (simp; omega)) ?_; intro v6 w6 how6 hev6; have UP6 : Up wz w6 := Up.evo UPz hev6 (fun j hj => HLo.out j hj); obtain ⟨a6, c6, rfl⟩ := own_val how6; have hbM := UP6.blk HbZ.out; have m1 : w6.cell? ⟨M, 1, none⟩ = some (.slice (some ⟨b5, o5, none⟩) x.fields.length fc) := cell_of_row w6 M 1 _ _ _ hbM; have m2 : w6.cell? ⟨M, 2, none⟩ = some (.slice bo x.barred.length bc) := cell_of_row w6 M 2 _ _ _ hbM; have mf := fun oo => frozen_of_row w6 M oo _ _ hbM; have mz := lt_of_block hbM; have c1 := UP6.cell_some C1.out; have Hw6 := Lib.hid how6; have HU6 := Lib.hid UP6; have HB6 := Lib.hid hbM))
            all_goals
              go_wp2_with fail
              go_meet
              exact ⟨a6, c6, w6, HU6.out, Hw6.out, rfl⟩
            --]
          case rest =>
            obtain ⟨a6, c6, w6, hu6, how6, rfl⟩ := hcut
            have hbM6 := hu6.blk HbZ.out
            have HbM7 := Lib.hid (heap_setCell_same w6 M 2 _ _ (.slice a6 (x.barred.length + 1) c6) hbM6)
            have hlo6 : ∀ j, (Value.slice a6 (x.barred.length + 1) c6).ownBlock = some j → M + 1 ≤ j := fun j hj => (how6.lt j hj).1
            have HU7 := Lib.hid (show Up w2 (w6.setCell ⟨M, 2, none⟩ (.slice a6 (x.barred.length + 1) c6)) from Up.setCell (HUz.out.trans hu6) (p := ⟨M, 2, none⟩) (show w2.heap.size ≤ M from HM.out.2) _)
            have Hob : Hid (OwnS DInt (M + 1) 3 1 No (w6.setCell ⟨M, 2, none⟩ (.slice a6 (x.barred.length + 1) c6)) (.slice a6 (x.barred.length + 1) c6) (x.barred ++ [y.number])) := by
              refine Lib.hid (OwnS.setCell stable_int (p := ⟨M, 2, none⟩) ⟨css ++ [[.int .i64 y.number]], by simp [Hcl.out], by simpa using how6, fun i hi => ?_⟩ (fun e => by have := hlo6 _ e; simp only at this; omega) id _)
              by_cases hil : i < x.barred.length
              · obtain ⟨cs, q1, q2, q3⟩ := Hel.out i hil
                refine ⟨cs, by rw [List.getElem?_append_left (by rw [Hcl.out]; exact hil)]; exact q1, q2, ?_⟩
                rw [List.getElem_append_left hil]
                exact q3
              · have hie : i = x.barred.length := by simp at hi; omega
                subst hie
                refine ⟨[.int .i64 y.number], by rw [List.getElem?_append_right (by rw [Hcl.out]; exact Nat.le_refl _)]; simp [Hcl.out], rfl, ?_⟩
                rw [List.getElem_append_right (Nat.le_refl _)]
                simp only [Nat.sub_self, List.getElem_cons_zero]
                exact ⟨rfl, Hok5.out.1⟩
            generalize w6.setCell ⟨M, 2, none⟩ (.slice a6 (x.barred.length + 1) c6) = w7 at *
            have HbM7 : Hid (w7.heap[M]? = some (.cells #[.string ⟨x.name.toArray⟩, .slice (some ⟨b5, o5, none⟩) x.fields.length fc, .slice a6 (x.barred.length + 1) c6] 46 (0, 0))) := Lib.hid HbM7.out
            have b0 : w7.cell? ⟨w.heap.size, 0, none⟩ = some (.slice (some ⟨b, o, none⟩) f.msgs.length mc) := cell_of_row w7 _ 0 _ _ _ (HU7.out.blk Hb2.out)
            have b1 : w7.cell? ⟨w.heap.size, 1, none⟩ = some (.slice eo f.enums.length ec) := cell_of_row w7 _ 1 _ _ _ (HU7.out.blk Hb2.out)
            have mz7 := lt_of_block HbM7.out
            clear m1 m2 mf mz c1 how6 hu6 hbM6 Hone Hfl Hnw Hel Hcl Hnn HA
            go_upto_region 20 with (fail)
            have HbG := Lib.hid (blk_new w7 (.cells #[.slice (some ⟨b, o, none⟩) f.msgs.length mc, .slice eo f.enums.length ec] 25) (g := w7.heap.size) rfl)
            have HU8 := Lib.hid ((Up.refl w7).alloc (.cells #[.slice (some ⟨b, o, none⟩) f.msgs.length mc, .slice eo f.enums.length ec] 25))
            generalize w7.alloc (.cells #[.slice (some ⟨b, o, none⟩) f.msgs.length mc, .slice eo f.enums.length ec] 25) = w8 at *
            obtain ⟨G, hG⟩ : ∃ G, w7.heap.size = G := ⟨_, rfl⟩
            rw [hG] at HbG ⊢
            have hGz := lt_of_block HbG.out
            have HG := Lib.hid (show w.heap.size ≤ G ∧ M < G ∧ w7.heap.size = G ∧ w2.heap.size ≤ G from by have := Hu2.out.size; have := HU7.out.size; omega)
            have b0 : w8.cell? ⟨w.heap.size, 0, none⟩ = some (.slice (some ⟨b, o, none⟩) f.msgs.length mc) := HU8.out.cell_some b0
            have b0z : w.heap.size < w8.heap.size := World.block_lt_of_cell? w8 _ b0
            have hM10 := (wrong_zero H0.out).1
            have hml : f.msgs.length ≤ 10 := by omega
            obtain ⟨_, hnnm, cssm, hclm, helm, hflm, hnwm⟩ := RdS.css (by decide) (Hm.out.lt stable_msg)
            have Helm := Lib.hid helm; have Hnwm := Lib.hid hnwm; have Hflm := Lib.hid hflm; have Hclm := Lib.hid hclm
            have Honem := Lib.hid (ones_of (D := DMsg) (S := Lt w) (w := w) (l := f.msgs) (size := 3) one_msg hclm helm)
            have HUw8 := Lib.hid (Hu2.out.trans (HU7.out.trans HU8.out))
            clear hG b1 helm hnwm hflm hclm hnnm hM10
            go_wp2_with (first
              | (at_builtin; go_must (refine wpList_app eMsg _ (by rfl) _ _ (by rfl) w8.heap.size _ 0 [] (by rfl) (World.ownsRow_lit w8 #[] 0 (Nat.le_refl _) (by unfold maxLen; omega) (by simp)) (some ⟨b, o, none⟩) f.msgs.length mc (by rfl) cssm.flatten Hflm.out (fun h => nomatch h) (fun ad h j u hu => (HUw8.out.alloc _).cell_some (Hnwm.out ad h j u hu)) Honem.out (by omega) (by unfold maxLen; omega) (by simp) ?_; intro v9 w9 how9 hev9; simp only [Nat.zero_add, List.nil_append] at how9; have UP9 : Up w8 w9 := ((Up.refl w8).alloc _).evo hev9 (fun j hj => by simp [Value.ownBlock] at hj; omega); obtain ⟨a9, c9, rfl⟩ := own_val how9; obtain ⟨g9, rfl, hg91, hg92, hg9f⟩ := own_some how9 (show 0 < f.msgs.length from by have := HK.out; omega); have hbG := UP9.blk HbG.out; have g0 := cell_of_row w9 G 0 _ _ _ hbG; have g1 := cell_of_row w9 G 1 _ _ _ hbG; have gf := fun oo => frozen_of_row w9 G oo _ _ hbG; have gz := lt_of_block hbG; have HUP9 := Lib.hid UP9; have Hw9 := Lib.hid how9; have HbG9 := Lib.hid hbG; have hbM := UP9.blk (HU8.out.blk HbM7.out); have m0 : w9.cell? ⟨M, 0, none⟩ = some (.string ⟨x.name.toArray⟩) := cell_of_row w9 M 0 _ _ _ hbM; have m1 : w9.cell? ⟨M, 1, none⟩ = some (.slice (some ⟨b5, o5, none⟩) x.fields.length fc) := cell_of_row w9 M 1 _ _ _ hbM; have m2 : w9.cell? ⟨M, 2, none⟩ = some (.slice a6 (x.barred.length + 1) c6) := cell_of_row w9 M 2 _ _ _ hbM; have mz := lt_of_block hbM; have hgG : ¬ g9 = G := (by omega); have hgG' : ¬ G = g9 := (by omega); have hgM : ¬ M = g9 := (by have := HG.out.2.1; omega); have hMG : ¬ M = G := (by have := HG.out.2.1; omega); obtain ⟨t0, ht0⟩ := own_at (size := 3) how9 (show K * 3 < f.msgs.length * 3 from by have := HK.out; omega); obtain ⟨t1, ht1⟩ := own_at (size := 3) how9 (show K * 3 + 1 < f.msgs.length * 3 from by have := HK.out; omega); obtain ⟨t2, ht2⟩ := own_at (size := 3) how9 (show K * 3 + 2 < f.msgs.length * 3 from by have := HK.out; omega); clear hbG hbM how9 hev9 UP9)))
            go_upto_region 22 with (fail)
            have HG0 := heap_setCell_same w9 G 0 _ _ (.slice (some ⟨g9, 0, none⟩) f.msgs.length c9) HbG9.out
            have HU10 : Up w7 (w9.setCell ⟨G, 0, none⟩ (.slice (some ⟨g9, 0, none⟩) f.msgs.length c9)) := Up.setCell (HU8.out.trans HUP9.out) (p := ⟨G, 0, none⟩) (show w7.heap.size ≤ G from by rw [HG.out.2.2.1]; exact Nat.le_refl _) _
            have Hos : OwnS DMsg w8.heap.size 46 3 (fun b => b < G) (w9.setCell ⟨G, 0, none⟩ (.slice (some ⟨g9, 0, none⟩) f.msgs.length c9)) (.slice (some ⟨g9, 0, none⟩) f.msgs.length c9) f.msgs := by
              refine OwnS.setCell stable_msg (p := ⟨G, 0, none⟩) ⟨cssm, Hclm.out, Hw9.out, fun i hi => ?_⟩ (fun e => hgG (by simpa [Value.ownBlock] using e)) (fun h => by simp at h) _
              obtain ⟨cs, q1, q2, q3⟩ := Helm.out i hi
              refine ⟨cs, q1, q2, stable_msg _ _ _ _ _ _ (fun j hj hjw => ⟨(HUw8.out.trans HUP9.out).block j hjw, ?_, fun e => ?_⟩) q3⟩
              · have := HG.out.1; show j < G; omega
              · have e : g9 = j := by simpa [Value.ownBlock] using e
                have := HUw8.out.size; omega
            have hKl : K < f.msgs.length := HK.out
            generalize hw10 : w9.setCell ⟨G, 0, none⟩ (.slice (some ⟨g9, 0, none⟩) f.msgs.length c9) = w10 at *
            have HU11 : Up w7 (((w10.setCell ⟨g9, K * 3 + 0, none⟩ (.string ⟨x.name.toArray⟩)).setCell ⟨g9, K * 3 + 1, none⟩ (.slice (some ⟨b5, o5, none⟩) x.fields.length fc)).setCell ⟨g9, K * 3 + 2, none⟩ (.slice a6 (x.barred.length + 1) c6)) := by
              have hz8 := HU8.out.size
              exact Up.setCell (Up.setCell (Up.setCell HU10 (p := ⟨g9, K * 3 + 0, none⟩) (show w7.heap.size ≤ g9 by omega) _) (p := ⟨g9, K * 3 + 1, none⟩) (show w7.heap.size ≤ g9 by omega) _) (p := ⟨g9, K * 3 + 2, none⟩) (show w7.heap.size ≤ g9 by omega) _
            have Hset := OwnS.set3 stable_msg Hos rfl hKl (x := { x with barred := x.barred ++ [y.number] }) (.string ⟨x.name.toArray⟩) (.slice (some ⟨b5, o5, none⟩) x.fields.length fc) (.slice a6 (x.barred.length + 1) c6) ⟨_, _, rfl, (Hf1.out.lt stable_fld).keep stable_fld (fun j hj hjw => ⟨(HU7.out.trans HU11).block j hjw, (show j < G from by have := HG.out.2.2.2; have h9 : j < w2.heap.size := hj; omega), fun e => by have e : g9 = j := (by simpa [Value.ownBlock] using e); have h9 : j < w2.heap.size := hj; have := (HU7.out.trans HU8.out).size; omega⟩), (show RdS DInt 1 (Av2 (fun b => b < G) (.slice (some ⟨g9, 0, none⟩) f.msgs.length c9)) _ (.slice a6 (x.barred.length + 1) c6) (x.barred ++ [y.number]) from (Hob.out.rd stable_int (S' := fun j => j < w7.heap.size) (fun _ h => h.elim) (fun j hj => (Hob.out.lo j hj).2)).keep stable_int (fun j hj hjw => ⟨HU11.block j hjw, (show j < G from by have := HG.out.2.2.1; have h9 : j < w7.heap.size := hj; omega), fun e => by have e : g9 = j := (by simpa [Value.ownBlock] using e); have h9 : j < w7.heap.size := hj; have := HU8.out.size; omega⟩)), Hn.out⟩
            have HG11 : (((w10.setCell ⟨g9, K * 3 + 0, none⟩ (.string ⟨x.name.toArray⟩)).setCell ⟨g9, K * 3 + 1, none⟩ (.slice (some ⟨b5, o5, none⟩) x.fields.length fc)).setCell ⟨g9, K * 3 + 2, none⟩ (.slice a6 (x.barred.length + 1) c6)).heap[G]? = some (.cells #[.slice (some ⟨g9, 0, none⟩) f.msgs.length c9, .slice eo f.enums.length ec] 25 (0, 0)) := (Below.heap_setCell _ ⟨g9, K * 3 + 2, none⟩ _ G hgG').trans ((Below.heap_setCell _ ⟨g9, K * 3 + 1, none⟩ _ G hgG').trans ((Below.heap_setCell w10 ⟨g9, K * 3 + 0, none⟩ _ G hgG').trans HG0))
            simp only [Nat.add_zero] at HU11 Hset HG11
            generalize ((w10.setCell ⟨g9, K * 3, none⟩ (.string ⟨x.name.toArray⟩)).setCell ⟨g9, K * 3 + 1, none⟩ (.slice (some ⟨b5, o5, none⟩) x.fields.length fc)).setCell ⟨g9, K * 3 + 2, none⟩ (.slice a6 (x.barred.length + 1) c6) = w11 at *
            have HUw := Lib.hid (Hu2.out.trans (HU7.out.trans HU11))
            have hfil : FilV All w11 (.agg #[.slice (some ⟨g9, 0, none⟩) f.msgs.length c9, .slice eo f.enums.length ec]) (barF f K x y.number) := by
              refine ⟨_, _, rfl, ?_, He.out.up stable_enu HUw.out⟩
              have h9 := Hset.rd stable_msg (S' := All) (fun _ _ => trivial) (fun _ _ => trivial)
              exact h9
            have hwg := wrong_l _ (barF f K x y.number) w11 hfil
            rw [hbw.out] at hwg
            simp only at hwg
            have Hwg := Lib.hid hwg
            have e0 : w11.cell? ⟨G, 0, none⟩ = some (.slice (some ⟨g9, 0, none⟩) f.msgs.length c9) := cell_of_row w11 G 0 _ _ _ HG11
            have e1 : w11.cell? ⟨G, 1, none⟩ = some (.slice eo f.enums.length ec) := cell_of_row w11 G 1 _ _ _ HG11
            clear hwg hfil Hset HG11 HU11 HU10 HG0 Hos g0 g1 gf gz m0 m1 m2 mz ht0 ht1 ht2 hw10
            go_wp2_with (first | (go_at_call 22; go_must (refine Hwg.out.mono ?_; rintro e w12 ⟨rfl, hu12⟩)))
            go_ret
            exact ⟨rfl, (HUw.out.trans hu12).alloc _⟩
end Go.Proofs.YtplgegffapikoabDoor
