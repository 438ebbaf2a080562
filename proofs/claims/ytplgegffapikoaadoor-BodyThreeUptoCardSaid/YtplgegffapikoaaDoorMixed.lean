/-
  pressref2.Mixed.
-/
import Derived.Test.YtplgegffapikoaaDoorMixedP
set_option linter.unusedVariables false
namespace Go.Proofs.YtplgegffapikoaaDoor
open Go.RowKit
set_option maxRecDepth 100000 in
set_option maxHeartbeats 1600000 in
theorem mixed_r (v : Value) (f : Fil) (w : World) (hv : FilV All w v f) :
    Calls Tryd.prog 22 #[v] w fun e w' => e = .returned (.bool (mixedN f)) ∧ Up w w' := by
  obtain ⟨vm, ve, rfl, hm, he⟩ := hv
  obtain ⟨R, hR⟩ : ∃ R, mixedN f = R := ⟨_, rfl⟩
  rw [hR]
  unfold mixedN at hR
  generalize f.msgs = l at *
  have HR := Lib.hid hR
  obtain ⟨ao, cap, h0, hc1, hc2⟩ := hm.val
  subst h0
  have Hv := Lib.hid hm; clear hm he hR
  go_enter Tryd.func22, Tryd.ntmps22
  go_wp2_with fail
  go_loopw [10] (fun i wr => ∃ k : Nat, k ≤ l.length ∧ i = .int .i64 k ∧ Up w wr ∧ ∀ j, (hj : j < l.length) → j < k → l[j].fields.any mixedF = false) (fun i _ => l.length - (intOf i).toNat)
  case atStart => exact ⟨0, by omega, rfl, (Up.refl _).alloc _, fun j _ h => absurd h (by omega)⟩
  case round =>
    obtain ⟨k, hk, rfl, hu, hg⟩ := hrel
    have Hg := Lib.hid hg; clear hg
    by_cases hlt : k < l.length
    · obtain ⟨b, o, cs, rfl, hb, hl, hcs, hd⟩ := (Hv.out.up stable_msg hu).at hlt
      obtain ⟨vf, vb, hd, hf, hb2, _⟩ := hd
      obtain ⟨fo, fc, rfl, _, _⟩ := hf.val
      obtain ⟨bo, bc, rfl, _, _⟩ := hb2.val
      subst hd
      have c0 := hcs 0 _ rfl
      have c1 := hcs 1 _ rfl
      have c2 := hcs 2 _ rfl
      simp only [Nat.add_zero] at c0
      clear hcs hl hb2
      have i0 : (0 : Int) ≤ (k : Int) := by omega
      have i1 : (k : Int) < (l.length : Int) := by omega
      have Hhit := Lib.hid (fun (e : l[k].fields.any mixedF = true) => (any_at (p := fun m : Msg => m.fields.any mixedF) hlt e : l.any (fun m => m.fields.any mixedF) = true))
      have Hnext := Lib.hid (fun (e : l[k].fields.any mixedF = false) => (no_more (p := fun m : Msg => m.fields.any mixedF) hlt Hg.out e))
      have Hu := Lib.hid hu; have Hf := Lib.hid hf; clear hu hf
      generalize l[k] = x at *
      obtain ⟨wq, rfl⟩ : ∃ wq : World, wq = wr := ⟨_, rfl⟩
      go_wp2_with fail
      go_loopw [17] (fun i wr => ∃ k2 : Nat, k2 ≤ x.fields.length ∧ i = .int .i64 k2 ∧ Up wq wr ∧ ∀ j, (hj : j < x.fields.length) → j < k2 → mixedF x.fields[j] = false) (fun i _ => x.fields.length - (intOf i).toNat)
      case atStart => exact ⟨0, by omega, rfl, (Up.refl _).alloc _, fun j _ h => absurd h (by omega)⟩
      case round =>
        clear c0 c1 c2
        obtain ⟨k2, hk2, rfl, hu2, hg2⟩ := hrel
        have Hg2 := Lib.hid hg2; clear hg2
        by_cases hlt2 : k2 < x.fields.length
        · obtain ⟨bb, oo, rfl, hfa⟩ := fld_at (Hf.out.up stable_fld hu2) hlt2
          have Hhit2 := Lib.hid (fun (e : mixedF x.fields[k2] = true) => any_at hlt2 e)
          have Hnext2 := Lib.hid (fun (e : mixedF x.fields[k2] = false) => no_more (p := mixedF) hlt2 Hg2.out e)
          obtain ⟨_, ⟨c0, c1, c2, c3, c4, c5⟩, _⟩ := hfa
          have k0 : (0 : Int) ≤ (k2 : Int) := by omega
          have k1 : (k2 : Int) < (x.fields.length : Int) := by omega
          have Hu2 := Lib.hid hu2
          clear hu2
          unfold mixedF at Hhit2 Hnext2
          generalize x.fields[k2] = y at *
          obtain ⟨wz, rfl⟩ : ∃ wz : World, wz = wr := ⟨_, rfl⟩
          cases hk10 : (y.kind == 10) with
          | false =>
            go_wp2_with fail
            go_roundw
            case rel => exact ⟨k2 + 1, by omega, by go_num, Hu2.out.alloc _, Hnext2.out (by rw [hk10]; rfl)⟩
            case measure => simp [intOf]; omega
          | true =>
            cases hch : decide (0 < y.choice) with
            | false =>
              have hc' : ¬ 0 < y.choice := of_decide_eq_false hch
              have Hrel := Lib.hid (Hnext2.out (by rw [hk10, hch]; rfl))
              clear hch
              go_wp2_with fail
              go_roundw
              case rel => exact ⟨k2 + 1, by omega, by go_num, Hu2.out.alloc _, Hrel.out⟩
              case measure => simp [intOf]; omega
            | true =>
              have hc' : 0 < y.choice := of_decide_eq_true hch
              have Hres := Lib.hid (show R = true by rw [← HR.out]; exact Hhit.out (Hhit2.out (by rw [hk10, hch]; rfl)))
              clear hch
              go_wp2_with fail
              go_ret
              have hres := Hres.out
              subst hres
              exact ⟨rfl, Hu.out.trans (Hu2.out.alloc _)⟩
        · have hn := any_none (p := mixedF) (l := x.fields) (fun j hj => Hg2.out j hj (by omega))
          have Hrel := Lib.hid (Hnext.out hn)
          have Hu2 := Lib.hid (Hu.out.trans hu2)
          clear hu2 hn
          go_wp2_with fail
          go_roundw
          case rel => exact ⟨k + 1, by omega, by go_num, Hu2.out, Hrel.out⟩
          case measure => simp [intOf]; omega
    · have Hres := Lib.hid (show R = false by rw [← HR.out]; exact any_none (p := fun m : Msg => m.fields.any mixedF) (fun j hj => Hg.out j hj (by omega)))
      have Hu := Lib.hid hu
      clear hu
      go_wp2_with fail
      go_ret
      have hres := Hres.out
      subst hres
      exact ⟨rfl, Hu.out⟩
end Go.Proofs.YtplgegffapikoaaDoor
