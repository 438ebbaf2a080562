/-
  presslaw2.clash.
-/
import Derived.Test.YtplgegffapikoabDoorLinkSpec
import Derived.Test.YtplgegffapikoabDoorRound3
import Derived.Test.YtplgegffapikoabDoorDrew
import Derived.RegionTactic
import Derived.Deep.DeepCutAuto
set_option linter.unusedVariables false
namespace Go.Proofs.YtplgegffapikoabDoor
open Go.RowKit
theorem any_false_take {α : Type} {p : α → Bool} {l : List α} (h : ∀ j, (hj : j < l.length) → p l[j] = false) : l.any p = false := by
  rw [List.any_eq_false]
  intro a ha
  obtain ⟨j, hj, rfl⟩ := List.getElem_of_mem ha
  rw [h j hj]
  decide
set_option maxRecDepth 100000 in
set_option maxHeartbeats 3200000 in
theorem clash_s (va : Value) (f : Fil) (w : World) (hf : FilV All w va f) :
    Calls Tryd.prog 19 #[va] w fun e w' => e = .returned (.bool (clashP f)) ∧ Up w w' := by
  obtain ⟨vm, ve, rfl, hm, he⟩ := hf
  obtain ⟨mo, mc, rfl, hm1, hm2⟩ := hm.val
  obtain ⟨eo, ec, rfl, he1, he2⟩ := he.val
  obtain ⟨w1, hw1⟩ : ∃ w1, w1 = w.alloc (.cells #[.slice mo f.msgs.length mc, .slice eo f.enums.length ec] 25) := ⟨_, rfl⟩
  have hu1 : Up w w1 := hw1 ▸ (Up.refl w).alloc _
  have Hm := Lib.hid (hm.up stable_msg hu1)
  have HU1 := Lib.hid hu1
  clear hm he hu1
  go_enter Tryd.func19, Tryd.ntmps19
  go_wp2_with fail
  rw [← hw1]
  clear hw1
  go_loopw [10] (fun i wr => ∃ k : Nat, k ≤ f.msgs.length ∧ i = .int .i64 k ∧ Up w1 wr ∧ ∀ j, (hj : j < f.msgs.length) → j < k → (f.msgs[j].fields.any clashX) = false) (fun i _ => f.msgs.length - (intOf i).toNat)
  case atStart => exact ⟨0, by omega, rfl, Up.refl _, fun j _ h => absurd h (by omega)⟩
  case round =>
    obtain ⟨k, hk, rfl, hu, hg⟩ := hrel
    have Hg := Lib.hid hg; have Hu := Lib.hid hu
    clear hg
    by_cases hlt : k < f.msgs.length
    · obtain ⟨b, o, cs, rfl, hb, hl, hcs, hd⟩ := (Hm.out.up stable_msg hu).at hlt
      obtain ⟨vf, vb, hd, hf1, hb1', hn⟩ := hd
      obtain ⟨fo, fc, rfl, _, _⟩ := hf1.val
      obtain ⟨bo, bc, rfl, _, _⟩ := hb1'.val
      subst hd
      have c0 := hcs 0 _ rfl
      have c1 := hcs 1 _ rfl
      have c2 := hcs 2 _ rfl
      simp only [Nat.add_zero] at c0
      have k0 : (0 : Int) ≤ (k : Int) := by omega
      have k1 : (k : Int) < (f.msgs.length : Int) := by omega
      have Hf1 := Lib.hid hf1
      have hgk := Lib.hid (fun (h : f.msgs[k].fields.any clashX = false) j (hj : j < f.msgs.length) (hjk : j < k + 1) => show (f.msgs[j].fields.any clashX) = false from by
        by_cases e : j = k
        · subst e; exact h
        · exact Hg.out j hj (by omega))
      have hgt := Lib.hid (fun (h : f.msgs[k].fields.any clashX = true) => show clashP f = true from by
        unfold clashP
        rw [List.any_eq_true]
        exact ⟨_, List.getElem_mem hlt, h⟩)
      clear hcs hl hf1 hb1' hu hn
      generalize f.msgs[k] = x at *
      obtain ⟨wo, rfl⟩ : ∃ wo : World, wo = wr := ⟨_, rfl⟩
      go_wp2_with fail
      have hua : Up wo (wo.alloc (.cells #[.string ⟨x.name.toArray⟩, .slice fo x.fields.length fc, .slice bo x.barred.length bc] 46)) := (Up.refl wo).alloc _
      have Hua := Lib.hid hua; clear hua
      go_loopw [17] (fun i wr => ∃ q : Nat, q ≤ x.fields.length ∧ i = .int .i64 q ∧ Up wo wr ∧ ∀ j, (hj : j < x.fields.length) → j < q → clashX x.fields[j] = false) (fun i _ => x.fields.length - (intOf i).toNat)
      case atStart => exact ⟨0, by omega, rfl, Hua.out, fun j _ h => absurd h (by omega)⟩
      case round =>
        clear c0 c1 c2
        obtain ⟨q, hq, rfl, hu2, hg2⟩ := hrel
        have Hg2 := Lib.hid hg2; have Hu2 := Lib.hid hu2
        clear hg2
        by_cases hlt2 : q < x.fields.length
        · obtain ⟨b2, o2, cs, rfl, hb2, hl, hcs, hd⟩ := (Hf1.out.up stable_fld hu2).at hlt2
          obtain ⟨hd, hx⟩ := hd
          subst hd
          have c0 := hcs 0 _ rfl
          have c1 := hcs 1 _ rfl
          have c2 := hcs 2 _ rfl
          have c3 := hcs 3 _ rfl
          have c4 := hcs 4 _ rfl
          have c5 := hcs 5 _ rfl
          simp only [Nat.add_zero] at c0
          have k20 : (0 : Int) ≤ (q : Int) := by omega
          have k21 : (q : Int) < (x.fields.length : Int) := by omega
          have hgq := Lib.hid (fun (h : clashX x.fields[q] = false) j (hj : j < x.fields.length) (hjk : j < q + 1) => show clashX x.fields[j] = false from by
            by_cases e : j = q
            · subst e; exact h
            · exact Hg2.out j hj (by omega))
          have hqt := Lib.hid (fun (h : clashX x.fields[q] = true) => show x.fields.any clashX = true from by
            rw [List.any_eq_true]
            exact ⟨_, List.getElem_mem hlt2, h⟩)
          clear hcs hl hx hu2 Hg2
          generalize x.fields[q] = y at *
          obtain ⟨wi, rfl⟩ : ∃ wi : World, wi = wr := ⟨_, rfl⟩
          have hcl : clashX y = (y.type == [114, 101, 112, 101, 97, 116, 101, 100] || y.type == [114, 101, 115, 101, 114, 118, 101, 100] || y.type == [111, 110, 101, 111, 102]) := rfl
          cases e1 : y.type == [114, 101, 112, 101, 97, 116, 101, 100]
          case true =>
            rw [e1] at hcl
            have Hcl := Lib.hid hcl
            clear hcl
            go_wp2_with fail
            go_ret
            exact ⟨ret_bool (by rw [hgt.out (hqt.out Hcl.out)]), HU1.out.trans (Hu.out.trans (Hu2.out.alloc _))⟩
          case false =>
            cases e2 : y.type == [114, 101, 115, 101, 114, 118, 101, 100]
            case true =>
              rw [e1, e2] at hcl
              have Hcl := Lib.hid hcl
              clear hcl
              go_wp2_with fail
              go_ret
              exact ⟨ret_bool (by rw [hgt.out (hqt.out Hcl.out)]), HU1.out.trans (Hu.out.trans (Hu2.out.alloc _))⟩
            case false =>
              cases e3 : y.type == [111, 110, 101, 111, 102]
              case true =>
                rw [e1, e2, e3] at hcl
                have Hcl := Lib.hid hcl
                clear hcl
                go_wp2_with fail
                go_ret
                exact ⟨ret_bool (by rw [hgt.out (hqt.out Hcl.out)]), HU1.out.trans (Hu.out.trans (Hu2.out.alloc _))⟩
              case false =>
                rw [e1, e2, e3] at hcl
                have Hcl := Lib.hid hcl
                clear hcl
                go_wp2_with fail
                go_roundw
                case rel => exact ⟨q + 1, by omega, by go_num, Hu2.out.alloc _, hgq.out Hcl.out⟩
                case measure => simp [intOf]; omega
        · have hno := any_false_take (p := clashX) (l := x.fields) (fun j hj => Hg2.out j hj (by omega))
          have Hno := Lib.hid hno
          clear hno
          go_wp2_with fail
          go_roundw
          case rel => exact ⟨k + 1, by omega, by go_num, Hu.out.trans Hu2.out, hgk.out Hno.out⟩
          case measure => simp [intOf]; omega
    · have hno : clashP f = false := any_false_take (p := fun m : Msg => m.fields.any clashX) (l := f.msgs) (fun j hj => Hg.out j hj (by omega))
      have Hno := Lib.hid hno
      clear hno
      go_wp2_with fail
      go_ret
      exact ⟨ret_bool Hno.out.symm, HU1.out.trans Hu.out⟩
end Go.Proofs.YtplgegffapikoabDoor
