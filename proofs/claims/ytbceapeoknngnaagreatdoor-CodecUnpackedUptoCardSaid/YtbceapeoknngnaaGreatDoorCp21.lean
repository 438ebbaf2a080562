/-
  (*checker).value.
  body.Set, of values as they are.
  A region that draws its order, and whose last operation waits for all the others: the last one by itself.
-/
import Derived.Test.YtbceapeoknngnaaGreatDoorCp05
import Derived.Test.YtbceapeoknngnaaGreatDoorCp12
import Derived.Test.YtbceapeoknngnaaGreatDoorCp20
import Derived.Test.YtbceapeoknngnaaGreatDoorCp17
import Derived.Test.YtbceapeoknngnaaGreatDoorCp06
import Derived.Deep.RegionHeld3
import Derived.Test.YtbceapeoknngnaaGreatDoorCp13
import Derived.Test.YtbceapeoknngnaaGreatDoorCp14
import Derived.Test.YtbceapeoknngnaaGreatDoorProg
import Derived.StillTail
import Derived.OrdersHeld
set_option linter.unusedVariables false
namespace Go.Proofs.YtbceapeoknngnaaGreatDoor
open Go.RowKit
def FilAt (w : World) (fb : Nat) (f : Fil) : Prop := ∃ vm ve, w.cell? ⟨fb, 0, none⟩ = some vm ∧ w.cell? ⟨fb, 1, none⟩ = some ve ∧ FilV All w (.agg #[vm, ve]) f
theorem FilAt.up {w w' : World} {fb : Nat} {f : Fil} (h : FilAt w fb f) (u : Up w w') : FilAt w' fb f := by
  obtain ⟨vm, ve, h1, h2, h3⟩ := h
  exact ⟨vm, ve, u.cell_some h1, u.cell_some h2, h3.up u⟩
def ChkAt (w : World) (cb fb : Nat) (f : Fil) : Prop := w.cell? ⟨cb, 0, none⟩ = some (.pointer (some ⟨fb, 0, none⟩)) ∧ FilAt w fb f
theorem ChkAt.up {w w' : World} {cb fb : Nat} {f : Fil} (h : ChkAt w cb fb f) (u : Up w w') : ChkAt w' cb fb f := ⟨u.cell_some h.1, h.2.up u⟩
def BodAt (d : Nat) (w : World) (b o : Nat) (x : Bod) : Prop := ∃ vv vu, w.cell? ⟨b, o, none⟩ = some vv ∧ w.cell? ⟨b, o + 1, none⟩ = some vu ∧ DBodF d All w x [vv, vu]
theorem BodAt.up {d : Nat} {w w' : World} {b o : Nat} {x : Bod} (h : BodAt d w b o x) (u : Up w w') : BodAt d w' b o x := by
  obtain ⟨vv, vu, h1, h2, h3⟩ := h
  exact ⟨vv, vu, u.cell_some h1, u.cell_some h2, stable_bod d _ _ _ _ _ _ (Keep.upS u) h3⟩
abbrev BodyC (k d : Nat) (f : Fil) : Prop := ∀ (msg : Int) (x : Bod) (cb fb b o : Nat) (w : World), 0 ≤ msg → msg < f.msgs.length → ChkAt w cb fb f → BodAt d w b o x → Tabs w →
  Calls Tryz.prog 56 #[.pointer (some ⟨cb, 0, none⟩), .int .i64 msg, .pointer (some ⟨b, o, none⟩), .int .i64 (13 - k)] w fun e w' => e = .returned (.int .i64 (wrongB f k msg x)) ∧ Up w w'
set_option maxRecDepth 100000 in
set_option maxHeartbeats 6400000 in
theorem value_step (k d : Nat) (f : Fil) (ih : BodyC k d f) (hk : k ≤ 12) (x : Fld) (v : Val) (cb fb bf of b o : Nat) (a1 a2 a3 : Option Addr) (c1 c2 c3 : Nat) (w : World) (hc : ChkAt w cb fb f) (hx : FldAt w bf of x) (hv : ValAt w b o v a1 a2 a3 c1 c2 c3)
    (hd : DValD d All w v [.int .i64 v.1, .slice a1 v.2.1.length c1, .slice a2 v.2.2.1.length c2, .slice a3 v.2.2.2.length c3]) (ht : typedN f x = 0) (hT : Tabs w) :
    Calls Tryz.prog 104 #[.pointer (some ⟨cb, 0, none⟩), .pointer (some ⟨bf, of, none⟩), .pointer (some ⟨b, o, none⟩), .int .i64 (12 - k)] w fun e w' => e = .returned (.int .i64 (wrongVF (wrongB f k) f x v)) ∧ Up w w' := by
  have Ih := Lib.hid ih
  obtain ⟨p1, g1, p2, g2, p3, g3, he, hn, hx1, hx2, hx3, zx⟩ := val_cells hd
  simp only [List.cons.injEq, Value.slice.injEq, true_and, and_true] at he
  obtain ⟨⟨rfl, rfl⟩, ⟨rfl, rfl⟩, rfl, rfl⟩ := he
  have Hc := Lib.hid hc; have Hx := Lib.hid hx; have Hv := Lib.hid hv; have Hz := Lib.hid zx; have HT := Lib.hid hT
  have Hx1 := Lib.hid hx1; have Hx2 := Lib.hid hx2; have Hx3 := Lib.hid hx3
  have hzz := zx
  obtain ⟨zb, zy, zs⟩ := zx
  have hkd : w.cell? ⟨bf, of + 2, none⟩ = some (.int .i64 x.kind) := hx.2.1.2.2.1
  have hmn : w.cell? ⟨bf, of + 4, none⟩ = some (.bool x.many) := hx.2.1.2.2.2.2.1
  have hch : w.cell? ⟨bf, of + 5, none⟩ = some (.int .i64 x.choice) := hx.2.1.2.2.2.2.2
  have Hcn := Lib.hid (fun W (u : Up w W) => count_any x.kind b o v a1 a2 a3 c1 c2 c3 W (hv.up u) hzz)
  have Hpl := Lib.hid (fun W (u : Up w W) => plain_any x bf of b o v a1 a2 a3 c1 c2 c3 W (u.cell_some hkd) (u.cell_some hmn) (u.cell_some hch) (hv.up u) (hx1.up stable_u64 u) (hx2.up stable_bytes u))
  obtain ⟨ANS, hw⟩ : ∃ ANS, wrongVF (wrongB f k) f x v = ANS := ⟨_, rfl⟩
  rw [hw]
  unfold wrongVF at hw
  have hcb : (countN x.kind v).1 * 8 ≤ 140737488355328 := by
    unfold countN
    split
    · simp only; omega
    · split
      · simp only; omega
      · simp only; omega
  have h16 : IntKind.i64.wrap ((12 : Int) - (k : Int) + 1) = 13 - (k : Int) := by rw [IntKind.wrap_i64]; omega
  have hty := typed_facts ht
  have hk10 : (countN x.kind v).2 = true → 0 < v.2.2.2.length → 0 ≤ msgI f x.type := by
    intro h1 h2
    refine hty.2.2.1 ?_
    unfold countN at h1
    split at h1
    · simp only [beq_iff_eq] at h1; omega
    · split at h1
      · assumption
      · simp only [beq_iff_eq] at h1; omega
  have Hk10 := Lib.hid hk10; clear hk10
  generalize countN x.kind v = cn at *
  obtain ⟨n, ok⟩ := cn
  generalize plainN x v = pl at *
  clear hc hx hv hd hx1 hx2 hx3 hT hzz ih
  simp only at hw hcb Hcn
  have Hch := Lib.hid hch; have Hkd := Lib.hid hkd
  clear hch
  go_enter Tryz.func104, Tryz.ntmps104
  go_wp2_with fail
  refine (Hcn.out _ (Up.refl _)).mono ?_
  rintro e w1 ⟨rfl, hu1⟩
  have hmn := hu1.cell_some hmn
  have hkd := hu1.cell_some hkd
  cases ok with
  | false =>
    rw [if_pos rfl] at hw
    go_wp2_with fail
    go_ret
    exact ⟨ret_int hw, hu1⟩
  | true =>
  rw [if_neg (by decide)] at hw
  by_cases hmc : n < 1 ∨ 60 < n ∨ (x.many = false ∧ 1 < n)
  · rw [if_pos hmc] at hw
    have Hu1 := Lib.hid hu1
    have hm3 : (n : Int) < 1 ∨ (¬ (n : Int) < 1 ∧ (60 : Int) < n) ∨ (¬ (n : Int) < 1 ∧ ¬ (60 : Int) < n ∧ x.many = false ∧ (1 : Int) < n) := by
      by_cases g1 : n < 1
      · exact .inl (by omega)
      · by_cases g2 : 60 < n
        · exact .inr (.inl ⟨by omega, by omega⟩)
        · rcases hmc with h | h | ⟨h, h'⟩
          · omega
          · omega
          · exact .inr (.inr ⟨by omega, by omega, h, by omega⟩)
    rcases hm3 with h | ⟨h, h2⟩ | ⟨h, h2, h3, h4⟩
    · clear hu1 hmc
      go_wp2_with fail
      go_ret
      exact ⟨ret_int hw, Hu1.out⟩
    · clear hu1 hmc
      go_wp2_with fail
      go_ret
      exact ⟨ret_int hw, Hu1.out⟩
    · clear hu1 hmc
      rw [h3] at hmn
      go_wp2_with fail
      go_ret
      exact ⟨ret_int hw, Hu1.out⟩
  rw [if_neg hmc] at hw
  have n1 : ¬ (n : Int) < 1 := by omega
  have n2 : ¬ (60 : Int) < (n : Int) := by omega
  have n3 : (x.many = true) ∨ (x.many = false ∧ ¬ (1 : Int) < (n : Int)) := by
    cases h : x.many with
    | true => exact .inl rfl
    | false => exact .inr ⟨rfl, fun g => hmc (.inr (.inr ⟨h, by omega⟩))⟩
  clear hmc
  have Hpl1 := Lib.hid (Hpl.out w1 hu1)
  have Hu1 := Lib.hid hu1
  have Hw := Lib.hid hw
  clear hu1 hw
  rcases n3 with h | ⟨h, h2⟩
  all_goals
    rw [h] at hmn
    go_wp2_with fail
    refine Hpl1.out.mono ?_
    rintro e w2 ⟨rfl, hu2⟩
    have hw := Hw.out
    have hu2 := Hu1.out.trans hu2
  all_goals
    have hv0 := Hv.out.up hu2
    obtain ⟨v0, v1, v2, v3⟩ := hv0
    cases pl with
    | true =>
      rw [if_pos rfl] at hw
      go_wp2_with fail
      go_ret
      exact ⟨ret_int hw, hu2⟩
    | false =>
    rw [if_neg (by decide)] at hw
    have Hu2 := Lib.hid hu2; have Hw2 := Lib.hid hw
    clear hu2 hw Hw hmn v0 v2 v3 hkd
    go_wp2_with fail
    clear v1
    go_loopw [57] (fun i wr => ∃ k2 : Nat, k2 ≤ v.2.1.length ∧ i = .int .i64 k2 ∧ Up w wr ∧ ∀ j, (hj : j < v.2.1.length) → j < k2 → fitsN x.kind v.2.1[j] = 0) (fun i _ => v.2.1.length - (intOf i).toNat)
    case atStart => exact ⟨0, by omega, rfl, Hu2.out, fun j _ h => absurd h (by omega)⟩
    case round =>
      clear Hu2
      obtain ⟨k2, hk2, rfl, hu, hg⟩ := hrel
      have Hg := Lib.hid hg; clear hg
      by_cases hlt : k2 < v.2.1.length
      · obtain ⟨b1, o1, cs, rfl, _, _, hcs, hd⟩ := (Hx1.out.up stable_u64 hu).at hlt
        obtain ⟨rfl, hn64⟩ := hd
        have n0 := hcs 0 _ rfl
        simp only [Nat.add_zero, Nat.mul_one] at n0
        have kd := hu.cell_some Hkd.out
        have Hfit := Lib.hid (fits_any x.kind v.2.1[k2] wr hn64)
        have Hgg := Lib.hid (fun e => firstN_map_at (q := fitsN x.kind) hlt Hg.out e)
        have Hgn := Lib.hid (fun (e : fitsN x.kind v.2.1[k2] = 0) => zero_more' hlt Hg.out e)
        have k20 : (0 : Int) ≤ (k2 : Int) := by omega
        have k21 : (k2 : Int) < (v.2.1.length : Int) := by omega
        have Hu := Lib.hid hu
        clear hcs hu
        generalize v.2.1[k2] = q at *
        go_wp2_with fail
        refine Hfit.out.mono ?_
        rintro e w3 ⟨rfl, h3⟩
        subst h3
        clear n0 kd
        by_cases hf : fitsN x.kind q = 0
        · rw [hf]
          go_wp2_with fail
          go_roundw
          case rel => exact ⟨k2 + 1, by omega, by go_num, Hu.out, Hgn.out hf⟩
          case measure => simp [intOf]; omega
        · have hans : fitsN x.kind q = ANS := by
            have := Hgg.out hf
            rw [← Hw2.out, if_pos (by rw [this]; exact hf), this]
          generalize fitsN x.kind q = er at *
          go_wp2_with fail
          go_ret
          exact ⟨ret_int (by first | rfl | exact hans), Hu.out⟩
      · have hw := Hw2.out
        rw [if_neg (by rw [firstN_map_none (fun j hj => Hg.out j hj (by omega))]; decide)] at hw
        have v2 := (Hv.out.up hu).2.2.1
        have Hw3 := Lib.hid hw
        have Hu := Lib.hid hu
        clear hw Hw2 Hg hu
        go_wp2_with fail
        clear v2
        go_loopw [76] (fun i wr => ∃ k2 : Nat, k2 ≤ v.2.2.1.length ∧ i = .int .i64 k2 ∧ Up w wr ∧ ∀ j, (hj : j < v.2.2.1.length) → j < k2 → byteN x.kind v.2.2.1[j] = 0) (fun i _ => v.2.2.1.length - (intOf i).toNat)
        case atStart => exact ⟨0, by omega, rfl, Hu.out, fun j _ h => absurd h (by omega)⟩
        case round =>
          clear Hu
          obtain ⟨k3, hk3, rfl, hu, hg⟩ := hrel
          have Hg := Lib.hid hg; clear hg
          by_cases hlt3 : k3 < v.2.2.1.length
          · obtain ⟨b1, o1, cs, rfl, _, _, hcs, hd⟩ := (Hx2.out.up stable_bytes hu).at hlt3
            obtain ⟨vy, hd, hr, hyz⟩ := hd
            subst hd
            obtain ⟨ya, yc, rfl, _, _⟩ := hr.val
            have n0 := hcs 0 _ rfl
            simp only [Nat.add_zero, Nat.mul_one] at n0
            have kd := hu.cell_some Hkd.out
            have Hval := Lib.hid (valid_b _ _ wr hr (HT.out.up hu))
            have Hgg := Lib.hid (fun e => firstN_map_at (q := byteN x.kind) hlt3 Hg.out e)
            have Hgn := Lib.hid (fun (e : byteN x.kind v.2.2.1[k3] = 0) => zero_more' hlt3 Hg.out e)
            have k30 : (0 : Int) ≤ (k3 : Int) := by omega
            have k31 : (k3 : Int) < (v.2.2.1.length : Int) := by omega
            have Hu := Lib.hid hu
            clear hcs hu hr
            generalize v.2.2.1[k3] = q at *
            by_cases hlong : (4000 : Int) < (q.length : Int)
            · have hb4 : byteN x.kind q = 4 := by unfold byteN; rw [if_pos (by omega)]
              have hans : (4 : Int) = ANS := by
                have := Hgg.out (by rw [hb4]; decide)
                rw [← Hw3.out, if_pos (by rw [this, hb4]; decide), this, hb4]
              clear hb4
              go_wp2_with fail
              go_ret
              exact ⟨ret_int hans, Hu.out⟩
            by_cases hk8 : x.kind = 8
            · have hke : (x.kind == 8) = true := by simp [hk8]
              cases hvd : Lib.validD q with
              | true =>
                rw [hvd] at Hval
                have hb0 : byteN x.kind q = 0 := by unfold byteN; rw [if_neg (by omega), if_neg (by rw [hvd]; simp)]
                have Hb0 := Lib.hid hb0; clear hb0 hk8
                go_wp2_with fail
                refine Hval.out.mono ?_
                rintro e w3 ⟨rfl, hu3⟩
                have Hu3 := Lib.hid (Hu.out.trans hu3)
                clear hu3
                go_wp2_with fail
                go_roundw
                case rel => exact ⟨k3 + 1, by omega, by go_num, Hu3.out, Hgn.out Hb0.out⟩
                case measure => simp [intOf]; omega
              | false =>
                rw [hvd] at Hval
                have hb9 : byteN x.kind q = 9 := by unfold byteN; rw [if_neg (by omega), if_pos ⟨hk8, hvd⟩]
                have hans : (9 : Int) = ANS := by
                  have := Hgg.out (by rw [hb9]; decide)
                  rw [← Hw3.out, if_pos (by rw [this, hb9]; decide), this, hb9]
                clear hb9 hk8
                go_wp2_with fail
                refine Hval.out.mono ?_
                rintro e w3 ⟨rfl, hu3⟩
                have Hu3 := Lib.hid (Hu.out.trans hu3)
                clear hu3
                go_wp2_with fail
                go_ret
                exact ⟨ret_int hans, Hu3.out⟩
            · have hke : (x.kind == 8) = false := by simpa using hk8
              have hb0 : byteN x.kind q = 0 := by unfold byteN; rw [if_neg (by omega), if_neg (fun h => hk8 h.1)]
              have Hb0 := Lib.hid hb0; clear hb0 hk8
              go_wp2_with fail
              go_roundw
              case rel => exact ⟨k3 + 1, by omega, by go_num, Hu.out, Hgn.out Hb0.out⟩
              case measure => simp [intOf]; omega
          · have hw := Hw3.out
            rw [if_neg (by rw [firstN_map_none (fun j hj => Hg.out j hj (by omega))]; decide)] at hw
            have v3 := (Hv.out.up hu).2.2.2
            have Hw4 := Lib.hid hw
            have Hu := Lib.hid hu
            clear hw Hw3 Hg hu
            go_wp2_with fail
            clear v3
            go_loopw [99] (fun i wr => ∃ k2 : Nat, k2 ≤ v.2.2.2.length ∧ i = .int .i64 k2 ∧ Up w wr ∧ ∀ j, (hj : j < v.2.2.2.length) → j < k2 → wrongB f k (msgI f x.type) v.2.2.2[j] = 0) (fun i _ => v.2.2.2.length - (intOf i).toNat)
            case atStart => exact ⟨0, by omega, rfl, Hu.out, fun j _ h => absurd h (by omega)⟩
            case round =>
              clear Hu
              obtain ⟨k4, hk4, rfl, hu, hg⟩ := hrel
              have Hg := Lib.hid hg; clear hg
              by_cases hlt4 : k4 < v.2.2.2.length
              · have hmi := Hk10.out trivial (by omega)
                have hmb := msgI_bd f x.type
                have hmb2 : msgI f x.type < f.msgs.length := by omega
                obtain ⟨b1, o1, cs, rfl, _, _, hcs, hd⟩ := (Hx3.out.up (stable_bod d) hu).at hlt4
                obtain ⟨m1, r1, s1, m2, r2, s2, rfl⟩ := bod_two hd
                have n0 := hcs 0 _ rfl
                have n1' := hcs 1 _ rfl
                simp only [Nat.add_zero] at n0
                have hba : BodAt d wr b1 (o1 + k4 * 2) v.2.2.2[k4] := ⟨_, _, n0, n1', hd⟩
                obtain ⟨hcc, vm, ve, hcm, hce, hfv⟩ := Hc.out.up hu
                obtain ⟨vm', ve', he', hm', he''⟩ := id hfv
                simp only [Value.agg.injEq, Array.mk.injEq, List.cons.injEq, and_true] at he'
                obtain ⟨rfl, rfl⟩ := he'
                obtain ⟨ma, mc, rfl, _, _⟩ := hm'.val
                obtain ⟨ea, ec, rfl, _, _⟩ := he''.val
                clear hm' he''
                have Hmsg := Lib.hid (fun W (u : Up wr W) => find_msg_l (.agg #[.slice ma f.msgs.length mc, .slice ea f.enums.length ec]) f x.type W (hfv.up u))
                have Hbc := Lib.hid (fun W (u : Up wr W) => Ih.out (msgI f x.type) v.2.2.2[k4] cb fb b1 (o1 + k4 * 2) W hmi hmb2 (Hc.out.up (hu.trans u)) (hba.up u) (HT.out.up (hu.trans u)))
                have Hgg := Lib.hid (fun e => firstN_map_at (q := wrongB f k (msgI f x.type)) hlt4 Hg.out e)
                have Hgn := Lib.hid (fun (e : wrongB f k (msgI f x.type) v.2.2.2[k4] = 0) => zero_more' hlt4 Hg.out e)
                have k40 : (0 : Int) ≤ (k4 : Int) := by omega
                have k41 : (k4 : Int) < (v.2.2.2.length : Int) := by omega
                have v3 := (Hv.out.up hu).2.2.2
                have ty := hu.cell_some Hx.out.2.1.2.2.2.1
                have Hu := Lib.hid hu
                clear hcs hd hba hfv hu hmi hmb hmb2
                generalize v.2.2.2[k4] = q at *
                change Hid (∀ W, Up wr W → Calls _ _ _ _ fun e w' => e = Ending.returned (.int .i64 (msgI f x.type)) ∧ Up W w') at Hmsg
                generalize msgI f x.type = mi at *
                obtain ⟨wq, rfl⟩ : ∃ wq : World, wq = wr := ⟨_, rfl⟩
                generalize hER : wrongB f k mi q = ER at *
                go_upto_region 26 with (fail)
                have dd : wq.drew.cell? ⟨cb, 0, none⟩ = some (.pointer (some ⟨fb, 0, none⟩)) ∧ wq.drew.cell? ⟨fb, 0, none⟩ = some (.slice ma f.msgs.length mc) ∧ wq.drew.cell? ⟨fb, 1, none⟩ = some (.slice ea f.enums.length ec) ∧ wq.drew.cell? ⟨b, o + 3, none⟩ = some (.slice (some ⟨b1, o1, none⟩) v.2.2.2.length c3) ∧ wq.drew.cell? ⟨bf, of + 3, none⟩ = some (.string ⟨x.type.toArray⟩) := ⟨hcc, hcm, hce, v3, ty⟩
                have DD := Lib.hid (fun W (u : Up wq W) => (⟨u.cell_some hcc, u.cell_some hcm, u.cell_some hce, u.cell_some v3, u.cell_some ty⟩ : W.cell? ⟨cb, 0, none⟩ = some (.pointer (some ⟨fb, 0, none⟩)) ∧ W.cell? ⟨fb, 0, none⟩ = some (.slice ma f.msgs.length mc) ∧ W.cell? ⟨fb, 1, none⟩ = some (.slice ea f.enums.length ec) ∧ W.cell? ⟨b, o + 3, none⟩ = some (.slice (some ⟨b1, o1, none⟩) v.2.2.2.length c3) ∧ W.cell? ⟨bf, of + 3, none⟩ = some (.string ⟨x.type.toArray⟩)))
                go_region_held3 (fun w' => w'.cell? ⟨cb, 0, none⟩ = some (.pointer (some ⟨fb, 0, none⟩)) ∧ w'.cell? ⟨fb, 0, none⟩ = some (.slice ma f.msgs.length mc) ∧ w'.cell? ⟨fb, 1, none⟩ = some (.slice ea f.enums.length ec) ∧ w'.cell? ⟨b, o + 3, none⟩ = some (.slice (some ⟨b1, o1, none⟩) v.2.2.2.length c3) ∧ w'.cell? ⟨bf, of + 3, none⟩ = some (.string ⟨x.type.toArray⟩))
                  (first | with_reducible exact dd | with_reducible exact DD.out _ hu5 | with_reducible exact DD.out _ hu6)
                  (first | (go_at_call 81; refine (Hmsg.out _ (Up.refl wq).drew).mono ?_; rintro e w5 ⟨rfl, hu5'⟩; have hu5 := ((Up.refl wq).drew).trans hu5') | (go_at_call 56; refine (Hbc.out _ hu5).mono ?_; rintro e w6 ⟨rfl, hu6'⟩; have hu6 := hu5.trans hu6'))
                all_goals
                  have HU := Lib.hid (Hu.out.trans hu6)
                  clear hu6 hu6' hu5 hu5' dd DD hER
                  by_cases hf : ER = 0
                  · subst hf
                    go_wp2_with fail
                    go_roundw
                    case rel => exact ⟨k4 + 1, by omega, by go_num, HU.out, Hgn.out rfl⟩
                    case measure => simp [intOf]; omega
                  · have hans : ER = ANS := by rw [← Hw4.out]; exact (Hgg.out hf).symm
                    go_wp2_with fail
                    go_ret
                    exact ⟨ret_int (by first | rfl | exact hans), HU.out⟩
              · have hans : 0 = ANS := by rw [← Hw4.out, firstN_map_none (fun j hj => Hg.out j hj (by omega))]
                go_wp2_with fail
                go_ret
                exact ⟨ret_int hans, hu⟩
end Go.Proofs.YtbceapeoknngnaaGreatDoor
set_option linter.unusedVariables false
namespace Go.Proofs.YtbceapeoknngnaaGreatDoor
open Go.RowKit
abbrev PV : Type := Val × Value × Value × Value
def pv4 (p : PV) : SV := (p.1.1, p.2)
theorem zip4 {d : Nat} {S : Nat → Prop} {w : World} : ∀ {l : List Val} {l4 : List SV}, l4.length = l.length → (∀ i, (h1 : i < l4.length) → (h2 : i < l.length) → l4[i].1 = l[i].1 ∧ DValD d S w l[i] [.int .i64 l4[i].1, l4[i].2.1, l4[i].2.2.1, l4[i].2.2.2]) →
    ∃ L : List PV, L.map Prod.fst = l ∧ L.map pv4 = l4 ∧ ∀ p ∈ L, DValD d S w p.1 (c4 (pv4 p))
  | [], [], _, _ => ⟨[], rfl, rfl, fun p h => by cases h⟩
  | x :: l, [], h, _ => by simp at h
  | [], y :: l4, h, _ => by simp at h
  | x :: l, y :: l4, h, hd => by
    obtain ⟨L, h1, h2, h3⟩ := zip4 (d := d) (S := S) (w := w) (l := l) (l4 := l4) (by simpa using h) (fun i h1 h2 => hd (i + 1) (by simpa using h1) (by simpa using h2))
    have h0 := hd 0 (by simp) (by simp)
    simp only [List.getElem_cons_zero] at h0
    refine ⟨(x, y.2) :: L, by rw [List.map_cons, h1], ?_, fun p hp => ?_⟩
    · rw [List.map_cons, h2]
      congr 1
      show (x.1, y.2) = y
      rw [← h0.1]
    · rcases List.mem_cons.1 hp with rfl | hp
      · show DValD d S w x [.int .i64 x.1, y.2.1, y.2.2.1, y.2.2.2]
        rw [← h0.1]; exact h0.2
      · exact h3 p hp
theorem rd_of4 {d : Nat} {S : Nat → Prop} {w : World} {v : Value} {L : List PV} (h : RdS DVal4 4 S w v (L.map pv4)) (hd : ∀ p ∈ L, DValD d S w p.1 (c4 (pv4 p))) : RdS (DValD d) 4 S w v (L.map Prod.fst) := by
  obtain ⟨ao, cap, rfl, h1, h2, h3, h4⟩ := h
  refine ⟨ao, cap, by simp, by simpa using h1, h2, h3, fun i hi => ?_⟩
  have hi' : i < L.length := by simpa using hi
  obtain ⟨b, o, cs, e1, e2, e3, e4, e5, e6⟩ := h4 i (by simpa using hi')
  refine ⟨b, o, cs, e1, e2, e3, e4, e5, ?_⟩
  have h5 := hd L[i] (List.getElem_mem hi')
  obtain ⟨ha, hb, hc, he⟩ := e6
  have hcs : cs = c4 (pv4 L[i]) := by
    have hg : (L.map pv4)[i]'(by simpa using hi') = pv4 L[i] := by simp
    simp only [hg] at ha
    exact ha
  rw [hcs]
  simpa using h5
theorem RdS.weak {α : Type} {D : Lay α} (hD : Stable D) {size : Nat} {S S' : Nat → Prop} {w : World} {v : Value} {l : List α} (h : RdS D size S w v l) (hs : ∀ k, S k → S' k) : RdS D size S' w v l := h.keep hD (Keep.weak hs)
theorem lift_set {d : Nat} {S S' : Nat → Prop} {w w' : World} {vv vv' : Value} {fs : List Fld} {l : List Val} {x : Val} {a1 a2 a3 : Option Addr} {c1 c2 c3 : Nat} {L : List PV} (h1 : L.map Prod.fst = l) (h3 : ∀ p ∈ L, DValD d S w p.1 (c4 (pv4 p)))
    (hx : DValD d S w x [.int .i64 x.1, .slice a1 x.2.1.length c1, .slice a2 x.2.2.1.length c2, .slice a3 x.2.2.2.length c3]) (hS : ∀ k, S k → S' k) (hu : Up w w')
    (hr : RdS DVal4 4 S' w' vv' (setG (fun y : SV => y.1) fs (L.map pv4) (x.1, .slice a1 x.2.1.length c1, .slice a2 x.2.2.1.length c2, .slice a3 x.2.2.2.length c3) (fun f => plainN f x))) : RdS (DValD d) 4 S' w' vv' (setV fs l x) := by
  subst h1
  have e1 : setV fs (L.map Prod.fst) x = (setG (fun p : PV => p.1.1) fs L (x, .slice a1 x.2.1.length c1, .slice a2 x.2.2.1.length c2, .slice a3 x.2.2.2.length c3) (fun f => plainN f x)).map Prod.fst :=
    setG_map Prod.fst (fun y : Val => y.1) fs L (x, .slice a1 x.2.1.length c1, .slice a2 x.2.2.1.length c2, .slice a3 x.2.2.2.length c3) (fun f => plainN f x)
  have e2 := setG_map pv4 (fun y : SV => y.1) fs L (x, .slice a1 x.2.1.length c1, .slice a2 x.2.2.1.length c2, .slice a3 x.2.2.2.length c3) (fun f => plainN f x)
  rw [e1]
  refine rd_of4 (by have e3 := e2.symm; exact (show List.map pv4 _ = _ from e3) ▸ hr) (fun p hp => ?_)
  refine stable_val d _ _ _ _ _ _ ((Keep.upS hu).trans (Keep.weak hS)) ?_
  rcases setG_mem _ _ _ _ _ p hp with h | rfl
  · exact h3 p h
  · exact hx
theorem set_v (d : Nat) {S : Nat → Prop} (s vf vb vv vu : Value) (fs : List Fld) (l : List Val) (x : Val) (a1 a2 a3 : Option Addr) (c1 c2 c3 : Nat) (w : World) (hs : ∃ b, s = .string b) (hvb : IsS vb) (hvu : IsS vu) (hf : RdS DFld 6 All w vf fs) (hv : RdS (DValD d) 4 S w vv l) (hr : RisingV l) (hz : (l.length + 1) * 80 ≤ 140737488355328)
    (hx : DValD d S w x [.int .i64 x.1, .slice a1 x.2.1.length c1, .slice a2 x.2.2.1.length c2, .slice a3 x.2.2.2.length c3]) :
    Calls Tryz.prog 18 #[.agg #[s, vf, vb], .agg #[vv, vu], .agg #[.int .i64 x.1, .slice a1 x.2.1.length c1, .slice a2 x.2.2.1.length c2, .slice a3 x.2.2.2.length c3]] w fun e w' =>
      ∃ vv', e = .returned (.agg #[vv', vu]) ∧ RdS (DValD d) 4 (Sx S w) w' vv' (setV fs l x) ∧ Up w w' := by
  obtain ⟨l4, h1, h2, h3⟩ := rd4 hv
  obtain ⟨L, e1, e2, e3⟩ := zip4 h2 h3
  obtain ⟨p1, g1, p2, g2, p3, g3, he, hn, hx1, hx2, hx3, zx⟩ := val_cells hx
  simp only [List.cons.injEq, Value.slice.injEq, true_and, and_true] at he
  obtain ⟨⟨rfl, rfl⟩, ⟨rfl, rfl⟩, rfl, rfl⟩ := he
  have hx' := hx
  have hr4 : Rising l4 := by
    rw [← e2]
    rw [← e1] at hr
    have hq : L.Pairwise (fun p q => p.1.1 < q.1.1) := (List.pairwise_map (f := Prod.fst) (R := fun a b : Val => a.1 < b.1)).1 hr
    exact (List.pairwise_map (f := pv4) (R := fun a b : SV => a.1 < b.1)).2 hq
  refine (set_b (S := S) s vf vb vv vu fs l4 x a1 a2 a3 c1 c2 c3 w hs hvb hvu hf h1 hr4 (by rw [h2]; exact hz) (hx1.keep stable_u64 Keep.all) (hx2.keep stable_bytes Keep.all)).mono ?_
  rintro e w' ⟨vv', rfl, hrd, hu⟩
  rw [← e2] at hrd
  refine ⟨vv', rfl, ?_, hu⟩
  exact lift_set (vv := vv) e1 e3 hx (fun k h => .inl h) hu hrd
theorem nodup_le : ∀ {l1 l2 : List Int}, l1.Nodup → (∀ x ∈ l1, x ∈ l2) → l1.length ≤ l2.length
  | [], _, _, _ => by simp
  | a :: t, l2, hn, hs => by
    have ha := hs a List.mem_cons_self
    have h1 := nodup_le (l1 := t) (l2 := l2.erase a) (List.nodup_cons.1 hn).2 (fun x hx => (List.mem_erase_of_ne (by rintro rfl; exact (List.nodup_cons.1 hn).1 hx)).2 (hs x (List.mem_cons_of_mem _ hx)))
    rw [List.length_erase_of_mem ha] at h1
    have := List.length_pos_of_mem ha
    simp only [List.length_cons]
    omega
theorem vals_le {wv : Fld → Val → Int} {fs : List Fld} {l : List Val} {had : List Int} {prev : Option Int} (h : valsN wv fs prev had l = 0) : l.length ≤ fs.length := by
  obtain ⟨h1, h2, _, _⟩ := valsN_zero h
  have h3 : (l.map (fun x => x.1)).length ≤ (fs.map (fun x => x.number)).length := by
    refine nodup_le ?_ ?_
    · unfold List.Nodup
      rw [List.pairwise_map]
      exact h2.imp (fun h e => by omega)
    · intro n hn
      obtain ⟨v, hv, rfl⟩ := List.mem_map.1 hn
      obtain ⟨x, hx, _⟩ := h1 v hv
      obtain ⟨hx1, hx2⟩ := fldN_mem hx
      exact List.mem_map.2 ⟨x, hx1, hx2⟩
  simpa using h3
end Go.Proofs.YtbceapeoknngnaaGreatDoor
set_option linter.unusedVariables false
namespace Go.Proofs.YtbceapeoknngnaaGreatDoor
section
variable {P : Program} {ops : Array Oper} {md : Region.Mode} {Q : Exit → Act → World → Prop}
def AskLast (P : Program) (ops : Array Oper) (m : Nat) (Q : Exit → Act → World → Prop) : Exit → Act → World → Prop := fun e a w => match e with
  | .normal => wpOp P ops Q m (Q .normal) a w
  | e => Q e a w
theorem AskLast.normal {m : Nat} {a : Act} {w : World} (h : wpOp P ops Q m (Q .normal) a w) : AskLast P ops m Q .normal a w := h
theorem wpOp_ask {m i : Nat} {K : Act → World → Prop} {a : Act} {w : World} (h : wpOp P ops (AskLast P ops m Q) i K a w) : wpOp P ops Q i K a w := by
  unfold wpOp at *
  split
  · rename_i hn; simp only [hn] at h; exact h
  · rename_i o ho
    simp only [ho] at h
    split
    · rename_i hw
      simp only [hw, if_true] at h
      rcases h with h | h
      · refine .inl ?_
        unfold Oper.wp at h ⊢
        generalize (execOp a.eval o).run P w = r at *
        cases r with
        | ok n w' => cases n <;> exact h
        | halt x w' => cases x <;> exact h
      · exact .inr h
    · rename_i hw
      rw [if_neg hw] at h
      exact h
theorem unlisted_low {m : Nat} {listed : Array Bool} (hdep : ∀ (j : Nat) (oj : Oper), ops[j]? = some oj → ∀ e ∈ oj.after, Region.binds md e = true → e.on < j) (hsz : listed.size = ops.size)
    (hr : ∀ i, i ≠ m → i ∉ Region.ready md ops listed) (hno : ∀ (j : Nat) (oj : Oper), ops[j]? = some oj → ∀ e ∈ oj.after, Region.binds md e = true → e.on ≠ m) :
    ∀ i, i < ops.size → i ≠ m → listed.getD i false = true := by
  intro i
  induction i using Nat.strongRecOn with
  | _ i ih =>
    intro hi him
    cases hl : listed.getD i false with
    | true => rfl
    | false =>
      refine absurd (mem_ready.2 ⟨getD_in (by omega) hl, ops[i], by simp [hi], fun e he hb => ?_⟩) (hr i him)
      have h1 := hdep i ops[i] (by simp [hi]) e he hb
      exact ih e.on h1 (by omega) (hno i ops[i] (by simp [hi]) e he hb)
theorem wpAny_last {m : Nat} (hm : m + 1 = ops.size) (hs : Region.sinkB md ops m = true) (hc : Region.chainB md ops m = true) (hdep : ∀ (j : Nat) (oj : Oper), ops[j]? = some oj → ∀ e ∈ oj.after, Region.binds md e = true → e.on < j) :
    ∀ (f : Nat) (listed : Array Bool) (a : Act) (w : World), HeadInv md ops m listed → wpAny P md ops (AskLast P ops m Q) f (listed.setIfInBounds m true) a w → wpAny P md ops Q (f + 1) listed a w := by
  have hno : ∀ (j : Nat) (oj : Oper), ops[j]? = some oj → ∀ e ∈ oj.after, Region.binds md e = true → e.on ≠ m := fun j oj hj e he hb => by
    have h1 := hdep j oj hj e he hb
    have h2 := (Array.getElem?_eq_some_iff.1 hj).1
    omega
  have hback : ∀ (listed : Array Bool) (i : Nat), i ≠ m → i ∈ Region.ready md ops (listed.setIfInBounds m true) → i ∈ Region.ready md ops listed := fun listed i him h => by
    obtain ⟨h0, o, ho, hall⟩ := mem_ready.1 h
    refine mem_ready.2 ⟨by rw [getD_set_ne true (Ne.symm him)] at h0; exact h0, o, ho, fun e he hb => ?_⟩
    have := hall e he hb
    rw [getD_set_ne false (Ne.symm (hno i o ho e he hb))] at this
    exact this
  have hself : ∀ (listed : Array Bool), listed.size = ops.size → m ∉ Region.ready md ops (listed.setIfInBounds m true) := fun listed hsz h => by
    have h0 := (mem_ready.1 h).1
    simp [show m < listed.size by omega] at h0
  have hdone : ∀ (listed : Array Bool), HeadInv md ops m listed → m ∈ Region.ready md ops listed → Region.ready md ops (listed.setIfInBounds m true) = [] := fun listed inv hmr => by
    refine List.eq_nil_iff_forall_not_mem.2 fun i hi => ?_
    have him : i ≠ m := fun e => hself listed inv.size (e ▸ hi)
    obtain ⟨hun, o, ho, _⟩ := mem_ready.1 (hback listed i him hi)
    have hlt := (Array.getElem?_eq_some_iff.1 ho).1
    exact tail_waits hs hc (by omega) inv _ i rfl (by omega) hun m (Nat.le_refl _) hmr
  have hall : ∀ (listed : Array Bool), HeadInv md ops m listed → Region.ready md ops (listed.setIfInBounds m true) = [] → m ∈ Region.ready md ops listed := fun listed inv hr => by
    have hlow := unlisted_low (listed := listed) hdep inv.size (fun i him hi => by
      have := ready_mono hi him
      rw [hr] at this; cases this) hno
    refine mem_ready.2 ⟨inv.tail m (Nat.le_refl _) (by omega), ops[m], by simp [show m < ops.size by omega], fun e he hb => ?_⟩
    have h1 := hdep m ops[m] (by simp [show m < ops.size by omega]) e he hb
    exact hlow e.on (by omega) (by omega)
  have hend : ∀ (f : Nat) (listed : Array Bool) (a : Act) (w : World), HeadInv md ops m listed → m ∈ Region.ready md ops listed → wpAny P md ops (AskLast P ops m Q) f (listed.setIfInBounds m true) a w → wpOp P ops Q m (wpAny P md ops Q f (listed.setIfInBounds m true)) a w := fun f listed a w inv hmr h => by
    have hr := hdone listed inv hmr
    have hq : AskLast P ops m Q .normal a w := by
      cases f with
      | zero => exact h.2
      | succ f => exact h.1 hr
    refine wpOp_mono (fun a' w' h' => ?_) (show wpOp P ops Q m (Q .normal) a w from hq)
    cases f with
    | zero => exact ⟨hr, h'⟩
    | succ f => exact ⟨fun _ => h', fun i hi => by rw [hr] at hi; cases hi⟩
  intro f
  induction f with
  | zero =>
    intro listed a w inv h
    have hmr := hall listed inv h.1
    refine ⟨fun h0 => (by rw [h0] at hmr; cases hmr), fun i hi => ?_⟩
    by_cases him : i = m
    · subst him; exact hend 0 listed a w inv hmr h
    · have := ready_mono hi him
      rw [h.1] at this; cases this
  | succ f ih =>
    intro listed a w inv h
    refine ⟨fun h0 => ?_, fun i hi => ?_⟩
    · have : Region.ready md ops (listed.setIfInBounds m true) = [] := List.eq_nil_iff_forall_not_mem.2 fun i hi => by
        have him : i ≠ m := fun e => hself listed inv.size (e ▸ hi)
        have := hback listed i him hi
        rw [h0] at this; cases this
      have := hall listed inv this
      rw [h0] at this; cases this
    · by_cases him : i = m
      · subst him; exact hend (f + 1) listed a w inv hi h
      · have hi2 := ready_mono hi him
        have hlt : i < ops.size := by obtain ⟨_, o, ho, _⟩ := mem_ready.1 hi; exact (Array.getElem?_eq_some_iff.1 ho).1
        refine wpOp_ask (m := m) (wpOp_mono (fun a' w' h' => ih _ a' w' (inv.set hi (by omega)) ?_) (h.2 i hi2))
        rw [Array.setIfInBounds_comm _ _ him]
        exact h'
theorem wp_region_last {S : World → Prop} {id m : Nat} {a : Act} {w : World} (hf : P.follows .mixedOrders = true) (hm : m + 1 = ops.size) (hs : Region.sinkB .any ops m = true) (hc : Region.chainB .any ops m = true)
    (hdep : (List.range ops.size).all (fun j => match ops[j]? with | some oj => oj.after.all (fun e => !Region.binds .any e || decide (e.on < j)) | none => true) = true)
    (h : wpAnyH P .any ops (AskLast P ops m Q) S m ((Array.replicate ops.size false).setIfInBounds m true) a { w with drawn := w.drawn + 1 }) : (Code.region id ops true).wp P Q a w := by
  have hd : ∀ (j : Nat) (oj : Oper), ops[j]? = some oj → ∀ e ∈ oj.after, Region.binds .any e = true → e.on < j := fun j oj hj e he hb => by
    have h1 := List.all_eq_true.1 hdep j (List.mem_range.2 (Array.getElem?_eq_some_iff.1 hj).1)
    rw [hj] at h1
    have h2 := (Array.all_eq_true_iff_forall_mem.1 h1) e he
    simp only [hb, Bool.not_true, Bool.false_or, decide_eq_true_eq] at h2
    exact h2
  refine wp_region_any hf ?_
  rw [← hm]
  rw [← hm] at h
  exact wpAny_last hm hs hc hd m _ a _ ⟨by simp [hm], fun j oj _ hl => (by rw [getD_replicate_false] at hl; cases hl), fun t _ ht => getD_in (by simp; omega) (getD_replicate_false _ _)⟩ (wpAny_of_held _ _ _ _ h)
end
end Go.Proofs.YtbceapeoknngnaaGreatDoor
