/-
  The law PressRight.
-/
import Derived.Test.YtplgegffapikoaaPrAlive
import Derived.Test.YtplgegffapikoaaRightPlain2
import Derived.Deep.DeepCutAuto
set_option linter.unusedVariables false
namespace Go.Proofs.Ytplgegffapikoaa
open Go.RowKit
set_option maxRecDepth 100000 in
set_option maxHeartbeats 6400000 in
theorem pressRight_any (v : Value) (f : Fil) (w : World) (hf : FilV All w v f) (hsz : FilSz f) :
    Calls Try.prog 9 #[v] w fun e w' => e = .returned (.bool true) ∧ Up w w' := by
  have hmk := fun wx (u : Up w wx) => make_any v f wx (hf.up u) hsz
  have Hf := Lib.hid hf
  obtain ⟨vm, ve, rfl, hm, he⟩ := hf
  obtain ⟨mo, mc, rfl, hm1, hm2⟩ := hm.val
  obtain ⟨eo, ec, rfl, he1, he2⟩ := he.val
  have Hm := Lib.hid hm
  have Hmk := Lib.hid hmk
  have Hal := Lib.hid pralive_any
  have hfd : ∀ (a b : Int) (w : World), (Instr.field 34 (.agg #[.int .i64 a, .int .i64 b]) 0).run Try.prog w = .ok (.int .i64 a) w := fun _ _ _ => by kernel_rfl
  clear hm he hmk
  go_enter Try.func9, Try.ntmps9
  go_wp2_with fail
  have hb0 := blk_new w (.cells #[.slice mo f.msgs.length mc, .slice eo f.enums.length ec] 45) rfl
  have hu0 := (Up.refl w).alloc (.cells #[.slice mo f.msgs.length mc, .slice eo f.enums.length ec] 45)
  refine (Hal.out _).mono ?_
  rintro e w1 ⟨rfl, hu1⟩
  have hb1 := hu1.blk hb0
  have hu01 := hu0.trans hu1
  have f0 : w1.cell? ⟨w.heap.size, 0, none⟩ = some (.slice mo f.msgs.length mc) := cell_of_row w1 _ 0 _ _ _ hb1
  have f1 : w1.cell? ⟨w.heap.size, 1, none⟩ = some (.slice eo f.enums.length ec) := cell_of_row w1 _ 1 _ _ _ hb1
  have Hb1 := Lib.hid hb1; have Hu1 := Lib.hid hu01
  clear hb0 hu0 hb1 hu1 hu01 Hal
  go_wp2_with fail
  refine (Hmk.out _ Hu1.out).mono ?_
  rintro e w2 ⟨v2, rfl, hr2, hu2⟩
  have Hb2 := Lib.hid (hu2.blk Hb1.out); have Hu2 := Lib.hid (Hu1.out.trans hu2)
  clear f0 f1 hu2 Hmk Hb1 Hu1
  by_cases her : (wrongN f).1 = 0
  · obtain ⟨hw0, h10, hnm, hms, hen⟩ := wrongN_ok her
    rw [if_pos her] at hr2
    rw [hw0]
    clear her hw0
    obtain ⟨po, pc, rfl, hp1, hp2⟩ := hr2.val
    have hml : (makeN f).length = f.msgs.length := by unfold makeN; rw [List.length_map]
    rw [hml] at hr2 hp1
    rw [hml]
    have hpr := fun wx (u : Up w2 wx) => prwrong_ok _ (makeN f) wx (hr2.up stable_prg u) (by omega) (fun p hp => by
      obtain ⟨m, hm, rfl⟩ := List.mem_map.1 hp
      rw [hml]
      exact prg_ok (hms m hm))
    have Hpr := Lib.hid hpr; have Hr2 := Lib.hid hr2; have Hms := Lib.hid hms
    have Hat := Lib.hid (fun k (h : k < f.msgs.length) => show ∃ h', (makeN f)[k]'h' = prgN f f.msgs[k] from ⟨by rw [hml]; exact h, by unfold makeN; rw [List.getElem_map]⟩)
    have Hml := Lib.hid hml
    clear hpr hr2 hms hnm hen hml
    go_upto_region 4 with (fail)
    have b1 := blk_old (.cells #[.int .i64 0, .int .i64 0] 34) Hb2.out
    have b3 := (Up.refl w2).alloc (.cells #[.int .i64 0, .int .i64 0] 34)
    have b4 := blk_new w2 (.cells #[.int .i64 0, .int .i64 0] 34) rfl
    generalize w2.alloc (.cells #[.int .i64 0, .int .i64 0] 34) = w3 at *
    have f0 : w3.cell? ⟨w.heap.size, 0, none⟩ = some (.slice mo f.msgs.length mc) := cell_of_row w3 _ 0 _ _ _ b1
    have e0 : w3.cell? ⟨w2.heap.size, 0, none⟩ = some (.int .i64 0) := cell_of_row w3 _ 0 _ _ _ b4
    have Hb3 := Lib.hid b1; have Hu3 := Lib.hid b3
    clear b1 b3 b4 Hb2
    go_wp2_with fail
    refine (Hpr.out _ Hu3.out).mono ?_
    rintro e w4 ⟨rfl, hu4⟩
    have f0 := hu4.cell_some f0
    have Hb4 := Lib.hid (hu4.blk Hb3.out); have Hu4 := Lib.hid (Hu3.out.trans hu4)
    clear e0 hu4 Hb3 Hu3 Hpr
    go_wp2_with fail
    go_loopw [36] (fun i wr => ∃ k : Nat, k ≤ f.msgs.length ∧ i = .int .i64 k ∧ Up w4 wr) (fun i _ => f.msgs.length - (intOf i).toNat)
    case atStart => exact ⟨0, by omega, rfl, Up.refl _⟩
    case round =>
      clear f0
      obtain ⟨k, hk, rfl, hu⟩ := hrel
      by_cases hlt : k < f.msgs.length
      · have hu24 := Hu4.out.trans hu
        obtain ⟨b, o, cs, rfl, hb, hl, hcs, hd⟩ := (Hm.out.up stable_msg (Hu2.out.trans hu24)).at hlt
        obtain ⟨vf, vb, hd, hf1, hb1', hn⟩ := hd
        obtain ⟨fo, fc, rfl, hfc1, hfc2⟩ := hf1.val
        obtain ⟨bo, bc, rfl, hbc1, hbc2⟩ := hb1'.val
        subst hd
        have c1 := hcs 1 _ rfl
        clear hcs
        obtain ⟨b2, o2, cs, rfl, hb2, hl2, hcs, hd⟩ := (Hr2.out.up stable_prg hu24).at (i := k) (by rw [Hml.out]; exact hlt)
        obtain ⟨vp, hd, hp⟩ := hd
        subst hd
        obtain ⟨_, hat⟩ := Hat.out k hlt
        rw [hat] at hp
        have hpl : (prgN f f.msgs[k]).length = f.msgs[k].fields.length := by unfold prgN numsN; simp
        obtain ⟨qo, qc, rfl, hq1, hq2⟩ := hp.val
        rw [hpl] at hp hq1 hcs
        have p0 := hcs 0 _ rfl
        simp only [Nat.add_zero, Nat.mul_one] at p0
        have k0 : (0 : Int) ≤ (k : Int) := by omega
        have k1 : (k : Int) < (f.msgs.length : Int) := by omega
        have Hth := Lib.hid (fun s (hs : s ∈ prgN f f.msgs[k]) => there_any hs)
        have Hf1 := Lib.hid hf1; have Hp := Lib.hid hp; have Hpl := Lib.hid hpl
        clear hcs hl hl2 hf1 hb1' hn hat hp hpl
        generalize prgN f f.msgs[k] = pm at *
        generalize f.msgs[k] = m at *
        obtain ⟨wo, rfl⟩ : ∃ wo : World, wo = wr := ⟨_, rfl⟩
        have f0 : wo.cell? ⟨w.heap.size, 0, none⟩ = some (.slice (some ⟨b, o, none⟩) f.msgs.length mc) := cell_of_row wo _ 0 _ _ _ (hu.blk Hb4.out)
        have Hbo := Lib.hid (hu.blk Hb4.out); have Hu := Lib.hid hu
        clear hu hu24
        go_wp2_with fail
        go_loopw [53] (fun i wr => ∃ k2 : Nat, k2 ≤ m.fields.length ∧ i = .int .i64 k2 ∧ Up wo wr) (fun i _ => m.fields.length - (intOf i).toNat)
        case atStart => exact ⟨0, by omega, rfl, Up.refl _⟩
        case round =>
          clear f0
          obtain ⟨k2, hk2, rfl, hu2⟩ := hrel
          by_cases hlt2 : k2 < m.fields.length
          · obtain ⟨b3, o3, cs, rfl, hb3, hl, hcs, hd⟩ := (Hp.out.up stable_stp hu2).at (i := k2) (by rw [Hpl.out]; exact hlt2)
            obtain ⟨hd, hx⟩ := hd
            subst hd
            have s0 := hcs 0 _ rfl
            have s1 := hcs 1 _ rfl
            have s2 := hcs 2 _ rfl
            have s3 := hcs 3 _ rfl
            have s4 := hcs 4 _ rfl
            simp only [Nat.add_zero] at s0
            have k20 : (0 : Int) ≤ (k2 : Int) := by omega
            have k21 : (k2 : Int) < (m.fields.length : Int) := by omega
            have Hths := Lib.hid (Hth.out _ (List.getElem_mem (show k2 < pm.length by rw [Hpl.out]; exact hlt2)))
            clear hcs hl hx
            generalize pm[k2]'_ = st at *
            obtain ⟨wi, rfl⟩ : ∃ wi : World, wi = wr := ⟨_, rfl⟩
            go_upto_region 17 with (fail)
            have hy := blk_new wi (.cells #[.int .i64 st.kind, .int .i64 st.number, .int .i64 st.how, .int .i64 st.field, .int .i64 st.next] 72) rfl
            have huy := (Up.refl wi).alloc (.cells #[.int .i64 st.kind, .int .i64 st.number, .int .i64 st.how, .int .i64 st.field, .int .i64 st.next] 72)
            generalize wi.alloc (.cells #[.int .i64 st.kind, .int .i64 st.number, .int .i64 st.how, .int .i64 st.field, .int .i64 st.next] 72) = wy at *
            have huo := hu2.trans huy
            have f0 : wy.cell? ⟨w.heap.size, 0, none⟩ = some (.slice (some ⟨b, o, none⟩) f.msgs.length mc) := cell_of_row wy _ 0 _ _ _ (huo.blk Hbo.out)
            have d1 := huo.cell_some c1
            have Hy := Lib.hid hy; have Huo := Lib.hid huo
            clear hy huy huo hu2 s0 s1 s2 s3 s4
            go_wp2_with fail
            go_loopw [64, 9] (fun i v wr => ∃ k3 : Nat, k3 ≤ m.fields.length ∧ i = .int .i64 k3 ∧ v = .bool ((m.fields.take k3).any (thereN st)) ∧ Up wy wr) (fun i _ _ => m.fields.length - (intOf i).toNat)
            case atStart => exact ⟨0, by omega, rfl, by simp, Up.refl _⟩
            case round =>
              clear f0 d1
              obtain ⟨k3, hk3, rfl, rfl, hu3⟩ := hrel
              by_cases hlt3 : k3 < m.fields.length
              · obtain ⟨b4, o4, cs, rfl, hb4, hl, hcs, hd⟩ := (Hf1.out.up stable_fld (Huo.out.trans hu3)).at hlt3
                obtain ⟨hd, hx⟩ := hd
                subst hd
                have c0 := hcs 0 _ rfl
                have c1' := hcs 1 _ rfl
                have c2 := hcs 2 _ rfl
                have c3 := hcs 3 _ rfl
                have c4 := hcs 4 _ rfl
                have c5 := hcs 5 _ rfl
                simp only [Nat.add_zero] at c0
                have k30 : (0 : Int) ≤ (k3 : Int) := by omega
                have k31 : (k3 : Int) < (m.fields.length : Int) := by omega
                have Hsn := Lib.hid (show (m.fields.take (k3 + 1)).any (thereN st) = ((m.fields.take k3).any (thereN st) || thereN st m.fields[k3]) by rw [List.take_succ_eq_append_getElem hlt3, List.any_append]; simp)
                clear hcs hl hx
                generalize (m.fields.take k3).any (thereN st) = t at *
                generalize m.fields[k3] = x at *
                obtain ⟨wj, rfl⟩ : ∃ wj : World, wj = wr := ⟨_, rfl⟩
                go_upto_region 20 with (fail)
                have hy := blk_new wj (.cells #[.string ⟨x.name.toArray⟩, .int .i64 x.number, .int .i64 x.kind, .string ⟨x.type.toArray⟩, .bool x.many, .int .i64 x.choice] 74) rfl
                have huy := (Up.refl wj).alloc (.cells #[.string ⟨x.name.toArray⟩, .int .i64 x.number, .int .i64 x.kind, .string ⟨x.type.toArray⟩, .bool x.many, .int .i64 x.choice] 74)
                generalize wj.alloc (.cells #[.string ⟨x.name.toArray⟩, .int .i64 x.number, .int .i64 x.kind, .string ⟨x.type.toArray⟩, .bool x.many, .int .i64 x.choice] 74) = wz at *
                have p1 : wz.cell? ⟨wj.heap.size, 1, none⟩ = some (.int .i64 x.number) := cell_of_row wz _ 1 _ _ _ hy
                have p2 : wz.cell? ⟨wj.heap.size, 2, none⟩ = some (.int .i64 x.kind) := cell_of_row wz _ 2 _ _ _ hy
                have p4 : wz.cell? ⟨wj.heap.size, 4, none⟩ = some (.bool x.many) := cell_of_row wz _ 4 _ _ _ hy
                have hys := (hu3.trans huy).blk Hy.out
                have y0 : wz.cell? ⟨wi.heap.size, 0, none⟩ = some (.int .i64 st.kind) := cell_of_row wz _ 0 _ _ _ hys
                have y1 : wz.cell? ⟨wi.heap.size, 1, none⟩ = some (.int .i64 st.number) := cell_of_row wz _ 1 _ _ _ hys
                have y3 : wz.cell? ⟨wi.heap.size, 3, none⟩ = some (.int .i64 st.field) := cell_of_row wz _ 3 _ _ _ hys
                have Huz := Lib.hid (hu3.trans huy)
                clear hy huy hys c0 c1' c2 c3 c4 c5 hu3
                have Hsn := Lib.hid (Hsn.out.trans (show (t || thereN st x) = (t || (x.number == st.number && x.kind == st.field && ((st.kind == 2) == (x.many && howN x.kind != 2)))) from rfl))
                cases t with
                | true =>
                  go_quiet (fail)
                  go_wp2_with fail
                  go_roundw
                  case rel => exact ⟨k3 + 1, by omega, by go_num, by rw [Hsn.out]; simp, Huz.out.drewN _⟩
                  case measure => simp [intOf]; omega
                | false =>
                  cases e1 : (x.number == st.number) with
                  | false =>
                    rw [e1] at Hsn
                    go_quiet (fail)
                    go_wp2_with fail
                    go_roundw
                    case rel => exact ⟨k3 + 1, by omega, by go_num, by rw [Hsn.out]; simp, Huz.out.drewN _⟩
                    case measure => simp [intOf]; omega
                  | true =>
                    rw [e1] at Hsn
                    cases e2 : (x.kind == st.field) with
                    | false =>
                      rw [e2] at Hsn
                      go_quiet (fail)
                      go_wp2_with fail
                      go_roundw
                      case rel => exact ⟨k3 + 1, by omega, by go_num, by rw [Hsn.out]; simp, Huz.out.drewN _⟩
                      case measure => simp [intOf]; omega
                    | true =>
                      rw [e2] at Hsn
                      generalize x.many = my at *
                      cases e3 : (st.kind == 2)
                      all_goals
                        rw [e3] at Hsn
                        cases my with
                        | false =>
                          go_quiet (fail)
                          go_wp2_with fail
                          go_roundw
                          case rel => exact ⟨k3 + 1, by omega, by go_num, by rw [Hsn.out]; simp, Huz.out.drewN _⟩
                          case measure => simp [intOf]; omega
                        | true =>
                          cases e4 : (howN x.kind == 2)
                          case' false => have e5 : (howN x.kind != 2) = true := by simp only [bne, e4]; rfl
                          case' true => have e5 : (howN x.kind != 2) = false := by simp only [bne, e4]; rfl
                          all_goals
                            rw [e5] at Hsn
                            go_quiet ((go_at_call 35; exact Calls.quiet_of_same (how_any _ _)))
                            go_wp2_with fail
                            go_roundw
                            case rel => exact ⟨k3 + 1, by omega, by go_num, by rw [Hsn.out]; simp, Huz.out.drewN _⟩
                            case measure => simp [intOf]; omega
              · have hfin : m.fields.take k3 = m.fields := List.take_of_length_le (by omega)
                rw [hfin, Hths.out]
                go_wp2_with fail
                go_roundw
                case rel => exact ⟨k2 + 1, by omega, by go_num, Huo.out.trans hu3⟩
                case measure => simp [intOf]; omega
          · go_wp2_with fail
            go_roundw
            case rel => exact ⟨k + 1, by omega, by go_num, Hu.out.trans hu2⟩
            case measure => simp [intOf]; omega
      · go_wp2_with fail
        go_ret
        exact ⟨rfl, Hu2.out.trans (Hu4.out.trans hu)⟩
  · have hb : ((wrongN f).1 != 0) = true := by simpa using her
    rw [if_neg her] at hr2
    obtain ⟨po, pc, rfl, _, _⟩ := hr2.val
    clear her hr2
    generalize wrongN f = pw at *
    obtain ⟨er, at_⟩ := pw
    simp only at hb
    go_wp2_with fail
    go_ret
    exact ⟨rfl, Hu2.out.alloc _⟩
end Go.Proofs.Ytplgegffapikoaa
