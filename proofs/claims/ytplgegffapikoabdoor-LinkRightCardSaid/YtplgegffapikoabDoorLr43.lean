/-
  pressref2.Numbered.
-/
import Derived.Test.YtplgegffapikoabDoorLr22
import Derived.Test.YtplgegffapikoabDoorLr41
import Derived.Test.YtplgegffapikoabDoorLr30
import Derived.RegionTactic
import Derived.Deep.DeepCutAuto
set_option linter.unusedVariables false
namespace Go.Proofs.YtplgegffapikoabDoor
open Go.RowKit
theorem numF_len : ∀ (l : List Fld) (a b : Int), (numF a b l).length = l.length
  | [], _, _ => rfl
  | x :: l, a, b => by rw [numF, List.length_cons, List.length_cons, numF_len l]

set_option maxRecDepth 100000 in
set_option maxHeartbeats 6400000 in
theorem numbered_r (v : Value) (f : Fil) (w : World) (hf : FilV All w v f) (z1 : f.msgs.length ≤ 1048576) (z3 : ∀ m ∈ f.msgs, m.fields.length ≤ 1048576) :
    Calls Tryd.prog 20 #[v] w fun e w' => ∃ v', e = .returned v' ∧ FilV All w' v' (numbered f) ∧ Up w w' := by
  have Hf := Lib.hid hf
  obtain ⟨vm, ve, rfl, hm, he⟩ := hf
  obtain ⟨mo, mc, rfl, hm1, hm2⟩ := hm.val
  obtain ⟨eo, ec, rfl, he1, he2⟩ := he.val
  have Hm := Lib.hid hm; have He := Lib.hid he; clear hm he
  have Z3 := Lib.hid z3; clear z3
  go_enter Tryd.func20, Tryd.ntmps20
  go_wp2_with fail
  go_loopw [17] (fun i wr => ∃ (k : Nat) (v : Value), k ≤ f.msgs.length ∧ i = .int .i64 k ∧ OwnS DMsg (w.heap.size + 3) 46 3 (fun b => b < w.heap.size ∨ w.heap.size + 3 ≤ b) wr v ((f.msgs.take k).map numM) ∧ Up w wr ∧ wr.heap[w.heap.size + 2]? = some (.cells #[v, .slice eo f.enums.length ec] 25 (0, 0)) ∧
      wr.heap[w.heap.size]? = some (.cells #[.slice mo f.msgs.length mc, .slice eo f.enums.length ec] 25 (0, 0)) ∧ wr.heap[w.heap.size + 1]? = some (.cells #[.slice none 0 0, .slice none 0 0] 25 (0, 0)))
    (fun i _ => f.msgs.length - (intOf i).toNat)
  case atStart => exact ⟨0, _, by omega, rfl, OwnS.nil _ _ _ _ _ _, (((Up.refl w).alloc _).alloc _).alloc _, blk_new ((w.alloc _).alloc _) _ (by simp), blk_old _ (blk_old _ (blk_new w _ rfl)), blk_old _ (blk_new (w.alloc _) _ (by simp))⟩
  case round =>
    obtain ⟨k, vo, hk, rfl, how, hu, hbo, hbf, hb2⟩ := hrel
    have How := Lib.hid how; have Hbo := Lib.hid hbo; have Hbf := Lib.hid hbf; have Hb2 := Lib.hid hb2; have Hu := Lib.hid hu
    clear how hbo hbf hb2
    by_cases hlt : k < f.msgs.length
    · --[
      obtain ⟨b, o, cs, rfl, hb, hl, hcs, hd⟩ := ((Hm.out.lt stable_msg).up stable_msg hu).at hlt
      obtain ⟨vf, vb, hd, hf1, hb1', hn⟩ := hd
      obtain ⟨fo, fc, rfl, _, _⟩ := hf1.val
      obtain ⟨bo, bc, rfl, _, _⟩ := hb1'.val
      subst hd
      have c0 := hcs 0 _ rfl
      have c1 := hcs 1 _ rfl
      have c2 := hcs 2 _ rfl
      simp only [Nat.add_zero] at c0
      have k0 : (0 : Int) ≤ (k : Int) := by omega
      have k1 : (k : Int) < (f.msgs.length : Int) := by omega
      have hsn : (f.msgs.take (k + 1)).map numM = (f.msgs.take k).map numM ++ [numM f.msgs[k]] := by rw [List.take_succ_eq_append_getElem hlt, List.map_append]; rfl
      have hll : (((f.msgs.take k).map numM).length + 1) ≤ f.msgs.length := by rw [List.length_map, List.length_take]; omega
      have hz3 := Z3.out _ (List.getElem_mem hlt)
      have Hsn := Lib.hid hsn; have Hf1 := Lib.hid hf1; have Hb1' := Lib.hid hb1'; have Hn := Lib.hid hn
      clear hcs hl hsn hf1 hb1' hu hn
      generalize (f.msgs.take k).map numM = L at *
      generalize f.msgs[k] = x at *
      obtain ⟨wo, rfl⟩ : ∃ wo : World, wo = wr := ⟨_, rfl⟩
      have hzo : w.heap.size + 2 < wo.heap.size := lt_of_block Hbo.out
      go_wp2_with fail
      have hn0 : ((wo.alloc (.cells #[.string ⟨x.name.toArray⟩, .slice fo x.fields.length fc, .slice bo x.barred.length bc] 46)).alloc (.cells #[.string ⟨x.name.toArray⟩, .slice none 0 0, .slice bo x.barred.length bc] 46)).heap[wo.heap.size + 1]? = some (.cells #[.string ⟨x.name.toArray⟩, .slice none 0 0, .slice bo x.barred.length bc] 46 (0, 0)) := blk_new (wo.alloc _) _ (by simp)
      have hua : Up wo ((wo.alloc (.cells #[.string ⟨x.name.toArray⟩, .slice fo x.fields.length fc, .slice bo x.barred.length bc] 46)).alloc (.cells #[.string ⟨x.name.toArray⟩, .slice none 0 0, .slice bo x.barred.length bc] 46)) := ((Up.refl wo).alloc _).alloc _
      have Hn0 := Lib.hid hn0; have Hua := Lib.hid hua; clear hn0 hua
      go_loopw [29, 7, 8] (fun i la kk wr => ∃ (k2 : Nat) (v2 : Value) (L2 : List Fld) (last kn : Int), k2 ≤ x.fields.length ∧ i = .int .i64 k2 ∧ la = .int .i64 last ∧ kk = .int .i64 kn ∧ 0 ≤ kn ∧ kn ≤ k2 ∧ okI last ∧ L2.length = k2 ∧ L2 ++ numF last kn (x.fields.drop k2) = numF 0 0 x.fields ∧ OwnS DFld (wo.heap.size + 2) 48 6 No wr v2 L2 ∧ Up wo wr ∧ wr.heap[wo.heap.size + 1]? = some (.cells #[.string ⟨x.name.toArray⟩, v2, .slice bo x.barred.length bc] 46 (0, 0))) (fun i _ _ _ => x.fields.length - (intOf i).toNat)
      case atStart => exact ⟨0, _, [], 0, 0, by omega, rfl, rfl, rfl, by omega, by omega, ⟨by decide, by decide⟩, rfl, rfl, OwnS.nil _ _ _ _ _ _, Hua.out, Hn0.out⟩
      case round =>
        clear c0 c1 c2
        obtain ⟨k2, v2, L2, last, kn, hk2, rfl, rfl, rfl, hkn0, hkn1, hlast, hL2, heq, how2, hu2, hbn⟩ := hrel
        have How2 := Lib.hid how2; have Hbn := Lib.hid hbn; have Hu2 := Lib.hid hu2; have Heq := Lib.hid heq
        clear how2 hbn heq
        by_cases hlt2 : k2 < x.fields.length
        · --[
          obtain ⟨b2, o2, cs, rfl, hb2, hl, hcs, hd⟩ := (Hf1.out.up stable_fld hu2).at hlt2
          obtain ⟨hd, hx⟩ := hd
          subst hd
          have c0 := hcs 0 _ rfl
          have c1 := hcs 1 _ rfl
          have c2 := hcs 2 _ rfl
          have c3 := hcs 3 _ rfl
          have c4 := hcs 4 _ rfl
          have c5 := hcs 5 _ rfl
          simp only [Nat.add_zero] at c0
          have k20 : (0 : Int) ≤ (k2 : Int) := by omega
          have k21 : (k2 : Int) < (x.fields.length : Int) := by omega
          have hsn2 : L2 ++ (numF last kn [x.fields[k2]] ++ numF x.fields[k2].choice (if 0 < x.fields[k2].choice ∧ x.fields[k2].choice ≠ last then kn + 1 else kn) (x.fields.drop (k2 + 1))) = numF 0 0 x.fields := by rw [← Heq.out, List.drop_eq_getElem_cons hlt2]; rfl
          have hll2 : L2.length + 1 ≤ x.fields.length := by omega
          have Hsn2 := Lib.hid hsn2; have HL2 := Lib.hid hL2; have Hx := Lib.hid hx
          clear hcs hl hsn2 hx hL2 Heq
          generalize x.fields[k2] = y at *
          have hkb : kn + 1 ≤ 1048577 := by omega
          clear hlt2 hk2
          obtain ⟨xs, hxs⟩ := How2.out.own
          have Hxs := Lib.hid hxs; clear hxs
          have hlt4 := fun j (hj : v2.ownBlock = some j) => Hxs.out.lt j hj
          have Hlt4 := Lib.hid hlt4; clear hlt4
          obtain ⟨wi, rfl⟩ : ∃ wi : World, wi = wr := ⟨_, rfl⟩
          have hzn : wo.heap.size + 1 < wi.heap.size := lt_of_block Hbn.out
          have f0 : wi.cell? ⟨w.heap.size, 0, none⟩ = some (.slice (some ⟨b, o, none⟩) f.msgs.length mc) := cell_of_row wi _ 0 _ _ _ (hu2.blk Hbf.out)
          have f1 : wi.cell? ⟨w.heap.size, 1, none⟩ = some (.slice eo f.enums.length ec) := cell_of_row wi _ 1 _ _ _ (hu2.blk Hbf.out)
          go_upto_region 10 with (fail)
          have hy := blk_new wi (.cells #[.string ⟨y.name.toArray⟩, .int .i64 y.number, .int .i64 y.kind, .string ⟨y.type.toArray⟩, .bool y.many, .int .i64 y.choice] 48) rfl
          have huy := (Up.refl wi).alloc (.cells #[.string ⟨y.name.toArray⟩, .int .i64 y.number, .int .i64 y.kind, .string ⟨y.type.toArray⟩, .bool y.many, .int .i64 y.choice] 48)
          have Hy := Lib.hid hy; have Huy := Lib.hid huy
          generalize hwy : wi.alloc (.cells #[.string ⟨y.name.toArray⟩, .int .i64 y.number, .int .i64 y.kind, .string ⟨y.type.toArray⟩, .bool y.many, .int .i64 y.choice] 48) = wc at *
          have p5 : wc.cell? ⟨wi.heap.size, 5, none⟩ = some (.int .i64 y.choice) := cell_of_row wc _ 5 _ _ _ Hy.out
          clear hwy hy huy c0 c1 c2 c3 c4 c5 f0 f1
          obtain ⟨C, hC⟩ : ∃ C : Bool, C = decide (0 < y.choice ∧ y.choice ≠ last) := ⟨_, rfl⟩
          have HC := Lib.hid hC
          go_cut [41] (fun v wx => v = .bool C ∧ wx = wc)
          case first =>
            --[
            by_cases h1 : 0 < y.choice
            case neg =>
              go_wp2_with fail
              go_meet
              exact ⟨by rw [hC, decide_eq_false (fun e => absurd e.1 (by omega))], rfl⟩
            case pos =>
              by_cases h2 : y.choice = last
              case pos =>
                have j : (y.choice != last) = false := by rw [bne_eq_false_iff_eq]; exact h2
                have H2 := Lib.hid h2
                clear h2
                go_wp2_with fail
                go_meet
                exact ⟨by rw [hC, decide_eq_false (fun e => e.2 H2.out)], rfl⟩
              case neg =>
                have j : (y.choice != last) = true := by rw [bne_iff_ne]; exact h2
                have H2 := Lib.hid h2; have H1 := Lib.hid h1
                clear h2
                go_wp2_with fail
                go_meet
                exact ⟨by rw [hC, decide_eq_true ⟨H1.out, H2.out⟩], rfl⟩
            --]
          case rest =>
            obtain ⟨rfl, rfl⟩ := hcut
            clear hC
            obtain ⟨kn2, hkn2⟩ : ∃ kn2 : Int, kn2 = if C then kn + 1 else kn := ⟨_, rfl⟩
            have Hkn2 := Lib.hid hkn2
            go_upto_if 41 with (fail)
            go_cut [8] (fun v wx => v = .int .i64 kn2 ∧ wx = wc)
            case first =>
              have jw : IntKind.i64.wrap (kn + 1) = kn + 1 := by rw [IntKind.wrap_i64]; omega
              cases C
              case false =>
                go_wp2_with fail
                go_meet
                exact ⟨by rw [hkn2]; rfl, rfl⟩
              case true =>
                go_wp2_with fail
                go_meet
                exact ⟨by rw [hkn2]; rfl, rfl⟩
            case rest =>
              obtain ⟨rfl, rfl⟩ := hcut
              have hkr : 0 ≤ kn2 ∧ kn2 ≤ kn + 1 := by rw [hkn2]; split <;> omega
              have Hif := Lib.hid (show (if 0 < y.choice ∧ y.choice ≠ last then kn + 1 else kn) = kn2 from by
                rw [hkn2, HC.out]
                by_cases h : 0 < y.choice ∧ y.choice ≠ last
                · rw [if_pos h, decide_eq_true h, if_pos rfl]
                · rw [if_neg h, decide_eq_false h, if_neg (by decide)])
              clear hkn2
              have Hxc := Lib.hid (Hxs.out.kept Huy.out.to_none (by cases hv : v2.ownBlock <;> simp))
              have Hyc := Hy
              have Hnc := Lib.hid (Huy.out.blk Hbn.out)
              have q0 : wc.cell? ⟨wi.heap.size, 0, none⟩ = some (.string ⟨y.name.toArray⟩) := cell_of_row wc _ 0 _ _ _ Hyc.out
              have q1 : wc.cell? ⟨wi.heap.size, 1, none⟩ = some (.int .i64 y.number) := cell_of_row wc _ 1 _ _ _ Hyc.out
              have q2 : wc.cell? ⟨wi.heap.size, 2, none⟩ = some (.int .i64 y.kind) := cell_of_row wc _ 2 _ _ _ Hyc.out
              have q3 : wc.cell? ⟨wi.heap.size, 3, none⟩ = some (.string ⟨y.type.toArray⟩) := cell_of_row wc _ 3 _ _ _ Hyc.out
              have q4 : wc.cell? ⟨wi.heap.size, 4, none⟩ = some (.bool y.many) := cell_of_row wc _ 4 _ _ _ Hyc.out
              have q5 : wc.cell? ⟨wi.heap.size, 5, none⟩ = some (.int .i64 y.choice) := cell_of_row wc _ 5 _ _ _ Hyc.out
              have zc : wi.heap.size < wc.heap.size := lt_of_block Hyc.out
              have qf : ∀ o, wc.frozen? ⟨wi.heap.size, o, none⟩ = false := fun o => frozen_of_row wc _ o _ _ Hyc.out
              have n0 : wc.cell? ⟨wo.heap.size + 1, 1, none⟩ = some v2 := cell_of_row wc _ 1 _ _ _ Hnc.out
              have nf : ∀ o, wc.frozen? ⟨wo.heap.size + 1, o, none⟩ = false := fun o => frozen_of_row wc _ o _ _ Hnc.out
              have hne : wi.heap.size ≠ wo.heap.size + 1 := by omega
              clear p5
              by_cases hch : 0 < y.choice
              case neg =>
                have Hlx := Lib.hid (show numF last kn [y] = [y] by rw [numF, if_neg hch]; rfl)
                have Hch := Lib.hid hch
                go_wp2_with (first
                  | (at_builtin; go_must (refine wpList_app1 eFld _ (by rfl) _ _ (by rfl) (wo.heap.size + 2) _ _ _ (by rfl) Hxc.out _ (by rfl) (by first | rfl | simp) (by rfl) (oc (by rfl)) (by omega) (by unfold maxLen; omega) (by first | omega | (simp; omega)) ?_; intro v3 w3 how3 hev3; obtain ⟨a3, c3, rfl⟩ := own_val how3; have hnn := hev3.blk Hnc.out (fun e => by have := (Hlt4.out _ e).1; omega); have n1 : w3.cell? ⟨wo.heap.size + 1, 1, none⟩ = some v2 := cell_of_row w3 _ 1 _ _ _ hnn; have m1 : ∀ o, w3.frozen? ⟨wo.heap.size + 1, o, none⟩ = false := (fun o => frozen_of_row w3 _ o _ _ hnn); have zn3 : wo.heap.size + 1 < w3.heap.size := lt_of_block hnn; have Hnn := Lib.hid hnn; have How3 := Lib.hid how3; have Hev3 := Lib.hid hev3; clear hnn how3 hev3)))
                go_roundw
                case rel =>
                  have hpl : ∀ j, (Value.slice a3 (L2.length + 1) c3).ownBlock = some j → wo.heap.size + 2 ≤ j := fun j hj => by
                    rcases Hev3.out.place j hj with h | h
                    · exact (Hlt4.out j h).1
                    · first | omega | (simp at h; omega)
                  have hs := Hsn2.out
                  rw [Hlx.out, Hif.out] at hs
                  refine ⟨k2 + 1, .slice a3 (L2.length + 1) c3, L2 ++ [y], y.choice, kn2, by omega, by go_num, rfl, rfl, hkr.1, by have := hkr.2; omega, Hx.out.2.2.1, by rw [List.length_append, HL2.out]; rfl, by rw [List.append_assoc]; exact hs, ?_, ?_, ?_⟩
                  · exact OwnS.setCell stable_fld (OwnS.snoc stable_fld (a := y) (How2.out.up stable_fld Huy.out) Hxc.out How3.out Hev3.out (by rfl) ⟨rfl, Hx.out⟩) (fun e => absurd (hpl _ e) (show ¬ (wo.heap.size + 2 ≤ wo.heap.size + 1) by omega)) id _
                  · exact Up.setCell (Up.evo (Hu2.out.trans Huy.out) Hev3.out (fun j hj => by have := (Hlt4.out j hj).1; omega)) (show wo.heap.size ≤ wo.heap.size + 1 by omega) _
                  · exact heap_setCell_same w3 _ 1 _ _ _ Hnn.out
                case measure => simp [intOf]; omega
              case pos =>
                have Hlx := Lib.hid (show numF last kn [y] = [{ y with choice := kn2 }] by rw [numF, if_pos hch, Hif.out]; rfl)
                have Hxz := Lib.hid (ownsRow_setCell_other Hxc.out (a := ⟨wi.heap.size, 5, none⟩) (fun e => by have h2 := (Hlt4.out _ e).2; simp only at h2; omega) (.int .i64 kn2))
                have Hnz := Lib.hid ((Below.heap_setCell wc ⟨wi.heap.size, 5, none⟩ (.int .i64 kn2) (wo.heap.size + 1) (by simp; omega)).trans Hnc.out)
                have n0z : (wc.setCell ⟨wi.heap.size, 5, none⟩ (.int .i64 kn2)).cell? ⟨wo.heap.size + 1, 1, none⟩ = some v2 := cell_of_row _ _ 1 _ _ _ Hnz.out
                clear n0
                go_wp2_with (first
                  | (at_builtin; go_must (refine wpList_app1 eFld _ (by rfl) _ _ (by rfl) (wo.heap.size + 2) _ _ _ (by rfl) Hxz.out _ (by rfl) (by first | rfl | simp) (by rfl) (oc (by rfl)) (by omega) (by unfold maxLen; omega) (by first | omega | (simp; omega)) ?_; intro v3 w3 how3 hev3; obtain ⟨a3, c3, rfl⟩ := own_val how3; have hnn := hev3.blk Hnz.out (fun e => by have := (Hlt4.out _ e).1; omega); have n1 : w3.cell? ⟨wo.heap.size + 1, 1, none⟩ = some v2 := cell_of_row w3 _ 1 _ _ _ hnn; have m1 : ∀ o, w3.frozen? ⟨wo.heap.size + 1, o, none⟩ = false := (fun o => frozen_of_row w3 _ o _ _ hnn); have zn3 : wo.heap.size + 1 < w3.heap.size := lt_of_block hnn; have Hnn := Lib.hid hnn; have How3 := Lib.hid how3; have Hev3 := Lib.hid hev3; clear hnn how3 hev3)))
                go_roundw
                case rel =>
                  have hpl : ∀ j, (Value.slice a3 (L2.length + 1) c3).ownBlock = some j → wo.heap.size + 2 ≤ j := fun j hj => by
                    rcases Hev3.out.place j hj with h | h
                    · exact (Hlt4.out j h).1
                    · first | omega | (simp at h; omega)
                  have hs := Hsn2.out
                  rw [Hlx.out, Hif.out] at hs
                  refine ⟨k2 + 1, .slice a3 (L2.length + 1) c3, L2 ++ [{ y with choice := kn2 }], y.choice, kn2, by omega, by go_num, rfl, rfl, hkr.1, by have := hkr.2; omega, Hx.out.2.2.1, by rw [List.length_append, HL2.out]; rfl, by rw [List.append_assoc]; exact hs, ?_, ?_, ?_⟩
                  · exact OwnS.setCell stable_fld (OwnS.snoc stable_fld (a := { y with choice := kn2 }) (OwnS.setCell stable_fld (How2.out.up stable_fld Huy.out) (fun e => absurd (Hlt4.out _ e).2 (show ¬ (wi.heap.size < wi.heap.size) by omega)) id _) Hxz.out How3.out Hev3.out (by rfl) ⟨rfl, Hx.out.1, Hx.out.2.1, (show okI kn2 from ⟨by have := hkr.1; omega, by have := hkr.2; omega⟩), Hx.out.2.2.2⟩) (fun e => absurd (hpl _ e) (show ¬ (wo.heap.size + 2 ≤ wo.heap.size + 1) by omega)) id _
                  · exact Up.setCell (Up.evo (Up.setCell (Hu2.out.trans Huy.out) (show wo.heap.size ≤ wi.heap.size by omega) _) Hev3.out (fun j hj => by have := (Hlt4.out j hj).1; omega)) (show wo.heap.size ≤ wo.heap.size + 1 by omega) _
                  · exact heap_setCell_same w3 _ 1 _ _ _ Hnn.out
                case measure => simp [intOf]; omega
          --]
        · have hfin : x.fields.drop k2 = [] := List.drop_of_length_le (by omega)
          have hle := Heq.out
          rw [hfin, numF, List.append_nil] at hle
          subst hle
          have how2 := How2.out
          have How2' := Lib.hid how2
          obtain ⟨a2, c2, rfl⟩ := own_val how2.own.choose_spec
          clear how2 How2 hfin hL2
          obtain ⟨wi, rfl⟩ : ∃ wi : World, wi = wr := ⟨_, rfl⟩
          obtain ⟨xs, hxs⟩ := (How.out.up stable_msg hu2).own
          have hlt4 := fun j (hj : vo.ownBlock = some j) => (How.out.own.choose_spec).lt j hj
          have Hlt4 := Lib.hid hlt4; have Hxo := Lib.hid hxs; clear hlt4 hxs
          have n0 : wi.cell? ⟨wo.heap.size + 1, 0, none⟩ = some (.string ⟨x.name.toArray⟩) := cell_of_row wi _ 0 _ _ _ Hbn.out
          have n1 : wi.cell? ⟨wo.heap.size + 1, 1, none⟩ = some (.slice a2 (numF 0 0 x.fields).length c2) := cell_of_row wi _ 1 _ _ _ Hbn.out
          have n2 : wi.cell? ⟨wo.heap.size + 1, 2, none⟩ = some (.slice bo x.barred.length bc) := cell_of_row wi _ 2 _ _ _ Hbn.out
          have Hbi := Lib.hid (hu2.blk Hbo.out)
          have o0 : wi.cell? ⟨w.heap.size + 2, 0, none⟩ = some vo := cell_of_row wi _ 0 _ _ _ Hbi.out
          have hzi : wo.heap.size + 1 < wi.heap.size := lt_of_block Hbn.out
          go_wp2_with (first
            | (at_builtin; go_must (refine wpList_app1 eMsg _ (by rfl) _ _ (by rfl) (w.heap.size + 3 ) _ _ _ (by rfl) Hxo.out _ (by rfl) (by first | rfl | simp) (by rfl) (oc (by rfl)) (by omega) (by unfold maxLen; omega) (by first | omega | (simp; omega)) ?_; intro v3 w3 how3 hev3; obtain ⟨a3, c3, rfl⟩ := own_val how3; have hnn := hev3.blk Hbi.out (fun e => by have := (Hlt4.out _ e).1; omega); have m0 : w3.cell? ⟨w.heap.size + 2, 0, none⟩ = some vo := cell_of_row w3 _ 0 _ _ _ hnn; have m1 : ∀ o, w3.frozen? ⟨w.heap.size + 2, o, none⟩ = false := (fun o => frozen_of_row w3 _ o _ _ hnn); have zn3 : w.heap.size + 2 < w3.heap.size := lt_of_block hnn; have Hnn := Lib.hid hnn; have How3 := Lib.hid how3; have Hev3 := Lib.hid hev3; clear hnn how3 hev3)))
          go_roundw
          case rel =>
            have hpl : ∀ j, (Value.slice a3 (L.length + 1) c3).ownBlock = some j → w.heap.size + 3  ≤ j := fun j hj => by
              rcases Hev3.out.place j hj with h | h
              · exact (Hlt4.out j h).1
              · first | omega | (simp at h; omega)
            have hne : ∀ b, b < w.heap.size + 3  → vo.ownBlock ≠ some b := fun b hb e => by have := (Hlt4.out _ e).1; omega
            have h2 : ∀ j, (Value.slice a2 (numF 0 0 x.fields).length c2).ownBlock = some j → wo.heap.size + 2 ≤ j := fun j hj => ((How2'.out.own.choose_spec).lt j hj).1
            refine ⟨k + 1, .slice a3 (L.length + 1) c3, by omega, by go_num, ?_, ?_, ?_, ?_, ?_⟩
            · rw [Hsn.out]
              refine OwnS.setCell stable_msg (OwnS.snoc stable_msg (a := numM x) (How.out.up stable_msg hu2) Hxo.out How3.out Hev3.out (by rfl) ⟨_, _, rfl, ?_, ?_, Hn.out⟩) (fun e => absurd (hpl _ e) (show ¬ (w.heap.size + 3 ≤ w.heap.size + 2) by omega)) (fun h => by have h : w.heap.size + 2 < w.heap.size ∨ w.heap.size + 3 ≤ w.heap.size + 2 := h; omega) _
              · have hr : RdS DFld 6 (Av2 (fun b => b < w.heap.size ∨ w.heap.size + 3  ≤ b) vo) wi (.slice a2 (numF 0 0 x.fields).length c2) (numF 0 0 x.fields) := How2'.out.rd stable_fld (fun _ h => h.elim) (fun j hj => ⟨Or.inr (by have := h2 j hj; omega), fun e => by have := (Hlt4.out _ e).2; have := h2 j hj; omega⟩)
                exact hr
              · exact (Hb1'.out.up stable_int hu2).keep stable_int (Keep.weak (fun j hj => ⟨Or.inl hj, hne j (by unfold Lt at hj; omega)⟩))
            · exact Up.setCell (Up.evo (Hu.out.trans hu2) Hev3.out (fun j hj => by have := (Hlt4.out j hj).1; omega)) (show w.heap.size ≤ w.heap.size + 2 by omega) _
            · exact heap_setCell_same w3 _ 0 _ _ _ Hnn.out
            · exact (Below.heap_setCell w3 ⟨w.heap.size + 2, 0, none⟩ _ w.heap.size (by simp)).trans (Hev3.out.blk (hu2.blk Hbf.out) (hne _ (by omega)))
            · exact (Below.heap_setCell w3 ⟨w.heap.size + 2, 0, none⟩ _ (w.heap.size + 1) (by simp)).trans (Hev3.out.blk (hu2.blk Hb2.out) (hne _ (by omega)))
          case measure => simp [intOf]; omega
      --]
    · have hfin : f.msgs.take k = f.msgs := List.take_of_length_le (by omega)
      have how := How.out
      rw [hfin] at how
      have hrd := how.rd stable_msg (S' := fun b => b < w.heap.size ∨ w.heap.size + 3 ≤ b) (fun _ h => h) (fun j hj => Or.inr (how.own.choose_spec.lt j hj).1)
      obtain ⟨ao, co, rfl⟩ := own_val how.own.choose_spec
      have hF : FilV (fun b => b < w.heap.size ∨ w.heap.size + 3 ≤ b) wr (.agg #[.slice ao (f.msgs.map numM).length co, .slice eo f.enums.length ec]) (numbered f) := ⟨_, _, rfl, hrd, ((He.out.lt stable_enu).up stable_enu hu).keep stable_enu (Keep.weak (fun j hj => Or.inl hj))⟩
      simp only [List.length_map] at hF
      have HF := Lib.hid hF
      have o0 : wr.cell? ⟨w.heap.size + 2, 0, none⟩ = some (.slice ao (f.msgs.map numM).length co) := cell_of_row wr _ 0 _ _ _ Hbo.out
      have o1 : wr.cell? ⟨w.heap.size + 2, 1, none⟩ = some (.slice eo f.enums.length ec) := cell_of_row wr _ 1 _ _ _ Hbo.out
      have q0 : wr.cell? ⟨w.heap.size + 1, 0, none⟩ = some (.slice none 0 0) := cell_of_row wr _ 0 _ _ _ Hb2.out
      have q1 : wr.cell? ⟨w.heap.size + 1, 1, none⟩ = some (.slice none 0 0) := cell_of_row wr _ 1 _ _ _ Hb2.out
      have qf : ∀ o, wr.frozen? ⟨w.heap.size + 1, o, none⟩ = false := fun o => frozen_of_row wr _ o _ _ Hb2.out
      have hzo : w.heap.size + 2 < wr.heap.size := lt_of_block Hbo.out
      have z91 : w.heap.size + 1 < wr.heap.size := by omega
      clear hF how hrd hfin
      go_wp2_with fail
      --S trace_state
      refine bodyPost_ret (v := .agg #[.slice ao f.msgs.length co, .slice eo f.enums.length ec]) (by simp [results, Tryd.results20, go_sem, q0, q1, z91]) rfl ?_
      refine ⟨_, rfl, FilV.all (S := fun b => b < w.heap.size ∨ w.heap.size + 3 ≤ b) ?_, ?_⟩
      · repeat (first | (with_reducible refine FilV.setCell ?_ ?_ _) | (with_reducible refine FilV.alloc ?_ _))
        · exact HF.out
        all_goals (rintro (h | h) <;> (simp only at h; omega))
      · repeat (first | (with_reducible refine Up.setCell ?_ ?_ _) | (with_reducible refine Up.alloc ?_ _))
        · exact Hu.out
        all_goals (simp only; omega)
end Go.Proofs.YtplgegffapikoabDoor
