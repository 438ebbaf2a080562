/-
  pressref3.Set.
-/
import Derived.Test.YtplgegffapikoaaDoorPt34
import Derived.Deep.DeepCutAuto
import Derived.BigQuiet
set_option linter.unusedVariables false
namespace Go.Proofs.YtplgegffapikoaaDoor
open Go.RowKit
set_option maxRecDepth 100000 in
set_option maxHeartbeats 6400000 in
theorem setr_b {S : Nat → Prop} (s vf vb vv vu : Value) (fs : List Fld) (l : List SV) (x : Val) (F : Fld) (a1 a2 a3 : Option Addr) (c1 c2 c3 : Nat) (w : World) (hs : ∃ b, s = .string b) (hvb : IsS vb) (hvu : IsS vu) (hf : RdS DFld 6 All w vf fs) (hv : RdS DVal4 4 S w vv l) (hr : Rising l) (hz : (l.length + 1) * 80 ≤ 140737488355328)
    (hF : fldN fs x.1 = some F) (hch : ∀ z ∈ fs, 0 ≤ z.choice)
    (h1 : RdS DU64 1 All w (.slice a1 x.2.1.length c1) x.2.1) (h2 : RdS DBytes 1 All w (.slice a2 x.2.2.1.length c2) x.2.2.1) :
    Calls Tryd.prog 20 #[.agg #[s, vf, vb], .agg #[vv, vu], .agg #[.int .i64 x.1, .slice a1 x.2.1.length c1, .slice a2 x.2.2.1.length c2, .slice a3 x.2.2.2.length c3]] w fun e w' =>
      ∃ vv', e = .returned (.agg #[vv', vu]) ∧ RdS DVal4 4 (Sx S w) w' vv' (setG (fun y : SV => y.1) fs l (x.1, .slice a1 x.2.1.length c1, .slice a2 x.2.2.1.length c2, .slice a3 x.2.2.2.length c3) (fun f => plainN f x)) ∧ Up w w' := by
  obtain ⟨sb, rfl⟩ := hs
  obtain ⟨b1, b2, b3, rfl⟩ := hvb
  obtain ⟨u1, u2, u3, rfl⟩ := hvu
  obtain ⟨ao, cap, rfl, hc1, hc2⟩ := hv.val
  obtain ⟨fo, fcap, rfl, hfc1, hfc2⟩ := hf.val
  have Hv := Lib.hid hv; have Hf := Lib.hid hf; have Hr := Lib.hid hr; have H1 := Lib.hid h1; have H2 := Lib.hid h2
  have Hok := Lib.hid (rd4_ok hv)
  obtain ⟨X, hX⟩ : ∃ X : SV, X = (x.1, .slice a1 x.2.1.length c1, .slice a2 x.2.2.1.length c2, .slice a3 x.2.2.2.length c3) := ⟨_, rfl⟩
  have hX1 : X.1 = x.1 := by rw [hX]
  rw [← hX]
  have hset : setG (fun y : SV => y.1) fs l X (fun f => plainN f x) = (if plainN F x = true then l.filter (fun y => keepN fs F X.1 y.1) else insG (fun y : SV => y.1) (l.filter fun y => keepN fs F X.1 y.1) X) := by
    unfold setG
    rw [show fs.find? (fun z => z.number == X.1) = some F by rw [hX1]; exact hF]
  obtain ⟨RES, hRES⟩ : ∃ RES, setG (fun y : SV => y.1) fs l X (fun f => plainN f x) = RES := ⟨_, rfl⟩
  rw [hRES] at hset ⊢
  have Hset := Lib.hid hset
  clear hRES
  have HX := Lib.hid hX; have HX1 := Lib.hid hX1
  have HokX := Lib.hid (show Ok4 X by rw [hX]; exact ⟨⟨_, _, _, rfl⟩, ⟨_, _, _, rfl⟩, ⟨_, _, _, rfl⟩⟩)
  have Hch := Lib.hid hch; have HF := Lib.hid hF
  have hFc : 0 ≤ F.choice := hch F (fldN_mem hF).1
  clear hv hf hr h1 h2 hX hX1 hset hch hF
  go_enter Tryd.func20, Tryd.ntmps20
  go_upto_region 1 with (fail)
  generalize hW : (((w.alloc (.cells #[.string sb, .slice fo fs.length fcap, .slice b1 b2 b3] 48)).alloc (.cells #[.slice ao l.length cap, .slice u1 u2 u3] 29)).alloc (.cells #[.int .i64 x.1, .slice a1 x.2.1.length c1, .slice a2 x.2.2.1.length c2, .slice a3 x.2.2.2.length c3] 34)).alloc (.cells #[.slice none 0 0, .slice none 0 0] 29) = w1
  have hb0 : w1.heap[w.heap.size]? = some (.cells #[.string sb, .slice fo fs.length fcap, .slice b1 b2 b3] 48 (0, 0)) := by rw [← hW]; exact blk_old _ (blk_old _ (blk_old _ (blk_new w _ rfl)))
  have hb1 : w1.heap[w.heap.size + 1]? = some (.cells #[.slice ao l.length cap, .slice u1 u2 u3] 29 (0, 0)) := by rw [← hW]; exact blk_old _ (blk_old _ (blk_new (w.alloc _) _ (by simp)))
  have hb2 : w1.heap[w.heap.size + 2]? = some (.cells #[.int .i64 x.1, .slice a1 x.2.1.length c1, .slice a2 x.2.2.1.length c2, .slice a3 x.2.2.2.length c3] 34 (0, 0)) := by rw [← hW]; exact blk_old _ (blk_new ((w.alloc _).alloc _) _ (by simp))
  have hb3 : w1.heap[w.heap.size + 3]? = some (.cells #[.slice none 0 0, .slice none 0 0] 29 (0, 0)) := by rw [← hW]; exact blk_new (((w.alloc _).alloc _).alloc _) _ (by simp)
  have hu0 : Up w w1 := by rw [← hW]; exact ((((Up.refl w).alloc _).alloc _).alloc _).alloc _
  clear hW
  have Hfc := Lib.hid (fun n W (k : Up w W) => field_r (.string sb) (.slice fo fs.length fcap) (.slice b1 b2 b3) fs n W ⟨_, rfl⟩ ⟨_, _, _, rfl⟩ (Hf.out.up stable_fld k))
  have m0 : w1.cell? ⟨w.heap.size, 0, none⟩ = some (.string sb) := cell_of_row w1 _ 0 _ _ _ hb0
  have m1 : w1.cell? ⟨w.heap.size, 1, none⟩ = some (.slice fo fs.length fcap) := cell_of_row w1 _ 1 _ _ _ hb0
  have m2 : w1.cell? ⟨w.heap.size, 2, none⟩ = some (.slice b1 b2 b3) := cell_of_row w1 _ 2 _ _ _ hb0
  have x0 : w1.cell? ⟨w.heap.size + 1 + 1, 0, none⟩ = some (.int .i64 x.1) := cell_of_row w1 _ 0 _ _ _ hb2
  have HB0 := Lib.hid hb0; have HB1 := Lib.hid hb1; have HB2 := Lib.hid hb2; have HB3 := Lib.hid hb3; have HU0 := Lib.hid hu0
  clear hb0 hb1 hb2 hb3 hu0
  go_wp2_with fail
  refine (Hfc.out x.1 w1 HU0.out).mono ?_
  rintro e w2 ⟨⟨p, rfl, hp1, hp2⟩, hu2⟩
  clear m0 m1 m2 x0
  obtain ⟨hi, hfd⟩ | ⟨j, hj, hi, hfd⟩ := idxP_cases (fun z : Fld => z.number == x.1) fs
  · have := HF.out; rw [show fldN fs x.1 = none from hfd] at this; cases this
  obtain rfl : fs[j] = F := by have := HF.out; rw [show fldN fs x.1 = some fs[j] from hfd] at this; exact Option.some.inj this
  obtain ⟨fb, fof, fc', hfe, rfl, hfa⟩ := hp2 j hj hi
  have Hfa := Lib.hid hfa
  have Hu2 := Lib.hid (HU0.out.trans hu2)
  have Hb0 := Lib.hid (hu2.blk HB0.out); have Hb1 := Lib.hid (hu2.blk HB1.out); have Hb2 := Lib.hid (hu2.blk HB2.out); have Hb3 := Lib.hid (hu2.blk HB3.out)
  have hfz : fb < w2.heap.size := hfa.1
  clear hp1 hp2 hfa hfd hi hu2 hfe HB0 HB1 HB2 HB3 HU0
  generalize fs[j] = F at *
  have x0 : w2.cell? ⟨w.heap.size + 1 + 1, 0, none⟩ = some (.int .i64 x.1) := cell_of_row w2 _ 0 _ _ _ Hb2.out
  have x1 : w2.cell? ⟨w.heap.size + 1 + 1, 1, none⟩ = some (.slice a1 x.2.1.length c1) := cell_of_row w2 _ 1 _ _ _ Hb2.out
  have x2 : w2.cell? ⟨w.heap.size + 1 + 1, 2, none⟩ = some (.slice a2 x.2.2.1.length c2) := cell_of_row w2 _ 2 _ _ _ Hb2.out
  have x3 : w2.cell? ⟨w.heap.size + 1 + 1, 3, none⟩ = some (.slice a3 x.2.2.2.length c3) := cell_of_row w2 _ 3 _ _ _ Hb2.out
  have Hem := Lib.hid (empty_any F fb (fof + j * 6) x a1 a2 a3 c1 c2 c3 w2 Hfa.out.2.1.2.2.1 Hfa.out.2.1.2.2.2.2.1 Hfa.out.2.1.2.2.2.2.2 hfz (H1.out.up stable_u64 Hu2.out) (H2.out.up stable_bytes Hu2.out))
  go_wp2_with fail
  refine Hem.out.mono ?_
  rintro e w3 ⟨rfl, hu3⟩
  have Hu3 := Lib.hid (Hu2.out.trans hu3)
  have Hc0 := Lib.hid (hu3.blk Hb0.out); have Hc1 := Lib.hid (hu3.blk Hb1.out); have Hc2 := Lib.hid (hu3.blk Hb2.out); have Hc3 := Lib.hid (hu3.blk Hb3.out)
  have Hfa3 := Lib.hid (Hfa.out.up hu3)
  have hz3 : w.heap.size + 3 < w3.heap.size := lt_of_block Hc3.out
  have e0 : w3.cell? ⟨w.heap.size + 1, 0, none⟩ = some (.slice ao l.length cap) := cell_of_row w3 _ 0 _ _ _ Hc1.out
  clear x0 x1 x2 x3 hu3 Hb0 Hb1 Hb2 Hb3 Hfa Hu2 hfz
  generalize plainN F x = PL at *
  go_wp2_with fail
  clear e0
  go_loopw [27, 8, 9] (fun i pv s wr => ∃ (k2 : Nat) (L : List SV) (v : Value) (pb : Bool), k2 ≤ l.length ∧ i = .int .i64 k2 ∧ pv = .bool pb ∧ v = s ∧ SetSt (fun y => keepN fs F X.1 y.1) X.1 X PL l k2 pb L ∧ (∀ y ∈ L, Ok4 y) ∧ wr.ownsRow w3.heap.size 34 4 v L.length (L.map c4).flatten ∧ Up w3 wr)
    (fun i _ _ _ => l.length - (intOf i).toNat)
  case atStart =>
    refine ⟨0, [], _, !PL, by omega, rfl, rfl, rfl, ?_, (fun y h => by cases h), World.ownsRow_nil _ _ _ _, Up.refl _⟩
    cases PL with
    | true => exact .inr (.inl ⟨rfl, rfl, by simp⟩)
    | false => exact .inl ⟨rfl, rfl, by simp, fun y h => by simp at h⟩
  case round =>
    obtain ⟨k2, L, s, pb, hk2, rfl, rfl, rfl, hst, hokL, how, hu⟩ := hrel
    have How := Lib.hid how; have Hst := Lib.hid hst; have HokL := Lib.hid hokL
    clear how hst hokL
    by_cases hlt : k2 < l.length
    · obtain ⟨b, o, cs, rfl, hb, hl, hcs, hd⟩ := (Hv.out.up stable_val4 (Hu3.out.trans hu)).at hlt
      obtain ⟨hd, ⟨d1, n1, g1, h1⟩, ⟨d2, n2, g2, h2⟩, ⟨d3, n3, g3, h3⟩⟩ := hd
      have Hnx := Lib.hid (fun (pb : Bool) (L : List SV) (h : SetSt (fun y => keepN fs F X.1 y.1) X.1 X PL l k2 pb L) hn => SetSt.next h hlt hn)
      have Hin := Lib.hid (fun (L : List SV) (h : SetSt (fun y => keepN fs F X.1 y.1) X.1 X PL l k2 true L) hn => SetSt.ins h hlt hn)
      have Hoky := Lib.hid (Hok.out l[k2] (List.getElem_mem hlt))
      generalize l[k2] = y at *
      obtain ⟨yn, ya, yb, yc⟩ := y
      simp only at h1 h2 h3 Hnx Hin
      subst h1 h2 h3
      subst hd
      have p0 := hcs 0 _ rfl
      have p1 := hcs 1 _ rfl
      have p2 := hcs 2 _ rfl
      have p3 := hcs 3 _ rfl
      simp only [Nat.add_zero] at p0
      have i0 : (0 : Int) ≤ (k2 : Int) := by omega
      have i1 : (k2 : Int) < (l.length : Int) := by omega
      clear hcs hl
      obtain ⟨wo, rfl⟩ : ∃ wo : World, wo = wr := ⟨_, rfl⟩
      have Hu := Lib.hid hu
      go_upto_region 9 with (fail)
      have hy := blk_new wo (.cells #[.int .i64 yn, .slice d1 n1 g1, .slice d2 n2 g2, .slice d3 n3 g3] 34) (g := wo.heap.size) rfl
      have huy := (Up.refl wo).alloc (.cells #[.int .i64 yn, .slice d1 n1 g1, .slice d2 n2 g2, .slice d3 n3 g3] 34)
      generalize hwy : wo.alloc (.cells #[.int .i64 yn, .slice d1 n1 g1, .slice d2 n2 g2, .slice d3 n3 g3] 34) = wy at *
      clear hwy p0 p1 p2 p3
      obtain ⟨Y, hY⟩ : ∃ Y, wo.heap.size = Y := ⟨_, rfl⟩
      rw [hY] at hy ⊢
      have hu2y := Hu.out.trans huy
      have How1 := Lib.hid (How.out.kept huy.to_none (by cases hv : s.ownBlock <;> simp))
      have x0 : wy.cell? ⟨w.heap.size + 1 + 1, 0, none⟩ = some (.int .i64 x.1) := cell_of_row wy _ 0 _ _ _ (hu2y.blk Hc2.out)
      have x1 : wy.cell? ⟨w.heap.size + 1 + 1, 1, none⟩ = some (.slice a1 x.2.1.length c1) := cell_of_row wy _ 1 _ _ _ (hu2y.blk Hc2.out)
      have x2 : wy.cell? ⟨w.heap.size + 1 + 1, 2, none⟩ = some (.slice a2 x.2.2.1.length c2) := cell_of_row wy _ 2 _ _ _ (hu2y.blk Hc2.out)
      have x3 : wy.cell? ⟨w.heap.size + 1 + 1, 3, none⟩ = some (.slice a3 x.2.2.2.length c3) := cell_of_row wy _ 3 _ _ _ (hu2y.blk Hc2.out)
      have y0 : wy.cell? ⟨Y, 0, none⟩ = some (.int .i64 yn) := cell_of_row wy _ 0 _ _ _ hy
      have Huy := Lib.hid hu2y; have Hy := Lib.hid hy
      have hbw := hu2y.size
      clear huy hu2y hu hy
      go_cut [38] (fun bb wc => bb = .bool (pb && decide (x.1 < yn)) ∧ wc = wy)
      case first =>
        cases pb with
        | true =>
          go_wp2_with fail
          go_meet
          exact ⟨rfl, rfl⟩
        | false =>
          go_wp2_with fail
          go_meet
          exact ⟨rfl, rfl⟩
      case rest =>
      obtain ⟨rfl, rfl⟩ := hcut
      have hLl := Hst.out.len
      have hcs : (pb = true ∧ x.1 < yn ∧ (pb && decide (x.1 < yn)) = true) ∨ ((pb = true → ¬ x.1 < yn) ∧ (pb && decide (x.1 < yn)) = false) := by
        cases pb with
        | true =>
          by_cases h : x.1 < yn
          · exact .inl ⟨rfl, h, by simp [h]⟩
          · exact .inr ⟨fun _ => h, by simp [h]⟩
        | false => exact .inr ⟨fun h => (by cases h), rfl⟩
      rcases hcs with ⟨hpb, hn, hbb⟩ | ⟨hn, hbb⟩
      case' inl =>
        subst hpb
        rw [hbb]
        have hL1 := hLl.2.1 rfl
        go_upto_region 12 with (at_builtin; go_must (refine wpList_app1 eVal _ (by rfl) _ _ (by rfl) w3.heap.size _ _ _ (by rfl) How1.out _ (by rfl) (by first | rfl | simp) (by rfl) (oc (by rfl)) (by omega) (by unfold maxLen; omega) (by first | omega | (simp; omega)) ?_; intro v6 w6 how6 hev6; have How6 := Lib.hid how6; have Hev6 := Lib.hid hev6; clear how6 hev6))
        have How7 := Lib.hid (show w6.ownsRow w3.heap.size 34 4 v6 (L ++ [X]).length ((L ++ [X]).map c4).flatten by
          rw [List.length_append, List.map_append, List.flatten_append, HX.out]
          simpa [c4] using How6.out)
        have Hst7 := Lib.hid (Hin.out L Hst.out (by rw [HX1.out]; exact hn))
        have Hok7 := Lib.hid (show ∀ z ∈ L ++ [X], Ok4 z from fun z hz => by
          rcases List.mem_append.1 hz with h | h
          · exact HokL.out z h
          · rw [List.mem_singleton.1 h]; exact HokX.out)
        have Hu7 := Lib.hid (show Up w3 w6 from Up.evo Huy.out Hev6.out (fun j hj => (How1.out.lt j hj).1))
        have Hy7 := Lib.hid (Hev6.out.blk Hy.out (fun e => by have := (How.out.lt _ e).2; omega))
        have hn7 : false = true → ¬ X.1 < yn := fun h => by cases h
        have hpbv : (Value.bool false) = .bool false := rfl
        have hL7 : (L ++ [X]).length ≤ l.length := by rw [List.length_append, List.length_singleton]; omega
        obtain ⟨w7, rfl⟩ : ∃ w7 : World, w7 = w6 := ⟨_, rfl⟩
        obtain ⟨v7, rfl⟩ : ∃ v7 : Value, v7 = v6 := ⟨_, rfl⟩
        clear x0 x1 x2 x3 y0 How1 hL1 Hev6 How6
      case' inr =>
        rw [hbb]
        go_upto_region 12 with (fail)
        have How7 := How1
        have Hst7 := Hst
        have Hok7 := HokL
        have Hu7 := Huy
        have Hy7 := Hy
        have hn7 : pb = true → ¬ X.1 < yn := fun h => by rw [HX1.out]; exact hn h
        have hL7 : L.length ≤ l.length := by have := hLl.1; rcases Hst.out with ⟨_, _, h, _⟩ | ⟨_, _, h⟩ | ⟨_, _, _, _, _, _, _⟩ <;> omega
        obtain ⟨w7, rfl⟩ : ∃ w7 : World, w7 = wc := ⟨_, rfl⟩
        obtain ⟨v7, rfl⟩ : ∃ v7 : Value, v7 = s := ⟨_, rfl⟩
        clear x0 x1 x2 x3 y0 How1
      all_goals
        have hm := Hu7.out.blk Hc0.out
        have m0 : w7.cell? ⟨w.heap.size, 0, none⟩ = some (.string sb) := cell_of_row w7 _ 0 _ _ _ hm
        have m1 : w7.cell? ⟨w.heap.size, 1, none⟩ = some (.slice fo fs.length fcap) := cell_of_row w7 _ 1 _ _ _ hm
        have m2 : w7.cell? ⟨w.heap.size, 2, none⟩ = some (.slice b1 b2 b3) := cell_of_row w7 _ 2 _ _ _ hm
        have y0 : w7.cell? ⟨Y, 0, none⟩ = some (.int .i64 yn) := cell_of_row w7 _ 0 _ _ _ Hy7.out
        have Hn7 := Lib.hid hn7
        clear hm hn7 hn hbb
        go_wp2_with fail
        refine (Hfc.out yn w7 (Hu3.out.trans Hu7.out)).mono ?_
        rintro e w8 ⟨⟨p, rfl, hp1, hp2⟩, hu8⟩
        clear m0 m1 m2 y0
        have Hu8 := Lib.hid (Hu7.out.trans hu8)
        have Hy8 := Lib.hid (hu8.blk Hy7.out)
        have How8 := Lib.hid (How7.out.kept hu8.to_none (by cases hv : v7.ownBlock <;> simp))
        have y0 : w8.cell? ⟨Y, 0, none⟩ = some (.int .i64 yn) := cell_of_row w8 _ 0 _ _ _ Hy8.out
        have x0 : w8.cell? ⟨w.heap.size + 1 + 1, 0, none⟩ = some (.int .i64 x.1) := cell_of_row w8 _ 0 _ _ _ (Hu8.out.blk Hc2.out)
        have fc : w8.cell? ⟨fb, fof + j * 6 + 5, none⟩ = some (.int .i64 F.choice) := Hu8.out.cell_some Hfa3.out.2.1.2.2.2.2.2
        obtain ⟨KP, hKP⟩ : ∃ KP, keepN fs F X.1 yn = KP := ⟨_, rfl⟩
        have hcs5 : ((yn == x.1) = true ∧ KP = false) ∨ ((yn == x.1) = false ∧ decide ((0 : Int) < F.choice) = false ∧ KP = true) ∨ ((yn == x.1) = false ∧ decide ((0 : Int) < F.choice) = true ∧ p = none ∧ KP = true) ∨
            ((yn == x.1) = false ∧ decide ((0 : Int) < F.choice) = true ∧ ∃ (qb qo : Nat) (G : Int), p = some ⟨qb, qo, none⟩ ∧ w8.cell? ⟨qb, qo + 5, none⟩ = some (.int .i64 G) ∧ (G == F.choice) = true ∧ KP = false) ∨
            ((yn == x.1) = false ∧ decide ((0 : Int) < F.choice) = true ∧ ∃ (qb qo : Nat) (G : Int), p = some ⟨qb, qo, none⟩ ∧ w8.cell? ⟨qb, qo + 5, none⟩ = some (.int .i64 G) ∧ (G == F.choice) = false ∧ KP = true) := by
          unfold keepN at hKP
          rw [HX1.out] at hKP
          cases q1 : (yn == x.1) with
          | true => exact .inl ⟨rfl, by rw [← hKP]; simp [bne, q1]⟩
          | false =>
            have q1' : (yn != x.1) = true := by simp [bne, q1]
            rw [q1'] at hKP
            by_cases h0 : (0 : Int) < F.choice
            · have h1 : (F.choice == 0) = false := by rw [beq_eq_false_iff_ne]; omega
              rw [h1] at hKP
              rcases idxP_cases (fun z : Fld => z.number == yn) fs with ⟨g1, g2⟩ | ⟨jj, hjj, g1, g2⟩
              · rw [g2] at hKP
                exact .inr (.inr (.inl ⟨rfl, decide_eq_true h0, hp1 (by rw [g1]; decide), by rw [← hKP]; rfl⟩))
              · rw [g2] at hKP
                obtain ⟨qb, qo, qc, _, hpe, hqa⟩ := hp2 jj hjj g1
                have hce := hqa.2.1.2.2.2.2.2
                cases q3 : (fs[jj].choice == F.choice) with
                | true => exact .inr (.inr (.inr (.inl ⟨rfl, decide_eq_true h0, qb, qo + jj * 6, fs[jj].choice, hpe, hce, q3, by rw [← hKP]; simp [bne, q3]⟩)))
                | false => exact .inr (.inr (.inr (.inr ⟨rfl, decide_eq_true h0, qb, qo + jj * 6, fs[jj].choice, hpe, hce, q3, by rw [← hKP]; simp [bne, q3]⟩)))
            · have h1 : (F.choice == 0) = true := by rw [beq_iff_eq]; omega
              rw [h1] at hKP
              exact .inr (.inl ⟨rfl, decide_eq_false h0, by rw [← hKP]; rfl⟩)
        have HKP := Lib.hid hKP
        clear hp1 hp2 hu8 hKP
        go_upto_region 13 with (fail)
        go_cut [73] (fun bb wc => bb = .bool (!KP) ∧ Up w8 wc)
        case first =>
          rcases hcs5 with ⟨q1, rfl⟩ | ⟨q1, q2, rfl⟩ | ⟨q1, q2, rfl, rfl⟩ | ⟨q1, q2, qb, qo, G, rfl, q3, q4, rfl⟩ | ⟨q1, q2, qb, qo, G, rfl, q3, q4, rfl⟩
          all_goals
            go_quiet (fail)
            go_wp2_with fail
            go_meet
            exact ⟨rfl, (Up.refl w8).drewN _⟩
        case rest =>
        clear hcs5 y0 x0 fc
        obtain ⟨rfl, hu9⟩ := hcut
        have Hu9 := Lib.hid (Hu8.out.trans hu9)
        have hy9 := hu9.blk Hy8.out
        have How9 := Lib.hid (How8.out.kept hu9.to_none (by cases hv : v7.ownBlock <;> simp))
        have hy0 : wc.cell? ⟨Y, 0, none⟩ = some (.int .i64 yn) := cell_of_row wc _ 0 _ _ _ hy9
        have hy1 : wc.cell? ⟨Y, 1, none⟩ = some (.slice d1 n1 g1) := cell_of_row wc _ 1 _ _ _ hy9
        have hy2 : wc.cell? ⟨Y, 2, none⟩ = some (.slice d2 n2 g2) := cell_of_row wc _ 2 _ _ _ hy9
        have hy3 : wc.cell? ⟨Y, 3, none⟩ = some (.slice d3 n3 g3) := cell_of_row wc _ 3 _ _ _ hy9
        have hbw9 := Hu9.out.size
        have Hnx7 := Lib.hid (Hnx.out _ _ Hst7.out Hn7.out)
        clear hu9 hy9
        cases KP with
        | false =>
          go_wp2_with fail
          go_roundw
          case rel =>
            refine ⟨k2 + 1, _, v7, _, by omega, by go_num, rfl, rfl, Hnx7.out, ?_, ?_, Hu9.out⟩
            · rw [if_neg (by rw [HKP.out]; decide), List.append_nil]; exact Hok7.out
            · rw [if_neg (by rw [HKP.out]; decide), List.append_nil]; exact How9.out
          case measure => simp [intOf]; omega
        | true =>
          go_wp2_with (at_builtin; go_must (refine wpList_app1 eVal _ (by rfl) _ _ (by rfl) w3.heap.size _ _ _ (by rfl) How9.out _ (by rfl) (by first | rfl | simp) (by rfl) (oc (by rfl)) (by omega) (by unfold maxLen; omega) (by first | omega | (simp; omega)) ?_; intro v11 w11 how11 hev11; have How11 := Lib.hid how11; have Hev11 := Lib.hid hev11; clear how11 hev11))
          go_roundw
          case rel =>
            refine ⟨k2 + 1, _, v11, _, by omega, by go_num, rfl, rfl, Hnx7.out, ?_, ?_, Up.evo Hu9.out Hev11.out (fun j hj => (How9.out.lt j hj).1)⟩
            · rw [if_pos HKP.out]
              intro z hz
              rcases List.mem_append.1 hz with h | h
              · exact Hok7.out z h
              · rw [List.mem_singleton.1 h]; exact Hoky.out
            · rw [if_pos HKP.out, List.length_append, List.map_append, List.flatten_append]
              simpa [c4] using How11.out
          case measure => simp [intOf]; omega
    · have hlast := SetSt.last (by omega) Hr.out Hst.out
      have hLl := Hst.out.len
      obtain ⟨wo, rfl⟩ : ∃ wo : World, wo = wr := ⟨_, rfl⟩
      have Hu := Lib.hid hu
      have hbw := hu.size
      have hB1 := hu.blk Hc1.out
      have hB2 := hu.blk Hc2.out
      have hB3 := hu.blk Hc3.out
      have Hlast := Lib.hid hlast
      clear hlast hu
      cases pb with
      | false =>
        have b1' : wo.cell? ⟨w.heap.size + 1, 1, none⟩ = some (.slice u1 u2 u3) := cell_of_row wo _ 1 _ _ _ hB1
        have r0 : wo.cell? ⟨w.heap.size + 1 + 1 + 1, 0, none⟩ = some (.slice none 0 0) := cell_of_row wo _ 0 _ _ _ hB3
        have r1 : wo.cell? ⟨w.heap.size + 1 + 1 + 1, 1, none⟩ = some (.slice none 0 0) := cell_of_row wo _ 1 _ _ _ hB3
        have rf' : ∀ o, wo.frozen? ⟨w.heap.size + 1 + 1 + 1, o, none⟩ = false := fun o => frozen_of_row wo _ o _ _ hB3
        have hz3' : w.heap.size + 1 + 1 + 1 < wo.heap.size := lt_of_block hB3
        obtain ⟨so, sc, rfl⟩ := own_val How.out
        have hlo : ∀ b, b < w3.heap.size → (Value.slice so L.length sc).ownBlock ≠ some b := fun b hb e => by have := (How.out.lt _ e).1; omega
        have how4 := own_set (own_set How.out (w.heap.size + 1 + 1 + 1) 0 (hlo _ (by omega)) (.slice so L.length sc)) (w.heap.size + 1 + 1 + 1) 1 (hlo _ (by omega)) (.slice u1 u2 u3)
        have Hfin := Lib.hid (rd4_ownS (S := Sx S w) rfl how4 HokL.out (fun b hb => .inr (by omega)))
        have Huf := Lib.hid (Up.setCell (Up.setCell (Hu3.out.trans Hu.out) (p := ⟨w.heap.size + 1 + 1 + 1, 0, none⟩) (show w.heap.size ≤ w.heap.size + 3 by omega) (.slice so L.length sc)) (p := ⟨w.heap.size + 1 + 1 + 1, 1, none⟩) (show w.heap.size ≤ w.heap.size + 3 by omega) (.slice u1 u2 u3))
        clear hlo how4 hB1 hB2 hB3
        go_wp2_with fail
        refine bodyPost_ret (v := .agg #[.slice so L.length sc, .slice u1 u2 u3]) (by simp [results, Tryd.results20, go_sem, r0, r1]) rfl ?_
        refine ⟨_, rfl, ?_, Huf.out⟩
        rw [Hset.out, ← Hlast.out, if_neg (by decide)]
        exact Hfin.out
      | true =>
        have hL1 := hLl.2.1 rfl
        have x0 : wo.cell? ⟨w.heap.size + 1 + 1, 0, none⟩ = some (.int .i64 x.1) := cell_of_row wo _ 0 _ _ _ hB2
        have x1 : wo.cell? ⟨w.heap.size + 1 + 1, 1, none⟩ = some (.slice a1 x.2.1.length c1) := cell_of_row wo _ 1 _ _ _ hB2
        have x2 : wo.cell? ⟨w.heap.size + 1 + 1, 2, none⟩ = some (.slice a2 x.2.2.1.length c2) := cell_of_row wo _ 2 _ _ _ hB2
        have x3 : wo.cell? ⟨w.heap.size + 1 + 1, 3, none⟩ = some (.slice a3 x.2.2.2.length c3) := cell_of_row wo _ 3 _ _ _ hB2
        go_upto_region 18 with (at_builtin; go_must (refine wpList_app1 eVal _ (by rfl) _ _ (by rfl) w3.heap.size _ _ _ (by rfl) How.out _ (by rfl) (by first | rfl | simp) (by rfl) (oc (by rfl)) (by omega) (by unfold maxLen; omega) (by first | omega | (simp; omega)) ?_; intro v6 w6 how6 hev6; have How6 := Lib.hid how6; have Hev6 := Lib.hid hev6; clear how6 hev6))
        have how7 : w6.ownsRow w3.heap.size 34 4 v6 (L ++ [X]).length ((L ++ [X]).map c4).flatten := by
          rw [List.length_append, List.map_append, List.flatten_append, HX.out]
          simpa [c4] using How6.out
        have Hok7 := Lib.hid (show ∀ z ∈ L ++ [X], Ok4 z from fun z hz => by
          rcases List.mem_append.1 hz with h | h
          · exact HokL.out z h
          · rw [List.mem_singleton.1 h]; exact HokX.out)
        have hu7 : Up w3 w6 := Up.evo Hu.out Hev6.out (fun j hj => (How.out.lt j hj).1)
        have hB1' := hu7.blk Hc1.out
        have hB3' := hu7.blk Hc3.out
        have b1' : w6.cell? ⟨w.heap.size + 1, 1, none⟩ = some (.slice u1 u2 u3) := cell_of_row w6 _ 1 _ _ _ hB1'
        have r0 : w6.cell? ⟨w.heap.size + 1 + 1 + 1, 0, none⟩ = some (.slice none 0 0) := cell_of_row w6 _ 0 _ _ _ hB3'
        have r1 : w6.cell? ⟨w.heap.size + 1 + 1 + 1, 1, none⟩ = some (.slice none 0 0) := cell_of_row w6 _ 1 _ _ _ hB3'
        have rf' : ∀ o, w6.frozen? ⟨w.heap.size + 1 + 1 + 1, o, none⟩ = false := fun o => frozen_of_row w6 _ o _ _ hB3'
        have hz3' : w.heap.size + 1 + 1 + 1 < w6.heap.size := lt_of_block hB3'
        obtain ⟨so, sc, rfl⟩ := own_val how7
        have hlo : ∀ b, b < w3.heap.size → (Value.slice so (L ++ [X]).length sc).ownBlock ≠ some b := fun b hb e => by have := (how7.lt _ e).1; omega
        have how4 := own_set (own_set how7 (w.heap.size + 1 + 1 + 1) 0 (hlo _ (by omega)) (.slice so (L ++ [X]).length sc)) (w.heap.size + 1 + 1 + 1) 1 (hlo _ (by omega)) (.slice u1 u2 u3)
        have Hfin := Lib.hid (rd4_ownS (S := Sx S w) rfl how4 Hok7.out (fun b hb => .inr (by omega)))
        have Huf := Lib.hid (Up.setCell (Up.setCell (Hu3.out.trans hu7) (p := ⟨w.heap.size + 1 + 1 + 1, 0, none⟩) (show w.heap.size ≤ w.heap.size + 3 by omega) (.slice so (L ++ [X]).length sc)) (p := ⟨w.heap.size + 1 + 1 + 1, 1, none⟩) (show w.heap.size ≤ w.heap.size + 3 by omega) (.slice u1 u2 u3))
        clear hlo how4 hB1 hB2 hB3 hB1' hB3' how7 hu7 x0 x1 x2 x3 How6 Hev6
        generalize (L ++ [X]).length = LN at *
        go_wp2_with fail
        refine bodyPost_ret (v := .agg #[.slice so LN sc, .slice u1 u2 u3]) (by simp [results, Tryd.results20, go_sem, r0, r1]) rfl ?_
        refine ⟨_, rfl, ?_, Huf.out⟩
        rw [Hset.out, ← Hlast.out]
        first | rw [if_pos rfl] | rw [if_pos trivial]
        exact Hfin.out
theorem setr_v (d : Nat) {S : Nat → Prop} (s vf vb vv vu : Value) (fs : List Fld) (l : List Val) (x : Val) (F : Fld) (a1 a2 a3 : Option Addr) (c1 c2 c3 : Nat) (w : World) (hs : ∃ b, s = .string b) (hvb : IsS vb) (hvu : IsS vu) (hf : RdS DFld 6 All w vf fs) (hv : RdS (DValD d) 4 S w vv l) (hr : RisingV l) (hz : (l.length + 1) * 80 ≤ 140737488355328)
    (hF : fldN fs x.1 = some F) (hch : ∀ z ∈ fs, 0 ≤ z.choice)
    (hx : DValD d S w x [.int .i64 x.1, .slice a1 x.2.1.length c1, .slice a2 x.2.2.1.length c2, .slice a3 x.2.2.2.length c3]) :
    Calls Tryd.prog 20 #[.agg #[s, vf, vb], .agg #[vv, vu], .agg #[.int .i64 x.1, .slice a1 x.2.1.length c1, .slice a2 x.2.2.1.length c2, .slice a3 x.2.2.2.length c3]] w fun e w' =>
      ∃ vv', e = .returned (.agg #[vv', vu]) ∧ RdS (DValD d) 4 (Sx S w) w' vv' (setV fs l x) ∧ Up w w' := by
  obtain ⟨l4, h1, h2, h3⟩ := rd4 hv
  obtain ⟨L, e1, e2, e3⟩ := zip4 h2 h3
  obtain ⟨p1, g1, p2, g2, p3, g3, he, hn, hx1, hx2, hx3, zx⟩ := val_cells hx
  simp only [List.cons.injEq, Value.slice.injEq, true_and, and_true] at he
  obtain ⟨⟨rfl, rfl⟩, ⟨rfl, rfl⟩, rfl, rfl⟩ := he
  have hr4 : Rising l4 := by
    rw [← e2]
    rw [← e1] at hr
    have hq : L.Pairwise (fun p q => p.1.1 < q.1.1) := (List.pairwise_map (f := Prod.fst) (R := fun a b : Val => a.1 < b.1)).1 hr
    exact (List.pairwise_map (f := pv4) (R := fun a b : SV => a.1 < b.1)).2 hq
  refine (setr_b (S := S) s vf vb vv vu fs l4 x F a1 a2 a3 c1 c2 c3 w hs hvb hvu hf h1 hr4 (by rw [h2]; exact hz) hF hch (hx1.keep stable_u64 Keep.all) (hx2.keep stable_bytes Keep.all)).mono ?_
  rintro e w' ⟨vv', rfl, hrd, hu⟩
  rw [← e2] at hrd
  refine ⟨vv', rfl, ?_, hu⟩
  exact lift_set (vv := vv) e1 e3 hx (fun k h => .inl h) hu hrd
end Go.Proofs.YtplgegffapikoaaDoor
