/-
  codec.Parse.
  (*writer).body.
  codec.Bytes.
  presslaw5.file, and what presslaw5.alive asks, in plain Lean.
  The parser of texts in plain Lean: what each step makes of the rest of a text.
-/
import Derived.Test.YtbceapeoknngnaaGreatDoorDp37
import Derived.Test.YtbceapeoknngnaaGreatDoorDp25
import Derived.Test.YtbceapeoknngnaaGreatDoorDp23
import Derived.Test.YtbceapeoknngnaaGreatDoorDp26
import Derived.Test.YtbceapeoknngnaaGreatDoorDp35
import Derived.Test.YtbceapeoknngnaaGreatDoorProg
import Derived.Shelf.SlSortCmp.NoneTotal
import Derived.Shelf.SlicesG.Cmp
import Derived.Shelf.SlGeneric
import Derived.Ground.SlsfProg
import Derived.Ground.SlgcProg
import Derived.Test.YtbceapeoknngnaaGreatDoorDp10
import Derived.Outline
import Derived.Deep.DeepMust
import Derived.Test.YtbceapeoknngnaaGreatDoorDp06
import Derived.Test.YtbceapeoknngnaaGreatDoorDp05
import Derived.Lib.SortBridge
import Derived.Test.YtbceapeoknngnaaGreatDoorDp04
import Derived.Test.YtbceapeoknngnaaGreatDoorDp03
set_option linter.unusedVariables false
namespace Go.Proofs.YtbceapeoknngnaaGreatDoor
open Go.RowKit
set_option maxRecDepth 100000 in
set_option maxHeartbeats 3200000 in
theorem parse_c (v : Value) (f : Fil) (msg : Int) (vb : Value) (l : List UInt8) (w : World) (hf : FilV All w v f) (hr : RdB All w vb l) (hll : l.length ≤ 1099511627776) (hT : Tabs w) :
    Calls Tryz.prog 14 #[v, .int .i64 msg, vb] w fun e w' => ∃ vv vu, e = .returned (.tuple #[.agg #[vv, vu], .int .i64 (parseA f msg l).2]) ∧ DBodF 13 (From w.heap.size) w' (parseA f msg l).1 [vv, vu] ∧ Up w w' := by
  obtain ⟨vm, ve, rfl, hm, he⟩ := id hf
  obtain ⟨ma, mc, rfl, _, _⟩ := hm.val
  obtain ⟨ea, ec, rfl, _, _⟩ := he.val
  obtain ⟨la, lc, rfl, _, _⟩ := hr.val
  have Hf := Lib.hid hf; have Hr := Lib.hid hr; have HT := Lib.hid hT; have Hll := Lib.hid hll
  clear hf hr hT hm he hll
  obtain ⟨ANS, hANS⟩ : ∃ ANS, parseA f msg l = ANS := ⟨_, rfl⟩
  rw [hANS]
  unfold parseA at hANS
  have HA := Lib.hid hANS
  clear hANS
  have hb0 : ((w.alloc (.cells #[.slice ma f.msgs.length mc, .slice ea f.enums.length ec] 25)).alloc (.cells #[.slice none 0 0, .slice none 0 0] 29)).heap[w.heap.size]? = some (.cells #[.slice ma f.msgs.length mc, .slice ea f.enums.length ec] 25 (0, 0)) := blk_old _ (blk_new w _ rfl)
  have hb1 : ((w.alloc (.cells #[.slice ma f.msgs.length mc, .slice ea f.enums.length ec] 25)).alloc (.cells #[.slice none 0 0, .slice none 0 0] 29)).heap[w.heap.size + 1]? = some (.cells #[.slice none 0 0, .slice none 0 0] 29 (0, 0)) := blk_new (w.alloc _) _ (by simp)
  have hu0 : Up w ((w.alloc (.cells #[.slice ma f.msgs.length mc, .slice ea f.enums.length ec] 25)).alloc (.cells #[.slice none 0 0, .slice none 0 0] 29)) := ((Up.refl w).alloc _).alloc _
  have Hw0 := Lib.hid (fun W (u : Up w W) => wrong_l _ f W (Hf.out.up u))
  obtain ⟨we, hwe⟩ : ∃ we, (wrongN f).1 = we := ⟨_, rfl⟩
  rw [hwe] at Hw0
  generalize hwa : (wrongN f).2 = wa at *
  clear hwa
  go_enter Tryz.func14, Tryz.ntmps14
  go_upto_region 1 with (fail)
  generalize (w.alloc (.cells #[.slice ma f.msgs.length mc, .slice ea f.enums.length ec] 25)).alloc (.cells #[.slice none 0 0, .slice none 0 0] 29) = w1 at *
  have i0 : w1.cell? ⟨w.heap.size, 0, none⟩ = some (.slice ma f.msgs.length mc) := cell_of_row w1 _ 0 _ _ _ hb0
  have i1 : w1.cell? ⟨w.heap.size, 1, none⟩ = some (.slice ea f.enums.length ec) := cell_of_row w1 _ 1 _ _ _ hb0
  go_upto_region 2 with (go_at_call 38; go_must (refine (Hw0.out _ hu0).mono ?_; rintro e w2 ⟨rfl, hu2⟩))
  have hbX := blk_new w2 (.cells #[.int .i64 we, .int .i64 (wa : Int)] 67) (g := w2.heap.size) rfl
  have hu3 := (hu0.trans hu2).alloc (.cells #[.int .i64 we, .int .i64 (wa : Int)] 67)
  have hb0 := blk_old (.cells #[.int .i64 we, .int .i64 (wa : Int)] 67) (hu2.blk hb0)
  have hb1' := hu2.blk hb1
  have hXB : w2.heap.size ≠ w.heap.size + 1 := by have := lt_of_block hb1'; omega
  have hb1 := blk_old (.cells #[.int .i64 we, .int .i64 (wa : Int)] 67) hb1'
  generalize w2.alloc (.cells #[.int .i64 we, .int .i64 (wa : Int)] 67) = w3 at *
  generalize w2.heap.size = X at *
  have z0 : w3.cell? ⟨w.heap.size + 1, 0, none⟩ = some (.slice none 0 0) := cell_of_row w3 _ 0 _ _ _ hb1
  have z1 : w3.cell? ⟨w.heap.size + 1, 1, none⟩ = some (.slice none 0 0) := cell_of_row w3 _ 1 _ _ _ hb1
  have zf : ∀ o, w3.frozen? ⟨w.heap.size + 1, o, none⟩ = false := fun o => frozen_of_row w3 _ o _ _ hb1
  have zz : w.heap.size + 1 < w3.heap.size := lt_of_block hb1
  have x0 : w3.cell? ⟨X, 0, none⟩ = some (.int .i64 we) := cell_of_row w3 _ 0 _ _ _ hbX
  have Hu3 := Lib.hid hu3; have Hb0 := Lib.hid hb0; have Hb1 := Lib.hid hb1
  clear hbX hu2 hu3 hb0 hb1 hb1' hu0 i0 i1
  have hANS := HA.out
  clear HA
  by_cases hw : we = 0
  · rw [if_neg (by rw [hwe, hw]; simp)] at hANS
    subst hw
    have i0 : w3.cell? ⟨w.heap.size, 0, none⟩ = some (.slice ma f.msgs.length mc) := cell_of_row w3 _ 0 _ _ _ Hb0.out
    have i1 : w3.cell? ⟨w.heap.size, 1, none⟩ = some (.slice ea f.enums.length ec) := cell_of_row w3 _ 1 _ _ _ Hb0.out
    by_cases hmm : msg < 0 ∨ f.msgs.length ≤ msg
    · rw [if_pos hmm] at hANS
      have Hans := Lib.hid hANS
      clear hANS
      have hc : msg < 0 ∨ (¬ msg < 0 ∧ (f.msgs.length : Int) ≤ msg) := by omega
      clear hmm
      rcases hc with hc | ⟨hc1, hc2⟩
      all_goals
        go_wp2_with fail
        refine bodyPost_ret (v := .tuple #[.agg #[.slice none 0 0, .slice none 0 0], .int .i64 6]) (by simp [results, Tryz.results14, go_sem, z0, z1]) rfl ?_
        rw [← Hans.out]
        refine ⟨_, _, rfl, ⟨_, _, rfl, rdS_nil _ _ _ _, rdS_nil _ _ _ _, by simp [bod0, Bod.values], by simp [bod0, Bod.unknown]⟩, ?_⟩
        exact Up.setCell (Up.setCell Hu3.out (p := ⟨w.heap.size + 1, 0, none⟩) (Nat.le_succ _) _) (p := ⟨w.heap.size + 1, 1, none⟩) (Nat.le_succ _) _
    · rw [if_neg hmm] at hANS
      have hm0 : 0 ≤ msg := by omega
      have hm1 : msg < f.msgs.length := by omega
      have hc1 : ¬ msg < 0 := by omega
      have hc2 : ¬ (f.msgs.length : Int) ≤ msg := by omega
      have Hans := Lib.hid hANS
      have e1 : (13 : Int) - ((12 : Nat) : Int) = 1 := rfl
      have Hbod := Lib.hid (fun W C (u : Up w3 W) (hc : W.cell? ⟨C, 0, none⟩ = some (.pointer (some ⟨w.heap.size, 0, none⟩))) => rbody_c f hwe 12 (Nat.le_refl _) msg l (.slice la l.length lc) C w.heap.size W hm0 hm1 ⟨hc, _, _, u.cell_some i0, u.cell_some i1, Hf.out.up (Hu3.out.trans u)⟩ (Hr.out.up stable_u8 (Hu3.out.trans u)) Hll.out (HT.out.up (Hu3.out.trans u)))
      rw [e1] at Hbod
      clear hANS hmm e1
      have hC := blk_new w3 (.cells #[.pointer (some ⟨w.heap.size, 0, none⟩)] 94) (g := w3.heap.size) rfl
      generalize readC f 12 msg l = RC at *
      go_wp2_with (go_at_call 39; go_must (refine (Hbod.out _ _ ((Up.refl w3).alloc _) (cell_of_row _ _ 0 _ _ _ hC)).mono ?_; rintro e w6 ⟨vv, vu, rfl, hd6, hu6⟩; obtain ⟨s1, n1, c1, s2, n2, c2, hbt⟩ := bod_two hd6; simp only [List.cons.injEq, and_true] at hbt; obtain ⟨rfl, rfl⟩ := hbt; have Hd6 := Lib.hid hd6; have Hu6 := Lib.hid (((Up.refl w3).alloc _).trans hu6); have hb6 := (((Up.refl w3).alloc _).trans hu6).blk Hb1.out; have y0 : w6.cell? ⟨w.heap.size + 1, 0, none⟩ = some (.slice none 0 0) := cell_of_row w6 _ 0 _ _ _ hb6; have y1 : w6.cell? ⟨w.heap.size + 1, 1, none⟩ = some (.slice none 0 0) := cell_of_row w6 _ 1 _ _ _ hb6; have yf : ∀ o, w6.frozen? ⟨w.heap.size + 1, o, none⟩ = false := (fun o => frozen_of_row w6 _ o _ _ hb6); have yz : w.heap.size + 1 < w6.heap.size := lt_of_block hb6; clear hd6 hu6 hb6 z0 z1 zf x0 i0 i1 hC))
      refine bodyPost_ret (v := .tuple #[.agg #[.slice s1 n1 c1, .slice s2 n2 c2], .int .i64 RC.2]) (by simp [results, Tryz.results14, go_sem, y0, y1]) rfl ?_
      rw [← Hans.out]
      refine ⟨_, _, rfl, ?_, Up.setCell (Up.setCell (Hu3.out.trans Hu6.out) (p := ⟨w.heap.size + 1, 0, none⟩) (Nat.le_succ _) _) (p := ⟨w.heap.size + 1, 1, none⟩) (Nat.le_succ _) _⟩
      refine stable_bod 13 _ _ _ _ _ _ ?_ Hd6.out
      refine (((Keep.setCell (p := ⟨w.heap.size + 1, 0, none⟩) ?_ _).trans (Keep.setCell (p := ⟨w.heap.size + 1, 1, none⟩) ?_ _)).trans (Keep.weak fun q hq => ?_))
      · show ¬ _ ≤ _; simp; omega
      · show ¬ _ ≤ _; simp; omega
      · have h1 : (w3.alloc (.cells #[.pointer (some ⟨w.heap.size, 0, none⟩)] 94)).heap.size ≤ q := hq
        simp at h1
        show w.heap.size ≤ q
        omega
  · rw [if_pos (by rw [hwe]; exact hw)] at hANS
    have Hans := Lib.hid hANS
    have hne : (we != 0) = true := by rw [bne_iff_ne]; exact hw
    rw [hwe] at Hans
    clear hANS hw
    go_upto_region 3 with (fail)
    have dd : w3.drew.cell? ⟨X, 0, none⟩ = some (.int .i64 we) := x0
    clear x0
    go_region_held3 (fun w' => w'.cell? ⟨X, 0, none⟩ = some (.int .i64 we))
      (first | with_reducible exact dd | exact Eq.trans (cell_set_ne (w := w3.setCell ⟨w.heap.size + 1, 0, none⟩ (.slice none 0 0)) hXB 1 (.slice none 0 0)) (Eq.trans (cell_set_ne (w := w3) hXB 0 (.slice none 0 0)) dd))
      (fail)
    all_goals
      go_wp2_with fail
      refine bodyPost_ret (v := .tuple #[.agg #[.slice none 0 0, .slice none 0 0], .int .i64 we]) (by simp [results, Tryz.results14, go_sem, z0, z1]) rfl ?_
      rw [← Hans.out]
      refine ⟨_, _, rfl, ⟨_, _, rfl, rdS_nil _ _ _ _, rdS_nil _ _ _ _, by simp [bod0, Bod.values], by simp [bod0, Bod.unknown]⟩, ?_⟩
      exact (Up.setCell (Up.setCell Hu3.out (p := ⟨w.heap.size + 1, 0, none⟩) (Nat.le_succ _) _) (p := ⟨w.heap.size + 1, 1, none⟩) (Nat.le_succ _) _).drew
end Go.Proofs.YtbceapeoknngnaaGreatDoor
set_option linter.unusedVariables false
namespace Go.Proofs.YtbceapeoknngnaaGreatDoor
open Go.RowKit
set_option maxRecDepth 100000 in
set_option maxHeartbeats 12800000 in
theorem wbody_step (k d : Nat) (f : Fil) (ih : ∀ d, WBodC k d f) (hright : (wrongN f).1 = 0) : WBodC (k + 1) d f := by
  intro msg x cb fb b o w hm0 hm1 hc hb hwr hlen
  cases d with
  | zero => obtain ⟨_, _, _, _, h⟩ := hb; exact h.elim
  | succ d =>
  obtain ⟨vv, vu, hb0, hb1, hbd⟩ := hb
  obtain ⟨a1, c1, a2, c2, rfl, rfl, hv, hu, hz⟩ := bod_cells hbd
  obtain ⟨mi, rfl⟩ : ∃ mi : Nat, msg = mi := ⟨msg.toNat, by omega⟩
  have hmi : mi < f.msgs.length := by omega
  have hget : f.msgs[(mi : Int).toNat]? = some f.msgs[mi] := by rw [Int.toNat_natCast, List.getElem?_eq_getElem hmi]
  have hmsg : wrongB f (k + 1) (mi : Int) x = wrongBF (wrongVF (wrongB f k) f) f.msgs[mi] x := by
    rw [wrongB, hget]
  rw [hmsg] at hwr
  rw [raw_flat hget] at hlen ⊢
  have hmr := right_msg hright f.msgs[mi] (List.getElem_mem hmi)
  have Hval := Lib.hid (wvalue_c k d f (ih d))
  have hcc' := hc
  obtain ⟨hcc, vm, ve, hcm, hce, hfv⟩ := id hc
  obtain ⟨vm', ve', he', hm', he''⟩ := id hfv
  simp only [Value.agg.injEq, Array.mk.injEq, List.cons.injEq, and_true] at he'
  obtain ⟨rfl, rfl⟩ := he'
  obtain ⟨ma, mc, rfl, _, _⟩ := hm'.val
  obtain ⟨mb, mo, cs, rfl, _, _, hcs, hd⟩ := hm'.at hmi
  obtain ⟨vf, vb, hd, hfs, hbs, hnm⟩ := hd
  subst hd
  obtain ⟨fa, fc, rfl, _, _⟩ := hfs.val
  obtain ⟨ba, bc, rfl, _, _⟩ := hbs.val
  have s0 := hcs 0 _ rfl; have s1 := hcs 1 _ rfl; have s2 := hcs 2 _ rfl
  simp only [Nat.add_zero] at s0
  have hvals : ∀ v ∈ x.values, ∃ y, fldN f.msgs[mi].fields v.1 = some y ∧ wrongVF (wrongB f k) f y v = 0 := by
    refine valsN_ok _ _ _ none [] ?_
    unfold wrongBF at hwr
    split at hwr
    · contradiction
    · rename_i h; simpa using h
  have hunk : ∀ r ∈ x.unknown, wrongRec r = 0 := by
    unfold wrongBF at hwr
    split at hwr
    · contradiction
    · intro r hr
      obtain ⟨j, hj, rfl⟩ := List.getElem_of_mem hr
      have := firstN_zero _ hwr j (by simpa using hj)
      rw [List.getElem_map, unkN] at this
      split at this
      · contradiction
      · rename_i h; simpa using h
  have Hvals := Lib.hid hvals; have Hunk := Lib.hid hunk
  have Hv := Lib.hid hv; have Hu := Lib.hid (hu.keep stable_recz Keep.lt); have Hfs := Lib.hid hfs; have Hc := Lib.hid hcc'
  have Hmr := Lib.hid hmr
  have zv := hz.1; have zu := hz.2
  clear hcs hm' he'' hfv hbd hz hmsg hright ih hv hu hfs hc hce hvals hunk hwr hget hcc' hmr
  generalize f.msgs[mi] = m at *
  have hm2 : (mi : Int) < (f.msgs.length : Int) := by omega
  obtain ⟨T, hT⟩ : ∃ T, x.values.flatMap (valG f k m) ++ x.unknown.flatMap oneB = T := ⟨_, rfl⟩
  rw [hT] at hlen ⊢
  have HT := Lib.hid hT; have Hl := Lib.hid hlen; clear hT hlen
  generalize x.unknown = un at *
  generalize x.values = vs at *
  have HP := Lib.hid (fun W (u : Up w W) => (⟨u.cell_some hcc, u.cell_some hcm, u.cell_some s0, u.cell_some s1, u.cell_some s2, u.cell_some hb0, u.cell_some hb1⟩ : W.cell? ⟨cb, 0, none⟩ = some (.pointer (some ⟨fb, 0, none⟩)) ∧ W.cell? ⟨fb, 0, none⟩ = some (.slice (some ⟨mb, mo, none⟩) f.msgs.length mc) ∧ W.cell? ⟨mb, mo + mi * 3, none⟩ = some (.string ⟨m.name.toArray⟩) ∧ W.cell? ⟨mb, mo + mi * 3 + 1, none⟩ = some (.slice fa m.fields.length fc) ∧ W.cell? ⟨mb, mo + mi * 3 + 2, none⟩ = some (.slice ba m.barred.length bc) ∧ W.cell? ⟨b, o, none⟩ = some (.slice a1 vs.length c1) ∧ W.cell? ⟨b, o + 1, none⟩ = some (.slice a2 un.length c2)))
  have Hfc := Lib.hid (fun n W (u : Up w W) => field_any (.string ⟨m.name.toArray⟩) (.slice fa m.fields.length fc) (.slice ba m.barred.length bc) m.fields n W ⟨_, rfl⟩ ⟨_, _, _, rfl⟩ (Hfs.out.up stable_fld u))
  go_enter Tryz.func37, Tryz.ntmps37
  go_wp2_with fail
  clear hcc hcm s0 s1 s2 hb0 hb1
  go_loopw [8, 26] (fun u i wr => ∃ k1 : Nat, k1 ≤ vs.length ∧ i = .int .i64 k1 ∧ wr.ownsRow w.heap.size 5 1 u ((vs.take k1).flatMap (valG f k m)).length (B8 ((vs.take k1).flatMap (valG f k m))) ∧ Up w wr) (fun _ i _ => vs.length - (intOf i).toNat)
  case atStart => exact ⟨0, by omega, rfl, World.ownsRow_nil _ _ _ _, Up.refl w⟩
  case round =>
    obtain ⟨k1, hk1, rfl, how, hup⟩ := hrel
    have hz1 := hup.size
    by_cases hlt : k1 < vs.length
    · obtain ⟨b1, o1, cs, rfl, _, _, hcs, hd⟩ := Hv.out.at hlt
      obtain ⟨y, hy, hwv⟩ := Hvals.out _ (List.getElem_mem hlt)
      obtain ⟨p1, g1, p2, g2, p3, g3, rfl, hn, hx1, hx2, hx3, zx⟩ := val_cells hd
      have q0 := hcs 0 _ rfl; have q1 := hcs 1 _ rfl; have q2 := hcs 2 _ rfl; have q3 := hcs 3 _ rfl
      simp only [Nat.add_zero] at q0
      obtain ⟨fi, hfi, hix, hyy⟩ : ∃ (fi : Nat) (hfi : fi < m.fields.length), idxP (fun z => z.number == vs[k1].1) m.fields = fi ∧ m.fields[fi] = y := by
        rcases idxP_cases (fun z : Fld => z.number == vs[k1].1) m.fields with ⟨_, h⟩ | ⟨fi, hfi, h1, h2⟩
        · rw [show m.fields.find? (fun z => z.number == vs[k1].1) = some y from hy] at h; cases h
        · rw [show m.fields.find? (fun z => z.number == vs[k1].1) = some y from hy] at h2
          exact ⟨fi, hfi, h1, (Option.some.inj h2).symm⟩
      obtain ⟨fb1, fo1, rfl, hfat⟩ := fld_at Hfs.out hfi
      have hff := field_facts ((msg_field Hmr.out).2.2 fi hfi)
      rw [hyy] at hfat hff
      have hgv : valG f k m vs[k1] = (valRecs (fun s => rawB f k (msgI f y.type) s) y vs[k1]).flatMap oneB := by unfold valG; rw [hy]
      have htk := take_flat (valG f k m) hlt
      have hle0 := flat_le (valG f k m) vs (k1 + 1)
      have hL1 : ((vs.take k1).flatMap (valG f k m) ++ valG f k m vs[k1]).length ≤ 1099511627776 - 8200 := by
        rw [← htk]
        have h1 := Hl.out
        rw [← HT.out, List.length_append] at h1
        omega
      rw [hgv] at hL1
      have k10 : (0 : Int) ≤ (k1 : Int) := by omega
      have k11 : (k1 : Int) < (vs.length : Int) := by omega
      have f10 : (0 : Int) ≤ (fi : Int) := by omega
      have f11 : (fi : Int) < (m.fields.length : Int) := by omega
      generalize vs[k1] = q at *
      generalize (vs.take k1).flatMap (valG f k m) = P1 at *
      have Hvc := Lib.hid (fun W (u : Up w W) u8' (h : W.ownsRow w.heap.size 5 1 u8' P1.length (B8 P1)) => Hval.out y q cb fb fb1 (fo1 + fi * 6) b1 (o1 + k1 * 4) w.heap.size u8' P1 p1 p2 p3 g1 g2 g3 w W u (Nat.le_refl _) Hc.out hfat ⟨q0, q1, q2, q3⟩ hd hff.1 hff.2.1 hwv hff.2.2.2.1 hL1 h u.size)
      have Hf1 := Lib.hid (fun W (u : Up w W) => by have h := Hfc.out q.1 W u; rw [hix] at h; exact h)
      have HQ := Lib.hid (fun W (u : Up w W) => (by have h := HP.out W u; exact ⟨h.1, h.2.1, h.2.2.1, h.2.2.2.1, h.2.2.2.2.1, h.2.2.2.2.2.1, u.cell_some q0⟩ : (W.cell? ⟨cb, 0, none⟩ = some (.pointer (some ⟨fb, 0, none⟩)) ∧ W.cell? ⟨fb, 0, none⟩ = some (.slice (some ⟨mb, mo, none⟩) f.msgs.length mc) ∧ W.cell? ⟨mb, mo + mi * 3, none⟩ = some (.string ⟨m.name.toArray⟩) ∧ W.cell? ⟨mb, mo + mi * 3 + 1, none⟩ = some (.slice (some ⟨fb1, fo1, none⟩) m.fields.length fc) ∧ W.cell? ⟨mb, mo + mi * 3 + 2, none⟩ = some (.slice ba m.barred.length bc) ∧ W.cell? ⟨b, o, none⟩ = some (.slice (some ⟨b1, o1, none⟩) vs.length c1) ∧ W.cell? ⟨b1, o1 + k1 * 4, none⟩ = some (.int .i64 q.1))))
      have Htk := Lib.hid htk; have Hgv := Lib.hid hgv
      clear hd hcs hwv hL1 hle0 hix hyy hy hfat hff htk hgv hn zx q0 q1 q2 q3 hfi
      obtain ⟨wq, rfl⟩ : ∃ wq : World, wq = wr := ⟨_, rfl⟩
      have dd : (wq.drew.cell? ⟨cb, 0, none⟩ = some (.pointer (some ⟨fb, 0, none⟩)) ∧ wq.drew.cell? ⟨fb, 0, none⟩ = some (.slice (some ⟨mb, mo, none⟩) f.msgs.length mc) ∧ wq.drew.cell? ⟨mb, mo + mi * 3, none⟩ = some (.string ⟨m.name.toArray⟩) ∧ wq.drew.cell? ⟨mb, mo + mi * 3 + 1, none⟩ = some (.slice (some ⟨fb1, fo1, none⟩) m.fields.length fc) ∧ wq.drew.cell? ⟨mb, mo + mi * 3 + 2, none⟩ = some (.slice ba m.barred.length bc) ∧ wq.drew.cell? ⟨b, o, none⟩ = some (.slice (some ⟨b1, o1, none⟩) vs.length c1) ∧ wq.drew.cell? ⟨b1, o1 + k1 * 4, none⟩ = some (.int .i64 q.1)) := HQ.out _ hup.drew
      go_upto_region 6 with (fail)
      go_region_held3 (fun w' => (w'.cell? ⟨cb, 0, none⟩ = some (.pointer (some ⟨fb, 0, none⟩)) ∧ w'.cell? ⟨fb, 0, none⟩ = some (.slice (some ⟨mb, mo, none⟩) f.msgs.length mc) ∧ w'.cell? ⟨mb, mo + mi * 3, none⟩ = some (.string ⟨m.name.toArray⟩) ∧ w'.cell? ⟨mb, mo + mi * 3 + 1, none⟩ = some (.slice (some ⟨fb1, fo1, none⟩) m.fields.length fc) ∧ w'.cell? ⟨mb, mo + mi * 3 + 2, none⟩ = some (.slice ba m.barred.length bc) ∧ w'.cell? ⟨b, o, none⟩ = some (.slice (some ⟨b1, o1, none⟩) vs.length c1) ∧ w'.cell? ⟨b1, o1 + k1 * 4, none⟩ = some (.int .i64 q.1)))
        (first | with_reducible exact dd | with_reducible exact HQ.out _ hu6 | with_reducible exact HQ.out _ hu5)
        (first | (go_at_call 43; refine (Hf1.out _ hup.drew).mono ?_; rintro e w5 ⟨rfl, hu5'⟩; have hu5 := hup.drew.trans hu5'; have how5 := how.drew.kept hu5'.to_none (Classical.em _)) | (go_at_call 65; refine (Hvc.out _ hu5 _ how5).mono ?_; rintro e w6 ⟨v6, rfl, how6, hev6⟩; have hu6 := hu5.evo hev6 (fun j hj => (how5.lt j hj).1)))
      all_goals
        clear dd
        go_wp2_with fail
        go_roundw
        case rel => exact ⟨k1 + 1, by omega, by go_num, by rw [Htk.out, Hgv.out]; exact how6, hu6⟩
        case measure => simp [intOf]; omega
    · rw [List.take_of_length_le (show vs.length ≤ k1 by omega)] at how
      generalize vs.flatMap (valG f k m) = L1 at *
      have y6 := (HP.out _ hup).2.2.2.2.2.2
      have How := Lib.hid how; have Hup := Lib.hid hup
      clear how hup hz1
      go_wp2_with fail
      clear y6
      go_loopw [8, 61] (fun u i wr => ∃ k2 : Nat, k2 ≤ un.length ∧ i = .int .i64 k2 ∧ wr.ownsRow w.heap.size 5 1 u (L1 ++ (un.take k2).flatMap oneB).length (B8 (L1 ++ (un.take k2).flatMap oneB)) ∧ Up w wr) (fun _ i _ => un.length - (intOf i).toNat)
      case atStart => exact ⟨0, by omega, rfl, by simpa using How.out, Hup.out⟩
      case round =>
        clear How Hup
        obtain ⟨k2, hk2, rfl, how, hup⟩ := hrel
        have hz1 := hup.size
        by_cases hlt2 : k2 < un.length
        · obtain ⟨b1, o1, cs, rfl, _, _, hcs, hd⟩ := (Hu.out.up stable_recz hup).at hlt2
          obtain ⟨⟨va, hcs', hrb, h64⟩, _⟩ := hd
          subst hcs'
          obtain ⟨a3, c3, rfl, _, _⟩ := hrb.val
          have n0 := hcs 0 _ rfl; have n1 := hcs 1 _ rfl; have n2 := hcs 2 _ rfl; have n3 := hcs 3 _ rfl
          simp only [Nat.add_zero] at n0
          have hwr := Hunk.out _ (List.getElem_mem hlt2)
          have htk := take_flat oneB hlt2
          have hle0 := flat_le oneB un k2
          have hL1 : (L1 ++ (un.take k2).flatMap oneB).length ≤ 1099511627776 - 4100 := by
            have h1 := Hl.out
            rw [← HT.out, List.length_append] at h1
            rw [List.length_append]
            omega
          have k20 : (0 : Int) ≤ (k2 : Int) := by omega
          have k21 : (k2 : Int) < (un.length : Int) := by omega
          generalize un[k2] = r at *
          have Hadd := Lib.hid (fun ob => add_own w.heap.size u8 _ r _ (wr.alloc ob) ((hrb.up stable_u8 ((Up.refl wr).alloc ob)).keep stable_u8 (Keep.weak (fun j hj e => by unfold Lt at hj; have := (how.lt j e).1; omega))) hwr h64 hL1 (how.alloc ob) (by simp; omega))
          have Htk := Lib.hid htk; have Hlt := Lib.hid how.lt
          clear hcs hrb hwr htk hle0 hL1 how h64
          generalize (un.take k2).flatMap oneB = P2 at *
          go_wp2_with (go_at_call 59; go_must (refine (Hadd.out _).mono ?_; rintro e w3 ⟨v3, rfl, how3, hev3⟩))
          go_roundw
          case rel => exact ⟨k2 + 1, by omega, by go_num, by rw [Htk.out, ← List.append_assoc]; exact how3, (hup.alloc _).evo hev3 (fun j hj => (Hlt.out j hj).1)⟩
          case measure => simp [intOf]; omega
        · rw [List.take_of_length_le (show un.length ≤ k2 by omega), HT.out] at how
          go_wp2_with fail
          go_ret
          exact ⟨_, rfl, how, hup⟩
end Go.Proofs.YtbceapeoknngnaaGreatDoor
set_option linter.unusedVariables false
namespace Go.Proofs.YtbceapeoknngnaaGreatDoor
open Go.RowKit
theorem wbody_c (f : Fil) (hright : (wrongN f).1 = 0) : ∀ k d, WBodC k d f
  | 0, d => fun msg x cb fb b o w _ _ _ _ hw _ => by rw [wrongB] at hw; cases hw
  | k + 1, d => wbody_step k d f (wbody_c f hright k) hright
theorem own_base {base base' n size : Nat} {e : TypeId} {w : World} {v : Value} {xs : List Value} (h : w.ownsRow base' e size v n xs) (hb : base ≤ base') : w.ownsRow base e size v n xs := by
  obtain ⟨h1, h2⟩ := h
  refine ⟨h1, ?_⟩
  rcases h2 with h2 | ⟨g, cap, cur, h2, h3, h4⟩
  · exact .inl h2
  · exact .inr ⟨g, cap, cur, h2, Nat.le_trans hb h3, h4⟩
theorem wrongA_parts {f : Fil} {msg : Int} {x : Bod} (h : wrongA f msg x = 0) : (wrongN f).1 = 0 ∧ 0 ≤ msg ∧ msg < f.msgs.length ∧ wrongB f 12 msg x = 0 := by
  unfold wrongA at h
  split at h
  · contradiction
  rename_i h1
  split at h
  · cases h
  · exact ⟨by simpa using h1, by omega, by omega, h⟩
set_option maxRecDepth 100000 in
set_option maxHeartbeats 3200000 in
theorem bytes_c (d : Nat) (v vv vu : Value) (f : Fil) (msg : Int) (x : Bod) (w : World) (hf : FilV All w v f) (hb : DBodF d All w x [vv, vu]) (hT : Tabs w) (hlen : wrongA f msg x = 0 → (rawB f 12 msg x).length ≤ 1099511627776 - 8200) :
    Calls Tryz.prog 13 #[v, .int .i64 msg, .agg #[vv, vu]] w fun e w' => ∃ v', e = .returned (.tuple #[v', .int .i64 (bytesC f msg x).2]) ∧ w'.ownsRow w.heap.size 5 1 v' (bytesC f msg x).1.length (B8 (bytesC f msg x).1) ∧ Up w w' := by
  obtain ⟨vm, ve, rfl, hm, he⟩ := id hf
  obtain ⟨ma, mc, rfl, _, _⟩ := hm.val
  obtain ⟨ea, ec, rfl, _, _⟩ := he.val
  obtain ⟨a1, n1, c1, a2, n2, c2, hbt⟩ := bod_two hb
  simp only [List.cons.injEq, and_true] at hbt
  obtain ⟨rfl, rfl⟩ := hbt
  have Hf := Lib.hid hf; have Hb := Lib.hid hb; have HT := Lib.hid hT; have Hlen := Lib.hid hlen
  clear hf hb hT hm he hlen
  obtain ⟨ANS, hANS⟩ : ∃ ANS, bytesC f msg x = ANS := ⟨_, rfl⟩
  rw [hANS]
  unfold bytesC at hANS
  have HA := Lib.hid hANS
  clear hANS
  have hb0 : ((w.alloc (.cells #[.slice ma f.msgs.length mc, .slice ea f.enums.length ec] 25)).alloc (.cells #[.slice a1 n1 c1, .slice a2 n2 c2] 29)).heap[w.heap.size]? = some (.cells #[.slice ma f.msgs.length mc, .slice ea f.enums.length ec] 25 (0, 0)) := blk_old _ (blk_new w _ rfl)
  have hb1 : ((w.alloc (.cells #[.slice ma f.msgs.length mc, .slice ea f.enums.length ec] 25)).alloc (.cells #[.slice a1 n1 c1, .slice a2 n2 c2] 29)).heap[w.heap.size + 1]? = some (.cells #[.slice a1 n1 c1, .slice a2 n2 c2] 29 (0, 0)) := blk_new (w.alloc _) _ (by simp)
  have hu0 : Up w ((w.alloc (.cells #[.slice ma f.msgs.length mc, .slice ea f.enums.length ec] 25)).alloc (.cells #[.slice a1 n1 c1, .slice a2 n2 c2] 29)) := ((Up.refl w).alloc _).alloc _
  have Hw0 := Lib.hid (fun W (u : Up w W) => wrong_bod d _ _ _ f msg x W (Hf.out.up u) (stable_bod d _ _ _ _ _ _ (Keep.upS u) Hb.out) (HT.out.up u))
  go_enter Tryz.func13, Tryz.ntmps13
  go_upto_region 1 with (fail)
  generalize hw1 : (w.alloc (.cells #[.slice ma f.msgs.length mc, .slice ea f.enums.length ec] 25)).alloc (.cells #[.slice a1 n1 c1, .slice a2 n2 c2] 29) = w1 at *
  clear hw1
  have i0 : w1.cell? ⟨w.heap.size, 0, none⟩ = some (.slice ma f.msgs.length mc) := cell_of_row w1 _ 0 _ _ _ hb0
  have i1 : w1.cell? ⟨w.heap.size, 1, none⟩ = some (.slice ea f.enums.length ec) := cell_of_row w1 _ 1 _ _ _ hb0
  have j0 : w1.cell? ⟨w.heap.size + 1, 0, none⟩ = some (.slice a1 n1 c1) := cell_of_row w1 _ 0 _ _ _ hb1
  have j1 : w1.cell? ⟨w.heap.size + 1, 1, none⟩ = some (.slice a2 n2 c2) := cell_of_row w1 _ 1 _ _ _ hb1
  go_upto_region 2 with (go_at_call 28; go_must (refine (Hw0.out _ hu0).mono ?_; rintro e w2 ⟨rfl, hu2⟩))
  have f0 := hu2.cell_some i0; have f1 := hu2.cell_some i1; have g0 := hu2.cell_some j0; have g1 := hu2.cell_some j1
  have hu02 := hu0.trans hu2
  have Hu02 := Lib.hid hu02
  have r0 : w.heap.size < w2.heap.size := World.block_lt_of_cell? w2 _ f0
  have r1 : w.heap.size + 1 < w2.heap.size := World.block_lt_of_cell? w2 _ g0
  clear i0 i1 j0 j1 hb0 hb1 hu2 hu0 hu02
  have hANS := HA.out
  clear HA
  by_cases hw : wrongA f msg x = 0
  · have hlen := Hlen.out hw
    rw [if_neg (by simpa using hw)] at hANS
    obtain ⟨p1, p2, p3, p4⟩ := wrongA_parts hw
    have Hbod := Lib.hid (fun W cb' (u : Up w2 W) (hcb : W.cell? ⟨cb', 0, none⟩ = some (.pointer (some ⟨w.heap.size, 0, none⟩))) => wbody_c f p1 12 d msg x cb' w.heap.size (w.heap.size + 1) 0 W p2 p3 ⟨hcb, _, _, u.cell_some f0, u.cell_some f1, Hf.out.up (Hu02.out.trans u)⟩ ⟨_, _, u.cell_some g0, u.cell_some g1, stable_bod d _ _ _ _ _ _ (Keep.upS (Hu02.out.trans u)) Hb.out⟩ p4 hlen)
    rw [hw]
    have Hans := Lib.hid hANS
    clear hw hANS p1 p2 p3 p4 Hlen
    generalize rawB f 12 msg x = RB at *
    by_cases hbig : 4000 < RB.length
    · rw [if_pos hbig] at Hans
      have hb2 : (4000 : Int) < (RB.length : Int) := by omega
      clear f0 f1 g0 g1
      go_wp2_with (go_at_call 37; go_must (refine (Hbod.out _ _ ((Up.refl w2).alloc _) (cell_of_row _ _ 0 _ _ _ (blk_new w2 _ rfl))).mono ?_; rintro e w4 ⟨v4, rfl, how4, hu4⟩; obtain ⟨a4, c4, rfl, _, _⟩ := (rdB_of_owns (S := All) how4 (fun _ _ => trivial)).val))
      refine bodyPost_ret (v := .tuple #[.slice none 0 0, .int .i64 4]) (by simp [results, Tryz.results13, go_sem]) rfl ?_
      rw [← Hans.out]
      exact ⟨_, rfl, World.ownsRow_nil _ _ _ _, (Hu02.out.alloc _).trans hu4⟩
    · rw [if_neg hbig] at Hans
      have hb2 : ¬ (4000 : Int) < (RB.length : Int) := by omega
      clear f0 f1 g0 g1
      go_wp2_with (go_at_call 37; go_must (refine (Hbod.out _ _ ((Up.refl w2).alloc _) (cell_of_row _ _ 0 _ _ _ (blk_new w2 _ rfl))).mono ?_; rintro e w4 ⟨v4, rfl, how4, hu4⟩; obtain ⟨a4, c4, rfl, _, _⟩ := (rdB_of_owns (S := All) how4 (fun _ _ => trivial)).val))
      refine bodyPost_ret (v := .tuple #[.slice a4 RB.length c4, .int .i64 0]) (by simp [results, Tryz.results13, go_sem]) rfl ?_
      rw [← Hans.out]
      exact ⟨_, rfl, own_base how4 (by simp; omega), (Hu02.out.alloc _).trans hu4⟩
  · rw [if_pos (by simpa using hw)] at hANS
    have Hans := Lib.hid hANS; clear hANS
    generalize wrongA f msg x = er at *
    have her : (er != 0) = true := by rw [bne_iff_ne]; exact hw
    go_wp2_with fail
    refine bodyPost_ret (v := .tuple #[.slice none 0 0, .int .i64 er]) (by simp [results, Tryz.results13, go_sem]) rfl ?_
    rw [← Hans.out]
    exact ⟨_, rfl, World.ownsRow_nil _ _ _ _, Hu02.out⟩
end Go.Proofs.YtbceapeoknngnaaGreatDoor
set_option linter.unusedVariables false
namespace Go.Proofs.YtbceapeoknngnaaGreatDoor
open Go.RowKit
theorem rds_block {α : Type} {D : Lay α} {size : Nat} {S : Nat → Prop} {W : World} {g : Nat} {cs : Array Value} {t : TypeId} {l : List α} (hb : W.heap[g]? = some (.cells cs t (0, 0))) (hS : S g) (hm : l.length ≤ maxLen) (hd : ∀ i, (hi : i < l.length) → ((cs.toList.drop (i * size)).take size).length = size ∧ D S W l[i] ((cs.toList.drop (i * size)).take size)) :
    RdS D size S W (.slice (some ⟨g, 0, none⟩) l.length l.length) l := by
  refine ⟨some ⟨g, 0, none⟩, l.length, rfl, Nat.le_refl _, hm, (fun h => by cases h), fun i hi => ?_⟩
  obtain ⟨h1, h2⟩ := hd i hi
  refine ⟨g, 0, (cs.toList.drop (i * size)).take size, rfl, hS, lt_of_block hb, h1, fun j u hu => ?_, h2⟩
  have hj : j < size := by have := (List.getElem?_eq_some_iff.1 hu).1; omega
  rw [List.getElem?_take_of_lt hj, List.getElem?_drop, Array.getElem?_toList] at hu
  rw [Nat.zero_add]
  have hj2 := (Array.getElem?_eq_some_iff.1 hu).1
  exact cell_of_row W g (i * size + j) _ _ _ hb |>.trans (by simpa using hu)
end Go.Proofs.YtbceapeoknngnaaGreatDoor
set_option linter.unusedVariables false
namespace Go.Proofs.YtbceapeoknngnaaGreatDoor
inductive PR (α : Type) where
  | ok (a : α) (rest : List UInt8)
  | bad (err : Int) (rest : List UInt8)
deriving DecidableEq
namespace PR
def bind {α β : Type} : PR α → (α → List UInt8 → PR β) → PR β
  | .ok a l, f => f a l
  | .bad e l, _ => .bad e l
@[simp] theorem bind_ok {α β : Type} (a : α) (l : List UInt8) (f : α → List UInt8 → PR β) : (PR.ok a l).bind f = f a l := rfl
@[simp] theorem bind_bad {α β : Type} (e : Int) (l : List UInt8) (f : α → List UInt8 → PR β) : (PR.bad e l : PR α).bind f = .bad e l := rfl
end PR
def skipL : Bool → List UInt8 → List UInt8
  | _, [] => []
  | true, c :: l => if c = 10 then skipL false l else skipL true l
  | false, c :: l => if c = 32 ∨ c = 10 then skipL false l else if c = 47 ∧ l.head? = some 47 then skipL true l else c :: l
abbrev skip (l : List UInt8) : List UInt8 := skipL false l
def letterB (c : UInt8) : Bool := letterN c.toNat
def moreB (c : UInt8) : Bool := moreN c.toNat
def digitB (c : UInt8) : Bool := decide (48 ≤ c.toNat ∧ c.toNat ≤ 57)
def candP : List UInt8 → List UInt8
  | [] => []
  | c :: l => if letterB c then (c :: l).takeWhile moreB else []
def wordP (l : List UInt8) : PR (List UInt8) :=
  if candP (skip l) = [] then .bad 2 (skip l) else if 16 < (candP (skip l)).length then .bad 7 (skip l) else .ok (candP (skip l)) ((skip l).drop (candP (skip l)).length)
def decV (d : List UInt8) : Nat := d.foldl (fun n c => 10 * n + (c.toNat - 48)) 0
def numP (most : Nat) (l : List UInt8) : PR Nat :=
  if (skip l).takeWhile digitB = [] then .bad 2 (skip l)
  else if most < decV ((skip l).takeWhile digitB) ∨ (skip l).head? = some 48 ∧ 1 < ((skip l).takeWhile digitB).length then .bad 3 (skip l)
  else .ok (decV ((skip l).takeWhile digitB)) ((skip l).drop ((skip l).takeWhile digitB).length)
def eatP (c : UInt8) (l : List UInt8) : Bool × List UInt8 := if (skip l).head? = some c then (true, (skip l).tail) else (false, skip l)
def mustP (c : UInt8) (l : List UInt8) : PR Unit := if (eatP c l).1 then .ok () (eatP c l).2 else .bad 2 (eatP c l).2
def kindP (w : List UInt8) : Int × List UInt8 := if 0 ≤ idxP (fun x => w == x) words then (idxP (fun x => w == x) words + 1, []) else (10, w)
def headP (choice : Nat) (l : List UInt8) : PR (Bool × List UInt8) :=
  (wordP l).bind fun w l1 => if w = wRepeated ∧ choice = 0 then (wordP l1).bind fun w2 l2 => .ok (true, w2) l2 else .ok (false, w) l1
def fieldP (choice : Nat) (l : List UInt8) : PR Fld :=
  (headP choice l).bind fun mw l2 => (wordP l2).bind fun nm l3 => (mustP 61 l3).bind fun _ l4 => (numP 536870911 l4).bind fun n l5 =>
  (mustP 59 l5).bind fun _ l6 => .ok ⟨nm, n, (kindP mw.2).1, (kindP mw.2).2, mw.1, choice⟩ l6
def numsP : Nat → List Int → List UInt8 → PR (List Int)
  | 0, _, l => .bad 0 l
  | f + 1, acc, l => if (eatP 44 l).1 then (numP 536870911 (eatP 44 l).2).bind fun n l2 => numsP f (acc ++ [(n : Int)]) l2 else .ok acc (eatP 44 l).2
def choiceP : Nat → Nat → List Fld → List UInt8 → PR (List Fld)
  | 0, _, _, l => .bad 0 l
  | f + 1, c, acc, l => if (eatP 125 l).1 then .ok acc (eatP 125 l).2 else (fieldP c (eatP 125 l).2).bind fun x l2 => choiceP f c (acc ++ [x]) l2
def partP (choice : Nat) (fs : List Fld) (bs : List Int) (l : List UInt8) : PR (Nat × List Fld × List Int) :=
  (wordP l).bind fun w l2 =>
    if w = wReserved then (numP 536870911 l2).bind fun n l3 => (numsP (l3.length + 1) (bs ++ [(n : Int)]) l3).bind fun bs' l4 => (mustP 59 l4).bind fun _ l5 => .ok (choice, fs, bs') l5
    else if w = wOneof then (mustP 123 l2).bind fun _ l3 => (choiceP (l3.length + 1) (choice + 1) fs l3).bind fun fs' l4 => .ok (choice + 1, fs', bs) l4
    else (fieldP 0 l).bind fun x l3 => .ok (choice, fs ++ [x], bs) l3
def messP : Nat → List UInt8 → Nat → List Fld → List Int → List UInt8 → PR Msg
  | 0, _, _, _, _, l => .bad 0 l
  | f + 1, nm, choice, fs, bs, l => if (eatP 125 l).1 then .ok ⟨nm, fs, bs⟩ (eatP 125 l).2 else
    (partP choice fs bs (eatP 125 l).2).bind fun t l6 => if 16 < t.2.1.length ∨ 16 < t.2.2.length then .bad 5 l6 else messP f nm t.1 t.2.1 t.2.2 l6
def messageP (l : List UInt8) : PR Msg := (wordP l).bind fun nm l1 => (mustP 123 l1).bind fun _ l2 => messP (l2.length + 1) nm 0 [] [] l2
def itemP (l : List UInt8) : PR Itm :=
  (wordP l).bind fun nm l2 => (mustP 61 l2).bind fun _ l3 =>
    (if (eatP 45 l3).1 then (numP 2147483648 (eatP 45 l3).2).bind fun n l4 => .ok (-(n : Int)) l4 else (numP 2147483647 (eatP 45 l3).2).bind fun n l4 => .ok (n : Int) l4).bind fun v l5 =>
    (mustP 59 l5).bind fun _ l6 => .ok ⟨nm, v⟩ l6
def itemsP : Nat → List Itm → List UInt8 → PR (List Itm)
  | 0, _, l => .bad 0 l
  | f + 1, acc, l => if (eatP 125 l).1 then .ok acc (eatP 125 l).2 else
    (itemP (eatP 125 l).2).bind fun x l6 => if 16 < (acc ++ [x]).length then .bad 5 l6 else itemsP f (acc ++ [x]) l6
def enumP (l : List UInt8) : PR Enu := (wordP l).bind fun nm l1 => (mustP 123 l1).bind fun _ l2 => (itemsP (l2.length + 1) [] l2).bind fun is l3 => .ok ⟨nm, is⟩ l3
def wMessage : List UInt8 := [109, 101, 115, 115, 97, 103, 101]
def wEnum : List UInt8 := [101, 110, 117, 109]
def topP (F : Fil) (l : List UInt8) : PR Fil :=
  (wordP l).bind fun w l2 =>
    if w = wMessage then (messageP l2).bind fun m l3 => .ok ⟨F.msgs ++ [m], F.enums⟩ l3
    else if w = wEnum then (enumP l2).bind fun e l3 => .ok ⟨F.msgs, F.enums ++ [e]⟩ l3
    else .bad 2 l
def fileP : Nat → Fil → List UInt8 → PR Fil
  | 0, _, l => .bad 0 l
  | f + 1, F, l => if skip l = [] then .ok F [] else
    (topP F (skip l)).bind fun F' l3 => if 10 < F'.msgs.length + F'.enums.length then .bad 5 l3 else fileP f F' l3
def parseS (s : List UInt8) : Fil × Int × Nat :=
  if 3000 < s.length then (⟨[], []⟩, 4, 0) else
  match fileP (s.length + 1) ⟨[], []⟩ s with
  | .ok F _ => (F, 0, 0)
  | .bad e l => (⟨[], []⟩, e, s.length - l.length)
end Go.Proofs.YtbceapeoknngnaaGreatDoor
