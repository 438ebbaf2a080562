/-
  codec.Parse.
  (*writer).body.
  codec.Bytes.
  How long what is read is, written again, in plain Lean.
  What is read, written again, is not too long for the walk; in plain Lean.
-/
import Derived.Test.YtbceapeoknngnaaGreatDoorUs37
set_option linter.unusedVariables false
namespace Go.Proofs.YtbceapeoknngnaaGreatDoor
open Go.RowKit
set_option maxRecDepth 100000
open Lib (hid)
set_option maxHeartbeats 3200000 in
theorem parse_c (v : Value) (f : Fil) (msg : Int) (vb : Value) (l : List UInt8) (w : World) (hf : FilV All w v f) (hr : RdB All w vb l) (hll : l.length ≤ 1099511627776) (hT : Tabs w) :
   Calls Tryz.prog 14 #[v, .int .i64 msg, vb] w fun e w' => ∃ vv vu, e = .returned (.tuple #[.agg #[vv, vu], .int .i64 (parseA f msg l).2]) ∧ DBodF 13 (From w.heap.size) w' (parseA f msg l).1 [vv, vu] ∧ Up w w' := by
 obtain ⟨vm, ve, rfl, hm, he⟩ := id hf; obtain ⟨ma, mc, rfl, _, _⟩ := hm.val; obtain ⟨ea, ec, rfl, _, _⟩ := he.val; obtain ⟨la, lc, rfl, _, _⟩ := hr.val; have Hf := hid hf; have Hr := hid hr; have HT := hid hT; have Hll := hid hll; clear hf hr hT hm he hll; obtain ⟨ANS, hANS⟩ : ∃ ANS, parseA f msg l = ANS := ⟨_, rfl⟩; rw [hANS]; unfold parseA at hANS; have HA := hid hANS; clear hANS; have hb0 : ((w.alloc (.cells #[.slice ma f.msgs.length mc, .slice ea f.enums.length ec] 25)).alloc (.cells #[.slice none 0 0, .slice none 0 0] 29)).heap[w.heap.size]? = some (.cells #[.slice ma f.msgs.length mc, .slice ea f.enums.length ec] 25 (0, 0)) := blk_old _ (blk_new w _ rfl); have hb1 : ((w.alloc (.cells #[.slice ma f.msgs.length mc, .slice ea f.enums.length ec] 25)).alloc (.cells #[.slice none 0 0, .slice none 0 0] 29)).heap[w.heap.size + 1]? = some (.cells #[.slice none 0 0, .slice none 0 0] 29 (0, 0)) := blk_new (w.alloc _) _ (by simp); have hu0 : Up w ((w.alloc (.cells #[.slice ma f.msgs.length mc, .slice ea f.enums.length ec] 25)).alloc (.cells #[.slice none 0 0, .slice none 0 0] 29)) := ((Up.refl w).alloc _).alloc _; have Hw0 := hid (fun W (u : Up w W) => wrong_l _ f W (Hf.out.up u)); obtain ⟨we, hwe⟩ : ∃ we, (wrongN f).1 = we := ⟨_, rfl⟩; rw [hwe] at Hw0; generalize hwa : (wrongN f).2 = wa at *; clear hwa
 go_enter Tryz.func14, Tryz.ntmps14
 go_upto_region 1 with (fail)
 generalize (w.alloc (.cells #[.slice ma f.msgs.length mc, .slice ea f.enums.length ec] 25)).alloc (.cells #[.slice none 0 0, .slice none 0 0] 29) = w1 at *; have i0 : w1.cell? ⟨w.heap.size, 0, none⟩ = some (.slice ma f.msgs.length mc) := cell_of_row w1 _ 0 _ _ _ hb0; have i1 : w1.cell? ⟨w.heap.size, 1, none⟩ = some (.slice ea f.enums.length ec) := cell_of_row w1 _ 1 _ _ _ hb0
 go_upto_region 2 with (go_at_call 38; go_must (refine (Hw0.out _ hu0).mono ?_; rintro e w2 ⟨rfl, hu2⟩))
 have hbX := blk_new w2 (.cells #[.int .i64 we, .int .i64 (wa : Int)] 67) (g := w2.heap.size) rfl; have hu3 := (hu0.trans hu2).alloc (.cells #[.int .i64 we, .int .i64 (wa : Int)] 67); have hb0 := blk_old (.cells #[.int .i64 we, .int .i64 (wa : Int)] 67) (hu2.blk hb0); have hb1' := hu2.blk hb1; (have hXB : w2.heap.size ≠ w.heap.size + 1 := by have := lt_of_block hb1'; omega); have hb1 := blk_old (.cells #[.int .i64 we, .int .i64 (wa : Int)] 67) hb1'; generalize w2.alloc (.cells #[.int .i64 we, .int .i64 (wa : Int)] 67) = w3 at *; generalize w2.heap.size = X at *; have z0 : w3.cell? ⟨w.heap.size + 1, 0, none⟩ = some (.slice none 0 0) := cell_of_row w3 _ 0 _ _ _ hb1; have z1 : w3.cell? ⟨w.heap.size + 1, 1, none⟩ = some (.slice none 0 0) := cell_of_row w3 _ 1 _ _ _ hb1; have zf : ∀ o, w3.frozen? ⟨w.heap.size + 1, o, none⟩ = false := fun o => frozen_of_row w3 _ o _ _ hb1; have zz : w.heap.size + 1 < w3.heap.size := lt_of_block hb1; have x0 : w3.cell? ⟨X, 0, none⟩ = some (.int .i64 we) := cell_of_row w3 _ 0 _ _ _ hbX; have Hu3 := hid hu3; have Hb0 := hid hb0; have Hb1 := hid hb1; clear hbX hu2 hu3 hb0 hb1 hb1' hu0 i0 i1; have hANS := HA.out; clear HA
 by_cases hw : we = 0
 · rw [if_neg (by rw [hwe, hw]; simp)] at hANS; subst hw; have i0 : w3.cell? ⟨w.heap.size, 0, none⟩ = some (.slice ma f.msgs.length mc) := cell_of_row w3 _ 0 _ _ _ Hb0.out; have i1 : w3.cell? ⟨w.heap.size, 1, none⟩ = some (.slice ea f.enums.length ec) := cell_of_row w3 _ 1 _ _ _ Hb0.out
   by_cases hmm : msg < 0 ∨ f.msgs.length ≤ msg
   · rw [if_pos hmm] at hANS; have Hans := hid hANS; clear hANS; (have hc : msg < 0 ∨ (¬ msg < 0 ∧ (f.msgs.length : Int) ≤ msg) := by omega); clear hmm; rcases hc with hc | ⟨hc1, hc2⟩
     all_goals
       (go_wp2_with fail); refine bodyPost_ret (v := .tuple #[.agg #[.slice none 0 0, .slice none 0 0], .int .i64 6]) (by simp [results, Tryz.results14, go_sem, z0, z1]) rfl ?_; rw [← Hans.out]; refine ⟨_, _, rfl, ⟨_, _, rfl, rdS_nil _ _ _ _, rdS_nil _ _ _ _, by simp [bod0, Bod.values], by simp [bod0, Bod.unknown]⟩, ?_⟩; exact Up.setCell (Up.setCell Hu3.out (p := ⟨w.heap.size + 1, 0, none⟩) (Nat.le_succ _) _) (p := ⟨w.heap.size + 1, 1, none⟩) (Nat.le_succ _) _
   · rw [if_neg hmm] at hANS; (have hm0 : 0 ≤ msg := by omega); (have hm1 : msg < f.msgs.length := by omega); (have hc1 : ¬ msg < 0 := by omega); (have hc2 : ¬ (f.msgs.length : Int) ≤ msg := by omega); have Hans := hid hANS; have e1 : (13 : Int) - ((12 : Nat) : Int) = 1 := rfl; have Hbod := hid (fun W C (u : Up w3 W) (hc : W.cell? ⟨C, 0, none⟩ = some (.pointer (some ⟨w.heap.size, 0, none⟩))) => rbody_c f hwe 12 (Nat.le_refl _) msg l (.slice la l.length lc) C w.heap.size W hm0 hm1 ⟨hc, _, _, u.cell_some i0, u.cell_some i1, Hf.out.up (Hu3.out.trans u)⟩ (Hr.out.up stable_u8 (Hu3.out.trans u)) Hll.out (HT.out.up (Hu3.out.trans u))); rw [e1] at Hbod; clear hANS hmm e1; have hC := blk_new w3 (.cells #[.pointer (some ⟨w.heap.size, 0, none⟩)] 94) (g := w3.heap.size) rfl; generalize readC f 12 msg l = RC at *; (go_wp2_with (go_at_call 39; go_must (refine (Hbod.out _ _ ((Up.refl w3).alloc _) (cell_of_row _ _ 0 _ _ _ hC)).mono ?_; rintro e w6 ⟨vv, vu, rfl, hd6, hu6⟩; obtain ⟨s1, n1, c1, s2, n2, c2, hbt⟩ := bod_two hd6; simp only [List.cons.injEq, and_true] at hbt; obtain ⟨rfl, rfl⟩ := hbt; have Hd6 := hid hd6; have Hu6 := hid (((Up.refl w3).alloc _).trans hu6); have hb6 := (((Up.refl w3).alloc _).trans hu6).blk Hb1.out; have y0 : w6.cell? ⟨w.heap.size + 1, 0, none⟩ = some (.slice none 0 0) := cell_of_row w6 _ 0 _ _ _ hb6; have y1 : w6.cell? ⟨w.heap.size + 1, 1, none⟩ = some (.slice none 0 0) := cell_of_row w6 _ 1 _ _ _ hb6; have yf : ∀ o, w6.frozen? ⟨w.heap.size + 1, o, none⟩ = false := (fun o => frozen_of_row w6 _ o _ _ hb6); have yz : w.heap.size + 1 < w6.heap.size := lt_of_block hb6; clear hd6 hu6 hb6 z0 z1 zf x0 i0 i1 hC))); refine bodyPost_ret (v := .tuple #[.agg #[.slice s1 n1 c1, .slice s2 n2 c2], .int .i64 RC.2]) (by simp [results, Tryz.results14, go_sem, y0, y1]) rfl ?_; rw [← Hans.out]; refine ⟨_, _, rfl, ?_, Up.setCell (Up.setCell (Hu3.out.trans Hu6.out) (p := ⟨w.heap.size + 1, 0, none⟩) (Nat.le_succ _) _) (p := ⟨w.heap.size + 1, 1, none⟩) (Nat.le_succ _) _⟩; refine stable_bod 13 _ _ _ _ _ _ ?_ Hd6.out; refine (((Keep.setCell (p := ⟨w.heap.size + 1, 0, none⟩) ?_ _).trans (Keep.setCell (p := ⟨w.heap.size + 1, 1, none⟩) ?_ _)).trans (Keep.weak fun q hq => ?_))
     · show ¬ _ ≤ _; simp; omega
     · show ¬ _ ≤ _; simp; omega
     · have h1 : (w3.alloc (.cells #[.pointer (some ⟨w.heap.size, 0, none⟩)] 94)).heap.size ≤ q := hq; simp at h1; show w.heap.size ≤ q; omega
 · rw [if_pos (by rw [hwe]; exact hw)] at hANS; have Hans := hid hANS; (have hne : (we != 0) = true := by rw [bne_iff_ne]; exact hw); rw [hwe] at Hans; clear hANS hw
   go_upto_region 3 with (fail)
   have dd : w3.drew.cell? ⟨X, 0, none⟩ = some (.int .i64 we) := x0; clear x0
   go_region_held3 (fun w' => w'.cell? ⟨X, 0, none⟩ = some (.int .i64 we))
     (first | with_reducible exact dd | exact Eq.trans (cell_set_ne (w := w3.setCell ⟨w.heap.size + 1, 0, none⟩ (.slice none 0 0)) hXB 1 (.slice none 0 0)) (Eq.trans (cell_set_ne (w := w3) hXB 0 (.slice none 0 0)) dd))
     (fail)
   all_goals
     (go_wp2_with fail); refine bodyPost_ret (v := .tuple #[.agg #[.slice none 0 0, .slice none 0 0], .int .i64 we]) (by simp [results, Tryz.results14, go_sem, z0, z1]) rfl ?_; rw [← Hans.out]; refine ⟨_, _, rfl, ⟨_, _, rfl, rdS_nil _ _ _ _, rdS_nil _ _ _ _, by simp [bod0, Bod.values], by simp [bod0, Bod.unknown]⟩, ?_⟩; exact (Up.setCell (Up.setCell Hu3.out (p := ⟨w.heap.size + 1, 0, none⟩) (Nat.le_succ _) _) (p := ⟨w.heap.size + 1, 1, none⟩) (Nat.le_succ _) _).drew
set_option maxHeartbeats 12800000 in
theorem wbody_step (k d : Nat) (f : Fil) (ih : ∀ d, WBodC k d f) (hright : (wrongN f).1 = 0) : WBodC (k + 1) d f := by
 intro msg x cb fb b o w hm0 hm1 hc hb hwr hlen
 cases d with
 | zero => obtain ⟨_, _, _, _, h⟩ := hb; exact h.elim
 | succ d =>
 obtain ⟨vv, vu, hb0, hb1, hbd⟩ := hb; obtain ⟨a1, c1, a2, c2, rfl, rfl, hv, hu, hz⟩ := bod_cells hbd; obtain ⟨mi, rfl⟩ : ∃ mi : Nat, msg = mi := ⟨msg.toNat, by omega⟩; (have hmi : mi < f.msgs.length := by omega); have hget : f.msgs[(mi : Int).toNat]? = some f.msgs[mi] := by rw [Int.toNat_natCast, List.getElem?_eq_getElem hmi]
 have hmsg : wrongB f (k + 1) (mi : Int) x = wrongBF (wrongVF (wrongB f k) f) f.msgs[mi] x := by
   rw [wrongB, hget]
 rw [hmsg] at hwr; rw [raw_flat hget] at hlen ⊢; have hmr := right_msg hright f.msgs[mi] (List.getElem_mem hmi); have Hval := hid (wvalue_c k d f (ih d)); have hcc' := hc; obtain ⟨hcc, vm, ve, hcm, hce, hfv⟩ := id hc; obtain ⟨vm', ve', he', hm', he''⟩ := id hfv; simp only [Value.agg.injEq, Array.mk.injEq, List.cons.injEq, and_true] at he'; obtain ⟨rfl, rfl⟩ := he'; obtain ⟨ma, mc, rfl, _, _⟩ := hm'.val; obtain ⟨mb, mo, cs, rfl, _, _, hcs, hd⟩ := hm'.at hmi; obtain ⟨vf, vb, hd, hfs, hbs, hnm⟩ := hd; subst hd; obtain ⟨fa, fc, rfl, _, _⟩ := hfs.val; obtain ⟨ba, bc, rfl, _, _⟩ := hbs.val; have s0 := hcs 0 _ rfl; have s1 := hcs 1 _ rfl; have s2 := hcs 2 _ rfl; simp only [Nat.add_zero] at s0
 have hvals : ∀ v ∈ x.values, ∃ y, fldN f.msgs[mi].fields v.1 = some y ∧ wrongVF (wrongB f k) f y v = 0 := by
   refine valsN_ok _ _ _ none [] ?_; unfold wrongBF at hwr; split at hwr
   · contradiction
   · rename_i h; simpa using h
 have hunk : ∀ r ∈ x.unknown, wrongRec r = 0 := by
   unfold wrongBF at hwr; split at hwr
   · contradiction
   · intro r hr; obtain ⟨j, hj, rfl⟩ := List.getElem_of_mem hr; have := firstN_zero _ hwr j (by simpa using hj); rw [List.getElem_map, unkN] at this; split at this
     · contradiction
     · rename_i h; simpa using h
 have Hvals := hid hvals; have Hunk := hid hunk; have Hv := hid hv; have Hu := hid (hu.keep stable_recz Keep.lt); have Hfs := hid hfs; have Hc := hid hcc'; have Hmr := hid hmr; have zv := hz.1; have zu := hz.2; clear hcs hm' he'' hfv hbd hz hmsg hright ih hv hu hfs hc hce hvals hunk hwr hget hcc' hmr; generalize f.msgs[mi] = m at *; (have hm2 : (mi : Int) < (f.msgs.length : Int) := by omega); obtain ⟨T, hT⟩ : ∃ T, x.values.flatMap (valG f k m) ++ x.unknown.flatMap oneB = T := ⟨_, rfl⟩; rw [hT] at hlen ⊢; have HT := hid hT; have Hl := hid hlen; clear hT hlen; generalize x.unknown = un at *; generalize x.values = vs at *; have HP := hid (fun W (u : Up w W) => (⟨u.cell_some hcc, u.cell_some hcm, u.cell_some s0, u.cell_some s1, u.cell_some s2, u.cell_some hb0, u.cell_some hb1⟩ : W.cell? ⟨cb, 0, none⟩ = some (.pointer (some ⟨fb, 0, none⟩)) ∧ W.cell? ⟨fb, 0, none⟩ = some (.slice (some ⟨mb, mo, none⟩) f.msgs.length mc) ∧ W.cell? ⟨mb, mo + mi * 3, none⟩ = some (.string ⟨m.name.toArray⟩) ∧ W.cell? ⟨mb, mo + mi * 3 + 1, none⟩ = some (.slice fa m.fields.length fc) ∧ W.cell? ⟨mb, mo + mi * 3 + 2, none⟩ = some (.slice ba m.barred.length bc) ∧ W.cell? ⟨b, o, none⟩ = some (.slice a1 vs.length c1) ∧ W.cell? ⟨b, o + 1, none⟩ = some (.slice a2 un.length c2))); have Hfc := hid (fun n W (u : Up w W) => field_any (.string ⟨m.name.toArray⟩) (.slice fa m.fields.length fc) (.slice ba m.barred.length bc) m.fields n W ⟨_, rfl⟩ ⟨_, _, _, rfl⟩ (Hfs.out.up stable_fld u))
 go_enter Tryz.func37, Tryz.ntmps37
 (go_wp2_with fail); clear hcc hcm s0 s1 s2 hb0 hb1; (go_loopw [8, 26] (fun u i wr => ∃ k1 : Nat, k1 ≤ vs.length ∧ i = .int .i64 k1 ∧ wr.ownsRow w.heap.size 5 1 u ((vs.take k1).flatMap (valG f k m)).length (B8 ((vs.take k1).flatMap (valG f k m))) ∧ Up w wr) (fun _ i _ => vs.length - (intOf i).toNat)); case atStart => exact ⟨0, by omega, rfl, World.ownsRow_nil _ _ _ _, Up.refl w⟩
 case round =>
   obtain ⟨k1, hk1, rfl, how, hup⟩ := hrel; have hz1 := hup.size
   by_cases hlt : k1 < vs.length
   · obtain ⟨b1, o1, cs, rfl, _, _, hcs, hd⟩ := Hv.out.at hlt; obtain ⟨y, hy, hwv⟩ := Hvals.out _ (List.getElem_mem hlt); obtain ⟨p1, g1, p2, g2, p3, g3, rfl, hn, hx1, hx2, hx3, zx⟩ := val_cells hd; have q0 := hcs 0 _ rfl; have q1 := hcs 1 _ rfl; have q2 := hcs 2 _ rfl; have q3 := hcs 3 _ rfl; simp only [Nat.add_zero] at q0
     obtain ⟨fi, hfi, hix, hyy⟩ : ∃ (fi : Nat) (hfi : fi < m.fields.length), idxP (fun z => z.number == vs[k1].1) m.fields = fi ∧ m.fields[fi] = y := by
       rcases idxP_cases (fun z : Fld => z.number == vs[k1].1) m.fields with ⟨_, h⟩ | ⟨fi, hfi, h1, h2⟩
       · rw [show m.fields.find? (fun z => z.number == vs[k1].1) = some y from hy] at h; cases h
       · rw [show m.fields.find? (fun z => z.number == vs[k1].1) = some y from hy] at h2; exact ⟨fi, hfi, h1, (Option.some.inj h2).symm⟩
     obtain ⟨fb1, fo1, rfl, hfat⟩ := fld_at Hfs.out hfi; have hff := field_facts ((msg_field Hmr.out).2.2 fi hfi); rw [hyy] at hfat hff; (have hgv : valG f k m vs[k1] = (valRecs (fun s => rawB f k (msgI f y.type) s) y vs[k1]).flatMap oneB := by unfold valG; rw [hy]); have htk := take_flat (valG f k m) hlt; have hle0 := flat_le (valG f k m) vs (k1 + 1)
     have hL1 : ((vs.take k1).flatMap (valG f k m) ++ valG f k m vs[k1]).length ≤ 1099511627776 - 8200 := by
       rw [← htk]; have h1 := Hl.out; rw [← HT.out, List.length_append] at h1; omega
     rw [hgv] at hL1; (have k10 : (0 : Int) ≤ (k1 : Int) := by omega); (have k11 : (k1 : Int) < (vs.length : Int) := by omega); (have f10 : (0 : Int) ≤ (fi : Int) := by omega); (have f11 : (fi : Int) < (m.fields.length : Int) := by omega); generalize vs[k1] = q at *; generalize (vs.take k1).flatMap (valG f k m) = P1 at *; have Hvc := hid (fun W (u : Up w W) u8' (h : W.ownsRow w.heap.size 5 1 u8' P1.length (B8 P1)) => Hval.out y q cb fb fb1 (fo1 + fi * 6) b1 (o1 + k1 * 4) w.heap.size u8' P1 p1 p2 p3 g1 g2 g3 w W u (Nat.le_refl _) Hc.out hfat ⟨q0, q1, q2, q3⟩ hd hff.1 hff.2.1 hwv hff.2.2.2.1 hL1 h u.size); have Hf1 := hid (fun W (u : Up w W) => by have h := Hfc.out q.1 W u; rw [hix] at h; exact h); have HQ := hid (fun W (u : Up w W) => (by have h := HP.out W u; exact ⟨h.1, h.2.1, h.2.2.1, h.2.2.2.1, h.2.2.2.2.1, h.2.2.2.2.2.1, u.cell_some q0⟩ : (W.cell? ⟨cb, 0, none⟩ = some (.pointer (some ⟨fb, 0, none⟩)) ∧ W.cell? ⟨fb, 0, none⟩ = some (.slice (some ⟨mb, mo, none⟩) f.msgs.length mc) ∧ W.cell? ⟨mb, mo + mi * 3, none⟩ = some (.string ⟨m.name.toArray⟩) ∧ W.cell? ⟨mb, mo + mi * 3 + 1, none⟩ = some (.slice (some ⟨fb1, fo1, none⟩) m.fields.length fc) ∧ W.cell? ⟨mb, mo + mi * 3 + 2, none⟩ = some (.slice ba m.barred.length bc) ∧ W.cell? ⟨b, o, none⟩ = some (.slice (some ⟨b1, o1, none⟩) vs.length c1) ∧ W.cell? ⟨b1, o1 + k1 * 4, none⟩ = some (.int .i64 q.1)))); have Htk := hid htk; have Hgv := hid hgv; clear hd hcs hwv hL1 hle0 hix hyy hy hfat hff htk hgv hn zx q0 q1 q2 q3 hfi; obtain ⟨wq, rfl⟩ : ∃ wq : World, wq = wr := ⟨_, rfl⟩; have dd : (wq.drew.cell? ⟨cb, 0, none⟩ = some (.pointer (some ⟨fb, 0, none⟩)) ∧ wq.drew.cell? ⟨fb, 0, none⟩ = some (.slice (some ⟨mb, mo, none⟩) f.msgs.length mc) ∧ wq.drew.cell? ⟨mb, mo + mi * 3, none⟩ = some (.string ⟨m.name.toArray⟩) ∧ wq.drew.cell? ⟨mb, mo + mi * 3 + 1, none⟩ = some (.slice (some ⟨fb1, fo1, none⟩) m.fields.length fc) ∧ wq.drew.cell? ⟨mb, mo + mi * 3 + 2, none⟩ = some (.slice ba m.barred.length bc) ∧ wq.drew.cell? ⟨b, o, none⟩ = some (.slice (some ⟨b1, o1, none⟩) vs.length c1) ∧ wq.drew.cell? ⟨b1, o1 + k1 * 4, none⟩ = some (.int .i64 q.1)) := HQ.out _ hup.drew
     go_upto_region 6 with (fail)
     go_region_held3 (fun w' => (w'.cell? ⟨cb, 0, none⟩ = some (.pointer (some ⟨fb, 0, none⟩)) ∧ w'.cell? ⟨fb, 0, none⟩ = some (.slice (some ⟨mb, mo, none⟩) f.msgs.length mc) ∧ w'.cell? ⟨mb, mo + mi * 3, none⟩ = some (.string ⟨m.name.toArray⟩) ∧ w'.cell? ⟨mb, mo + mi * 3 + 1, none⟩ = some (.slice (some ⟨fb1, fo1, none⟩) m.fields.length fc) ∧ w'.cell? ⟨mb, mo + mi * 3 + 2, none⟩ = some (.slice ba m.barred.length bc) ∧ w'.cell? ⟨b, o, none⟩ = some (.slice (some ⟨b1, o1, none⟩) vs.length c1) ∧ w'.cell? ⟨b1, o1 + k1 * 4, none⟩ = some (.int .i64 q.1)))
       (first | with_reducible exact dd | with_reducible exact HQ.out _ hu6 | with_reducible exact HQ.out _ hu5)
       (first | (go_at_call 43; refine (Hf1.out _ hup.drew).mono ?_; rintro e w5 ⟨rfl, hu5'⟩; have hu5 := hup.drew.trans hu5'; have how5 := how.drew.kept hu5'.to_none (Classical.em _)) | (go_at_call 65; refine (Hvc.out _ hu5 _ how5).mono ?_; rintro e w6 ⟨v6, rfl, how6, hev6⟩; have hu6 := hu5.evo hev6 (fun j hj => (how5.lt j hj).1)))
     all_goals
       clear dd; go_wp2_with fail
       go_roundw
       (case rel => exact ⟨k1 + 1, by omega, by go_num, by rw [Htk.out, Hgv.out]; exact how6, hu6⟩); case measure => simp [intOf]; omega
   · rw [List.take_of_length_le (show vs.length ≤ k1 by omega)] at how; generalize vs.flatMap (valG f k m) = L1 at *; have y6 := (HP.out _ hup).2.2.2.2.2.2; have How := hid how; have Hup := hid hup; clear how hup hz1; (go_wp2_with fail); clear y6; (go_loopw [8, 61] (fun u i wr => ∃ k2 : Nat, k2 ≤ un.length ∧ i = .int .i64 k2 ∧ wr.ownsRow w.heap.size 5 1 u (L1 ++ (un.take k2).flatMap oneB).length (B8 (L1 ++ (un.take k2).flatMap oneB)) ∧ Up w wr) (fun _ i _ => un.length - (intOf i).toNat)); case atStart => exact ⟨0, by omega, rfl, by simpa using How.out, Hup.out⟩
     case round =>
       clear How Hup; obtain ⟨k2, hk2, rfl, how, hup⟩ := hrel; have hz1 := hup.size
       by_cases hlt2 : k2 < un.length
       · obtain ⟨b1, o1, cs, rfl, _, _, hcs, hd⟩ := (Hu.out.up stable_recz hup).at hlt2; obtain ⟨⟨va, hcs', hrb, h64⟩, _⟩ := hd; subst hcs'; obtain ⟨a3, c3, rfl, _, _⟩ := hrb.val; have n0 := hcs 0 _ rfl; have n1 := hcs 1 _ rfl; have n2 := hcs 2 _ rfl; have n3 := hcs 3 _ rfl; simp only [Nat.add_zero] at n0; have hwr := Hunk.out _ (List.getElem_mem hlt2); have htk := take_flat oneB hlt2; have hle0 := flat_le oneB un k2
         have hL1 : (L1 ++ (un.take k2).flatMap oneB).length ≤ 1099511627776 - 4100 := by
           have h1 := Hl.out; rw [← HT.out, List.length_append] at h1; rw [List.length_append]; omega
         (have k20 : (0 : Int) ≤ (k2 : Int) := by omega); (have k21 : (k2 : Int) < (un.length : Int) := by omega); generalize un[k2] = r at *; have Hadd := hid (fun ob => add_own w.heap.size u8 _ r _ (wr.alloc ob) ((hrb.up stable_u8 ((Up.refl wr).alloc ob)).keep stable_u8 (Keep.weak (fun j hj e => by unfold Lt at hj; have := (how.lt j e).1; omega))) hwr h64 hL1 (how.alloc ob) (by simp; omega)); have Htk := hid htk; have Hlt := hid how.lt; clear hcs hrb hwr htk hle0 hL1 how h64; generalize (un.take k2).flatMap oneB = P2 at *; go_wp2_with (go_at_call 59; go_must (refine (Hadd.out _).mono ?_; rintro e w3 ⟨v3, rfl, how3, hev3⟩))
         go_roundw
         (case rel => exact ⟨k2 + 1, by omega, by go_num, by rw [Htk.out, ← List.append_assoc]; exact how3, (hup.alloc _).evo hev3 (fun j hj => (Hlt.out j hj).1)⟩); case measure => simp [intOf]; omega
       · rw [List.take_of_length_le (show un.length ≤ k2 by omega), HT.out] at how; go_wp2_with fail
         go_ret
         exact ⟨_, rfl, how, hup⟩
theorem wbody_c (f : Fil) (hright : (wrongN f).1 = 0) : ∀ k d, WBodC k d f
 | 0, d => fun msg x cb fb b o w _ _ _ _ hw _ => by rw [wrongB] at hw; cases hw
 | k + 1, d => wbody_step k d f (wbody_c f hright k) hright
theorem own_base {base base' n size : Nat} {e : TypeId} {w : World} {v : Value} {xs : List Value} (h : w.ownsRow base' e size v n xs) (hb : base ≤ base') : w.ownsRow base e size v n xs := by
 obtain ⟨h1, h2⟩ := h; refine ⟨h1, ?_⟩; rcases h2 with h2 | ⟨g, cap, cur, h2, h3, h4⟩
 · exact .inl h2
 · exact .inr ⟨g, cap, cur, h2, Nat.le_trans hb h3, h4⟩
theorem wrongA_parts {f : Fil} {msg : Int} {x : Bod} (h : wrongA f msg x = 0) : (wrongN f).1 = 0 ∧ 0 ≤ msg ∧ msg < f.msgs.length ∧ wrongB f 12 msg x = 0 := by
 unfold wrongA at h; split at h
 · contradiction
 rename_i h1; split at h
 · cases h
 · exact ⟨by simpa using h1, by omega, by omega, h⟩
set_option maxHeartbeats 3200000 in
theorem bytes_c (d : Nat) (v vv vu : Value) (f : Fil) (msg : Int) (x : Bod) (w : World) (hf : FilV All w v f) (hb : DBodF d All w x [vv, vu]) (hT : Tabs w) (hlen : wrongA f msg x = 0 → (rawB f 12 msg x).length ≤ 1099511627776 - 8200) :
   Calls Tryz.prog 13 #[v, .int .i64 msg, .agg #[vv, vu]] w fun e w' => ∃ v', e = .returned (.tuple #[v', .int .i64 (bytesC f msg x).2]) ∧ w'.ownsRow w.heap.size 5 1 v' (bytesC f msg x).1.length (B8 (bytesC f msg x).1) ∧ Up w w' := by
 obtain ⟨vm, ve, rfl, hm, he⟩ := id hf; obtain ⟨ma, mc, rfl, _, _⟩ := hm.val; obtain ⟨ea, ec, rfl, _, _⟩ := he.val; obtain ⟨a1, n1, c1, a2, n2, c2, hbt⟩ := bod_two hb; simp only [List.cons.injEq, and_true] at hbt; obtain ⟨rfl, rfl⟩ := hbt; have Hf := hid hf; have Hb := hid hb; have HT := hid hT; have Hlen := hid hlen; clear hf hb hT hm he hlen; obtain ⟨ANS, hANS⟩ : ∃ ANS, bytesC f msg x = ANS := ⟨_, rfl⟩; rw [hANS]; unfold bytesC at hANS; have HA := hid hANS; clear hANS; have hb0 : ((w.alloc (.cells #[.slice ma f.msgs.length mc, .slice ea f.enums.length ec] 25)).alloc (.cells #[.slice a1 n1 c1, .slice a2 n2 c2] 29)).heap[w.heap.size]? = some (.cells #[.slice ma f.msgs.length mc, .slice ea f.enums.length ec] 25 (0, 0)) := blk_old _ (blk_new w _ rfl); have hb1 : ((w.alloc (.cells #[.slice ma f.msgs.length mc, .slice ea f.enums.length ec] 25)).alloc (.cells #[.slice a1 n1 c1, .slice a2 n2 c2] 29)).heap[w.heap.size + 1]? = some (.cells #[.slice a1 n1 c1, .slice a2 n2 c2] 29 (0, 0)) := blk_new (w.alloc _) _ (by simp); have hu0 : Up w ((w.alloc (.cells #[.slice ma f.msgs.length mc, .slice ea f.enums.length ec] 25)).alloc (.cells #[.slice a1 n1 c1, .slice a2 n2 c2] 29)) := ((Up.refl w).alloc _).alloc _; have Hw0 := hid (fun W (u : Up w W) => wrong_bod d _ _ _ f msg x W (Hf.out.up u) (stable_bod d _ _ _ _ _ _ (Keep.upS u) Hb.out) (HT.out.up u))
 go_enter Tryz.func13, Tryz.ntmps13
 go_upto_region 1 with (fail)
 generalize hw1 : (w.alloc (.cells #[.slice ma f.msgs.length mc, .slice ea f.enums.length ec] 25)).alloc (.cells #[.slice a1 n1 c1, .slice a2 n2 c2] 29) = w1 at *; clear hw1; have i0 : w1.cell? ⟨w.heap.size, 0, none⟩ = some (.slice ma f.msgs.length mc) := cell_of_row w1 _ 0 _ _ _ hb0; have i1 : w1.cell? ⟨w.heap.size, 1, none⟩ = some (.slice ea f.enums.length ec) := cell_of_row w1 _ 1 _ _ _ hb0; have j0 : w1.cell? ⟨w.heap.size + 1, 0, none⟩ = some (.slice a1 n1 c1) := cell_of_row w1 _ 0 _ _ _ hb1; have j1 : w1.cell? ⟨w.heap.size + 1, 1, none⟩ = some (.slice a2 n2 c2) := cell_of_row w1 _ 1 _ _ _ hb1
 go_upto_region 2 with (go_at_call 28; go_must (refine (Hw0.out _ hu0).mono ?_; rintro e w2 ⟨rfl, hu2⟩))
 have f0 := hu2.cell_some i0; have f1 := hu2.cell_some i1; have g0 := hu2.cell_some j0; have g1 := hu2.cell_some j1; have hu02 := hu0.trans hu2; have Hu02 := hid hu02; have r0 : w.heap.size < w2.heap.size := World.block_lt_of_cell? w2 _ f0; have r1 : w.heap.size + 1 < w2.heap.size := World.block_lt_of_cell? w2 _ g0; clear i0 i1 j0 j1 hb0 hb1 hu2 hu0 hu02; have hANS := HA.out; clear HA
 by_cases hw : wrongA f msg x = 0
 · have hlen := Hlen.out hw; rw [if_neg (by simpa using hw)] at hANS; obtain ⟨p1, p2, p3, p4⟩ := wrongA_parts hw; have Hbod := hid (fun W cb' (u : Up w2 W) (hcb : W.cell? ⟨cb', 0, none⟩ = some (.pointer (some ⟨w.heap.size, 0, none⟩))) => wbody_c f p1 12 d msg x cb' w.heap.size (w.heap.size + 1) 0 W p2 p3 ⟨hcb, _, _, u.cell_some f0, u.cell_some f1, Hf.out.up (Hu02.out.trans u)⟩ ⟨_, _, u.cell_some g0, u.cell_some g1, stable_bod d _ _ _ _ _ _ (Keep.upS (Hu02.out.trans u)) Hb.out⟩ p4 hlen); rw [hw]; have Hans := hid hANS; clear hw hANS p1 p2 p3 p4 Hlen; generalize rawB f 12 msg x = RB at *
   by_cases hbig : 4000 < RB.length
   · rw [if_pos hbig] at Hans; (have hb2 : (4000 : Int) < (RB.length : Int) := by omega); clear f0 f1 g0 g1; (go_wp2_with (go_at_call 37; go_must (refine (Hbod.out _ _ ((Up.refl w2).alloc _) (cell_of_row _ _ 0 _ _ _ (blk_new w2 _ rfl))).mono ?_; rintro e w4 ⟨v4, rfl, how4, hu4⟩; obtain ⟨a4, c4, rfl, _, _⟩ := (rdB_of_owns (S := All) how4 (fun _ _ => trivial)).val))); refine bodyPost_ret (v := .tuple #[.slice none 0 0, .int .i64 4]) (by simp [results, Tryz.results13, go_sem]) rfl ?_; rw [← Hans.out]; exact ⟨_, rfl, World.ownsRow_nil _ _ _ _, (Hu02.out.alloc _).trans hu4⟩
   · rw [if_neg hbig] at Hans; (have hb2 : ¬ (4000 : Int) < (RB.length : Int) := by omega); clear f0 f1 g0 g1; (go_wp2_with (go_at_call 37; go_must (refine (Hbod.out _ _ ((Up.refl w2).alloc _) (cell_of_row _ _ 0 _ _ _ (blk_new w2 _ rfl))).mono ?_; rintro e w4 ⟨v4, rfl, how4, hu4⟩; obtain ⟨a4, c4, rfl, _, _⟩ := (rdB_of_owns (S := All) how4 (fun _ _ => trivial)).val))); refine bodyPost_ret (v := .tuple #[.slice a4 RB.length c4, .int .i64 0]) (by simp [results, Tryz.results13, go_sem]) rfl ?_; rw [← Hans.out]; exact ⟨_, rfl, own_base how4 (by simp; omega), (Hu02.out.alloc _).trans hu4⟩
 · rw [if_pos (by simpa using hw)] at hANS; have Hans := hid hANS; clear hANS; generalize wrongA f msg x = er at *; (have her : (er != 0) = true := by rw [bne_iff_ne]; exact hw); (go_wp2_with fail); refine bodyPost_ret (v := .tuple #[.slice none 0 0, .int .i64 er]) (by simp [results, Tryz.results13, go_sem]) rfl ?_; rw [← Hans.out]; exact ⟨_, rfl, World.ownsRow_nil _ _ _ _, Hu02.out⟩
end Go.Proofs.YtbceapeoknngnaaGreatDoor
namespace Go.Proofs.YtbceapeoknngnaaGreatDoor
open Go.RowKit
def wgtV (wb : Bod → Nat) (v : Val) : Nat := 25 * v.2.1.length + ((v.2.2.1.map fun t => t.length + 25).sum + (v.2.2.2.map fun s => wb s + 25).sum)
def wgtU (l : List Rec) : Nat := (l.map fun r => r.bytes.length + 25).sum
def wgt : Nat → Bod → Nat
 | 0, _ => 0
 | k + 1, b => (b.values.map (wgtV (wgt k))).sum + wgtU b.unknown
theorem sum_append (l r : List Nat) : (l ++ r).sum = l.sum + r.sum := by
 induction l with
 | nil => simp
 | cons a l ih => simp only [List.cons_append, List.sum_cons, ih]; omega
theorem sum_mem (g : Val → Nat) {l : List Val} {v : Val} (h : v ∈ l) : g v ≤ (l.map g).sum := by
 induction l with
 | nil => cases h
 | cons a l ih =>
   rw [List.map_cons, List.sum_cons]; rcases List.mem_cons.1 h with rfl | h
   · omega
   · have := ih h; omega
theorem wgt_zero (k : Nat) : wgt k bod0 = 0 := by cases k <;> rfl
end Go.Proofs.YtbceapeoknngnaaGreatDoor
namespace Go.Proofs.YtbceapeoknngnaaGreatDoor
open Go.RowKit Go.Lib
theorem uv10 {n : Nat} (h : n < 18446744073709551616) : (uvarint n).length ≤ 10 := uvarint_length64 h
theorem howC_three {k : Int} (h : howC k ≠ 2) : howC k = 0 ∨ howC k = 1 ∨ howC k = 5 := by
 unfold howC at h ⊢; split
 · exact .inr (.inl rfl)
 · rename_i h6; rw [if_neg h6] at h; split
   · exact .inr (.inr rfl)
   · rename_i h7; rw [if_neg h7] at h; split
     · rename_i h8; rw [if_pos h8] at h; exact absurd rfl h
     · exact .inl rfl
theorem sum_25 : ∀ l : List Nat, (l.map fun _ => 25).sum = 25 * l.length
 | [] => rfl
 | a :: l => by rw [List.map_cons, List.sum_cons, sum_25 l, List.length_cons]; omega
theorem sized_len {num : Int} {t : List UInt8} (n1 : 1 ≤ num) (n2 : num < 536870912) (h : t.length < 18446744073709551616) : (oneB ⟨num, 2, 0, t⟩).length ≤ t.length + 15 := by
 have h1 := tagB_length num.toNat (2 : Int).toNat (by omega) (by decide); have h2 := uv10 h; unfold oneB; show (tagB num.toNat (2 : Int).toNat ++ (if (2 : Int) = 0 then _ else if (2 : Int) = 1 then _ else if (2 : Int) = 5 then _ else uvarint t.length ++ t)).length ≤ _; rw [if_neg (by decide), if_neg (by decide), if_neg (by decide), List.length_append, List.length_append]; show (tagB num.toNat (2 : Int).toNat).length + ((uvarint t.length).length + t.length) ≤ _; omega
theorem num_len {k : Int} {num : Int} {n : Nat} (n1 : 1 ≤ num) (n2 : num < 536870912) (hk : howC k ≠ 2) (h : n < 18446744073709551616) : (oneB ⟨num, howC k, n, []⟩).length ≤ 15 := by
 have hh := howC_three hk; unfold oneB; show (tagB num.toNat (howC k).toNat ++ if howC k = 0 then uvarint n else if howC k = 1 then lowB 8 n else if howC k = 5 then lowB 4 n else _).length ≤ 15; rw [List.length_append]; have h2 := uv10 h; rcases hh with e | e | e
 · rw [e, if_pos rfl]; have h1 := tagB_length num.toNat (0 : Int).toNat (by omega) (by decide); omega
 · rw [e, if_neg (by decide), if_pos rfl, lowB_length]; have h1 := tagB_length num.toNat (1 : Int).toNat (by omega) (by decide); omega
 · rw [e, if_neg (by decide), if_neg (by decide), if_pos rfl, lowB_length]; have h1 := tagB_length num.toNat (5 : Int).toNat (by omega) (by decide); omega
theorem flat_sum {α : Type} (g : α → List UInt8) (h : α → Nat) : ∀ (l : List α), (∀ a ∈ l, (g a).length ≤ h a) → (l.flatMap g).length ≤ (l.map h).sum
 | [], _ => Nat.le_refl _
 | a :: l, hl => by
   rw [List.flatMap_cons, List.length_append, List.map_cons, List.sum_cons]; have h1 := hl a List.mem_cons_self; have h2 := flat_sum g h l (fun b hb => hl b (List.mem_cons_of_mem _ hb)); omega
theorem pack_len {k : Int} (hk : howC k ≠ 2) : ∀ (l : List Nat), (∀ n ∈ l, n < 18446744073709551616) → (packC k l).length ≤ 10 * l.length
 | [], _ => Nat.le_refl _
 | n :: l, h => by
   have e : packC k (n :: l) = (oneB ⟨1, howC k, toldC k n, []⟩).drop 1 ++ packC k l := rfl; have hh := howC_three hk; have h10 := uv10 (told_64 (k := k) (h n List.mem_cons_self))
   have h1 : ((oneB ⟨1, howC k, toldC k n, []⟩).drop 1).length ≤ 10 := by
     rw [drop_tag _ _ hh]; split
     · exact h10
     · split
       · rw [lowB_length]; decide
       · rw [lowB_length]; decide
   rw [e, List.length_append, List.length_cons]; have h2 := pack_len hk l (fun b hb => h b (List.mem_cons_of_mem _ hb)); omega
theorem sum_memB (g : Bod → Nat) {l : List Bod} {v : Bod} (h : v ∈ l) : g v ≤ (l.map g).sum := by
 induction l with
 | nil => cases h
 | cons a l ih =>
   rw [List.map_cons, List.sum_cons]; rcases List.mem_cons.1 h with rfl | h
   · omega
   · have := ih h; omega
theorem val_wgt {wb : Int → Bod → Int} {f : Fil} {x : Fld} {v : Val} {sub : Bod → List UInt8} {ws : Bod → Nat} (n1 : 1 ≤ x.number) (n2 : x.number < 536870912) (ht : typedN f x = 0) (hv : FitV wb f x v) (h60 : (countN x.kind v).1 ≤ 60) (h64 : Num64 v) (hs : ∀ s ∈ v.2.2.2, (sub s).length ≤ ws s) (hz : wgtV ws v < 18446744073709551616) :
   ((valRecs sub x v).flatMap oneB).length ≤ wgtV ws v := by
 obtain ⟨t1, t2, _, _⟩ := typed_facts ht; have hcnt := count_sum hv.cnt; have hone := hv.one; have hsh := fit_shape hv t1 t2; have htx := hv.texts; obtain ⟨n, b, y, s⟩ := v; simp only at h64 hs hsh htx hcnt; rcases hsh with ⟨g, g7, e, hne, hal⟩ | ⟨g, g8, e, hne, hal⟩ | ⟨g, g8, e, hne, hal⟩
 · simp only [Prod.mk.injEq, true_and] at e; obtain ⟨rfl, rfl⟩ := e; have ew : wgtV ws (n, b, [], []) = 25 * b.length := rfl; rw [ew] at hz ⊢; have hb1 : 1 ≤ b.length := List.length_pos_iff.2 hne
   cases hm : x.many with
   | true =>
     (have e2 : valRecs sub x (n, b, [], []) = [⟨x.number, 2, 0, packC x.kind b⟩] := by unfold valRecs; rw [if_pos ⟨hm, g⟩]); rw [e2, List.flatMap_cons, List.flatMap_nil, List.append_nil]; have h1 := pack_len g b h64; have h2 := sized_len (t := packC x.kind b) n1 n2 (by omega); omega
   | false =>
     (have e2 : valRecs sub x (n, b, [], []) = b.map fun q => ⟨x.number, howC x.kind, toldC x.kind q, []⟩ := by unfold valRecs; rw [if_neg (by rw [hm]; simp)]; simp); rw [e2, List.flatMap_map]; have := flat_sum (fun q => oneB ⟨x.number, howC x.kind, toldC x.kind q, []⟩) (fun _ => 25) b (fun q hq => Nat.le_trans (num_len n1 n2 g (told_64 (h64 q hq))) (by omega)); rw [sum_25] at this; omega
 · simp only [Prod.mk.injEq, true_and] at e; obtain ⟨rfl, rfl⟩ := e; (have e2 : valRecs sub x (n, [], y, []) = y.map fun t => ⟨x.number, 2, 0, t⟩ := by unfold valRecs; rw [if_neg (by rintro ⟨_, h⟩; exact h g)]; simp); have ew : wgtV ws (n, [], y, []) = 25 * 0 + ((y.map fun t => t.length + 25).sum + 0) := rfl; rw [e2, List.flatMap_map]
   have := flat_sum (fun t => oneB ⟨x.number, 2, 0, t⟩) (fun t => t.length + 25) y (fun t ht => by
     have h4 : t.length ≤ 4000 := by
       have := htx t ht; unfold byteN at this; split at this
       · cases this
       · omega
     have := sized_len (t := t) n1 n2 (by omega); omega)
   rw [ew]; omega
 · simp only [Prod.mk.injEq, true_and] at e; obtain ⟨rfl, rfl, _⟩ := e; (have e2 : valRecs sub x (n, [], [], s) = s.map fun t => ⟨x.number, 2, 0, sub t⟩ := by unfold valRecs; rw [if_neg (by rintro ⟨_, h⟩; exact h g)]; simp); have ew : wgtV ws (n, [], [], s) = 25 * 0 + (0 + (s.map fun t => ws t + 25).sum) := rfl; rw [ew] at hz ⊢; rw [e2, List.flatMap_map]; have hsm : ∀ t ∈ s, ws t + 25 ≤ (s.map fun t => ws t + 25).sum := fun t ht => sum_memB (fun t => ws t + 25) ht
   have := flat_sum (fun t => oneB ⟨x.number, 2, 0, sub t⟩) (fun t => ws t + 25) s (fun t ht => by
     have h1 := hs t ht; have h2 := hsm t ht; have := sized_len (t := sub t) n1 n2 (by omega); omega)
   omega
theorem raw_wgt {f : Fil} (hright : (wrongN f).1 = 0) : ∀ (k : Nat) (msg : Int) (b : Bod), wrongB f k msg b = 0 → B64 k b → wgt k b < 18446744073709551616 → (rawB f k msg b).length ≤ wgt k b
 | 0, _, _, h, _, _ => by cases h
 | k + 1, msg, b, h, h64, hz => by
   obtain ⟨k', m, e, hm, hb'⟩ := wrongB_zero h; (obtain rfl : k = k' := by omega); have hmr := right_msg hright m (List.mem_of_getElem? hm); have hch : ∀ z ∈ m.fields, 0 ≤ z.choice := fun z hz => (choice_16 hmr hz).1; obtain ⟨hA, uA⟩ := (wrongB_is (k := k) hm hch b).1 h; rw [raw_flat hm, List.length_append]; have ew : wgt (k + 1) b = (b.values.map (wgtV (wgt k))).sum + wgtU b.unknown := rfl; rw [ew] at hz ⊢
   have h1 := flat_sum (valG f k m) (wgtV (wgt k)) b.values (fun v hv => by
     obtain ⟨x, hx, hw⟩ := hA.fld v hv; obtain ⟨hxm, hxn⟩ := fldN_mem hx; obtain ⟨i, hi, e⟩ := List.getElem_of_mem hxm; have hff := field_facts ((msg_field hmr).2.2 i hi); rw [e] at hff; obtain ⟨g1, g2, g3⟩ := wrongVF_iff.1 hw; have hle := sum_mem (wgtV (wgt k)) hv; unfold valG; rw [hx]; simp only; refine val_wgt hff.1 hff.2.1 hff.2.2.2.1 g1 g2 (h64.1 v hv).1 (fun s hs => ?_) (by omega)
     have hws : wgt k s ≤ wgtV (wgt k) v := by
       unfold wgtV; have : wgt k s + 25 ≤ (v.2.2.2.map fun s => wgt k s + 25).sum := sum_memB (fun s => wgt k s + 25) hs; omega
     exact raw_wgt hright k _ s (g1.subs s hs) ((h64.1 v hv).2 s hs) (by omega))
   have h2 := flat_sum oneB (fun r => r.bytes.length + 25) b.unknown (fun r hr => by
     have hu := uA r hr
     have hr0 : wrongRec r = 0 := by
       unfold unkN at hu; apply Classical.byContradiction; intro g; rw [if_pos g] at hu; exact g hu
     obtain ⟨r1, r2, r3, r4, r5⟩ := wrongRec_ok hr0; have h64r := h64.2 r hr; obtain ⟨number, how, bits, bytes⟩ := r; simp only at r1 r2 r3 r4 r5 h64r ⊢; rcases r5 with ⟨rfl, rfl, h4⟩ | ⟨hn, rfl⟩
     · have := sized_len (t := bytes) r1 r2 (by omega); omega
     · have e : (oneB ⟨number, how, bits, []⟩).length ≤ 15 := by
         unfold oneB; show (tagB number.toNat how.toNat ++ if how = 0 then uvarint bits else if how = 1 then lowB 8 bits else if how = 5 then lowB 4 bits else _).length ≤ 15; rw [List.length_append]; have h2 := uv10 h64r; rcases r3 with e | e | e | e
         · rw [e, if_pos rfl]; have h1 := tagB_length number.toNat (0 : Int).toNat (by omega) (by decide); omega
         · rw [e, if_neg (by decide), if_pos rfl, lowB_length]; have h1 := tagB_length number.toNat (1 : Int).toNat (by omega) (by decide); omega
         · rw [e, if_neg (by decide), if_neg (by decide), if_pos rfl, lowB_length]; have h1 := tagB_length number.toNat (5 : Int).toNat (by omega) (by decide); omega
         · exact absurd e hn
       simp only [List.length_nil]; omega)
   have e3 : wgtU b.unknown = (b.unknown.map fun r => r.bytes.length + 25).sum := rfl; omega
end Go.Proofs.YtbceapeoknngnaaGreatDoor
