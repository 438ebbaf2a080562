/-
  The document's parser: Message.
-/
import Derived.Test.YtbceapeoknngnaaDoorSy34
import Derived.Test.YtbceapeoknngnaaDoorSy22
import Derived.Deep.RegionWith
set_option linter.unusedVariables false
namespace Go.Proofs.YtbceapeoknngnaaDoor
open Go.RowKit
set_option maxRecDepth 100000
structure RM (g : Nat) (s : ByteArray) (w : World) (R M : Nat) (nm : List UInt8) (fs : List Fld) (bs : List Int) (vf vb : Value) (st : WSt) (wi : World) : Prop where
 pw : RAt g s st wi
 gr : Gr g w wi
 of : OwnS DFld (M + 1) 58 6 No wi vf fs
 ob : OwnS DInt (M + 1) 3 1 No wi vb bs
 dis : ∀ j, vf.ownBlock = some j → vb.ownBlock ≠ some j
 m : wi.heap[M]? = some (.cells #[.string ⟨nm.toArray⟩, vf, vb] 46 (0, 0))
 r : wi.heap[R]? = some (.cells #[.string ⟨#[]⟩, .slice none 0 0, .slice none 0 0] 46 (0, 0))
section
variable {g : Nat} {s : ByteArray} {w : World} {R M : Nat} {nm : List UInt8} {fs : List Fld} {bs : List Int} {vf vb : Value} {st : WSt} {wi : World}
theorem RM.step (h : RM g s w R M nm fs bs vf vb st wi) {wj : World} {st' : WSt} (hg : Gr g wi wj) (hp : RAt g s st' wj) (hR : g < R) (hM : R < M) : RM g s w R M nm fs bs vf vb st' wj :=
 ⟨hp, h.gr.trans hg, h.of.gr stable_fld hg (by omega) id, h.ob.gr stable_int hg (by omega) id, h.dis, hg.blk h.m (by omega), hg.blk h.r (by omega)⟩
theorem RM.up (h : RM g s w R M nm fs bs vf vb st wi) {wj : World} (hu : Up wi wj) : RM g s w R M nm fs bs vf vb st wj := ⟨h.pw.up hu, h.gr.up hu, h.of.up stable_fld hu, h.ob.up stable_int hu, h.dis, hu.blk h.m, hu.blk h.r⟩
theorem RM.snocF (h : RM g s w R M nm fs bs vf vb st wi) {wj : World} {v' : Value} {x : Fld} {xs : List Value} (hxs : wi.ownsRow (M + 1) 58 6 vf fs.length xs) (how : wj.ownsRow (M + 1) 58 6 v' (fs.length + 1) (xs ++ [.string ⟨x.name.toArray⟩, .int .i64 x.number, .int .i64 x.kind, .string ⟨x.type.toArray⟩, .bool x.many, .int .i64 x.choice])) (hev : Evo wi wj vf v') (hx : okI x.number ∧ okI x.kind ∧ okI x.choice ∧ okS x.name ∧ okS x.type) (hR : g < R) (hM : R < M) (hw : w.heap.size ≤ R) :
   RM g s w R M nm (fs ++ [x]) bs v' vb st (wj.setCell ⟨M, 1, none⟩ v') := by
 have hlo := h.of.lo; have hn : ∀ b, b ≤ M → vf.ownBlock ≠ some b := fun b hb e => by have := (hlo b e).1; omega
 have hn' : v'.ownBlock ≠ some M := fun e => by
   rcases hev.place _ e with h1 | h1
   · exact hn M (Nat.le_refl _) h1
   · have := lt_of_block h.m; omega
 (have hb' : vb.ownBlock ≠ some M := fun e => by have := (h.ob.lo _ e).1; omega); have he := hev.blk h.m (hn M (Nat.le_refl _)); have hgr := gr_evo h.gr hev (fun j e => by have := (hlo j e).1; omega); have hob := own_evo pure_int h.ob hev (fun j e e2 => h.dis j e2 e); refine ⟨RAt.other (h.pw.evo hev (hn g (by omega))) (show M ≠ g by omega) v', hgr.setNew (show w.heap.size ≤ M by omega) v', ?_, OwnS.setCell stable_int (p := ⟨M, 1, none⟩) hob hb' id v', ?_, heap_setCell_same wj M 1 _ _ v' he, (Below.heap_setCell wj ⟨M, 1, none⟩ v' R (show R ≠ M by omega)).trans (hev.blk h.r (hn R (by omega)))⟩
 · exact OwnS.setCell stable_fld (p := ⟨M, 1, none⟩) (OwnS.snoc stable_fld h.of hxs how hev rfl ⟨rfl, hx⟩) hn' id v'
 · intro j e e2; rcases hev.place j e with h1 | h1
   · exact h.dis j h1 e2
   · have := (h.ob.lo j e2).2; omega
theorem RM.snocB (h : RM g s w R M nm fs bs vf vb st wi) {wj : World} {v' : Value} {n : Int} {xs : List Value} (hxs : wi.ownsRow (M + 1) 3 1 vb bs.length xs) (how : wj.ownsRow (M + 1) 3 1 v' (bs.length + 1) (xs ++ [.int .i64 n])) (hev : Evo wi wj vb v') (hx : okI n) (hR : g < R) (hM : R < M) (hw : w.heap.size ≤ R) :
   RM g s w R M nm fs (bs ++ [n]) vf v' st (wj.setCell ⟨M, 2, none⟩ v') := by
 have hlo := h.ob.lo; have hn : ∀ b, b ≤ M → vb.ownBlock ≠ some b := fun b hb e => by have := (hlo b e).1; omega
 have hn' : v'.ownBlock ≠ some M := fun e => by
   rcases hev.place _ e with h1 | h1
   · exact hn M (Nat.le_refl _) h1
   · have := lt_of_block h.m; omega
 (have hf' : vf.ownBlock ≠ some M := fun e => by have := (h.of.lo _ e).1; omega); have he := hev.blk h.m (hn M (Nat.le_refl _)); have hgr := gr_evo h.gr hev (fun j e => by have := (hlo j e).1; omega); have hof := own_evo pure_fld h.of hev (fun j e e2 => h.dis j e e2); refine ⟨RAt.other (h.pw.evo hev (hn g (by omega))) (show M ≠ g by omega) v', hgr.setNew (show w.heap.size ≤ M by omega) v', OwnS.setCell stable_fld (p := ⟨M, 2, none⟩) hof hf' id v', ?_, ?_, heap_setCell_same wj M 2 _ _ v' he, (Below.heap_setCell wj ⟨M, 2, none⟩ v' R (show R ≠ M by omega)).trans (hev.blk h.r (hn R (by omega)))⟩
 · exact OwnS.setCell stable_int (p := ⟨M, 2, none⟩) (OwnS.snoc stable_int h.ob hxs how hev rfl ⟨rfl, hx⟩) hn' id v'
 · intro j e e2; rcases hev.place j e2 with h1 | h1
   · exact h.dis j e h1
   · have := (h.of.lo j e).2; omega
theorem RM.fin (h : RM g s w R M nm fs bs vf vb st wi) (hw : w.heap.size = R) (hR : g < R) (hM : R < M) :
   RdS DFld 6 (fun b => w.heap.size ≤ b) (((wi.setCell ⟨R, 0, none⟩ (.string ⟨nm.toArray⟩)).setCell ⟨R, 1, none⟩ vf).setCell ⟨R, 2, none⟩ vb) vf fs ∧ RdS DInt 1 (fun b => w.heap.size ≤ b) (((wi.setCell ⟨R, 0, none⟩ (.string ⟨nm.toArray⟩)).setCell ⟨R, 1, none⟩ vf).setCell ⟨R, 2, none⟩ vb) vb bs ∧
     RAt g s st (((wi.setCell ⟨R, 0, none⟩ (.string ⟨nm.toArray⟩)).setCell ⟨R, 1, none⟩ vf).setCell ⟨R, 2, none⟩ vb) ∧ Gr g w (((wi.setCell ⟨R, 0, none⟩ (.string ⟨nm.toArray⟩)).setCell ⟨R, 1, none⟩ vf).setCell ⟨R, 2, none⟩ vb) := by
 (have hf : ∀ o, vf.ownBlock ≠ some (Addr.block ⟨R, o, none⟩) := fun o e => by have := (h.of.lo _ e).1; simp only at this; omega); (have hb : ∀ o, vb.ownBlock ≠ some (Addr.block ⟨R, o, none⟩) := fun o e => by have := (h.ob.lo _ e).1; simp only at this; omega); have h1 := OwnS.setCell stable_fld (p := ⟨R, 2, none⟩) (OwnS.setCell stable_fld (p := ⟨R, 1, none⟩) (OwnS.setCell stable_fld (p := ⟨R, 0, none⟩) h.of (hf 0) id (.string ⟨nm.toArray⟩)) (hf 1) id vf) (hf 2) id vb; have h2 := OwnS.setCell stable_int (p := ⟨R, 2, none⟩) (OwnS.setCell stable_int (p := ⟨R, 1, none⟩) (OwnS.setCell stable_int (p := ⟨R, 0, none⟩) h.ob (hb 0) id (.string ⟨nm.toArray⟩)) (hb 1) id vf) (hb 2) id vb
 exact ⟨h1.rd stable_fld (fun _ h => h.elim) (fun j hj => by have := (h1.lo j hj).1; omega), h2.rd stable_int (fun _ h => h.elim) (fun j hj => by have := (h2.lo j hj).1; omega),
   ((h.pw.other (show R ≠ g by omega) _).other (show R ≠ g by omega) _).other (show R ≠ g by omega) _,
   ((h.gr.setNew (show w.heap.size ≤ R by omega) _).setNew (show w.heap.size ≤ R by omega) _).setNew (show w.heap.size ≤ R by omega) _⟩
end
theorem nums_stepRf {f : Nat} {acc : List Int} {st : WSt} (hf : st.e = 0 → st.l.length < f) : numsRf f acc st = if (eatRf 44 st).1 = true then numsRf (f - 1) (acc ++ [((numRf 536870911 (eatRf 44 st).2).1 : Int)]) (numRf 536870911 (eatRf 44 st).2).2 else (acc, (eatRf 44 st).2) := by
 cases f with
 | zero =>
   (have he : st.e ≠ 0 := fun h => by have := hf h; omega); rw [eat_noRf he]; rfl
 | succ f => rw [numsRf]; rfl
theorem choice_stepRf {f c : Nat} {acc : List Fld} {st : WSt} (hf : st.e = 0 → st.l.length < f) : choiceRf f c acc st = if (moreRf st).1 = true then choiceRf (f - 1) c (acc ++ [(fieldRf (wordRf (moreRf st).2).1 c (wordRf (moreRf st).2).2).1]) (fieldRf (wordRf (moreRf st).2).1 c (wordRf (moreRf st).2).2).2 else (acc, (moreRf st).2) := by
 cases f with
 | zero =>
   (have he : st.e ≠ 0 := fun h => by have := hf h; omega); rw [more_noRf he]; rfl
 | succ f => rw [choiceRf]; rfl
theorem sum_step {a l b m m' B : Nat} (h : a + l + b + m ≤ B) (k : m' < m) : a + (l + 1) + b + m' ≤ B := by omega
theorem sum_step3 {a l b m m' B : Nat} (h : a + b + l + m ≤ B) (k : m' < m) : a + b + (l + 1) + m' ≤ B := by omega
theorem lt_pred {a b f : Nat} (h : a < b) (k : b < f) : a < f - 1 := by omega
theorem fldOkRf {s : ByteArray} {w : List UInt8} {c : Nat} {st : WSt} (hs : s.size ≤ 1000000) (hw : w.length ≤ s.size) (hl : st.l.length ≤ s.size) (hc : c ≤ 1000100) : okI (fieldRf w c st).1.number ∧ okI (fieldRf w c st).1.kind ∧ okI (fieldRf w c st).1.choice ∧ okS (fieldRf w c st).1.name ∧ okS (fieldRf w c st).1.type := by
 obtain ⟨a1, a2, a3, a4, a5, a6, a7⟩ := field_bd w c st; refine ⟨⟨by omega, by omega⟩, ⟨by omega, by omega⟩, ⟨by omega, by omega⟩, by unfold okS; omega, by unfold okS; rcases a6 with a6 | a6 <;> omega⟩
theorem field_wx {g : Nat} {s : ByteArray} {st st' : WSt} {wd : List UInt8} {c : Nat} {X : Fld} (w : World) (hz0 : s.size ≤ 4611686018427387904) (hX : fieldRf wd c st = (X, st')) (h : RAt g s st w) :
   Calls Tryd.prog 40 #[.pointer (some ⟨g, 0, none⟩), .string ⟨wd.toArray⟩, .int .i64 (c : Int)] w (REnd g s w (.agg #[.string ⟨X.name.toArray⟩, .int .i64 X.number, .int .i64 X.kind, .string ⟨X.type.toArray⟩, .bool X.many, .int .i64 X.choice]) st') := by
 have h := field_w g s st wd c w hz0 h; rw [hX] at h; exact h
set_option maxHeartbeats 12800000 in
theorem message_wk (g : Nat) (s : ByteArray) (st : WSt) (w : World) (hz0 : s.size ≤ 1000000) (h : RAt g s st w) :
   Calls Tryd.prog 22 #[.pointer (some ⟨g, 0, none⟩)] w fun e w' => ∃ vf vb, e = .returned (.agg #[.string ⟨(messageRf st).1.name.toArray⟩, vf, vb]) ∧ RdS DFld 6 (fun b => w.heap.size ≤ b) w' vf (messageRf st).1.fields ∧ RdS DInt 1 (fun b => w.heap.size ≤ b) w' vb (messageRf st).1.barred ∧ okS (messageRf st).1.name ∧ RAt g s (messageRf st).2 w' ∧ Gr g w w' := by
 have hgw := h.lt; have hsz := h.len; have hw0 := word_size st; have H := Lib.hid h; clear h; unfold messageRf; obtain ⟨WD, hWD⟩ : ∃ WD, wordRf st = WD := ⟨_, rfl⟩; rw [hWD] at hw0 ⊢; obtain ⟨nm, st1⟩ := WD; simp only at hw0 ⊢; obtain ⟨st3, hst3⟩ : ∃ x, needRf 123 st1 = x := ⟨_, rfl⟩; rw [hst3]; obtain ⟨T, hT⟩ : ∃ T, messRf (st3.l.length + 1) nm 0 [] [] st3 = T := ⟨_, rfl⟩; rw [hT]; have HW := Lib.hid hWD; have Hst3 := Lib.hid hst3; have HT := Lib.hid hT; have Hnm := Lib.hid (show okS nm by unfold okS; omega); clear hWD hst3 hT hw0 hsz
 go_enter Tryd.func22, Tryd.ntmps22
 (go_wp2_with fail); have hb0 := blk_new w (.cells #[.string ⟨#[]⟩, .slice none 0 0, .slice none 0 0] 46) (g := w.heap.size) rfl; have hu0 := (Up.refl w).alloc (.cells #[.string ⟨#[]⟩, .slice none 0 0, .slice none 0 0] 46); generalize w.alloc (.cells #[.string ⟨#[]⟩, .slice none 0 0, .slice none 0 0] 46) = w0 at *; obtain ⟨R, hR⟩ : ∃ R, w.heap.size = R := ⟨_, rfl⟩; rw [hR] at hb0 hgw ⊢; have HR := Lib.hid hR; have Hb0 := Lib.hid hb0; have Hu0 := Lib.hid hu0; clear hR hb0 hu0; have hww := word_w g s st w0 (by omega) (H.out.up Hu0.out); rw [HW.out] at hww; refine hww.mono ?_; rintro e w1 ⟨rfl, ha1, hg1⟩; have hR1 := hg1.blk Hb0.out (by omega); have Hg1 := Lib.hid ((Gr.of_up Hu0.out).trans hg1); have Ha1 := Lib.hid ha1; have HR1 := Lib.hid hR1; have hRw := lt_of_block hR1; clear ha1 hg1 Hb0 Hu0 H hR1 hww
 go_upto_region 2 with (fail)
 have HE : Hid (RM g s w R w1.heap.size nm [] [] (.slice none 0 0) (.slice none 0 0) st1 _) := Lib.hid ⟨Ha1.out.up ((Up.refl w1).alloc _), Hg1.out.alloc _, OwnS.nil _ _ _ _ _ _, OwnS.nil _ _ _ _ _ _, fun j hj => (by cases hj), blk_new w1 (.cells #[.string ⟨nm.toArray⟩, .slice none 0 0, .slice none 0 0] 46) rfl, blk_old _ HR1.out⟩; generalize w1.alloc (.cells #[.string ⟨nm.toArray⟩, .slice none 0 0, .slice none 0 0] 46) = w2 at *; obtain ⟨M, hM⟩ : ∃ M, w1.heap.size = M := ⟨_, rfl⟩; rw [hM] at HE hRw ⊢; clear hM Ha1 Hg1 HR1; have hnn := need_w g s st1 123 w2 (by omega) HE.out.pw; rw [Hst3.out] at hnn; have Hnn := Lib.hid hnn; clear hnn; (go_wp2_with (go_at_call 37; go_must (refine Hnn.out.mono ?_; rintro e w3 ⟨rfl, ha3, hg3⟩))); have HE3 := Lib.hid (HE.out.step hg3 ha3 hgw hRw); clear ha3 hg3 HE Hnn; (go_loopw [4] (fun ch wr => ∃ (c : Nat) (fs : List Fld) (bs : List Int) (sl : WSt) (vf vb : Value) (f : Nat), ch = .int .i64 (c : Int) ∧ (sl.e = 0 → sl.l.length < f) ∧ messRf f nm c fs bs sl = T ∧ c + fs.length + bs.length + stM sl ≤ s.size + 1 ∧ RM g s w R M nm fs bs vf vb sl wr) (fun _ wr => rwM g s wr)); case atStart => exact ⟨0, [], [], st3, .slice none 0 0, .slice none 0 0, st3.l.length + 1, rfl, fun _ => by omega, HT.out, by have := HE3.out.pw.len; unfold stM; split <;> simp <;> omega, HE3.out⟩
 case round =>
   obtain ⟨c, fs, bs, sl, vf, vb, f, rfl, hlf, hT2, hsum, he⟩ := hrel; have HE := Lib.hid he; have HT2 := Lib.hid hT2; have Hlf := Lib.hid hlf; have Hsum := Lib.hid hsum; (have hcb : c ≤ 1000010 := by omega); (have hfb : fs.length ≤ 1000010 := by omega); (have hbb : bs.length ≤ 1000010 := by omega); clear he hT2 hlf HE3 hsum; have Hok := Lib.hid (ok_w g s sl wr HE.out.pw); have Hea := Lib.hid (eat_w g s sl 125 wr (by omega) HE.out.pw); have hit := HT2.out; have HM := Lib.hid HE.out.pw.m; rcases moreRf_cases sl with ⟨hbad, hm⟩ | ⟨hgood, hm⟩
   · -- something is wrong
     rw [mess_noRf hbad] at hit; subst hit; (have hb : (sl.e == 0) = false := by simpa using hbad); have c0 := cell_of_row wr M 0 _ _ _ HE.out.m; have c1 := cell_of_row wr M 1 _ _ _ HE.out.m; have c2 := cell_of_row wr M 2 _ _ _ HE.out.m; have z0 := cell_of_row wr R 0 _ _ _ HE.out.r; have z1 := cell_of_row wr R 1 _ _ _ HE.out.r; have z2 := cell_of_row wr R 2 _ _ _ HE.out.r; have zf := fun o => frozen_of_row wr R o _ _ HE.out.r; have zz := lt_of_block HE.out.r; have hfin := Lib.hid (HE.out.fin HR.out hgw hRw); obtain ⟨av, cv, rfl⟩ := own_val HE.out.of.own.choose_spec; obtain ⟨bv, dv, rfl⟩ := own_val HE.out.ob.own.choose_spec; clear hm hbad; (go_wp2_with (go_at_call 20; go_must (refine Hok.out.mono ?_; rintro e w5 ⟨rfl, rfl⟩))); refine bodyPost_ret (v := .agg #[.string ⟨nm.toArray⟩, .slice av fs.length cv, .slice bv bs.length dv]) (by simp [results, Tryd.results22, go_sem, z0, z1, z2]) rfl ?_; exact ⟨_, _, rfl, hfin.out.1, hfin.out.2.1, Hnm.out, hfin.out.2.2.1, hfin.out.2.2.2⟩
   · (have hb : (sl.e == 0) = true := by simpa using hgood); have hsh := (shr_eat 125 sl).transS (shr_word (eatRf 125 sl).2); have hle5 := stM_le (shr_eat 125 sl)
     have hg5 : (eatRf 125 sl).1 = false → (eatRf 125 sl).2.e = 0 := fun h => by
       unfold eatRf onRf at h ⊢; simp only [hgood, ne_eq, not_true_eq_false, if_false] at h ⊢; split at h
       · cases h
       · rename_i h2; rw [if_neg h2]; exact hgood
     obtain ⟨f, rfl⟩ : ∃ f', f = f' + 1 := ⟨f - 1, by have := Hlf.out hgood; omega⟩; rw [messRf, hm] at hit; have Hgood := Lib.hid hgood; clear hm hgood; obtain ⟨EA, hEA⟩ : ∃ EA, eatRf 125 sl = EA := ⟨_, rfl⟩; rw [hEA] at hit hsh Hea hle5 hg5; obtain ⟨eb, s5⟩ := EA; clear hEA; simp only at hit hsh Hea hle5 hg5
     cases eb with
     | true =>
       simp only [Bool.not_true, Bool.false_eq_true, if_false] at hit; subst hit; clear hsh hle5 hg5
       go_upto_region 20 with (first | (go_at_call 20; go_must (refine Hok.out.mono ?_; rintro e w5 ⟨rfl, rfl⟩)) | (go_at_call 38; go_must (refine Hea.out.mono ?_; rintro e w5 ⟨rfl, ha5, hg5⟩)))
       have HE5 := Lib.hid (HE.out.step hg5 ha5 hgw hRw); clear ha5 hg5 HE Hea; have c0 := cell_of_row w5 M 0 _ _ _ HE5.out.m; have c1 := cell_of_row w5 M 1 _ _ _ HE5.out.m; have c2 := cell_of_row w5 M 2 _ _ _ HE5.out.m; have z0 := cell_of_row w5 R 0 _ _ _ HE5.out.r; have z1 := cell_of_row w5 R 1 _ _ _ HE5.out.r; have z2 := cell_of_row w5 R 2 _ _ _ HE5.out.r; have zf := fun o => frozen_of_row w5 R o _ _ HE5.out.r; have zz := lt_of_block HE5.out.r; have hfin := Lib.hid (HE5.out.fin HR.out hgw hRw); obtain ⟨av, cv, rfl⟩ := own_val HE5.out.of.own.choose_spec; obtain ⟨bv, dv, rfl⟩ := own_val HE5.out.ob.own.choose_spec; (go_wp2_with fail); refine bodyPost_ret (v := .agg #[.string ⟨nm.toArray⟩, .slice av fs.length cv, .slice bv bs.length dv]) (by simp [results, Tryd.results22, go_sem, z0, z1, z2]) rfl ?_; exact ⟨_, _, rfl, hfin.out.1, hfin.out.2.1, Hnm.out, hfin.out.2.2.1, hfin.out.2.2.2⟩
     | false =>
       simp only [Bool.not_false, if_true] at hit; have h5e := hg5 rfl; have hps := part_sum c fs bs h5e; have hwl := word_size s5; have hshp := fun (h : RAt g s s5 w) => h; obtain ⟨WD2, hWD2⟩ : ∃ WD2, wordRf s5 = WD2 := ⟨_, rfl⟩; have hpsh := shr_part (wordRf s5).1 c fs bs (wordRf s5).2; rw [hWD2] at hit hsh hwl hps hpsh; obtain ⟨wd, s6⟩ := WD2; simp only at hit hsh hwl hps hpsh; have hsh7 := hsh.trans hpsh; have Hsh6 := Lib.hid hsh
       have hlt6 : c + fs.length + bs.length + stM s6 + 1 ≤ s.size + 1 + 0 := by
         have := stM_lt hsh Hgood.out; have := Hsum.out; omega
       have Hlt6 := Lib.hid hlt6; clear hsh hpsh hshp hlt6 hg5; obtain ⟨P, hP⟩ : ∃ P, partRf wd c fs bs s6 = P := ⟨_, rfl⟩; rw [hP] at hit hps hsh7; have Hit := Lib.hid hit; have HWD2 := Lib.hid hWD2; have HP := Lib.hid hP; have Hps := Lib.hid hps; have Hsh7 := Lib.hid hsh7; have Hle5 := Lib.hid hle5; have Hwl := Lib.hid hwl; have H5e := Lib.hid h5e; clear hit hWD2 hP hps hsh7 hle5 hwl h5e
       go_upto_region 5 with (first | (go_at_call 20; go_must (refine Hok.out.mono ?_; rintro e w5 ⟨rfl, rfl⟩)) | (go_at_call 38; go_must (refine Hea.out.mono ?_; rintro e w5 ⟨rfl, ha5, hg5⟩)))
       have HE5 := Lib.hid (HE.out.step hg5 ha5 hgw hRw); clear ha5 hg5 HE Hea; (have hwds : wd.length ≤ s.size := by have := HE5.out.pw.len; have := Hwl.out; omega); have hww := word_w g s s5 w5 (by omega) HE5.out.pw; rw [HWD2.out] at hww; have Hww := Lib.hid hww; clear hww
       go_upto_region 6 with (go_at_call 21; go_must (refine Hww.out.mono ?_; rintro e w6 ⟨rfl, ha6, hg6⟩))
       have HE6 := Lib.hid (HE5.out.step hg6 ha6 hgw hRw); have hl6 := HE6.out.pw.len; clear ha6 hg6 HE5 Hww
       go_upto_block 2 with (fail)
       go_cut [4] (fun ch wc => ∃ vf' vb', ch = .int .i64 (P.1.1 : Int) ∧ RM g s w R M nm P.1.2.1 P.1.2.2 vf' vb' P.2 wc)
       case first =>
         have hp := HP.out; unfold partRf at hp
         by_cases hrs : wd = wReserved
         · --[
           rw [if_pos hrs] at hp; (have e1 : (wd == [114, 101, 115, 101, 114, 118, 101, 100]) = true := by rw [hrs]; rfl); have hnb := num_le (m := 536870911) (st := s6); obtain ⟨NU, hNU⟩ : ∃ NU, numRf 536870911 s6 = NU := ⟨_, rfl⟩; have hnm7 := stM_le (shr_num 536870911 s6).le; rw [hNU] at hp hnb hnm7; obtain ⟨n, s7⟩ := NU; simp only at hp hnb hnm7; obtain ⟨NL, hNL⟩ : ∃ NL, numsRf (s7.l.length + 1) (bs ++ [(n : Int)]) s7 = NL := ⟨_, rfl⟩; rw [hNL] at hp; have Hp := Lib.hid hp; have HNL := Lib.hid hNL; have HOK : Hid (okI (n : Int)) := Lib.hid ⟨by omega, by omega⟩; clear hp hNL hrs; have hnu := num_w g s s6 536870911 w6.drew (by omega) (by omega) (HE6.out.pw.up (Up.refl _).drew); rw [hNU] at hnu; have Hnu := Lib.hid hnu; clear hnu hNU
           go_upto_region 9 with (fail)
           have m2 := cell_of_row w6 M 2 _ _ _ HE6.out.m; have mz := lt_of_block HE6.out.m
           go_cut [] (fun wc => ∃ vb', RM g s w R M nm fs (bs ++ [(n : Int)]) vf vb' s7 wc)
           case first =>
             go_region_law (first
               | (go_simp; go_at_call 39; refine Hnu.out.mono ?_; rintro e w8 ⟨rfl, ha8, hg8⟩; have HE8 := Lib.hid ((HE6.out.up (Up.refl _).drew).step hg8 ha8 hgw hRw); obtain ⟨xs, hxs⟩ := HE8.out.ob.own; have Hxs := Lib.hid hxs; have m2 := cell_of_row w8 M 2 _ _ _ HE8.out.m; have mz := lt_of_block HE8.out.m; clear ha8 hg8 hxs)
               | (refine step_app1 eNum _ (by rfl) _ _ (by rfl) (M + 1) _ _ _ (by rfl) Hxs.out _ (by rfl) (by first | rfl | simp) (by rfl) (oc (by rfl)) (by omega) (by unfold maxLen; omega) (by first | omega | (simp; omega)) ?_; intro v9 w9 how9 hev9; obtain ⟨a9, c9, rfl⟩ := own_val how9; have hb9 := hev9.blk HE8.out.m (fun e => by have := (HE8.out.ob.lo _ e).1; omega); have m1 := cell_of_row w9 M 1 _ _ _ hb9; have m2 := cell_of_row w9 M 2 _ _ _ hb9; have mf := fun o => frozen_of_row w9 M o _ _ hb9; have mz := lt_of_block hb9; have HE9 := Lib.hid (RM.snocB (n := (n : Int)) HE8.out Hxs.out how9 hev9 HOK.out hgw hRw (by rw [HR.out]; omega)); clear hb9 how9 hev9))
             all_goals
               go_wp2_with fail
               go_meet
               exact ⟨_, HE9.out⟩
           case rest =>
             obtain ⟨vb2, hw7⟩ := hcut; have HE7 := Lib.hid hw7; clear hw7 HE6 Hnu m2 mz; (go_wp2_with fail); (go_loopw [] (fun wr => ∃ (acc : List Int) (sq : WSt) (vq : Value) (fq : Nat), (sq.e = 0 → sq.l.length < fq) ∧ numsRf fq acc sq = NL ∧ c + fs.length + acc.length + stM sq ≤ s.size + 2 ∧ RM g s w R M nm fs acc vf vq sq wr) (fun wr => rwM g s wr)); case atStart => exact ⟨bs ++ [(n : Int)], s7, vb2, s7.l.length + 1, fun _ => by omega, HNL.out, by rw [List.length_append, List.length_singleton]; have := Hlt6.out; omega, HE7.out⟩
             case round =>
               obtain ⟨acc, sq, vq, fq, hlq, hTq, hsq, heq⟩ := hrel; have HEq := Lib.hid heq; have Hlq := Lib.hid hlq; have Hsq := Lib.hid hsq; (have hab : acc.length ≤ 1000010 := by omega); have HMq := Lib.hid heq.pw.m; rw [nums_stepRf hlq] at hTq; have hea := eat_w g s sq 44 wr (by omega) HEq.out.pw; have hgd := fun h => eat_good (c := 44) (st := sq) h; have hst := fun h => eat_strict (c := 44) (st := sq) h; clear heq hlq hsq HE7; obtain ⟨EQ, hEQ⟩ : ∃ EQ, eatRf 44 sq = EQ := ⟨_, rfl⟩; rw [hEQ] at hTq hea hgd hst; obtain ⟨qb, s8⟩ := EQ; simp only at hTq hea hgd hst; have Hea := Lib.hid hea; clear hEQ hea
               cases qb with
               | false =>
                 simp only [Bool.false_eq_true, if_false] at hTq; subst hTq; clear hgd hst
                 go_upto_region 12 with (go_at_call 38; go_must (refine Hea.out.mono ?_; rintro e w8 ⟨rfl, ha8, hg8⟩))
                 have HE8 := Lib.hid (HEq.out.step hg8 ha8 hgw hRw); clear ha8 hg8 HEq Hea; have hnn := need_w g s s8 59 w8 (by omega) HE8.out.pw; have Hnn := Lib.hid hnn; clear hnn; go_wp2_with (go_at_call 37; go_must (refine Hnn.out.mono ?_; rintro e w9 ⟨rfl, ha9, hg9⟩))
                 go_meet
                 rw [← Hp.out]; exact ⟨_, _, rfl, HE8.out.step hg9 ha9 hgw hRw⟩
               | true =>
                 simp only [if_true] at hTq; have hnb := num_le (m := 536870911) (st := s8); have hns := shr_num 536870911 s8; obtain ⟨NU, hNU⟩ : ∃ NU, numRf 536870911 s8 = NU := ⟨_, rfl⟩; rw [hNU] at hTq hnb hns; obtain ⟨nq, s9⟩ := NU; simp only at hTq hnb hns; have HOK : Hid (okI (nq : Int)) := Lib.hid ⟨by omega, by omega⟩; have Hns := Lib.hid ((hst rfl).trans hns.le); have Hgq := Lib.hid (hgd rfl).1; have HTq := Lib.hid hTq; have HNU := Lib.hid hNU; clear hst hgd hns hTq hNU hnb
                 go_upto_region 11 with (go_at_call 38; go_must (refine Hea.out.mono ?_; rintro e w7 ⟨rfl, ha7, hg7⟩))
                 have HE7 := Lib.hid (HEq.out.step hg7 ha7 hgw hRw); clear ha7 hg7 HEq Hea; have hnu := num_w g s s8 536870911 w7.drew (by omega) (by omega) (HE7.out.pw.up (Up.refl _).drew); rw [HNU.out] at hnu; have Hnu := Lib.hid hnu; clear hnu; have m2 := cell_of_row w7 M 2 _ _ _ HE7.out.m; have mz := lt_of_block HE7.out.m
                 go_region_law (first
                   | (go_simp; go_at_call 39; refine Hnu.out.mono ?_; rintro e w8 ⟨rfl, ha8, hg8⟩; have HE8 := Lib.hid ((HE7.out.up (Up.refl _).drew).step hg8 ha8 hgw hRw); obtain ⟨xs, hxs⟩ := HE8.out.ob.own; have Hxs := Lib.hid hxs; have m2 := cell_of_row w8 M 2 _ _ _ HE8.out.m; have mz := lt_of_block HE8.out.m; clear ha8 hg8 hxs)
                   | (refine step_app1 eNum _ (by rfl) _ _ (by rfl) (M + 1) _ _ _ (by rfl) Hxs.out _ (by rfl) (by first | rfl | simp) (by rfl) (oc (by rfl)) (by omega) (by unfold maxLen; omega) (by first | omega | (simp; omega)) ?_; intro v9 w9 how9 hev9; obtain ⟨a9, c9, rfl⟩ := own_val how9; have hb9 := hev9.blk HE8.out.m (fun e => by have := (HE8.out.ob.lo _ e).1; omega); have m1 := cell_of_row w9 M 1 _ _ _ hb9; have m2 := cell_of_row w9 M 2 _ _ _ hb9; have mf := fun o => frozen_of_row w9 M o _ _ hb9; have mz := lt_of_block hb9; have HE9 := Lib.hid (RM.snocB (n := (nq : Int)) HE8.out Hxs.out how9 hev9 HOK.out hgw hRw (by rw [HR.out]; omega)); clear hb9 how9 hev9))
                 all_goals
                   (go_wp2_with fail); refine ⟨⟨acc ++ [(nq : Int)], s9, _, fq - 1, fun h => ?_, HTq.out, ?_, HE9.out⟩, ?_⟩
                   · exact lt_pred (Hns.out h).2 (Hlq.out Hgq.out)
                   · rw [List.length_append, List.length_singleton]; exact sum_step3 Hsq.out (stM_lt Hns.out Hgq.out)
                   · rw [HE9.out.pw.m, HMq.out]; exact stM_lt Hns.out Hgq.out
           --]
         · rw [if_neg hrs] at hp
           by_cases hon : wd = wOneof
           · --[
             rw [if_pos hon] at hp; (have e1 : (wd == [114, 101, 115, 101, 114, 118, 101, 100]) = false := by rw [beq_eq_false_iff_ne]; exact hrs); (have e2 : (wd == [111, 110, 101, 111, 102]) = true := by rw [hon]; rfl); obtain ⟨s7, hs7⟩ : ∃ x, needRf 123 s6 = x := ⟨_, rfl⟩; have hnm7 := stM_le (shr_need 123 s6); rw [hs7] at hp hnm7; obtain ⟨CL, hCL⟩ : ∃ CL, choiceRf (s7.l.length + 1) (c + 1) fs s7 = CL := ⟨_, rfl⟩; rw [hCL] at hp; have Hp := Lib.hid hp; have HCL := Lib.hid hCL; clear hp hCL hrs hon; have hnn := need_w g s s6 123 w6 (by omega) HE6.out.pw; rw [hs7] at hnn; have Hnn := Lib.hid hnn; clear hnn hs7; (go_wp2_with (go_at_call 37; go_must (refine Hnn.out.mono ?_; rintro e w7 ⟨rfl, ha7, hg7⟩))); have HE7 := Lib.hid (HE6.out.step hg7 ha7 hgw hRw); clear ha7 hg7 HE6 Hnn; (go_loopw [] (fun wr => ∃ (acc : List Fld) (sq : WSt) (vq : Value) (fq : Nat), (sq.e = 0 → sq.l.length < fq) ∧ choiceRf fq (c + 1) acc sq = CL ∧ c + acc.length + bs.length + stM sq ≤ s.size + 2 ∧ RM g s w R M nm acc bs vq vb sq wr) (fun wr => rwM g s wr)); case atStart => exact ⟨fs, s7, vf, s7.l.length + 1, fun _ => by omega, HCL.out, by have := Hlt6.out; omega, HE7.out⟩
             case round =>
               obtain ⟨acc, sq, vq, fq, hlq, hTq, hsq, heq⟩ := hrel; have HEq := Lib.hid heq; have Hlq := Lib.hid hlq; have Hsq := Lib.hid hsq; (have hab : acc.length ≤ 1000010 := by omega); have HMq := Lib.hid heq.pw.m; rw [choice_stepRf hlq] at hTq; have Hokq := Lib.hid (ok_w g s sq wr HEq.out.pw); have hea := eat_w g s sq 125 wr (by omega) HEq.out.pw; clear heq hlq hsq HE7; rcases moreRf_cases sq with ⟨hbad, hm⟩ | ⟨hgood, hm⟩
               · (have hb : (sq.e == 0) = false := by simpa using hbad); rw [hm] at hTq; simp only [Bool.false_eq_true, if_false] at hTq; subst hTq; clear hm hbad hea; go_wp2_with (go_at_call 20; go_must (refine Hokq.out.mono ?_; rintro e w8 ⟨rfl, rfl⟩))
                 go_meet
                 rw [← Hp.out]; exact ⟨_, _, by first | rfl | (go_num), HEq.out⟩
               · (have hb : (sq.e == 0) = true := by simpa using hgood); have hst := (((shr_more sq).transS (shr_word (moreRf sq).2)).trans (shr_field (wordRf (moreRf sq).2).1 (c + 1) (wordRf (moreRf sq).2).2).le); have Hgq := Lib.hid hgood; rw [hm] at hTq hst; obtain ⟨EQ, hEQ⟩ : ∃ EQ, eatRf 125 sq = EQ := ⟨_, rfl⟩; rw [hEQ] at hTq hea hst; obtain ⟨qb, s8⟩ := EQ; simp only at hTq hea hst; have Hea := Lib.hid hea; clear hEQ hea hm hgood
                 cases qb with
                 | true =>
                   simp only [Bool.not_true, Bool.false_eq_true, if_false] at hTq; subst hTq; clear hst; go_wp2_with (first | (go_at_call 20; go_must (refine Hokq.out.mono ?_; rintro e w8 ⟨rfl, rfl⟩)) | (go_at_call 38; go_must (refine Hea.out.mono ?_; rintro e w8 ⟨rfl, ha8, hg8⟩)))
                   go_meet
                   rw [← Hp.out]; exact ⟨_, _, by first | rfl | (go_num), HEq.out.step hg8 ha8 hgw hRw⟩
                 | false =>
                   simp only [Bool.not_false, if_true] at hTq; have hwl8 := word_size s8; obtain ⟨W8, hW8⟩ : ∃ W8, wordRf s8 = W8 := ⟨_, rfl⟩; rw [hW8] at hTq hst hwl8; obtain ⟨wq, s9⟩ := W8; simp only at hTq hst hwl8
                   go_upto_region 17 with (first | (go_at_call 20; go_must (refine Hokq.out.mono ?_; rintro e w8 ⟨rfl, rfl⟩)) | (go_at_call 38; go_must (refine Hea.out.mono ?_; rintro e w7 ⟨rfl, ha7, hg7⟩)))
                   have HE7 := Lib.hid (HEq.out.step hg7 ha7 hgw hRw); clear ha7 hg7 HEq Hea; have hl8 := HE7.out.pw.len; have hww := word_w g s s8 w7.drew (by omega) (HE7.out.pw.up (Up.refl _).drew); rw [hW8] at hww; have Hww := Lib.hid hww; have hfo := fun (h : s9.l.length ≤ s.size) => fldOkRf (w := wq) (c := c + 1) (st := s9) hz0 (by omega) h (by omega); clear hww hW8; obtain ⟨FX, hFX⟩ : ∃ FX, fieldRf wq (c + 1) s9 = FX := ⟨_, rfl⟩; rw [hFX] at hTq hst hfo; obtain ⟨X, s10⟩ := FX; simp only at hTq hst hfo; have Hfl0 := Lib.hid (fun W (h : RAt g s s9 W) => field_wx W (by omega) hFX h); have Hns := Lib.hid hst; have HTq := Lib.hid hTq; have Hfo := Lib.hid hfo; clear hst hTq hFX hfo; have m1 := cell_of_row w7 M 1 _ _ _ HE7.out.m; have mz := lt_of_block HE7.out.m; have hwc : RowKit.wrap64 ((c : Int) + 1) = ((c + 1 : Nat) : Int) := by unfold RowKit.wrap64; omega
                   go_region_law (first
                     | (go_simp; go_at_call 21; refine Hww.out.mono ?_; rintro e wa ⟨rfl, haa, hga⟩; have HEa := Lib.hid ((HE7.out.up (Up.refl _).drew).step hga haa hgw hRw); have hla := haa.len; have HOK := Lib.hid (Hfo.out hla); have m1 := cell_of_row wa M 1 _ _ _ HEa.out.m; have mz := lt_of_block HEa.out.m; clear haa hga hla)
                     | (go_simp; go_at_call 40; refine (Hfl0.out _ HEa.out.pw).mono ?_; rintro e w8 ⟨rfl, ha8, hg8⟩; have HE8 := Lib.hid (HEa.out.step hg8 ha8 hgw hRw); obtain ⟨xs, hxs⟩ := HE8.out.of.own; have Hxs := Lib.hid hxs; have m1 := cell_of_row w8 M 1 _ _ _ HE8.out.m; have mz := lt_of_block HE8.out.m; clear ha8 hg8 hxs)
                     | (refine step_app1 eFld _ (by rfl) _ _ (by rfl) (M + 1) _ _ _ (by rfl) Hxs.out _ (by rfl) (by first | rfl | simp) (by rfl) (oc (by rfl)) (by omega) (by unfold maxLen; omega) (by first | omega | (simp; omega)) ?_; intro v9 w9 how9 hev9; obtain ⟨a9, c9, rfl⟩ := own_val how9; have hb9 := hev9.blk HE8.out.m (fun e => by have := (HE8.out.of.lo _ e).1; omega); have m1 := cell_of_row w9 M 1 _ _ _ hb9; have m2 := cell_of_row w9 M 2 _ _ _ hb9; have mf := fun o => frozen_of_row w9 M o _ _ hb9; have mz := lt_of_block hb9; have HE9 := Lib.hid (RM.snocF (x := X) HE8.out Hxs.out how9 hev9 HOK.out hgw hRw (by rw [HR.out]; omega)); clear hb9 how9 hev9))
                   all_goals
                     (go_wp2_with fail); refine ⟨⟨acc ++ [X], s10, _, fq - 1, fun h => ?_, HTq.out, ?_, HE9.out⟩, ?_⟩
                     · exact lt_pred (Hns.out h).2 (Hlq.out Hgq.out)
                     · rw [List.length_append, List.length_singleton]; exact sum_step Hsq.out (stM_lt Hns.out Hgq.out)
                     · rw [HE9.out.pw.m, HMq.out]; exact stM_lt Hns.out Hgq.out
             --]
           · --[
             rw [if_neg hon] at hp; (have e1 : (wd == [114, 101, 115, 101, 114, 118, 101, 100]) = false := by rw [beq_eq_false_iff_ne]; exact hrs); (have e2 : (wd == [111, 110, 101, 111, 102]) = false := by rw [beq_eq_false_iff_ne]; exact hon); have hfo := fldOkRf (w := wd) (c := 0) (st := s6) hz0 hwds hl6 (by omega); obtain ⟨FX, hFX⟩ : ∃ FX, fieldRf wd 0 s6 = FX := ⟨_, rfl⟩; rw [hFX] at hp hfo; obtain ⟨X, s7⟩ := FX; simp only at hp hfo; have hfl := field_wx w6.drew (by omega) hFX (HE6.out.pw.up (Up.refl _).drew); have Hp := Lib.hid hp; have HOK := Lib.hid hfo; have Hfl := Lib.hid hfl; clear hp hrs hon hFX hfo hfl; have m1 := cell_of_row w6 M 1 _ _ _ HE6.out.m; have mz := lt_of_block HE6.out.m
             go_upto_region 7 with (fail)
             go_region_law (first
               | (go_simp; go_at_call 40; refine Hfl.out.mono ?_; rintro e w8 ⟨rfl, ha8, hg8⟩; have HE8 := Lib.hid ((HE6.out.up (Up.refl _).drew).step hg8 ha8 hgw hRw); obtain ⟨xs, hxs⟩ := HE8.out.of.own; have Hxs := Lib.hid hxs; have m1 := cell_of_row w8 M 1 _ _ _ HE8.out.m; have mz := lt_of_block HE8.out.m; clear ha8 hg8 hxs)
               | (refine step_app1 eFld _ (by rfl) _ _ (by rfl) (M + 1) _ _ _ (by rfl) Hxs.out _ (by rfl) (by first | rfl | simp) (by rfl) (oc (by rfl)) (by omega) (by unfold maxLen; omega) (by first | omega | (simp; omega)) ?_; intro v9 w9 how9 hev9; obtain ⟨a9, c9, rfl⟩ := own_val how9; have hb9 := hev9.blk HE8.out.m (fun e => by have := (HE8.out.of.lo _ e).1; omega); have m1 := cell_of_row w9 M 1 _ _ _ hb9; have m2 := cell_of_row w9 M 2 _ _ _ hb9; have mf := fun o => frozen_of_row w9 M o _ _ hb9; have mz := lt_of_block hb9; have HE9 := Lib.hid (RM.snocF (x := X) HE8.out Hxs.out how9 hev9 HOK.out hgw hRw (by rw [HR.out]; omega)); clear hb9 how9 hev9))
             all_goals
               go_wp2_with fail
               go_meet
               rw [← Hp.out]; exact ⟨_, _, rfl, HE9.out⟩
             --]
       case rest =>
         --[
         obtain ⟨vf2, vb2, rfl, hw7⟩ := hcut; have HE7 := Lib.hid hw7; clear hw7 HE6; obtain ⟨⟨c', fs', bs'⟩, s7⟩ := P; simp only at HE7 Hit Hps Hsh7 ⊢; have m1 := cell_of_row wc M 1 _ _ _ HE7.out.m; have m2 := cell_of_row wc M 2 _ _ _ HE7.out.m; have mz := lt_of_block HE7.out.m; obtain ⟨av, cv, rfl⟩ := own_val HE7.out.of.own.choose_spec; obtain ⟨bv, dv, rfl⟩ := own_val HE7.out.ob.own.choose_spec; have hit := Hit.out; unfold manyRf at hit; simp only at hit; (have hsum7 : c' + fs'.length + bs'.length + stM s7 ≤ s.size + 1 := by have := Hps.out; have := Hle5.out; have := Hsum.out; omega); have Hsum7 := Lib.hid hsum7; clear Hit hsum7
         by_cases h1 : 16 < fs'.length
         · (have d1 : (16 : Int) < (fs'.length : Int) := by omega); rw [if_pos (.inl h1)] at hit; have Hit := Lib.hid hit; clear hit h1; (go_wp2_with (go_at_call 24; go_must (refine (stop_w g s s7 5 _ (by decide) HE7.out.pw).mono ?_; rintro e w9 ⟨rfl, ha9, hg9⟩))); have HE9 := HE7.out.step hg9 ha9 hgw hRw
           go_roundw
           (case rel => exact ⟨c', fs', bs', stopRf 5 s7, _, _, f, by first | rfl | trivial, fun h => absurd h (stop_ne (by decide) _), Hit.out, by have := Hsum7.out; have h9 := stM_le (shr_stop (er := 5) (by decide) s7).le; omega, HE9⟩); case measure => rw [HE9.pw.m, HM.out]; exact stM_lt (Hsh7.out.trans (shr_stop (by decide) _).le) Hgood.out
         · have d1 : ¬ (16 : Int) < (fs'.length : Int) := by omega
           by_cases h2 : 16 < bs'.length
           · (have d2 : (16 : Int) < (bs'.length : Int) := by omega); rw [if_pos (.inr h2)] at hit; have Hit := Lib.hid hit; clear hit h1 h2; (go_wp2_with (go_at_call 24; go_must (refine (stop_w g s s7 5 _ (by decide) HE7.out.pw).mono ?_; rintro e w9 ⟨rfl, ha9, hg9⟩))); have HE9 := HE7.out.step hg9 ha9 hgw hRw
             go_roundw
             (case rel => exact ⟨c', fs', bs', stopRf 5 s7, _, _, f, by first | rfl | trivial, fun h => absurd h (stop_ne (by decide) _), Hit.out, by have := Hsum7.out; have h9 := stM_le (shr_stop (er := 5) (by decide) s7).le; omega, HE9⟩); case measure => rw [HE9.pw.m, HM.out]; exact stM_lt (Hsh7.out.trans (shr_stop (by decide) _).le) Hgood.out
           · (have d2 : ¬ (16 : Int) < (bs'.length : Int) := by omega); rw [if_neg (by rintro (h | h); exact h1 h; exact h2 h)] at hit; have Hit := Lib.hid hit; clear hit h1 h2; go_wp2_with fail
             go_roundw
             (case rel => exact ⟨c', fs', bs', s7, _, _, f, by first | rfl | trivial, fun h => by have h1 := (Hsh7.out h).2; have h2 := Hlf.out Hgood.out; omega, Hit.out, Hsum7.out, HE7.out⟩); case measure => rw [HE7.out.pw.m, HM.out]; exact stM_lt Hsh7.out Hgood.out
         --]
end Go.Proofs.YtbceapeoknngnaaDoor
