/-
  The parser's field.
-/
import Derived.Test.YtbceapeoknngnaaDoorSy18
import Derived.Deep.DeepCutAuto
import Derived.Deep.CutBlock
set_option linter.unusedVariables false
namespace Go.Proofs.YtbceapeoknngnaaDoor
open Go.RowKit
set_option maxRecDepth 100000
def fldC (x : Fld) : Array Value := #[.string ⟨x.name.toArray⟩, .int .i64 x.number, .int .i64 x.kind, .string ⟨x.type.toArray⟩, .bool x.many, .int .i64 x.choice]
def fldV (x : Fld) : Value := .agg (fldC x)
structure FW (g : Nat) (s : ByteArray) (w : World) (R F : Nat) (t : TypeId) (z cs : Array Value) (k : Nat) (wi : World) : Prop where
 pw : PW g s k wi
 gr : Gr g w wi
 f : wi.heap[F]? = some (.cells cs t (0, 0))
 r : wi.heap[R]? = some (.cells z t (0, 0))
section
variable {g : Nat} {s : ByteArray} {w : World} {R F : Nat} {t : TypeId} {z cs : Array Value} {k : Nat} {wi : World}
theorem FW.step (h : FW g s w R F t z cs k wi) {wj : World} {k' : Nat} (hg : Gr g wi wj) (hp : PW g s k' wj) (hR : R ≠ g) (hF : F ≠ g) : FW g s w R F t z cs k' wj := ⟨hp, h.gr.trans hg, hg.blk h.f hF, hg.blk h.r hR⟩
theorem FW.up (h : FW g s w R F t z cs k wi) {wj : World} (hu : Up wi wj) : FW g s w R F t z cs k wj := ⟨h.pw.up hu, h.gr.up hu, hu.blk h.f, hu.blk h.r⟩
theorem FW.set (h : FW g s w R F t z cs k wi) (i : Nat) (u : Value) (hF : F ≠ g) (hR : R ≠ F) (hw : w.heap.size ≤ F) : FW g s w R F t z (cs.setIfInBounds i u) k (wi.setCell ⟨F, i, none⟩ u) :=
 ⟨h.pw.other hF u, h.gr.setNew hw u, heap_setCell_same wi F i _ _ _ h.f, (Below.heap_setCell wi ⟨F, i, none⟩ u R hR).trans h.r⟩
end
set_option maxHeartbeats 3200000 in
theorem field_pp (g : Nat) (s : ByteArray) (k0 c : Nat) (w : World) (hk0 : k0 ≤ s.size) (hz0 : s.size ≤ 4611686018427) (hgr : 2 < g) (hev : EvR w) (hp : PW g s k0 w) :
   Calls Tryd.prog 36 #[.pointer (some ⟨g, 0, none⟩), .int .i64 (c : Int)] w (PEnd g s w (fieldP c (dr s k0)) (fun _ x v => v = fldV x)) := by
 have hgw := hp.lt; have Hp := Lib.hid hp; have Hev := Lib.hid hev; clear hp hev
 go_enter Tryd.func36, Tryd.ntmps36
 (go_wp2_with fail); have HF0 := Lib.hid (show FW g s w w.heap.size (w.heap.size + 1) 58 #[.string ⟨#[]⟩, .int .i64 0, .int .i64 0, .string ⟨#[]⟩, .bool false, .int .i64 0] #[.string ⟨#[]⟩, .int .i64 0, .int .i64 0, .string ⟨#[]⟩, .bool false, .int .i64 c] k0 ((w.alloc (.cells #[.string ⟨#[]⟩, .int .i64 0, .int .i64 0, .string ⟨#[]⟩, .bool false, .int .i64 0] 58)).alloc (.cells #[.string ⟨#[]⟩, .int .i64 0, .int .i64 0, .string ⟨#[]⟩, .bool false, .int .i64 c] 58)) from ⟨(Hp.out.alloc _).alloc _, ((Gr.refl g w).alloc _).alloc _, blk_new (w.alloc _) _ (by simp), blk_old _ (blk_new w _ rfl)⟩); generalize (w.alloc (.cells #[.string ⟨#[]⟩, .int .i64 0, .int .i64 0, .string ⟨#[]⟩, .bool false, .int .i64 0] 58)).alloc (.cells #[.string ⟨#[]⟩, .int .i64 0, .int .i64 0, .string ⟨#[]⟩, .bool false, .int .i64 c] 58) = w0 at *; obtain ⟨R, hR⟩ : ∃ R, w.heap.size = R := ⟨_, rfl⟩; rw [hR] at HF0 hgw ⊢; have HR := Lib.hid hR; clear hR Hp; have Hs : Hid (∀ {cs : Array Value} {k : Nat} {wi : World}, FW g s w R (R + 1) 58 #[.string ⟨#[]⟩, .int .i64 0, .int .i64 0, .string ⟨#[]⟩, .bool false, .int .i64 0] cs k wi → ∀ (i : Nat) (u : Value), FW g s w R (R + 1) 58 #[.string ⟨#[]⟩, .int .i64 0, .int .i64 0, .string ⟨#[]⟩, .bool false, .int .i64 0] (cs.setIfInBounds i u) k (wi.setCell ⟨R + 1, i, none⟩ u)) := Lib.hid (fun h i u => h.set i u (by omega) (by omega) (by rw [HR.out]; omega)); refine (word_p g s k0 w0 hk0 (by omega) HF0.out.pw).mono ?_; intro e w1 he
 cases h1 : wordP (dr s k0) with
 | bad er l =>
   obtain ⟨rfl, hg⟩ := he.bad h1; (go_wp2_with fail); exact ⟨rfl, PEnd.of_bad (by rw [fieldP, headP, h1]; rfl) rfl (HF0.out.gr.trans hg)⟩
 | ok a1 l1 =>
   obtain ⟨v, rfl, rfl, ⟨k1, hk1, hd1, hp1⟩, hg1⟩ := he.ok h1; have HF1 := Lib.hid (HF0.out.step hg1 hp1 (by omega) (by omega)); have Hh := Lib.hid (show headP c (dr s k0) = if a1 = wRepeated ∧ c = 0 then (wordP l1).bind fun w2 l2 => .ok (true, w2) l2 else .ok (false, a1) l1 by rw [headP, h1]; rfl); have Hd1 := Lib.hid hd1; clear hd1 hp1 hg1 he HF0
   have hcs : (a1 = wRepeated ∧ c = 0) ∨ (a1 = wRepeated ∧ c ≠ 0) ∨ a1 ≠ wRepeated := by
     by_cases hm : a1 = wRepeated
     · by_cases hc : c = 0
       · exact .inl ⟨hm, hc⟩
       · exact .inr (.inl ⟨hm, hc⟩)
     · exact .inr (.inr hm)
   rcases hcs with ⟨hm, hc⟩ | ⟨hm, hc⟩ | hm
   case' inl =>
     have hh := Hh.out; rw [if_pos ⟨hm, hc⟩] at hh; have Hh := Lib.hid hh; (have e1 : (a1 == [114, 101, 112, 101, 97, 116, 101, 100]) = true := by rw [hm]; rfl); (have e2 : ((c : Int) == 0) = true := by rw [hc]; rfl); have c4 := cell_of_row w1 (R + 1) 4 _ _ _ HF1.out.f; have hfr := fun o => frozen_of_row w1 (R + 1) o _ _ HF1.out.f; have hzz := lt_of_block HF1.out.f; clear hm hc hh; (go_wp2_with fail); have HF2 : Hid (FW g s w R (R + 1) 58 #[.string ⟨#[]⟩, .int .i64 0, .int .i64 0, .string ⟨#[]⟩, .bool false, .int .i64 0] #[.string ⟨#[]⟩, .int .i64 0, .int .i64 0, .string ⟨#[]⟩, .bool true, .int .i64 c] k1 _) := Lib.hid (Hs.out HF1.out 4 (.bool true)); clear c4 hfr hzz; refine (word_p g s k1 _ hk1 (by omega) HF2.out.pw).mono ?_; intro e w3 he; rw [Hd1.out] at he; rcases h2 : wordP l1 with ⟨a2, l2⟩ | ⟨er, l⟩
     rotate_left
     · obtain ⟨rfl, hg⟩ := he.bad h2; (go_wp2_with fail); exact ⟨rfl, PEnd.of_bad (by rw [fieldP, Hh.out, h2]; rfl) rfl (HF2.out.gr.trans hg)⟩
     obtain ⟨v, rfl, rfl, ⟨k2, hk2, hd2, hp2⟩, hg2⟩ := he.ok h2; obtain ⟨mn, hmn⟩ : ∃ mn, mn = true := ⟨_, rfl⟩; have HF2 : Hid (FW g s w R (R + 1) 58 #[.string ⟨#[]⟩, .int .i64 0, .int .i64 0, .string ⟨#[]⟩, .bool false, .int .i64 0] #[.string ⟨#[]⟩, .int .i64 0, .int .i64 0, .string ⟨#[]⟩, .bool mn, .int .i64 c] k2 w3) := Lib.hid (by rw [hmn]; exact HF2.out.step hg2 hp2 (by omega) (by omega)); have Hh := Lib.hid (show headP c (dr s k0) = .ok (mn, a2) l2 by rw [Hh.out, h2, hmn]; rfl); have Hd2 := Lib.hid hd2; clear hd2 hp2 hg2 he hmn h2
   case' inr.inl =>
     have hh := Hh.out; rw [if_neg (fun h => hc h.2)] at hh; (have e1 : (a1 == [114, 101, 112, 101, 97, 116, 101, 100]) = true := by rw [hm]; rfl); (have e2 : ((c : Int) == 0) = false := by rw [beq_eq_false_iff_ne]; omega); obtain ⟨mn, hmn⟩ : ∃ mn, mn = false := ⟨_, rfl⟩; have HF2 : Hid (FW g s w R (R + 1) 58 #[.string ⟨#[]⟩, .int .i64 0, .int .i64 0, .string ⟨#[]⟩, .bool false, .int .i64 0] #[.string ⟨#[]⟩, .int .i64 0, .int .i64 0, .string ⟨#[]⟩, .bool mn, .int .i64 c] k1 w1) := Lib.hid (by rw [hmn]; exact HF1.out); have Hh := Lib.hid (show headP c (dr s k0) = .ok (mn, a1) l1 by rw [hh, hmn]); have Hd2 := Hd1; have hk2 := hk1; clear hm hc hh hmn; generalize a1 = a2 at *; generalize l1 = l2 at *; generalize k1 = k2 at *; go_wp2_with fail
   case' inr.inr =>
     have hh := Hh.out; rw [if_neg (fun h => hm h.1)] at hh; (have e1 : (a1 == [114, 101, 112, 101, 97, 116, 101, 100]) = false := by rw [beq_eq_false_iff_ne]; exact hm); obtain ⟨mn, hmn⟩ : ∃ mn, mn = false := ⟨_, rfl⟩; have HF2 : Hid (FW g s w R (R + 1) 58 #[.string ⟨#[]⟩, .int .i64 0, .int .i64 0, .string ⟨#[]⟩, .bool false, .int .i64 0] #[.string ⟨#[]⟩, .int .i64 0, .int .i64 0, .string ⟨#[]⟩, .bool mn, .int .i64 c] k1 w1) := Lib.hid (by rw [hmn]; exact HF1.out); have Hh := Lib.hid (show headP c (dr s k0) = .ok (mn, a1) l1 by rw [hh, hmn]); have Hd2 := Hd1; have hk2 := hk1; clear hm hh hmn; generalize a1 = a2 at *; generalize l1 = l2 at *; generalize k1 = k2 at *; go_wp2_with fail
   all_goals
   clear HF1 Hd1; (go_wp2_with (first | (go_at_call 46; go_must (refine (kind_p a2 _).mono ?_; rintro e w3 ⟨rfl, hu3⟩; have HF3 := Lib.hid (HF2.out.up hu3); have c2 := cell_of_row w3 (R + 1) 2 _ _ _ HF3.out.f; have c3 := cell_of_row w3 (R + 1) 3 _ _ _ HF3.out.f; have hfr := fun o => frozen_of_row w3 (R + 1) o _ _ HF3.out.f; have hzz := lt_of_block HF3.out.f; clear hu3)))); have HF4 : Hid (FW g s w R (R + 1) 58 #[.string ⟨#[]⟩, .int .i64 0, .int .i64 0, .string ⟨#[]⟩, .bool false, .int .i64 0] #[.string ⟨#[]⟩, .int .i64 0, .int .i64 (kindP a2).1, .string ⟨(kindP a2).2.toArray⟩, .bool mn, .int .i64 c] k2 _) := Lib.hid (Hs.out (Hs.out HF3.out 2 (.int .i64 (kindP a2).1)) 3 (.string ⟨(kindP a2).2.toArray⟩)); clear c2 c3 hfr hzz HF3 HF2; refine (word_p g s k2 _ hk2 (by omega) HF4.out.pw).mono ?_; intro e w5 he; rw [Hd2.out] at he; rcases p5 : wordP l2 with ⟨nm, l5⟩ | ⟨er, l⟩
   rotate_left
   · obtain ⟨rfl, hg⟩ := he.bad p5; (go_wp2_with fail); exact ⟨rfl, PEnd.of_bad (by rw [fieldP, Hh.out]; simp only [PR.bind_ok, PR.bind_bad, p5]) rfl (HF4.out.gr.trans hg)⟩
   obtain ⟨v, rfl, rfl, ⟨k5, hk5, hd5, hp5⟩, hg5⟩ := he.ok p5; have HF5 := Lib.hid (HF4.out.step hg5 hp5 (by omega) (by omega)); have Hd5 := Lib.hid hd5; have P5 := Lib.hid p5; clear hd5 hp5 hg5 he HF4 Hd2 p5; have c0 := cell_of_row w5 (R + 1) 0 _ _ _ HF5.out.f; have hfr := fun o => frozen_of_row w5 (R + 1) o _ _ HF5.out.f; have hzz := lt_of_block HF5.out.f; (go_wp2_with fail); have HF6 : Hid (FW g s w R (R + 1) 58 #[.string ⟨#[]⟩, .int .i64 0, .int .i64 0, .string ⟨#[]⟩, .bool false, .int .i64 0] #[.string ⟨nm.toArray⟩, .int .i64 0, .int .i64 (kindP a2).1, .string ⟨(kindP a2).2.toArray⟩, .bool mn, .int .i64 c] k5 _) := Lib.hid (Hs.out HF5.out 0 (.string ⟨nm.toArray⟩)); clear c0 hfr hzz HF5; refine (must_p g s k5 61 _ hk5 (by omega) HF6.out.pw).mono ?_; intro e w7 he; rw [Hd5.out] at he; rcases p7 : mustP 61 l5 with ⟨u7, l7⟩ | ⟨er, l⟩
   rotate_left
   · obtain ⟨rfl, hg⟩ := he.bad p7; (go_wp2_with fail); exact ⟨rfl, PEnd.of_bad (by rw [fieldP, Hh.out, PR.bind_ok, P5.out]; simp only [PR.bind_ok, PR.bind_bad, p7]) rfl (HF6.out.gr.trans hg)⟩
   obtain ⟨v, rfl, rfl, ⟨k7, hk7, hd7, hp7⟩, hg7⟩ := he.ok p7; have HF7 := Lib.hid (HF6.out.step hg7 hp7 (by omega) (by omega)); have Hd7 := Lib.hid hd7; have P7 := Lib.hid p7; clear hd7 hp7 hg7 he HF6 Hd5 p7; (go_wp2_with fail); refine (num_p g s k7 536870911 _ hk7 (by omega) (by omega) hgr (Hev.out.gr HF7.out.gr hgr) HF7.out.pw).mono ?_; intro e w8 he; rw [Hd7.out] at he; rcases p8 : numP 536870911 l7 with ⟨no, l8⟩ | ⟨er, l⟩
   rotate_left
   · obtain ⟨rfl, hg⟩ := he.bad p8; (go_wp2_with fail); exact ⟨rfl, PEnd.of_bad (by rw [fieldP, Hh.out, PR.bind_ok, P5.out, PR.bind_ok, P7.out]; simp only [PR.bind_ok, PR.bind_bad, p8]) rfl (HF7.out.gr.trans hg)⟩
   obtain ⟨v, rfl, rfl, ⟨k8, hk8, hd8, hp8⟩, hg8⟩ := he.ok p8; have HF8 := Lib.hid (HF7.out.step hg8 hp8 (by omega) (by omega)); have Hd8 := Lib.hid hd8; have P8 := Lib.hid p8; clear hd8 hp8 hg8 he HF7 Hd7 p8; have c1 := cell_of_row w8 (R + 1) 1 _ _ _ HF8.out.f; have hfr := fun o => frozen_of_row w8 (R + 1) o _ _ HF8.out.f; have hzz := lt_of_block HF8.out.f; (go_wp2_with fail); have HF9 : Hid (FW g s w R (R + 1) 58 #[.string ⟨#[]⟩, .int .i64 0, .int .i64 0, .string ⟨#[]⟩, .bool false, .int .i64 0] #[.string ⟨nm.toArray⟩, .int .i64 no, .int .i64 (kindP a2).1, .string ⟨(kindP a2).2.toArray⟩, .bool mn, .int .i64 c] k8 _) := Lib.hid (Hs.out HF8.out 1 (.int .i64 no)); clear c1 hfr hzz HF8; refine (must_p g s k8 59 _ hk8 (by omega) HF9.out.pw).mono ?_; intro e w10 he; rw [Hd8.out] at he; rcases p10 : mustP 59 l8 with ⟨u10, l10⟩ | ⟨er, l⟩
   rotate_left
   · obtain ⟨rfl, hg⟩ := he.bad p10; (go_wp2_with fail); exact ⟨rfl, PEnd.of_bad (by rw [fieldP, Hh.out, PR.bind_ok, P5.out, PR.bind_ok, P7.out, PR.bind_ok, P8.out]; simp only [PR.bind_ok, PR.bind_bad, p10]) rfl (HF9.out.gr.trans hg)⟩
   obtain ⟨v, rfl, rfl, ⟨k10, hk10, hd10, hp10⟩, hg10⟩ := he.ok p10; have HF10 := Lib.hid (HF9.out.step hg10 hp10 (by omega) (by omega)); have Hd10 := Lib.hid hd10; have P10 := Lib.hid p10; clear hd10 hp10 hg10 he HF9 Hd8 p10; have c0 := cell_of_row w10 (R + 1) 0 _ _ _ HF10.out.f; have c1 := cell_of_row w10 (R + 1) 1 _ _ _ HF10.out.f; have c2 := cell_of_row w10 (R + 1) 2 _ _ _ HF10.out.f; have c3 := cell_of_row w10 (R + 1) 3 _ _ _ HF10.out.f; have c4 := cell_of_row w10 (R + 1) 4 _ _ _ HF10.out.f; have c5 := cell_of_row w10 (R + 1) 5 _ _ _ HF10.out.f; have hfr := fun o => frozen_of_row w10 (R + 1) o _ _ HF10.out.f; have hzz := lt_of_block HF10.out.f; have hgR := HF10.out.r; have z0 := cell_of_row w10 R 0 _ _ _ hgR; have z1 := cell_of_row w10 R 1 _ _ _ hgR; have z2 := cell_of_row w10 R 2 _ _ _ hgR; have z3 := cell_of_row w10 R 3 _ _ _ hgR; have z4 := cell_of_row w10 R 4 _ _ _ hgR; have z5 := cell_of_row w10 R 5 _ _ _ hgR; have zf := fun o => frozen_of_row w10 R o _ _ hgR; have zz := lt_of_block hgR; have hx := Lib.hid (show fieldP c (dr s k0) = .ok ⟨nm, no, (kindP a2).1, (kindP a2).2, mn, c⟩ l10 by rw [fieldP, Hh.out, PR.bind_ok, P5.out, PR.bind_ok, P7.out, PR.bind_ok, P8.out, PR.bind_ok, P10.out]; rfl); (go_wp2_with fail); refine bodyPost_ret (v := fldV ⟨nm, no, (kindP a2).1, (kindP a2).2, mn, c⟩) (by simp [results, Tryd.results36, go_sem, z0, z1, z2, z3, z4, z5, fldV, fldC]) rfl ?_; refine PEnd.of_ok hx.out rfl ⟨k10, hk10, Hd10.out, ?_⟩ ?_
   · (repeat (first | (with_reducible exact HF10.out.pw) | (with_reducible refine PW.other ?_ ?_ _))); all_goals (simp only; omega)
   · (repeat (first | (with_reducible exact HF10.out.gr) | (with_reducible refine Gr.setNew ?_ ?_ _))); all_goals (simp only; rw [HR.out]; omega)
end Go.Proofs.YtbceapeoknngnaaDoor
