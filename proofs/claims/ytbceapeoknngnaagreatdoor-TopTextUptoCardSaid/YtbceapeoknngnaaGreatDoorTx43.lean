/-
  syntax.kind; the parser's field.
  The parser's field.
  The parser in plain Lean: every step leaves less of the text.
  slices.Clone of fields, numbers, items (written by gen_clone.py).
  What a linked file is, in plain Lean.
-/
import Derived.Test.YtbceapeoknngnaaGreatDoorTx42
set_option linter.unusedVariables false
namespace Go.Proofs.YtbceapeoknngnaaGreatDoor
open Go.RowKit
set_option maxRecDepth 100000
open Lib (hid)
theorem idxP_le {α : Type} (p : α → Bool) : ∀ l : List α, idxP p l ≤ l.length
 | [] => by simp [idxP]
 | a :: l => by
   have := idxP_le p l; rw [idxP]; split
   · simp; omega
   · split
     · simp; omega
     · simp; omega
set_option maxHeartbeats 1600000 in
theorem kind_p (a : List UInt8) (w : World) :
   Calls Tryz.prog 187 #[.string ⟨a.toArray⟩] w fun e w' => e = .returned (.tuple #[.int .i64 (kindP a).1, .string ⟨(kindP a).2.toArray⟩]) ∧ Up w w' := by
 have hk : kindP a = if 0 ≤ idxP (fun x => a == x) words then (idxP (fun x => a == x) words + 1, []) else (10, a) := rfl; have Hk := hid hk; clear hk; have hi := fun w1 e => index_str (.slice (some ⟨w1.heap.size, 0, none⟩) 9 9) words a (w1.alloc (.cells wordsV.toArray e)) (words_rd w1 e)
 have hb : idxP (fun x => a == x) words ≤ 9 := by
   exact Int.le_trans (idxP_le (fun x => a == x) words) (by decide)
 generalize idxP (fun x => a == x) words = ix at hi Hk hb; have Hi := hid hi; clear hi
 go_enter Tryz.func187, Tryz.ntmps187
 by_cases h : 0 ≤ ix
 · go_wp2_with (first
     | (go_at_call 122; go_must (refine (words_s w).mono ?_; rintro e w2 ⟨rfl, rfl⟩))
     | (go_at_call 123; go_must (refine (Hi.out _ _).mono ?_; rintro e w3 ⟨rfl, rfl⟩)))
   have hk := Hk.out; rw [if_pos h] at hk; rw [hk]
   go_ret2
   exact ⟨by first | rfl | (congr 3; go_num), (Up.refl w).alloc _⟩
 · have h2 : ix < 0 := by omega
   go_wp2_with (first
     | (go_at_call 122; go_must (refine (words_s w).mono ?_; rintro e w2 ⟨rfl, rfl⟩))
     | (go_at_call 123; go_must (refine (Hi.out _ _).mono ?_; rintro e w3 ⟨rfl, rfl⟩)))
   have hk := Hk.out; rw [if_neg (by omega)] at hk; rw [hk]
   go_ret2
   exact ⟨rfl, (Up.refl w).alloc _⟩
end Go.Proofs.YtbceapeoknngnaaGreatDoor
namespace Go.Proofs.YtbceapeoknngnaaGreatDoor
open Go.RowKit
set_option maxRecDepth 100000
def fldC (x : Fld) : Array Value := #[.string ⟨x.name.toArray⟩, .int .i64 x.number, .int .i64 x.kind, .string ⟨x.type.toArray⟩, .bool x.many, .int .i64 x.choice]
def fldV (x : Fld) : Value := .agg (fldC x)
structure FW (g : Nat) (s : ByteArray) (w : World) (R F : Nat) (t : TypeId) (z cs : Array Value) (k : Nat) (wi : World) : Prop where
 pw : PW g s k wi
 gr : Gr g w wi
 f : wi.heap[F]? = some (.cells cs t (0, 0))
 r : wi.heap[R]? = some (.cells z t (0, 0))
section
variable {g : Nat} {s : ByteArray} {w : World} {R F : Nat} {t : TypeId} {z cs : Array Value} {k : Nat} {wi : World}
theorem FW.step (h : FW g s w R F t z cs k wi) {wj : World} {k' : Nat} (hg : Gr g wi wj) (hp : PW g s k' wj) (hR : R ≠ g) (hF : F ≠ g) : FW g s w R F t z cs k' wj := ⟨hp, h.gr.trans hg, hg.blk h.f hF, hg.blk h.r hR⟩
theorem FW.up (h : FW g s w R F t z cs k wi) {wj : World} (hu : Up wi wj) : FW g s w R F t z cs k wj := ⟨h.pw.up hu, h.gr.up hu, hu.blk h.f, hu.blk h.r⟩
theorem FW.set (h : FW g s w R F t z cs k wi) (i : Nat) (u : Value) (hF : F ≠ g) (hR : R ≠ F) (hw : w.heap.size ≤ F) : FW g s w R F t z (cs.setIfInBounds i u) k (wi.setCell ⟨F, i, none⟩ u) :=
 ⟨h.pw.other hF u, h.gr.setNew hw u, heap_setCell_same wi F i _ _ _ h.f, (Below.heap_setCell wi ⟨F, i, none⟩ u R hR).trans h.r⟩
end
set_option maxHeartbeats 3200000 in
theorem field_pp (g : Nat) (s : ByteArray) (k0 c : Nat) (w : World) (hk0 : k0 ≤ s.size) (hz0 : s.size ≤ 4611686018427) (hgr : 3 < g) (hev : EvR w) (hp : PW g s k0 w) :
   Calls Tryz.prog 144 #[.pointer (some ⟨g, 0, none⟩), .int .i64 (c : Int)] w (PEnd g s w (fieldP c (dr s k0)) (fun _ x v => v = fldV x)) := by
 have hgw := hp.lt; have Hp := Lib.hid hp; have Hev := Lib.hid hev; clear hp hev
 go_enter Tryz.func144, Tryz.ntmps144
 (go_wp2_with fail); have HF0 := Lib.hid (show FW g s w w.heap.size (w.heap.size + 1) 40 #[.string ⟨#[]⟩, .int .i64 0, .int .i64 0, .string ⟨#[]⟩, .bool false, .int .i64 0] #[.string ⟨#[]⟩, .int .i64 0, .int .i64 0, .string ⟨#[]⟩, .bool false, .int .i64 c] k0 ((w.alloc (.cells #[.string ⟨#[]⟩, .int .i64 0, .int .i64 0, .string ⟨#[]⟩, .bool false, .int .i64 0] 40)).alloc (.cells #[.string ⟨#[]⟩, .int .i64 0, .int .i64 0, .string ⟨#[]⟩, .bool false, .int .i64 c] 40)) from ⟨(Hp.out.alloc _).alloc _, ((Gr.refl g w).alloc _).alloc _, blk_new (w.alloc _) _ (by simp), blk_old _ (blk_new w _ rfl)⟩); generalize (w.alloc (.cells #[.string ⟨#[]⟩, .int .i64 0, .int .i64 0, .string ⟨#[]⟩, .bool false, .int .i64 0] 40)).alloc (.cells #[.string ⟨#[]⟩, .int .i64 0, .int .i64 0, .string ⟨#[]⟩, .bool false, .int .i64 c] 40) = w0 at *; obtain ⟨R, hR⟩ : ∃ R, w.heap.size = R := ⟨_, rfl⟩; rw [hR] at HF0 hgw ⊢; have HR := Lib.hid hR; clear hR Hp; have Hs : Hid (∀ {cs : Array Value} {k : Nat} {wi : World}, FW g s w R (R + 1) 40 #[.string ⟨#[]⟩, .int .i64 0, .int .i64 0, .string ⟨#[]⟩, .bool false, .int .i64 0] cs k wi → ∀ (i : Nat) (u : Value), FW g s w R (R + 1) 40 #[.string ⟨#[]⟩, .int .i64 0, .int .i64 0, .string ⟨#[]⟩, .bool false, .int .i64 0] (cs.setIfInBounds i u) k (wi.setCell ⟨R + 1, i, none⟩ u)) := Lib.hid (fun h i u => h.set i u (by omega) (by omega) (by rw [HR.out]; omega)); refine (word_p g s k0 w0 hk0 (by omega) HF0.out.pw).mono ?_; intro e w1 he
 cases h1 : wordP (dr s k0) with
 | bad er l =>
   obtain ⟨rfl, hg⟩ := he.bad h1; (go_wp2_with fail); exact ⟨rfl, PEnd.of_bad (by rw [fieldP, headP, h1]; rfl) rfl (HF0.out.gr.trans hg)⟩
 | ok a1 l1 =>
   obtain ⟨v, rfl, rfl, ⟨k1, hk1, hd1, hp1⟩, hg1⟩ := he.ok h1; have HF1 := Lib.hid (HF0.out.step hg1 hp1 (by omega) (by omega)); have Hh := Lib.hid (show headP c (dr s k0) = if a1 = wRepeated ∧ c = 0 then (wordP l1).bind fun w2 l2 => .ok (true, w2) l2 else .ok (false, a1) l1 by rw [headP, h1]; rfl); have Hd1 := Lib.hid hd1; clear hd1 hp1 hg1 he HF0
   have hcs : (a1 = wRepeated ∧ c = 0) ∨ (a1 = wRepeated ∧ c ≠ 0) ∨ a1 ≠ wRepeated := by
     by_cases hm : a1 = wRepeated
     · by_cases hc : c = 0
       · exact .inl ⟨hm, hc⟩
       · exact .inr (.inl ⟨hm, hc⟩)
     · exact .inr (.inr hm)
   rcases hcs with ⟨hm, hc⟩ | ⟨hm, hc⟩ | hm
   case' inl =>
     have hh := Hh.out; rw [if_pos ⟨hm, hc⟩] at hh; have Hh := Lib.hid hh; (have e1 : (a1 == [114, 101, 112, 101, 97, 116, 101, 100]) = true := by rw [hm]; rfl); (have e2 : ((c : Int) == 0) = true := by rw [hc]; rfl); have c4 := cell_of_row w1 (R + 1) 4 _ _ _ HF1.out.f; have hfr := fun o => frozen_of_row w1 (R + 1) o _ _ HF1.out.f; have hzz := lt_of_block HF1.out.f; clear hm hc hh; (go_wp2_with fail); have HF2 : Hid (FW g s w R (R + 1) 40 #[.string ⟨#[]⟩, .int .i64 0, .int .i64 0, .string ⟨#[]⟩, .bool false, .int .i64 0] #[.string ⟨#[]⟩, .int .i64 0, .int .i64 0, .string ⟨#[]⟩, .bool true, .int .i64 c] k1 _) := Lib.hid (Hs.out HF1.out 4 (.bool true)); clear c4 hfr hzz; refine (word_p g s k1 _ hk1 (by omega) HF2.out.pw).mono ?_; intro e w3 he; rw [Hd1.out] at he; rcases h2 : wordP l1 with ⟨a2, l2⟩ | ⟨er, l⟩
     rotate_left
     · obtain ⟨rfl, hg⟩ := he.bad h2; (go_wp2_with fail); exact ⟨rfl, PEnd.of_bad (by rw [fieldP, Hh.out, h2]; rfl) rfl (HF2.out.gr.trans hg)⟩
     obtain ⟨v, rfl, rfl, ⟨k2, hk2, hd2, hp2⟩, hg2⟩ := he.ok h2; obtain ⟨mn, hmn⟩ : ∃ mn, mn = true := ⟨_, rfl⟩; have HF2 : Hid (FW g s w R (R + 1) 40 #[.string ⟨#[]⟩, .int .i64 0, .int .i64 0, .string ⟨#[]⟩, .bool false, .int .i64 0] #[.string ⟨#[]⟩, .int .i64 0, .int .i64 0, .string ⟨#[]⟩, .bool mn, .int .i64 c] k2 w3) := Lib.hid (by rw [hmn]; exact HF2.out.step hg2 hp2 (by omega) (by omega)); have Hh := Lib.hid (show headP c (dr s k0) = .ok (mn, a2) l2 by rw [Hh.out, h2, hmn]; rfl); have Hd2 := Lib.hid hd2; clear hd2 hp2 hg2 he hmn h2
   case' inr.inl =>
     have hh := Hh.out; rw [if_neg (fun h => hc h.2)] at hh; (have e1 : (a1 == [114, 101, 112, 101, 97, 116, 101, 100]) = true := by rw [hm]; rfl); (have e2 : ((c : Int) == 0) = false := by rw [beq_eq_false_iff_ne]; omega); obtain ⟨mn, hmn⟩ : ∃ mn, mn = false := ⟨_, rfl⟩; have HF2 : Hid (FW g s w R (R + 1) 40 #[.string ⟨#[]⟩, .int .i64 0, .int .i64 0, .string ⟨#[]⟩, .bool false, .int .i64 0] #[.string ⟨#[]⟩, .int .i64 0, .int .i64 0, .string ⟨#[]⟩, .bool mn, .int .i64 c] k1 w1) := Lib.hid (by rw [hmn]; exact HF1.out); have Hh := Lib.hid (show headP c (dr s k0) = .ok (mn, a1) l1 by rw [hh, hmn]); have Hd2 := Hd1; have hk2 := hk1; clear hm hc hh hmn; generalize a1 = a2 at *; generalize l1 = l2 at *; generalize k1 = k2 at *; go_wp2_with fail
   case' inr.inr =>
     have hh := Hh.out; rw [if_neg (fun h => hm h.1)] at hh; (have e1 : (a1 == [114, 101, 112, 101, 97, 116, 101, 100]) = false := by rw [beq_eq_false_iff_ne]; exact hm); obtain ⟨mn, hmn⟩ : ∃ mn, mn = false := ⟨_, rfl⟩; have HF2 : Hid (FW g s w R (R + 1) 40 #[.string ⟨#[]⟩, .int .i64 0, .int .i64 0, .string ⟨#[]⟩, .bool false, .int .i64 0] #[.string ⟨#[]⟩, .int .i64 0, .int .i64 0, .string ⟨#[]⟩, .bool mn, .int .i64 c] k1 w1) := Lib.hid (by rw [hmn]; exact HF1.out); have Hh := Lib.hid (show headP c (dr s k0) = .ok (mn, a1) l1 by rw [hh, hmn]); have Hd2 := Hd1; have hk2 := hk1; clear hm hh hmn; generalize a1 = a2 at *; generalize l1 = l2 at *; generalize k1 = k2 at *; go_wp2_with fail
   all_goals
   clear HF1 Hd1; (go_wp2_with (first | (go_at_call 187; go_must (refine (kind_p a2 _).mono ?_; rintro e w3 ⟨rfl, hu3⟩; have HF3 := Lib.hid (HF2.out.up hu3); have c2 := cell_of_row w3 (R + 1) 2 _ _ _ HF3.out.f; have c3 := cell_of_row w3 (R + 1) 3 _ _ _ HF3.out.f; have hfr := fun o => frozen_of_row w3 (R + 1) o _ _ HF3.out.f; have hzz := lt_of_block HF3.out.f; clear hu3)))); have HF4 : Hid (FW g s w R (R + 1) 40 #[.string ⟨#[]⟩, .int .i64 0, .int .i64 0, .string ⟨#[]⟩, .bool false, .int .i64 0] #[.string ⟨#[]⟩, .int .i64 0, .int .i64 (kindP a2).1, .string ⟨(kindP a2).2.toArray⟩, .bool mn, .int .i64 c] k2 _) := Lib.hid (Hs.out (Hs.out HF3.out 2 (.int .i64 (kindP a2).1)) 3 (.string ⟨(kindP a2).2.toArray⟩)); clear c2 c3 hfr hzz HF3 HF2; refine (word_p g s k2 _ hk2 (by omega) HF4.out.pw).mono ?_; intro e w5 he; rw [Hd2.out] at he; rcases p5 : wordP l2 with ⟨nm, l5⟩ | ⟨er, l⟩
   rotate_left
   · obtain ⟨rfl, hg⟩ := he.bad p5; (go_wp2_with fail); exact ⟨rfl, PEnd.of_bad (by rw [fieldP, Hh.out]; simp only [PR.bind_ok, PR.bind_bad, p5]) rfl (HF4.out.gr.trans hg)⟩
   obtain ⟨v, rfl, rfl, ⟨k5, hk5, hd5, hp5⟩, hg5⟩ := he.ok p5; have HF5 := Lib.hid (HF4.out.step hg5 hp5 (by omega) (by omega)); have Hd5 := Lib.hid hd5; have P5 := Lib.hid p5; clear hd5 hp5 hg5 he HF4 Hd2 p5; have c0 := cell_of_row w5 (R + 1) 0 _ _ _ HF5.out.f; have hfr := fun o => frozen_of_row w5 (R + 1) o _ _ HF5.out.f; have hzz := lt_of_block HF5.out.f; (go_wp2_with fail); have HF6 : Hid (FW g s w R (R + 1) 40 #[.string ⟨#[]⟩, .int .i64 0, .int .i64 0, .string ⟨#[]⟩, .bool false, .int .i64 0] #[.string ⟨nm.toArray⟩, .int .i64 0, .int .i64 (kindP a2).1, .string ⟨(kindP a2).2.toArray⟩, .bool mn, .int .i64 c] k5 _) := Lib.hid (Hs.out HF5.out 0 (.string ⟨nm.toArray⟩)); clear c0 hfr hzz HF5; refine (must_p g s k5 61 _ hk5 (by omega) HF6.out.pw).mono ?_; intro e w7 he; rw [Hd5.out] at he; rcases p7 : mustP 61 l5 with ⟨u7, l7⟩ | ⟨er, l⟩
   rotate_left
   · obtain ⟨rfl, hg⟩ := he.bad p7; (go_wp2_with fail); exact ⟨rfl, PEnd.of_bad (by rw [fieldP, Hh.out, PR.bind_ok, P5.out]; simp only [PR.bind_ok, PR.bind_bad, p7]) rfl (HF6.out.gr.trans hg)⟩
   obtain ⟨v, rfl, rfl, ⟨k7, hk7, hd7, hp7⟩, hg7⟩ := he.ok p7; have HF7 := Lib.hid (HF6.out.step hg7 hp7 (by omega) (by omega)); have Hd7 := Lib.hid hd7; have P7 := Lib.hid p7; clear hd7 hp7 hg7 he HF6 Hd5 p7; (go_wp2_with fail); refine (num_p g s k7 536870911 _ hk7 (by omega) (by omega) hgr (Hev.out.gr HF7.out.gr hgr) HF7.out.pw).mono ?_; intro e w8 he; rw [Hd7.out] at he; rcases p8 : numP 536870911 l7 with ⟨no, l8⟩ | ⟨er, l⟩
   rotate_left
   · obtain ⟨rfl, hg⟩ := he.bad p8; (go_wp2_with fail); exact ⟨rfl, PEnd.of_bad (by rw [fieldP, Hh.out, PR.bind_ok, P5.out, PR.bind_ok, P7.out]; simp only [PR.bind_ok, PR.bind_bad, p8]) rfl (HF7.out.gr.trans hg)⟩
   obtain ⟨v, rfl, rfl, ⟨k8, hk8, hd8, hp8⟩, hg8⟩ := he.ok p8; have HF8 := Lib.hid (HF7.out.step hg8 hp8 (by omega) (by omega)); have Hd8 := Lib.hid hd8; have P8 := Lib.hid p8; clear hd8 hp8 hg8 he HF7 Hd7 p8; have c1 := cell_of_row w8 (R + 1) 1 _ _ _ HF8.out.f; have hfr := fun o => frozen_of_row w8 (R + 1) o _ _ HF8.out.f; have hzz := lt_of_block HF8.out.f; (go_wp2_with fail); have HF9 : Hid (FW g s w R (R + 1) 40 #[.string ⟨#[]⟩, .int .i64 0, .int .i64 0, .string ⟨#[]⟩, .bool false, .int .i64 0] #[.string ⟨nm.toArray⟩, .int .i64 no, .int .i64 (kindP a2).1, .string ⟨(kindP a2).2.toArray⟩, .bool mn, .int .i64 c] k8 _) := Lib.hid (Hs.out HF8.out 1 (.int .i64 no)); clear c1 hfr hzz HF8; refine (must_p g s k8 59 _ hk8 (by omega) HF9.out.pw).mono ?_; intro e w10 he; rw [Hd8.out] at he; rcases p10 : mustP 59 l8 with ⟨u10, l10⟩ | ⟨er, l⟩
   rotate_left
   · obtain ⟨rfl, hg⟩ := he.bad p10; (go_wp2_with fail); exact ⟨rfl, PEnd.of_bad (by rw [fieldP, Hh.out, PR.bind_ok, P5.out, PR.bind_ok, P7.out, PR.bind_ok, P8.out]; simp only [PR.bind_ok, PR.bind_bad, p10]) rfl (HF9.out.gr.trans hg)⟩
   obtain ⟨v, rfl, rfl, ⟨k10, hk10, hd10, hp10⟩, hg10⟩ := he.ok p10; have HF10 := Lib.hid (HF9.out.step hg10 hp10 (by omega) (by omega)); have Hd10 := Lib.hid hd10; have P10 := Lib.hid p10; clear hd10 hp10 hg10 he HF9 Hd8 p10; have c0 := cell_of_row w10 (R + 1) 0 _ _ _ HF10.out.f; have c1 := cell_of_row w10 (R + 1) 1 _ _ _ HF10.out.f; have c2 := cell_of_row w10 (R + 1) 2 _ _ _ HF10.out.f; have c3 := cell_of_row w10 (R + 1) 3 _ _ _ HF10.out.f; have c4 := cell_of_row w10 (R + 1) 4 _ _ _ HF10.out.f; have c5 := cell_of_row w10 (R + 1) 5 _ _ _ HF10.out.f; have hfr := fun o => frozen_of_row w10 (R + 1) o _ _ HF10.out.f; have hzz := lt_of_block HF10.out.f; have hgR := HF10.out.r; have z0 := cell_of_row w10 R 0 _ _ _ hgR; have z1 := cell_of_row w10 R 1 _ _ _ hgR; have z2 := cell_of_row w10 R 2 _ _ _ hgR; have z3 := cell_of_row w10 R 3 _ _ _ hgR; have z4 := cell_of_row w10 R 4 _ _ _ hgR; have z5 := cell_of_row w10 R 5 _ _ _ hgR; have zf := fun o => frozen_of_row w10 R o _ _ hgR; have zz := lt_of_block hgR; have hx := Lib.hid (show fieldP c (dr s k0) = .ok ⟨nm, no, (kindP a2).1, (kindP a2).2, mn, c⟩ l10 by rw [fieldP, Hh.out, PR.bind_ok, P5.out, PR.bind_ok, P7.out, PR.bind_ok, P8.out, PR.bind_ok, P10.out]; rfl); (go_wp2_with fail); refine bodyPost_ret (v := fldV ⟨nm, no, (kindP a2).1, (kindP a2).2, mn, c⟩) (by simp [results, Tryz.results144, go_sem, z0, z1, z2, z3, z4, z5, fldV, fldC]) rfl ?_; refine PEnd.of_ok hx.out rfl ⟨k10, hk10, Hd10.out, ?_⟩ ?_
   · (repeat (first | (with_reducible exact HF10.out.pw) | (with_reducible refine PW.other ?_ ?_ _))); all_goals (simp only; omega)
   · (repeat (first | (with_reducible exact HF10.out.gr) | (with_reducible refine Gr.setNew ?_ ?_ _))); all_goals (simp only; rw [HR.out]; omega)
end Go.Proofs.YtbceapeoknngnaaGreatDoor
namespace Go.Proofs.YtbceapeoknngnaaGreatDoor
theorem skipL_len : ∀ (l : List UInt8) (b : Bool), (skipL b l).length ≤ l.length
 | [], b => by simp [skipL]
 | c :: l, true => by
   have h1 := skipL_len l false; have h2 := skipL_len l true; rw [skipL]; simp only [List.length_cons]; split <;> omega
 | c :: l, false => by
   have h1 := skipL_len l false; have h2 := skipL_len l true; rw [skipL]; simp only [List.length_cons]; split
   · omega
   · split
     · omega
     · simp
theorem skip_len (l : List UInt8) : (skip l).length ≤ l.length := skipL_len l false
theorem cand_len : ∀ L : List UInt8, (candP L).length ≤ L.length
 | [] => by simp [candP]
 | c :: L => by
   unfold candP; split
   · simp
   · rename_i h; injection h with h1 h2; subst h1; subst h2; split
     · exact (List.takeWhile_sublist _).length_le
     · simp
theorem word_len {l : List UInt8} {a l' : List UInt8} (h : wordP l = .ok a l') : l'.length < l.length ∧ a.length ≤ 16 ∧ 0 < a.length := by
 have hs := skip_len l; unfold wordP at h; split at h
 · cases h
 · rename_i h0; split at h
   · cases h
   · rename_i h1; injection h with h2 h3
     have : 0 < (candP (skip l)).length := by
       cases hc : candP (skip l) with
       | nil => exact absurd hc h0
       | cons c r => simp
     have hle : (candP (skip l)).length ≤ (skip l).length := cand_len _; subst h2; subst h3; rw [List.length_drop]; omega
theorem eat_len (c : UInt8) (l : List UInt8) : (eatP c l).2.length ≤ l.length := by
 have hs := skip_len l; unfold eatP; split
 · simp only [List.length_tail]; omega
 · exact hs
theorem must_len {c : UInt8} {l l' : List UInt8} {u : Unit} (h : mustP c l = .ok u l') : l'.length ≤ l.length := by
 have hs := eat_len c l; unfold mustP at h; split at h
 · injection h with _ h3; subst h3; exact hs
 · cases h
theorem num_lenP {m n : Nat} {l l' : List UInt8} (h : numP m l = .ok n l') : l'.length < l.length ∧ n ≤ m := by
 have hs := skip_len l; unfold numP at h; split at h
 · cases h
 · rename_i h0; split at h
   · cases h
   · rename_i h1; injection h with h2 h3
     have : 0 < ((skip l).takeWhile digitB).length := by
       cases hc : (skip l).takeWhile digitB with
       | nil => exact absurd hc h0
       | cons c r => simp
     have hle : ((skip l).takeWhile digitB).length ≤ (skip l).length := (List.takeWhile_sublist _).length_le; subst h2; subst h3; rw [List.length_drop]; refine ⟨by omega, ?_⟩; have := fun h => h1 (Or.inl h); omega
theorem bind_ok_of {α β : Type} {r : PR α} {f : α → List UInt8 → PR β} {b : β} {l : List UInt8} (h : r.bind f = .ok b l) : ∃ a l1, r = .ok a l1 ∧ f a l1 = .ok b l := by
 cases r with
 | ok a l1 => exact ⟨a, l1, rfl, h⟩
 | bad e l1 => cases h
theorem idx_le {α : Type} (p : α → Bool) : ∀ l : List α, idxP p l ≤ l.length
 | [] => by simp [idxP]
 | a :: l => by
   have := idx_le p l; rw [idxP]; split
   · simp; omega
   · split
     · simp; omega
     · simp; omega
theorem kind_len (w : List UInt8) : 0 ≤ (kindP w).1 ∧ (kindP w).1 ≤ 10 ∧ (kindP w).2.length ≤ w.length := by
 unfold kindP; have h9 : idxP (fun x => w == x) words ≤ 9 := Int.le_trans (idx_le _ words) (by decide); split
 · simp only [List.length_nil]; omega
 · simp only; omega
theorem head_len {c : Nat} {l l' : List UInt8} {p : Bool × List UInt8} (h : headP c l = .ok p l') : l'.length < l.length ∧ p.2.length ≤ 16 := by
 unfold headP at h; obtain ⟨w, l1, h1, h2⟩ := bind_ok_of h; have := word_len h1; split at h2
 · obtain ⟨w2, l2, h3, h4⟩ := bind_ok_of h2; have := word_len h3; injection h4 with h5 h6; subst h5; subst h6; exact ⟨by omega, by simp only; omega⟩
 · injection h2 with h5 h6; subst h5; subst h6; exact ⟨by omega, by simp only; omega⟩
def fldOk (x : Fld) : Prop := 0 ≤ x.number ∧ x.number ≤ 536870911 ∧ 0 ≤ x.kind ∧ x.kind ≤ 10 ∧ x.name.length ≤ 16 ∧ x.type.length ≤ 16
theorem field_len {c : Nat} {l l' : List UInt8} {x : Fld} (h : fieldP c l = .ok x l') : l'.length < l.length ∧ fldOk x ∧ x.choice = c := by
 unfold fieldP at h; obtain ⟨mw, l2, h1, h⟩ := bind_ok_of h; obtain ⟨nm, l3, h2, h⟩ := bind_ok_of h; obtain ⟨u, l4, h3, h⟩ := bind_ok_of h; obtain ⟨n, l5, h4, h⟩ := bind_ok_of h; obtain ⟨u2, l6, h5, h⟩ := bind_ok_of h; injection h with h6 h7; have g1 := head_len h1; have g2 := word_len h2; have g3 := must_len h3; have g4 := num_lenP h4; have g5 := must_len h5; have g6 := kind_len mw.2; subst h6; subst h7; exact ⟨by omega, ⟨by simp only; omega, by simp only; omega, g6.1, g6.2.1, g2.2.1, by simp only; omega⟩, rfl⟩
theorem item_len {l l' : List UInt8} {x : Itm} (h : itemP l = .ok x l') : l'.length < l.length ∧ x.name.length ≤ 16 ∧ -2147483648 ≤ x.value ∧ x.value ≤ 2147483647 := by
 unfold itemP at h; obtain ⟨nm, l2, h1, h⟩ := bind_ok_of h; obtain ⟨u, l3, h2, h⟩ := bind_ok_of h; obtain ⟨v, l5, h3, h⟩ := bind_ok_of h; obtain ⟨u2, l6, h4, h⟩ := bind_ok_of h; injection h with h6 h7; have g1 := word_len h1; have g2 := must_len h2; have g4 := must_len h4; have ge := eat_len 45 l3
 have hv : l5.length ≤ l3.length ∧ -2147483648 ≤ v ∧ v ≤ 2147483647 := by
   split at h3
   · obtain ⟨n, l4, h5, h8⟩ := bind_ok_of h3; have g5 := num_lenP h5; injection h8 with h9 h10; subst h9; subst h10; omega
   · obtain ⟨n, l4, h5, h8⟩ := bind_ok_of h3; have g5 := num_lenP h5; injection h8 with h9 h10; subst h9; subst h10; omega
 subst h6; subst h7; exact ⟨by omega, g1.2.1, hv.2.1, hv.2.2⟩
open Go.RowKit
set_option maxRecDepth 100000
open Lib (hid)
theorem one_fld : ∀ S w a cs, DFld S w a cs → ∀ u ∈ cs, u.oneCell' = true := by
 rintro S w a cs ⟨rfl, _⟩ u hu; simp only [List.mem_cons, List.not_mem_nil, or_false] at hu; rcases hu with rfl | rfl | rfl | rfl | rfl | rfl <;> rfl
theorem one_num : ∀ S w a cs, DInt S w a cs → ∀ u ∈ cs, u.oneCell' = true := by
 rintro S w a cs ⟨rfl, _⟩ u hu; simp only [List.mem_cons, List.not_mem_nil, or_false] at hu; rcases hu with rfl; rfl
theorem one_itm : ∀ S w a cs, DItm S w a cs → ∀ u ∈ cs, u.oneCell' = true := by
 rintro S w a cs ⟨rfl, _⟩ u hu; simp only [List.mem_cons, List.not_mem_nil, or_false] at hu; rcases hu with rfl | rfl <;> rfl
theorem eFld : Elem Tryz.prog 36 40 6 64 (.agg #[.string .empty, .int .i64 0, .int .i64 0, .string .empty, .bool false, .int .i64 0]) := ⟨Tryz.underlying36, info_parts (by kernel_rfl), rfl, by decide⟩
set_option maxHeartbeats 800000 in
theorem clone_fld (v : Value) (l : List Fld) (w : World) (hv : RdS DFld 6 All w v l) (hl : l.length * 64 ≤ 140737488355328) :
   Calls Tryz.prog 79 #[v] w fun e w' => ∃ v', e = .returned v' ∧ OwnS DFld w.heap.size 40 6 All w' v' l ∧ Up w w' := by
 obtain ⟨ao, cap, rfl, hc1, hc2⟩ := hv.val; have Hn := hid (RdS.css (by decide) hv); clear hv; have hnil := fun (w : World) (a : Option Addr) (n c : Nat) => Lib.run_eql_slice_nil (P := Tryz.prog) w 36 40 a n c 0 0 Tryz.underlying36
 cases ao with
 | none =>
   have h0 := Hn.out.2.1 rfl; have : l = [] := List.eq_nil_of_length_eq_zero h0.1; subst this; obtain rfl := h0.2; clear h0
   go_enter Tryz.func79, Tryz.ntmps79
   go_wp2_with fail
   go_ret
   exact ⟨_, rfl, OwnS.nil _ _ _ _ _ _, Up.refl _⟩
 | some ad =>
   obtain ⟨_, _, css, hcl, hel, hfl, hnw⟩ := Hn.out; have Hel := hid hel; have Hnw := hid hnw; have Hfl := hid hfl; have Hcl := hid hcl; have Hone := hid (ones_of (D := DFld) (S := All) (w := w) (l := l) (size := 6) one_fld hcl hel); clear hel hnw hfl hcl Hn
   go_enter Tryz.func79, Tryz.ntmps79
   go_wp2_with (at_builtin; go_loud (refine wpList_app eFld _ (by rfl) _ _ (by rfl) w.heap.size _ 0 [] (by rfl) (World.ownsRow_lit w #[] 0 (Nat.le_refl _) (by unfold maxLen; omega) (by simp)) (some ad) l.length cap (by rfl) css.flatten Hfl.out (by simp) (fun ad' h j u hu => ?_) Hone.out (by omega) (by unfold maxLen; omega) (by simp) ?_))
   · exact (Up.alloc (Up.refl w) _).cell_some (Hnw.out ad' h j u hu)
   · intro v1 w1 how1 hev1; go_wp2_with fail
     go_ret
     refine ⟨_, rfl, ⟨css, Hcl.out, by simpa using how1, fun i hi => ?_⟩, (Up.alloc (Up.refl w) _).evo hev1 (fun k hk => by simp [Value.ownBlock] at hk; omega)⟩; obtain ⟨cs, h1, h2, h3⟩ := Hel.out i hi; exact ⟨cs, h1, h2, h3⟩
theorem eNum : Elem Tryz.prog 30 3 1 8 (.int .i64 0) := ⟨Tryz.underlying30, info_parts (by kernel_rfl), rfl, by decide⟩
set_option maxHeartbeats 800000 in
theorem clone_num (v : Value) (l : List Int) (w : World) (hv : RdS DInt 1 All w v l) (hl : l.length * 8 ≤ 140737488355328) :
   Calls Tryz.prog 80 #[v] w fun e w' => ∃ v', e = .returned v' ∧ OwnS DInt w.heap.size 3 1 All w' v' l ∧ Up w w' := by
 obtain ⟨ao, cap, rfl, hc1, hc2⟩ := hv.val; have Hn := hid (RdS.css (by decide) hv); clear hv; have hnil := fun (w : World) (a : Option Addr) (n c : Nat) => Lib.run_eql_slice_nil (P := Tryz.prog) w 30 3 a n c 0 0 Tryz.underlying30
 cases ao with
 | none =>
   have h0 := Hn.out.2.1 rfl; have : l = [] := List.eq_nil_of_length_eq_zero h0.1; subst this; obtain rfl := h0.2; clear h0
   go_enter Tryz.func80, Tryz.ntmps80
   go_wp2_with fail
   go_ret
   exact ⟨_, rfl, OwnS.nil _ _ _ _ _ _, Up.refl _⟩
 | some ad =>
   obtain ⟨_, _, css, hcl, hel, hfl, hnw⟩ := Hn.out; have Hel := hid hel; have Hnw := hid hnw; have Hfl := hid hfl; have Hcl := hid hcl; have Hone := hid (ones_of (D := DInt) (S := All) (w := w) (l := l) (size := 1) one_num hcl hel); clear hel hnw hfl hcl Hn
   go_enter Tryz.func80, Tryz.ntmps80
   go_wp2_with (at_builtin; go_loud (refine wpList_app eNum _ (by rfl) _ _ (by rfl) w.heap.size _ 0 [] (by rfl) (World.ownsRow_lit w #[] 0 (Nat.le_refl _) (by unfold maxLen; omega) (by simp)) (some ad) l.length cap (by rfl) css.flatten Hfl.out (by simp) (fun ad' h j u hu => ?_) Hone.out (by omega) (by unfold maxLen; omega) (by simp) ?_))
   · exact (Up.alloc (Up.refl w) _).cell_some (Hnw.out ad' h j u hu)
   · intro v1 w1 how1 hev1; go_wp2_with fail
     go_ret
     refine ⟨_, rfl, ⟨css, Hcl.out, by simpa using how1, fun i hi => ?_⟩, (Up.alloc (Up.refl w) _).evo hev1 (fun k hk => by simp [Value.ownBlock] at hk; omega)⟩; obtain ⟨cs, h1, h2, h3⟩ := Hel.out i hi; exact ⟨cs, h1, h2, h3⟩
theorem eItm : Elem Tryz.prog 138 164 2 24 (.agg #[.string .empty, .int .i64 0]) := ⟨Tryz.underlying138, info_parts (by kernel_rfl), rfl, by decide⟩
set_option maxHeartbeats 800000 in
theorem clone_itm (v : Value) (l : List Itm) (w : World) (hv : RdS DItm 2 All w v l) (hl : l.length * 24 ≤ 140737488355328) :
   Calls Tryz.prog 83 #[v] w fun e w' => ∃ v', e = .returned v' ∧ OwnS DItm w.heap.size 164 2 All w' v' l ∧ Up w w' := by
 obtain ⟨ao, cap, rfl, hc1, hc2⟩ := hv.val; have Hn := hid (RdS.css (by decide) hv); clear hv; have hnil := fun (w : World) (a : Option Addr) (n c : Nat) => Lib.run_eql_slice_nil (P := Tryz.prog) w 138 164 a n c 0 0 Tryz.underlying138
 cases ao with
 | none =>
   have h0 := Hn.out.2.1 rfl; have : l = [] := List.eq_nil_of_length_eq_zero h0.1; subst this; obtain rfl := h0.2; clear h0
   go_enter Tryz.func83, Tryz.ntmps83
   go_wp2_with fail
   go_ret
   exact ⟨_, rfl, OwnS.nil _ _ _ _ _ _, Up.refl _⟩
 | some ad =>
   obtain ⟨_, _, css, hcl, hel, hfl, hnw⟩ := Hn.out; have Hel := hid hel; have Hnw := hid hnw; have Hfl := hid hfl; have Hcl := hid hcl; have Hone := hid (ones_of (D := DItm) (S := All) (w := w) (l := l) (size := 2) one_itm hcl hel); clear hel hnw hfl hcl Hn
   go_enter Tryz.func83, Tryz.ntmps83
   go_wp2_with (at_builtin; go_loud (refine wpList_app eItm _ (by rfl) _ _ (by rfl) w.heap.size _ 0 [] (by rfl) (World.ownsRow_lit w #[] 0 (Nat.le_refl _) (by unfold maxLen; omega) (by simp)) (some ad) l.length cap (by rfl) css.flatten Hfl.out (by simp) (fun ad' h j u hu => ?_) Hone.out (by omega) (by unfold maxLen; omega) (by simp) ?_))
   · exact (Up.alloc (Up.refl w) _).cell_some (Hnw.out ad' h j u hu)
   · intro v1 w1 how1 hev1; go_wp2_with fail
     go_ret
     refine ⟨_, rfl, ⟨css, Hcl.out, by simpa using how1, fun i hi => ?_⟩, (Up.alloc (Up.refl w) _).evo hev1 (fun k hk => by simp [Value.ownBlock] at hk; omega)⟩; obtain ⟨cs, h1, h2, h3⟩ := Hel.out i hi; exact ⟨cs, h1, h2, h3⟩
end Go.Proofs.YtbceapeoknngnaaGreatDoor
namespace Go.Proofs.YtbceapeoknngnaaGreatDoor
open Go.RowKit
def linkX (f : Fil) (x : Fld) : Fld := if x.kind = 10 ∧ idxP (fun m => m.name == x.type) f.msgs < 0 ∧ 0 ≤ idxP (fun e => e.name == x.type) f.enums then { x with kind := 5 } else x
def linkM (f : Fil) (m : Msg) : Msg := { m with fields := m.fields.map (linkX f) }
def linkF (f : Fil) : Fil := ⟨f.msgs.map (linkM f), f.enums⟩
def linkN (f : Fil) : Fil × Int × Nat := if (wrongN (linkF f)).1 ≠ 0 then (⟨[], []⟩, wrongN (linkF f)) else (linkF f, 0, 0)
theorem eMsg : Elem Tryz.prog 22 38 3 64 (.agg #[.string .empty, .slice none 0 0, .slice none 0 0]) := ⟨Tryz.underlying22, info_parts (by kernel_rfl), rfl, by decide⟩
theorem eEnu : Elem Tryz.prog 23 140 2 40 (.agg #[.string .empty, .slice none 0 0]) := ⟨Tryz.underlying23, info_parts (by kernel_rfl), rfl, by decide⟩
end Go.Proofs.YtbceapeoknngnaaGreatDoor
