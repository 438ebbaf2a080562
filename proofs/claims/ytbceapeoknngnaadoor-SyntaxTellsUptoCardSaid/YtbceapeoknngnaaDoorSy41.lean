/-
  syntax.message: a message's text.
-/
import Derived.Test.YtbceapeoknngnaaDoorSy40
set_option linter.unusedVariables false
namespace Go.Proofs.YtbceapeoknngnaaDoor
open Go.RowKit
set_option maxRecDepth 100000
open Lib (hid)
def Wr (w0 : World) (b : Nat) (T R : List UInt8) (w : World) : Prop := ∃ acc, Up w0 w ∧ Bld w0.heap.size b acc w ∧ acc ++ R = T
theorem Wr.base {w0 : World} {b : Nat} {T R : List UInt8} {w : World} (h : Wr w0 b T R w) : Up w0 w := h.choose_spec.1
theorem Wr.up {w0 : World} {b : Nat} {T R : List UInt8} {w w' : World} (h : Wr w0 b T R w) (u : Up w w') : Wr w0 b T R w' :=
 let ⟨acc, h1, h2, h3⟩ := h; ⟨acc, h1.trans u, h2.up u, h3⟩
theorem Wr.as {w0 : World} {b : Nat} {T R R' : List UInt8} {w : World} (h : Wr w0 b T R w) (e : R = R') : Wr w0 b T R' w := e ▸ h
theorem write_w {w0 w : World} {b : Nat} {T R : List UInt8} (s : ByteArray) (A : List UInt8) (h : Wr w0 b T (A ++ R) w) (hs : s.data.toList = A) (hT : T.length ≤ 140737488355328) :
   Calls Tryd.prog 25 #[.pointer (some ⟨b, 0, none⟩), .string s] w fun e w' => e = .returned (.tuple #[.int .i64 s.size, .nilIface]) ∧ Wr w0 b T R w' := by
 obtain ⟨acc, h1, h2, h3⟩ := h; (have hl : acc.length + s.data.toList.length ≤ 140737488355328 := by rw [hs]; rw [← h3] at hT; simp only [List.length_append] at hT; omega); refine (write_s s h1 h2 hl).mono ?_; rintro e w' ⟨rfl, u, hb⟩; exact ⟨rfl, _, u, hb, by rw [hs, List.append_assoc]; exact h3⟩
theorem line_w {w0 w : World} {b : Nat} {T R : List UInt8} (x : Fld) (fb fo : Nat) (h : Wr w0 b T (lineW x ++ R) w) (hT : T.length ≤ 140737488355328) (hp : Pow w0) (hf : CellsAt w0 fb fo [.string ⟨x.name.toArray⟩, .int .i64 x.number, .int .i64 x.kind, .string ⟨x.type.toArray⟩, .bool x.many, .int .i64 x.choice]) (hn : okI x.number) :
   Calls Tryd.prog 43 #[.pointer (some ⟨b, 0, none⟩), .pointer (some ⟨fb, fo, none⟩)] w fun e w' => e = .returned (.tuple #[]) ∧ Wr w0 b T R w' := by
 obtain ⟨acc, h1, h2, h3⟩ := h; (have hl : acc.length + (lineW x).length ≤ 140737488355328 := by rw [← h3] at hT; simp only [List.length_append] at hT; omega); refine (line_s w0 b acc x fb fo w hp h1 h2 hf hn hl).mono ?_; rintro e w' ⟨rfl, u, hb⟩; exact ⟨rfl, _, u, hb, by rw [List.append_assoc]; exact h3⟩
def lastAt (fs : List Fld) (q : Nat) : Int := if q = 0 then 0 else ((fs[q - 1]?).map (·.choice)).getD 0
theorem lastAt_next {fs : List Fld} {q : Nat} (h : q < fs.length) : lastAt fs (q + 1) = fs[q].choice := by
 unfold lastAt; rw [if_neg (by omega), Nat.add_sub_cancel, List.getElem?_eq_getElem h]; rfl
set_option maxHeartbeats 6400000 in
theorem message_w (w0 : World) (b : Nat) (T R : List UInt8) (m : Msg) (mb mo : Nat) (cs : List Value) (w : World) (hp : Pow w0) (h : Wr w0 b T (messW m ++ R) w) (hT : T.length ≤ 140737488355328) (hc : CellsAt w0 mb mo cs) (hd : DMsg All w0 m cs) :
   Calls Tryd.prog 27 #[.pointer (some ⟨b, 0, none⟩), .pointer (some ⟨mb, mo, none⟩)] w fun e w' => e = .returned (.tuple #[]) ∧ Wr w0 b T R w' := by
 obtain ⟨vf, vb, rfl, hf, hb, hnm⟩ := hd; obtain ⟨fo, fc, rfl, hf1, hf2⟩ := hf.val; obtain ⟨bo, bc, rfl, hb1, hb2⟩ := hb.val; have c0 := hc 0 _ rfl; have c1 := hc 1 _ rfl; have c2 := hc 2 _ rfl; simp only [Nat.add_zero] at c0; have HF := hid hf; have HBr := hid hb; have HP := hid hp; have HT := hid hT; have HW := hid (h.as (R' := (sMessage ++ m.name ++ sOpen) ++ (barF true m.barred ++ ((if m.barred = [] then [] else sEnd) ++ (fieldsF 0 m.fields ++ (sShut ++ R))))) (by unfold messW barW; simp only [List.append_assoc])); unfold okS at hnm; obtain ⟨s1, hs1, cat1⟩ := cat_run ⟨#[109, 101, 115, 115, 97, 103, 101, 32]⟩ ⟨m.name.toArray⟩ sMessage m.name rfl rfl (by simp [sMessage]; omega); obtain ⟨s2, hs2, cat2⟩ := cat_run s1 ⟨#[32, 123, 10]⟩ _ sOpen hs1 rfl (by simp [sMessage, sOpen]; omega); have Hs := hid hs2; clear hf hb hp hT h hc hs1 hs2; have d0 := HW.out.base.cell_some c0; have d1 := HW.out.base.cell_some c1; have d2 := HW.out.base.cell_some c2
 go_enter Tryd.func27, Tryd.ntmps27
 (go_wp2_with fail); refine (write_w _ _ HW.out Hs.out HT.out).mono ?_; rintro e w1 ⟨rfl, hw1⟩; clear d0 d1 d2; have HW1 := hid hw1; have d0 := HW1.out.base.cell_some c0; have d1 := HW1.out.base.cell_some c1; have d2 := HW1.out.base.cell_some c2; clear hw1 HW; (go_wp2_with fail); (go_loopw [22] (fun i wr => ∃ p : Nat, p ≤ m.barred.length ∧ i = .int .i64 p ∧ Wr w0 b T (barF (decide (p = 0)) (m.barred.drop p) ++ ((if m.barred = [] then [] else sEnd) ++ (fieldsF 0 m.fields ++ (sShut ++ R)))) wr) (fun i _ => m.barred.length - (intOf i).toNat)); case atStart => exact ⟨0, by omega, rfl, HW1.out⟩
 case round =>
   obtain ⟨p, hp, rfl, hw⟩ := hrel; have Hw := hid hw; clear hw d0 d1 d2
   by_cases hlt : p < m.barred.length
   · obtain ⟨b', o', cs', hbo, hb', hl', hcs', hd'⟩ := (HBr.out.up stable_int Hw.out.base).at hlt; obtain ⟨hd', hn1, hn2⟩ := hd'; subst hd'; subst hbo; have e0 := hcs' 0 _ rfl; simp only [Nat.mul_one, Nat.add_zero] at e0; have hw2 := Hw.out; rw [List.drop_eq_getElem_cons hlt, barF] at hw2; have Hn := hid (show okI m.barred[p] from ⟨hn1, hn2⟩); generalize m.barred[p] = n at *; (have i0 : (0 : Int) ≤ (p : Int) := by omega); (have i1 : (p : Int) < (m.barred.length : Int) := by omega); clear hcs' hl' hn1 hn2; have Hw2 := hid (hw2.as (R' := (if decide (p = 0) = true then sBar else sComma) ++ (Lib.itoa n ++ (barF false (m.barred.drop (p + 1)) ++ ((if m.barred = [] then [] else sEnd) ++ (fieldsF 0 m.fields ++ (sShut ++ R)))))) (by simp only [List.append_assoc])); clear hw2 Hw
     go_upto_if 28 with (fail)
     go_cut [] (fun wc => Wr w0 b T (Lib.itoa n ++ (barF false (m.barred.drop (p + 1)) ++ ((if m.barred = [] then [] else sEnd) ++ (fieldsF 0 m.fields ++ (sShut ++ R))))) wc)
     case first =>
       by_cases hp0 : p = 0
       case pos =>
         have Hw3 := hid (Hw2.out.as (R' := sBar ++ (Lib.itoa n ++ (barF false (m.barred.drop (p + 1)) ++ ((if m.barred = [] then [] else sEnd) ++ (fieldsF 0 m.fields ++ (sShut ++ R)))))) (by rw [hp0]; rfl)); (have j : ((p : Int) == 0) = true := by rw [beq_iff_eq]; omega); clear hp0; (go_wp2_with fail); refine (write_w _ _ Hw3.out rfl HT.out).mono ?_; rintro e w3 ⟨rfl, hw3⟩; go_wp2_with fail
         go_meet
         exact hw3
       case neg =>
         have Hw3 := hid (Hw2.out.as (R' := sComma ++ (Lib.itoa n ++ (barF false (m.barred.drop (p + 1)) ++ ((if m.barred = [] then [] else sEnd) ++ (fieldsF 0 m.fields ++ (sShut ++ R)))))) (by rw [decide_eq_false hp0]; rfl)); (have j : ((p : Int) == 0) = false := by rw [beq_eq_false_iff_ne]; omega); clear hp0; (go_wp2_with fail); refine (write_w _ _ Hw3.out rfl HT.out).mono ?_; rintro e w3 ⟨rfl, hw3⟩; go_wp2_with fail
         go_meet
         exact hw3
     case rest =>
       have Hw3 := hid hcut; clear hcut Hw2; (go_wp2_with fail); refine (itoa_s _ Hn.out _ (HP.out.up Hw3.out.base)).mono ?_; rintro e w4 ⟨rfl, hu4⟩; (go_wp2_with fail); refine (write_w _ _ (Hw3.out.up hu4) rfl HT.out).mono ?_; rintro e w5 ⟨rfl, hw5⟩; go_wp2_with fail
       go_roundw
       (case rel => exact ⟨p + 1, by omega, by go_num, by rw [decide_eq_false (by omega)]; exact hw5⟩); case measure => simp [intOf]; omega
   · (have hpe : p = m.barred.length := by omega); have hw2 := Hw.out; rw [hpe, List.drop_length, barF, List.nil_append] at hw2; have Hw2 := hid hw2; have d1 := Hw2.out.base.cell_some c1; have d2 := Hw2.out.base.cell_some c2; clear hw2 Hw hpe
     go_upto_if 43 with (fail)
     go_cut [] (fun wc => Wr w0 b T (fieldsF 0 m.fields ++ (sShut ++ R)) wc)
     case first =>
       by_cases hbe : m.barred = []
       case pos =>
         have Hw3 := hid (Hw2.out.as (R' := fieldsF 0 m.fields ++ (sShut ++ R)) (by rw [if_pos hbe]; rfl)); (have j : ¬ ((0 : Int) < (m.barred.length : Int)) := by rw [hbe]; simp); clear hbe; go_wp2_with fail
         go_meet
         exact Hw3.out
       case neg =>
         have Hw3 := hid (Hw2.out.as (R' := sEnd ++ (fieldsF 0 m.fields ++ (sShut ++ R))) (by rw [if_neg hbe])); (have j : (0 : Int) < (m.barred.length : Int) := by have := List.length_pos_iff.2 hbe; omega); clear hbe; (go_wp2_with fail); refine (write_w _ _ Hw3.out rfl HT.out).mono ?_; rintro e w3 ⟨rfl, hw3⟩; go_wp2_with fail
         go_meet
         exact hw3
     case rest =>
       have Hw3 := hid hcut; clear d1 d2 hcut Hw2; have d1 := Hw3.out.base.cell_some c1; (go_wp2_with fail); (go_loopw [51] (fun i wr => ∃ q : Nat, q ≤ m.fields.length ∧ i = .int .i64 q ∧ Wr w0 b T (fieldsF (lastAt m.fields q) (m.fields.drop q) ++ (sShut ++ R)) wr) (fun i _ => m.fields.length - (intOf i).toNat)); case atStart => exact ⟨0, by omega, rfl, Hw3.out⟩
       case round =>
         obtain ⟨q, hq, rfl, hw⟩ := hrel; have Hw := hid hw; clear hw d1 hp
         by_cases hlt : q < m.fields.length
         · have hd1 := Hw.out.base.cell_some c1; obtain ⟨b', o', cs', hfo, hb', hl', hcs', hd'⟩ := HF.out.at hlt; obtain ⟨hd', hx1, _⟩ := hd'; subst hd'; subst hfo; have hfo2 : o' + q * 6 + 5 = o' + q * 6 + 5 := rfl; have e5 := hcs' 5 _ rfl; have Hcs := hid hcs'; have hw2 := Hw.out; rw [List.drop_eq_getElem_cons hlt, fieldsF] at hw2; have hln := lastAt_next hlt; have Hln := hid hln; have Hx1 := hid hx1
           have hprev : 0 < q → ∃ z, (m.fields[q - 1]?).map (·.choice) = some z ∧ lastAt m.fields q = z ∧ w0.cell? ⟨b', o' + (q - 1) * 6 + 5, none⟩ = some (.int .i64 z) := by
             intro h0; obtain ⟨b2, o2, cs2, hfo, _, _, hcs2, hd2⟩ := HF.out.at (i := q - 1) (by omega); obtain ⟨hd2, _⟩ := hd2; subst hd2; injection hfo with hfo; injection hfo with hfo1 hfo2 _; subst hfo1; subst hfo2; refine ⟨m.fields[q - 1].choice, by rw [List.getElem?_eq_getElem (by omega)]; rfl, ?_, hcs2 5 _ rfl⟩; unfold lastAt; rw [if_neg (by omega), List.getElem?_eq_getElem (by omega)]; rfl
           have hnext : ∀ h : q + 1 < m.fields.length, w0.cell? ⟨b', o' + (q + 1) * 6 + 5, none⟩ = some (.int .i64 m.fields[q + 1].choice) := by
             intro h1; obtain ⟨b2, o2, cs2, hfo, _, _, hcs2, hd2⟩ := HF.out.at h1; obtain ⟨hd2, _⟩ := hd2; subst hd2; injection hfo with hfo; injection hfo with hfo1 hfo2 _; subst hfo1; subst hfo2; exact hcs2 5 _ rfl
           have hnx : nextC (m.fields.drop (q + 1)) = if h : q + 1 < m.fields.length then m.fields[q + 1].choice else 0 := by
             by_cases h1 : q + 1 < m.fields.length
             · rw [dif_pos h1, List.drop_eq_getElem_cons h1, nextC]
             · rw [dif_neg h1, List.drop_of_length_le (by omega), nextC]
           have Hprev := hid hprev; have Hnext := hid hnext; have Hnx := hid hnx; clear hprev hnext hnx hln hx1 hcs' hl'; generalize m.fields[q] = x at *; (have i0 : (0 : Int) ≤ (q : Int) := by omega); (have i1 : (q : Int) < (m.fields.length : Int) := by omega); have Hw2 := hid (hw2.as (R' := (if 0 < x.choice ∧ x.choice ≠ lastAt m.fields q then sOneof else []) ++ ((if 0 < x.choice then sTwo else []) ++ (sTwo ++ (lineW x ++ ((if 0 < x.choice ∧ nextC (m.fields.drop (q + 1)) ≠ x.choice then sShut2 else []) ++ (fieldsF x.choice (m.fields.drop (q + 1)) ++ (sShut ++ R))))))) (by simp only [List.append_assoc])); clear hw2 Hw hfo2; have d5 := Hw2.out.base.cell_some e5
           go_upto_region 15 with (fail)
           go_cut [8] (fun v w9 => v = .bool (decide (q = 0) || (lastAt m.fields q != x.choice)) ∧ Up wr w9)
           case first =>
             by_cases hq0 : q = 0
             case pos =>
               (have j : decide ((q : Int) = 0) = true := by rw [decide_eq_true_eq]; omega); (have j2 : ((q : Int) == 0) = true := by rw [beq_iff_eq]; omega); have Hq := hid hq0; clear hq0
               go_quiet (fail)
               go_wp2_with fail
               go_meet
               exact ⟨by rw [decide_eq_true Hq.out]; rfl, (Up.refl wr).drewN _⟩
             case neg =>
               obtain ⟨z, _, hz, hzc⟩ := Hprev.out (by omega); have d5z := Hw2.out.base.cell_some hzc; obtain ⟨k, hk⟩ : ∃ k, q = k + 1 := ⟨q - 1, by omega⟩; (have hk2 : q - 1 = k := by omega); rw [hk2] at d5z; (have j : decide ((q : Int) = 0) = false := by rw [decide_eq_false_iff_not]; omega); (have j2 : ((q : Int) == 0) = false := by rw [beq_eq_false_iff_ne]; omega); (have jw : IntKind.i64.wrap ((q : Int) - 1) = (k : Int) := by rw [IntKind.wrap_i64]; omega); (have jk : (k : Int) < (m.fields.length : Int) := by omega); (have jk0 : (0 : Int) ≤ (k : Int) := by omega); have Hq := hid hq0; have Hz := hid hz; clear hq0 hz hzc hk hk2
               go_quiet (fail)
               go_wp2_with fail
               go_meet
               exact ⟨by rw [decide_eq_false Hq.out, Hz.out]; rfl, (Up.refl wr).drewN _⟩
           case rest =>
             obtain ⟨rfl, hu9⟩ := hcut; have Hw3 := hid (Hw2.out.up hu9); clear hu9 Hw2 hd1 d5; obtain ⟨w9, rfl⟩ : ∃ w9 : World, w9 = wc := ⟨_, rfl⟩; have hd1 := Hw3.out.base.cell_some c1; have d5 := Hw3.out.base.cell_some e5; obtain ⟨F0, hF0⟩ : ∃ F0 : Bool, F0 = (decide (q = 0) || (lastAt m.fields q != x.choice)) := ⟨_, rfl⟩; rw [← hF0]; have HF0 := hid hF0; clear hF0
             go_upto_region 16 with (fail)
             go_cut [85] (fun v wz => v = .bool (decide (0 < x.choice) && F0) ∧ wz = w9)
             case first =>
               by_cases hch : 0 < x.choice
               case pos =>
                 go_wp2_with fail
                 go_meet
                 exact ⟨by rw [decide_eq_true hch]; rfl, rfl⟩
               case neg =>
                 go_wp2_with fail
                 go_meet
                 exact ⟨by rw [decide_eq_false (by omega)]; rfl, rfl⟩
             case rest =>
               obtain ⟨rfl, rfl⟩ := hcut
               have hF1 : (decide (0 < x.choice) && F0) = true ↔ 0 < x.choice ∧ x.choice ≠ lastAt m.fields q := by
                 rw [HF0.out, Bool.and_eq_true, decide_eq_true_eq, Bool.or_eq_true, decide_eq_true_eq, bne_iff_ne]; constructor
                 · rintro ⟨h1, h2 | h2⟩
                   · refine ⟨h1, ?_⟩; unfold lastAt; rw [if_pos h2]; omega
                   · exact ⟨h1, fun e => h2 e.symm⟩
                 · rintro ⟨h1, h2⟩; exact ⟨h1, .inr (fun e => h2 e.symm)⟩
               obtain ⟨F1, hF1e⟩ : ∃ F1 : Bool, F1 = (decide (0 < x.choice) && F0) := ⟨_, rfl⟩; rw [← hF1e] at hF1 ⊢; have HF1 := hid hF1; clear hF1 hF1e HF0
               go_upto_if 85 with (fail)
               go_cut [] (fun wz => Wr w0 b T ((if 0 < x.choice then sTwo else []) ++ (sTwo ++ (lineW x ++ ((if 0 < x.choice ∧ nextC (m.fields.drop (q + 1)) ≠ x.choice then sShut2 else []) ++ (fieldsF x.choice (m.fields.drop (q + 1)) ++ (sShut ++ R)))))) wz)
               case first =>
                 cases F1
                 case false =>
                   go_wp2_with fail
                   go_meet
                   exact Hw3.out.as (by rw [if_neg (fun e => absurd (HF1.out.2 e) (by decide))] <;> rfl)
                 case true =>
                   have Hw4 := hid (Hw3.out.as (R' := sOneof ++ ((if 0 < x.choice then sTwo else []) ++ (sTwo ++ (lineW x ++ ((if 0 < x.choice ∧ nextC (m.fields.drop (q + 1)) ≠ x.choice then sShut2 else []) ++ (fieldsF x.choice (m.fields.drop (q + 1)) ++ (sShut ++ R))))))) (by rw [if_pos (HF1.out.1 rfl)])); (go_wp2_with fail); refine (write_w _ _ Hw4.out rfl HT.out).mono ?_; rintro e w3 ⟨rfl, hw3⟩; go_wp2_with fail
                   go_meet
                   exact hw3
               case rest =>
                 have Hw4 := hid hcut; clear hcut Hw3 HF1 hd1 d5; obtain ⟨wa, rfl⟩ : ∃ wa : World, wa = wc := ⟨_, rfl⟩; have d5 := Hw4.out.base.cell_some e5
                 go_upto_if 92 with (fail)
                 go_cut [] (fun wz => Wr w0 b T (sTwo ++ (lineW x ++ ((if 0 < x.choice ∧ nextC (m.fields.drop (q + 1)) ≠ x.choice then sShut2 else []) ++ (fieldsF x.choice (m.fields.drop (q + 1)) ++ (sShut ++ R))))) wz)
                 case first =>
                   by_cases hch : 0 < x.choice
                   case neg =>
                     have Hw5 := hid (Hw4.out.as (R' := sTwo ++ (lineW x ++ ((if 0 < x.choice ∧ nextC (m.fields.drop (q + 1)) ≠ x.choice then sShut2 else []) ++ (fieldsF x.choice (m.fields.drop (q + 1)) ++ (sShut ++ R))))) (by rw [if_neg hch] <;> rfl)); go_wp2_with fail
                     go_meet
                     exact Hw5.out
                   case pos =>
                     have Hw5 := hid (Hw4.out.as (R' := sTwo ++ (sTwo ++ (lineW x ++ ((if 0 < x.choice ∧ nextC (m.fields.drop (q + 1)) ≠ x.choice then sShut2 else []) ++ (fieldsF x.choice (m.fields.drop (q + 1)) ++ (sShut ++ R)))))) (by rw [if_pos hch])); (go_wp2_with fail); refine (write_w _ _ Hw5.out rfl HT.out).mono ?_; rintro e w3 ⟨rfl, hw3⟩; go_wp2_with fail
                     go_meet
                     exact hw3
                 case rest =>
                   have Hw5 := hid hcut; clear hcut Hw4 d5; (go_wp2_with fail); refine (write_w _ _ Hw5.out rfl HT.out).mono ?_; rintro e w6 ⟨rfl, hw6⟩; (go_wp2_with fail); refine (line_w x b' (o' + q * 6) hw6 HT.out HP.out Hcs.out Hx1.out).mono ?_; rintro e w7 ⟨rfl, hw7⟩; have Hw7 := hid hw7; clear hw6 hw7 Hw5; have hd1 := Hw7.out.base.cell_some c1; have d5 := Hw7.out.base.cell_some e5
                   go_upto_region 22 with (fail)
                   go_cut [130] (fun v wz => v = .bool (decide (0 < x.choice ∧ nextC (m.fields.drop (q + 1)) ≠ x.choice)) ∧ Up w7 wz)
                   case first =>
                     by_cases hch : 0 < x.choice
                     case neg =>
                       have j := decide_eq_false hch
                       go_quiet (fail)
                       go_wp2_with fail
                       go_meet
                       exact ⟨by rw [decide_eq_false (fun e => absurd e.1 (by omega))], (Up.refl w7).drewN _⟩
                     case pos =>
                       have Hch := hid hch; have j := decide_eq_true hch; obtain ⟨k, hk⟩ : ∃ k, k = q + 1 := ⟨_, rfl⟩; (have jw : IntKind.i64.wrap ((q : Int) + 1) = (k : Int) := by rw [IntKind.wrap_i64]; omega); have jk0 : (0 : Int) ≤ (k : Int) := by omega
                       by_cases hqn : q + 1 < m.fields.length
                       case neg =>
                         (have j2 : ((k : Int) == (m.fields.length : Int)) = true := by rw [beq_iff_eq]; omega); (have j3 : decide ((k : Int) = (m.fields.length : Int)) = true := by rw [decide_eq_true_eq]; omega); have Hqn := hid hqn; clear hqn hk
                         go_quiet (fail)
                         go_wp2_with fail
                         go_meet
                         exact ⟨by rw [Hnx.out, dif_neg Hqn.out, decide_eq_true ⟨Hch.out, by have := Hch.out; omega⟩], (Up.refl w7).drewN _⟩
                       case pos =>
                         (have j2 : ((k : Int) == (m.fields.length : Int)) = false := by rw [beq_eq_false_iff_ne]; omega); (have j3 : decide ((k : Int) = (m.fields.length : Int)) = false := by rw [decide_eq_false_iff_not]; omega); have j4 : (k : Int) < (m.fields.length : Int) := by omega
                         obtain ⟨y, hy1, hy2⟩ : ∃ y : Int, nextC (m.fields.drop (q + 1)) = y ∧ w7.cell? ⟨b', o' + k * 6 + 5, none⟩ = some (.int .i64 y) :=
                           ⟨_, by rw [Hnx.out, dif_pos hqn], by rw [hk]; exact Hw7.out.base.cell_some (Hnext.out hqn)⟩
                         have Hy := hid hy1; clear hqn hk hy1
                         go_quiet (fail)
                         go_wp2_with fail
                         go_meet
                         exact ⟨by rw [Hy.out]; congr 1; rw [Bool.eq_iff_iff, decide_eq_true_eq, bne_iff_ne]; have := Hch.out; omega, (Up.refl w7).drewN _⟩
                   case rest =>
                     obtain ⟨rfl, hu9⟩ := hcut; have Hw8 := hid (Hw7.out.up hu9); clear hu9 Hw7 hd1 d5; obtain ⟨F3, hF3⟩ : ∃ F3 : Bool, F3 = decide (0 < x.choice ∧ nextC (m.fields.drop (q + 1)) ≠ x.choice) := ⟨_, rfl⟩; rw [← hF3]; have HF3 := hid hF3; clear hF3; cases F3
                     case false =>
                       have hn : ¬ (0 < x.choice ∧ nextC (m.fields.drop (q + 1)) ≠ x.choice) := of_decide_eq_false HF3.out.symm; have Hw9 := hid (Hw8.out.as (R' := fieldsF x.choice (m.fields.drop (q + 1)) ++ (sShut ++ R)) (by rw [if_neg hn] <;> rfl)); clear hn; go_wp2_with fail
                       go_roundw
                       (case rel => exact ⟨q + 1, by omega, by go_num, by rw [Hln.out]; exact Hw9.out⟩); case measure => simp [intOf]; omega
                     case true =>
                       have hn : 0 < x.choice ∧ nextC (m.fields.drop (q + 1)) ≠ x.choice := of_decide_eq_true HF3.out.symm; have Hw9 := hid (Hw8.out.as (R' := sShut2 ++ (fieldsF x.choice (m.fields.drop (q + 1)) ++ (sShut ++ R))) (by rw [if_pos hn])); clear hn; (go_wp2_with fail); refine (write_w _ _ Hw9.out rfl HT.out).mono ?_; rintro e w3 ⟨rfl, hw3⟩; go_wp2_with fail
                       go_roundw
                       (case rel => exact ⟨q + 1, by omega, by go_num, by rw [Hln.out]; exact hw3⟩); case measure => simp [intOf]; omega
         · (have hqe : q = m.fields.length := by omega); have hw2 := Hw.out; rw [hqe, List.drop_length, fieldsF, List.nil_append] at hw2; have Hw2 := hid hw2; clear hw2 Hw hqe; (go_wp2_with fail); refine (write_w _ _ Hw2.out rfl HT.out).mono ?_; rintro e w6 ⟨rfl, hw6⟩; go_wp2_with fail
           go_end0
           exact ⟨rfl, hw6⟩
end Go.Proofs.YtbceapeoknngnaaDoor
