/-
  The parser's fail, blank, eat, must.
  The parser's blank.
-/
import Derived.Test.YtbceapeoknngnaaDoorSy11
set_option linter.unusedVariables false
namespace Go.Proofs.YtbceapeoknngnaaDoor
open Go.RowKit
set_option maxRecDepth 100000
open Lib (hid)
set_option maxHeartbeats 800000 in
theorem fail_p (g : Nat) (s : ByteArray) (k : Nat) (er : Int) (w : World) (hp : PW g s k w) :
   Calls Tryd.prog 18 #[.pointer (some ⟨g, 0, none⟩), .int .i64 er] w fun e w' => e = .panicked [oopsE er k] ∧ Up w w' := by
 have h0 := hp.c0; have h1 := hp.c1; have hz := hp.lt
 go_enter Tryd.func18, Tryd.ntmps18
 (go_wp2_with fail); refine ⟨rfl, ?_⟩; unfold oopsE; refine ⟨rfl, ?_⟩; (repeat (first | (with_reducible exact Up.refl _) | (with_reducible refine Up.setCell ?_ ?_ _) | (with_reducible refine Up.alloc ?_ _) | (with_reducible refine Up.drew ?_))); all_goals (simp only; omega)
set_option maxHeartbeats 800000 in
theorem slash_p (s : ByteArray) (w : World) :
   Calls Tryd.prog 31 #[.string s, .string ⟨#[47, 47]⟩] w fun e w' => e = .returned (.bool (slashB s)) ∧ w' = w := by
 by_cases h : 2 ≤ s.size
 · (have h2 : (2 : Int) ≤ (s.size : Int) := by omega); (have hs : slashB s = ((s.extract 0 2).toList == [47, 47]) := by unfold slashB; rw [decide_eq_true h, Bool.true_and]); have Hs := hid hs; clear hs
   go_enter Tryd.func31, Tryd.ntmps31
   go_wp2
   go_ret
   refine ⟨ret_bool ?_, rfl⟩; rw [Hs.out]
 · (have h2 : ¬ (2 : Int) ≤ (s.size : Int) := by omega); (have hs : slashB s = false := by unfold slashB; rw [decide_eq_false h, Bool.false_and]); have Hs := hid hs; clear hs
   go_enter Tryd.func31, Tryd.ntmps31
   go_wp2
   go_ret
   refine ⟨ret_bool ?_, rfl⟩; rw [Hs.out]
theorem skipF_cons (c : UInt8) (l : List UInt8) : skipL false (c :: l) = if c = 32 ∨ c = 10 then skipL false l else if c = 47 ∧ l.head? = some 47 then skipL true l else c :: l := by rw [skipL]
theorem skipT_cons (c : UInt8) (l : List UInt8) : skipL true (c :: l) = if c = 10 then skipL false l else skipL true l := by rw [skipL]
set_option maxHeartbeats 1600000 in
theorem blank_p (g : Nat) (s : ByteArray) (k0 : Nat) (w : World) (hk0 : k0 ≤ s.size) (hz0 : s.size ≤ 4611686018427387904) (hp : PW g s k0 w) :
   Calls Tryd.prog 14 #[.pointer (some ⟨g, 0, none⟩)] w fun e w' => e = .returned (.tuple #[]) ∧ At g s (skip (dr s k0)) w' ∧ Gr g w w' := by
 have Hp := hid hp; clear hp
 go_enter Tryd.func14, Tryd.ntmps14
 (go_wp2_with fail); (go_loopw [] (fun wr => ∃ k : Nat, k ≤ s.size ∧ PW g s k wr ∧ Gr g w wr ∧ skipL false (dr s k) = skipL false (dr s k0)) (fun wr => s.size - pwAt g wr)); case atStart => exact ⟨k0, hk0, Hp.out, Gr.refl _ _, rfl⟩
 case round =>
   obtain ⟨k, hk, hp, hg, he⟩ := hrel; clear Hp; have h0 := hp.c0; have h1 := hp.c1; have hf := hp.fz 1; have hz := hp.lt; have Hp := hid hp; have Hg := hid hg; have He := hid he; clear hp hg he
   by_cases hlt : k < s.size
   · (have i1 : (k : Int) < (s.size : Int) := by omega); have hd := hid (dr_cons hlt); (have hc1 : s[k].toNat = 32 ∨ s[k].toNat = 10 ∨ (s[k].toNat ≠ 32 ∧ s[k].toNat ≠ 10) := by omega); obtain ⟨c, hc⟩ : ∃ c, c = s[k].toNat := ⟨_, rfl⟩; have Hc := hid hc; rw [← hc] at hc1; replace hc := hc.symm; rcases hc1 with ha | ha | ⟨ha, ha'⟩
     · (have e1 : ((c : Int) == 32) = true := by rw [ha]; rfl); go_wp2_with fail
       go_quiet (fail)
       go_wp2_with fail
       go_quiet (fail)
       (go_wp2_with fail); have hp9 := (Hp.out.drewN 0).set (k + 1); refine ⟨⟨k + 1, by omega, (Hp.out.drewN _).set1 (k + 1) (by go_num), (Hg.out.drewN _).set _ _, ?_⟩, ?_⟩
       · rw [← He.out, hd.out, skipF_cons, if_pos (by left; exact UInt8.toNat_inj.1 (by rw [← Hc.out, ha]; rfl))]
       · rw [((Hp.out.drewN _).set1 (k + 1) (by go_num)).is, Hp.out.is]; omega
     · (have e1 : ((c : Int) == 32) = false := by rw [ha]; rfl); (have e2 : ((c : Int) == 10) = true := by rw [ha]; rfl); go_wp2_with fail
       go_quiet (fail)
       go_wp2_with fail
       go_quiet (fail)
       (go_wp2_with fail); have hp9 := (Hp.out.drewN 0).set (k + 1); refine ⟨⟨k + 1, by omega, (Hp.out.drewN _).set1 (k + 1) (by go_num), (Hg.out.drewN _).set _ _, ?_⟩, ?_⟩
       · rw [← He.out, hd.out, skipF_cons, if_pos (by right; exact UInt8.toNat_inj.1 (by rw [← Hc.out, ha]; rfl))]
       · rw [((Hp.out.drewN _).set1 (k + 1) (by go_num)).is, Hp.out.is]; omega
     · (have e1 : ((c : Int) == 32) = false := by rw [beq_eq_false_iff_ne]; omega); (have e2 : ((c : Int) == 10) = false := by rw [beq_eq_false_iff_ne]; omega); have n32 : s[k] ≠ 32 := fun e => ha (by rw [Hc.out, e]; rfl); have n10 : s[k] ≠ 10 := fun e => ha' (by rw [Hc.out, e]; rfl); have N32 := hid n32; have N10 := hid n10; clear n32 n10; have Hsl := hid (slash_dr hlt)
       by_cases hs : slashB (s.extract k s.size) = true
       · have hs2 := Hsl.out; rw [hs] at hs2; have Hs2 := hid (of_decide_eq_true hs2.symm); clear hs2; go_wp2_with fail
         go_quiet (fail)
         go_wp2_with fail
         go_quiet (fail)
         go_wp2_with fail
         go_quiet ((go_at_call 31; exact (slash_p _ _).mono (fun e w2 ⟨h1, h2⟩ => ⟨h1, _, h2⟩)))
         rw [hs]; (go_wp2_with fail); go_loopw [] (fun wr' => ∃ k' : Nat, k ≤ k' ∧ k' ≤ s.size ∧ PW g s k' wr' ∧ Gr g w wr' ∧ skipL true (dr s k') = skipL false (dr s k0)) (fun wr' => s.size - pwAt g wr')
         case atStart =>
           refine ⟨k, Nat.le_refl _, hk, by repeat (first | exact Hg.out | exact Hp.out | with_reducible refine Gr.drewN ?_ _ | with_reducible refine PW.drewN ?_ _), by repeat (first | exact Hg.out | exact Hp.out | with_reducible refine Gr.drewN ?_ _ | with_reducible refine PW.drewN ?_ _), ?_⟩; rw [← He.out, hd.out, skipF_cons, if_neg (not_or.2 ⟨N32.out, N10.out⟩), if_pos Hs2.out, skipT_cons, if_neg N10.out]
         case round =>
           obtain ⟨k', hkk, hk', hp, hg, he⟩ := hrel; have h0 := hp.c0; have h1 := hp.c1; have hf := hp.fz 1; have hz := hp.lt; have Hp2 := hid hp; have Hg2 := hid hg; have He2 := hid he; clear hp hg he
           by_cases hlt' : k' < s.size
           · (have i1' : (k' : Int) < (s.size : Int) := by omega); have j1 : decide ((k' : Int) < (s.size : Int)) = true := decide_eq_true i1'; have hd' := hid (dr_cons hlt'); obtain ⟨c', hc'⟩ : ∃ c', c' = s[k'].toNat := ⟨_, rfl⟩; have Hc' := hid hc'; replace hc' := hc'.symm
             by_cases hn : c' = 10
             · (have e3 : ((c' : Int) != 10) = false := by rw [hn]; rfl); go_wp2_with fail
               go_quiet (fail)
               go_wp2_with fail
               have hlt2 : k < k' := by
                 rcases Nat.lt_or_eq_of_le hkk with h | h
                 · exact h
                 · exfalso
                   subst h; exact N10.out (UInt8.toNat_inj.1 (by rw [← Hc'.out, hn]; rfl))
               refine ⟨⟨k', hk', Hp2.out.drewN _, Hg2.out.drewN _, ?_⟩, ?_⟩
               · rw [← He2.out, hd'.out, skipT_cons, skipF_cons, if_pos (Or.inr (UInt8.toNat_inj.1 (by rw [← Hc'.out, hn]; rfl))), if_pos (UInt8.toNat_inj.1 (by rw [← Hc'.out, hn]; rfl))]
               · rw [(Hp2.out.drewN _).is, Hp.out.is]; omega
             · (have e3 : ((c' : Int) != 10) = true := by rw [bne_iff_ne]; omega); go_wp2_with fail
               go_quiet (fail)
               (go_wp2_with fail); have n10' : s[k'] ≠ 10 := fun e => hn (by rw [Hc'.out, e]; rfl); refine ⟨⟨k' + 1, by omega, by omega, (Hp2.out.drewN _).set1 (k' + 1) (by go_num), (Hg2.out.drewN _).set _ _, ?_⟩, ?_⟩
               · rw [← He2.out, hd'.out, skipT_cons, if_neg n10']
               · rw [((Hp2.out.drewN _).set1 (k' + 1) (by go_num)).is, Hp2.out.is]; omega
           · have j1 : decide ((k' : Int) < (s.size : Int)) = false := decide_eq_false (by omega); go_wp2_with fail
             go_quiet (fail)
             (go_wp2_with fail); refine ⟨⟨k', hk', Hp2.out.drewN _, Hg2.out.drewN _, ?_⟩, ?_⟩
             · rw [← He2.out, dr_end (by omega)]; rfl
             · rw [(Hp2.out.drewN _).is, Hp.out.is]; omega
       · (have hs : slashB (s.extract k s.size) = false := by simpa using hs); have hs2 := Hsl.out; rw [hs] at hs2; have Hs2 := hid (of_decide_eq_false hs2.symm); clear hs2; go_wp2_with fail
         go_quiet (fail)
         go_wp2_with fail
         go_quiet (fail)
         go_wp2_with fail
         go_quiet ((go_at_call 31; exact (slash_p _ _).mono (fun e w2 ⟨h1, h2⟩ => ⟨h1, _, h2⟩)))
         rw [hs]; (go_wp2_with fail); refine bodyPost_ret (results_none rfl _ _ _) rfl ?_; refine ⟨rfl, ⟨k, hk, ?_, by repeat (first | exact Hg.out | exact Hp.out | with_reducible refine Gr.drewN ?_ _ | with_reducible refine PW.drewN ?_ _)⟩, by repeat (first | exact Hg.out | exact Hp.out | with_reducible refine Gr.drewN ?_ _ | with_reducible refine PW.drewN ?_ _)⟩; unfold skip; rw [← He.out, hd.out, skipF_cons, if_neg (not_or.2 ⟨N32.out, N10.out⟩), if_neg Hs2.out]
   · (have hn : k = s.size := by omega); go_wp2_with fail
     go_quiet (fail)
     go_wp2_with fail
     go_end0
     refine ⟨rfl, ⟨k, hk, ?_, Hp.out.drewN _⟩, Hg.out.drewN _⟩; unfold skip; rw [← He.out, dr_end (by omega)]; rfl
end Go.Proofs.YtbceapeoknngnaaDoor
