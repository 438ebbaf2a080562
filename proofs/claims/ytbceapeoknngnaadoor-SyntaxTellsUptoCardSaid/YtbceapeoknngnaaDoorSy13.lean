/-
  The parser's eat, must.
-/
import Derived.Test.YtbceapeoknngnaaDoorSy12
set_option linter.unusedVariables false
namespace Go.Proofs.YtbceapeoknngnaaDoor
open Go.RowKit
set_option maxRecDepth 100000
open Lib (hid)
set_option maxHeartbeats 1600000 in
theorem eat_p (g : Nat) (s : ByteArray) (k0 : Nat) (c : UInt8) (w : World) (hk0 : k0 ≤ s.size) (hz0 : s.size ≤ 4611686018427387904) (hp : PW g s k0 w) :
   Calls Tryd.prog 33 #[.pointer (some ⟨g, 0, none⟩), .int .u8 (c.toNat : Int)] w fun e w' => e = .returned (.bool (eatP c (dr s k0)).1) ∧ At g s (eatP c (dr s k0)).2 w' ∧ Gr g w w' := by
 have Hb := hid (blank_p g s k0 w hk0 hz0 hp); clear hp
 go_enter Tryd.func33, Tryd.ntmps33
 (go_wp2_with (first | (go_at_call 14; go_must (refine Hb.out.mono ?_; rintro e w1 ⟨rfl, ⟨k, hk, hd, hp⟩, hg⟩)))); have h0 := hp.c0; have h1 := hp.c1; have hf := hp.fz 1; have hz := hp.lt; have Hp := hid hp; have Hg := hid hg; have Hd := hid hd; clear hp hg hd Hb
 by_cases hlt : k < s.size
 · (have i1 : (k : Int) < (s.size : Int) := by omega); (have e1 : ((k : Int) == (s.size : Int)) = false := by rw [beq_eq_false_iff_ne]; omega); have hc := hid (dr_cons hlt)
   by_cases hx : s[k] = c
   · (have e2 : ((s[k].toNat : Int) != (c.toNat : Int)) = false := by rw [hx]; simp); have Hx := hid hx; clear hx
     go_quiet (fail)
     go_wp2_with fail
     go_ret
     (have he : eatP c (dr s k0) = (true, dr s (k + 1)) := by unfold eatP; rw [← Hd.out, hc.out, Hx.out, List.head?_cons, if_pos rfl, List.tail_cons]); rw [he]; exact ⟨rfl, ⟨k + 1, by omega, rfl, (Hp.out.drewN _).set1 (k + 1) (by go_num)⟩, (Hg.out.drewN _).set _ _⟩
   · have e2 : ((s[k].toNat : Int) != (c.toNat : Int)) = true := by
       rw [bne_iff_ne]; intro e; exact hx (UInt8.toNat_inj.1 (by omega))
     have Hx := hid hx; clear hx
     go_quiet (fail)
     go_wp2_with fail
     go_ret
     have he : eatP c (dr s k0) = (false, dr s k) := by
       unfold eatP; rw [← Hd.out, hc.out, List.head?_cons, if_neg (fun e => Hx.out (Option.some.inj e))]
     rw [he]; exact ⟨rfl, ⟨k, by omega, rfl, Hp.out.drewN _⟩, Hg.out.drewN _⟩
 · have e1 : ((k : Int) == (s.size : Int)) = true := by rw [beq_iff_eq]; omega
   go_quiet (fail)
   go_wp2_with fail
   go_ret
   have he : eatP c (dr s k0) = (false, []) := by
     unfold eatP; rw [← Hd.out, dr_end (by omega)]; rfl
   rw [he]; exact ⟨rfl, ⟨k, by omega, dr_end (by omega), Hp.out.drewN _⟩, Hg.out.drewN _⟩
set_option maxHeartbeats 1600000 in
theorem must_p (g : Nat) (s : ByteArray) (k0 : Nat) (c : UInt8) (w : World) (hk0 : k0 ≤ s.size) (hz0 : s.size ≤ 4611686018427387904) (hp : PW g s k0 w) :
   Calls Tryd.prog 32 #[.pointer (some ⟨g, 0, none⟩), .int .u8 (c.toNat : Int)] w (PEnd g s w (mustP c (dr s k0)) (fun _ _ v => v = .tuple #[])) := by
 have Hb := hid (eat_p g s k0 c w hk0 hz0 hp); clear hp; have hm : mustP c (dr s k0) = if (eatP c (dr s k0)).1 then .ok () (eatP c (dr s k0)).2 else .bad 2 (eatP c (dr s k0)).2 := rfl; have Hm := hid hm; clear hm; generalize eatP c (dr s k0) = r at Hb Hm; obtain ⟨b, l⟩ := r; simp only at Hb Hm
 go_enter Tryd.func32, Tryd.ntmps32
 cases b with
 | true =>
   go_wp2_with (first | (go_at_call 33; go_must (refine Hb.out.mono ?_; rintro e w1 ⟨rfl, hp, hg⟩)))
   go_end0
   exact PEnd.of_ok Hm.out rfl hp hg
 | false =>
   (go_wp2_with (first | (go_at_call 33; go_must (refine Hb.out.mono ?_; rintro e w1 ⟨rfl, ⟨k, hk, hd, hp⟩, hg⟩)) | (go_at_call 18; go_must (refine (fail_p g s k 2 _ hp).mono ?_; rintro e w2 ⟨rfl, hu⟩)))); refine ⟨rfl, PEnd.of_bad Hm.out (by rw [← hd, dr_len]; omega) (hg.up hu)⟩
end Go.Proofs.YtbceapeoknngnaaDoor
