/-
  The document's parser: on, eat, need.
-/
import Derived.Test.YtbceapeoknngnaaDoorSy27
set_option linter.unusedVariables false
namespace Go.Proofs.YtbceapeoknngnaaDoor
open Go.RowKit
set_option maxRecDepth 100000
open Lib (hid)
set_option maxHeartbeats 1600000 in
theorem on_w (g : Nat) (s : ByteArray) (st : WSt) (c : UInt8) (w : World) (hz0 : s.size ≤ 4611686018427387904) (h : RAt g s st w) :
   Calls Tryd.prog 47 #[.pointer (some ⟨g, 0, none⟩), .int .u8 (c.toNat : Int)] w (REnd g s w (.bool (onRf c st).1) (onRf c st).2) := by
 have Hok := hid (ok_w g s st w h); have Hsk := hid (skip_w g s st w hz0 h); have H := hid h; clear h
 by_cases he : st.e = 0
 · (have hb : (st.e == 0) = true := by simpa using he); have hr : onRf c st = (decide ((skip st.l).head? = some c), blankRf st) := if_neg (by simpa using he); rw [hr]; clear hr he
   go_enter Tryd.func47, Tryd.ntmps47
   (go_wp2_with (first | (go_at_call 20; go_must (refine Hok.out.mono ?_; rintro e w1 ⟨rfl, rfl⟩)) | (go_at_call 19; go_must (refine Hsk.out.mono ?_; rintro e w2 ⟨rfl, ⟨k, hk, hd, hp⟩, hg⟩)))); have h0 := hp.c0; have h1 := hp.c1; have hz := hp.lt; have Hp := hid hp; have Hg := hid hg; have Hd := hid hd; have hat : ∀ n, RAt g s (blankRf st) (w2.drewN n) := fun n => ⟨k, hk, Hd.out, Hp.out.drewN n⟩; have Hat := hid hat; clear hp hg hd Hsk hat; have hd := Hd.out; have hd : dr s k = skip st.l := hd
   by_cases hlt : k < s.size
   · have j1 : decide ((k : Int) < (s.size : Int)) = true := decide_eq_true (by omega); have hc := dr_cons hlt; rw [hd] at hc
     have e2 : ((s[k].toNat : Int) == (c.toNat : Int)) = decide ((skip st.l).head? = some c) := by
       rw [hc, List.head?_cons]
       by_cases hx : s[k] = c
       · subst hx; simp
       · have : ¬ ((s[k].toNat : Int) = (c.toNat : Int)) := fun e => hx (UInt8.toNat_inj.1 (by omega)); simp [hx, this]
     generalize decide ((skip st.l).head? = some c) = an at *; clear hc hd Hd
     go_quiet (fail)
     go_wp2_with fail
     go_ret
     exact ⟨by first | rfl | rw [e2], Hat.out _, Hg.out.drewN _⟩
   · have j1 : decide ((k : Int) < (s.size : Int)) = false := decide_eq_false (by omega)
     have e2 : decide ((skip st.l).head? = some c) = false := by
       rw [← hd, dr_end (by omega)]; rfl
     have E2 := hid e2; clear hd Hd e2
     go_quiet (fail)
     go_wp2_with fail
     go_ret
     exact ⟨by rw [E2.out]; rfl, Hat.out _, Hg.out.drewN _⟩
 · (have hb : (st.e == 0) = false := by simpa using he); rw [on_noRf he]; clear he
   go_enter Tryd.func47, Tryd.ntmps47
   go_wp2_with (go_at_call 20; go_must (refine Hok.out.mono ?_; rintro e w1 ⟨rfl, rfl⟩))
   go_ret
   exact ⟨rfl, H.out, Gr.refl _ _⟩
set_option maxHeartbeats 1600000 in
theorem eat_w (g : Nat) (s : ByteArray) (st : WSt) (c : UInt8) (w : World) (hz0 : s.size ≤ 4611686018427387904) (h : RAt g s st w) :
   Calls Tryd.prog 38 #[.pointer (some ⟨g, 0, none⟩), .int .u8 (c.toNat : Int)] w (REnd g s w (.bool (eatRf c st).1) (eatRf c st).2) := by
 have hon := on_w g s st c w hz0 h
 have hne : (onRf c st).1 = true → (onRf c st).2.l ≠ [] := by
   unfold onRf; split
   · intro h; cases h
   · intro h e; have h : (skip st.l).head? = some c := of_decide_eq_true h; have e : skip st.l = [] := e; rw [e] at h; cases h
 clear h; unfold eatRf; generalize onRf c st = ON at *; obtain ⟨b, st2⟩ := ON; have Hon := hid hon; clear hon
 cases b with
 | false =>
   go_enter Tryd.func38, Tryd.ntmps38
   go_wp2_with (go_at_call 47; go_must (refine Hon.out.mono ?_; rintro e w1 ⟨rfl, ha, hg⟩))
   go_ret
   exact ⟨rfl, ha, hg⟩
 | true =>
   have Hne := hid (show st2.l ≠ [] from hne rfl); clear hne
   go_enter Tryd.func38, Tryd.ntmps38
   go_wp2_with (go_at_call 47; go_must (refine Hon.out.mono ?_; rintro e w1 ⟨rfl, ⟨k, hk, hd, hp⟩, hg⟩; have h1 := hp.c1; have hz := hp.lt; have hf := hp.fz 1; have Hp := hid hp; have Hg := hid hg; clear hp hg))
   go_ret
   have hlt : k < s.size := by
     rcases Nat.lt_or_ge k s.size with h | h
     · exact h
     · rw [dr_end h] at hd; exact absurd hd.symm Hne.out
   refine ⟨rfl, ⟨k + 1, by omega, ?_, Hp.out.set1 (k + 1) (by go_num)⟩, Hg.out.set _ _⟩; show dr s (k + 1) = st2.l.tail; rw [← hd, dr_cons hlt]; rfl
set_option maxHeartbeats 1600000 in
theorem need_w (g : Nat) (s : ByteArray) (st : WSt) (c : UInt8) (w : World) (hz0 : s.size ≤ 4611686018427387904) (h : RAt g s st w) :
   Calls Tryd.prog 37 #[.pointer (some ⟨g, 0, none⟩), .int .u8 (c.toNat : Int)] w (REnd g s w (.tuple #[]) (needRf c st)) := by
 have hea := eat_w g s st c w hz0 h; clear h; unfold needRf; generalize eatRf c st = ON at *; obtain ⟨b, st2⟩ := ON; have Hea := hid hea; clear hea
 cases b with
 | true =>
   go_enter Tryd.func37, Tryd.ntmps37
   go_wp2_with (go_at_call 38; go_must (refine Hea.out.mono ?_; rintro e w1 ⟨rfl, ha, hg⟩))
   go_end0
   exact ⟨rfl, ha, hg⟩
 | false =>
   go_enter Tryd.func37, Tryd.ntmps37
   go_wp2_with (first | (go_at_call 38; go_must (refine Hea.out.mono ?_; rintro e w1 ⟨rfl, ha, hg⟩)) | (go_at_call 24; go_must (refine (stop_w g s st2 2 w1 (by decide) ha).mono ?_; rintro e w2 ⟨rfl, ha2, hg2⟩)))
   go_end0
   exact ⟨rfl, ha2, hg.trans hg2⟩
end Go.Proofs.YtbceapeoknngnaaDoor
