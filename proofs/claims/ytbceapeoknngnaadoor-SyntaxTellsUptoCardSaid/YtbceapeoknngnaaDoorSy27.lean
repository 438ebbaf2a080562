/-
  The document's parser: ok, stop, skip, on, eat, need.
-/
import Derived.Test.YtbceapeoknngnaaDoorSy10
import Derived.Test.YtbceapeoknngnaaDoorSy12
set_option linter.unusedVariables false
namespace Go.Proofs.YtbceapeoknngnaaDoor
open Go.RowKit
set_option maxRecDepth 100000
open Lib (hid)
def RW (g : Nat) (s : ByteArray) (k : Nat) (e ba : Int) (w : World) : Prop := w.heap[g]? = some (.cells #[.string s, .int .i64 k, .int .i64 e, .int .i64 ba] 55 (0, 0))
theorem RW.c0 {g : Nat} {s : ByteArray} {k : Nat} {e ba : Int} {w : World} (h : RW g s k e ba w) : w.cell? ⟨g, 0, none⟩ = some (.string s) := cell_of_row w g 0 _ _ _ h
theorem RW.c1 {g : Nat} {s : ByteArray} {k : Nat} {e ba : Int} {w : World} (h : RW g s k e ba w) : w.cell? ⟨g, 1, none⟩ = some (.int .i64 k) := cell_of_row w g 1 _ _ _ h
theorem RW.c2 {g : Nat} {s : ByteArray} {k : Nat} {e ba : Int} {w : World} (h : RW g s k e ba w) : w.cell? ⟨g, 2, none⟩ = some (.int .i64 e) := cell_of_row w g 2 _ _ _ h
theorem RW.c3 {g : Nat} {s : ByteArray} {k : Nat} {e ba : Int} {w : World} (h : RW g s k e ba w) : w.cell? ⟨g, 3, none⟩ = some (.int .i64 ba) := cell_of_row w g 3 _ _ _ h
theorem RW.fz {g : Nat} {s : ByteArray} {k : Nat} {e ba : Int} {w : World} (h : RW g s k e ba w) (o : Nat) : w.frozen? ⟨g, o, none⟩ = false := frozen_of_row w g o _ _ h
theorem RW.lt {g : Nat} {s : ByteArray} {k : Nat} {e ba : Int} {w : World} (h : RW g s k e ba w) : g < w.heap.size := lt_of_block h
theorem RW.set1 {g : Nat} {s : ByteArray} {k : Nat} {e ba : Int} {w : World} (h : RW g s k e ba w) {i : Int} (n : Nat) (hi : i = n) : RW g s n e ba (w.setCell ⟨g, 1, none⟩ (.int .i64 i)) := by subst hi; exact heap_setCell_same w g 1 _ _ _ h
theorem RW.bad {g : Nat} {s : ByteArray} {k : Nat} {e ba : Int} {w : World} (h : RW g s k e ba w) (e' ba' : Int) : RW g s k e' ba' ((w.setCell ⟨g, 2, none⟩ (.int .i64 e')).setCell ⟨g, 3, none⟩ (.int .i64 ba')) := heap_setCell_same _ g 3 _ _ _ (heap_setCell_same w g 2 _ _ _ h)
theorem RW.up {g : Nat} {s : ByteArray} {k : Nat} {e ba : Int} {w w' : World} (h : RW g s k e ba w) (hu : Up w w') : RW g s k e ba w' := hu.blk h
theorem RW.alloc {g : Nat} {s : ByteArray} {k : Nat} {e ba : Int} {w : World} (h : RW g s k e ba w) (o : Obj) : RW g s k e ba (w.alloc o) := h.up ((Up.refl w).alloc o)
theorem RW.drewN {g : Nat} {s : ByteArray} {k : Nat} {e ba : Int} {w : World} (h : RW g s k e ba w) (n : Nat) : RW g s k e ba (w.drewN n) := h.up ((Up.refl w).drewN n)
theorem RW.other {g : Nat} {s : ByteArray} {k : Nat} {e ba : Int} {w : World} (h : RW g s k e ba w) {p : Addr} (hp : p.block ≠ g) (u : Value) : RW g s k e ba (w.setCell p u) := (Below.heap_setCell w p u g (fun e => hp e.symm)).trans h
def rwAt (g : Nat) (w : World) : Nat := match w.cell? ⟨g, 1, none⟩ with | some (.int _ k) => k.toNat | _ => 0
theorem RW.is {g : Nat} {s : ByteArray} {k : Nat} {e ba : Int} {w : World} (h : RW g s k e ba w) : rwAt g w = k := by unfold rwAt; rw [h.c1]; simp
def baOf (s : ByteArray) (st : WSt) : Int := if st.e = 0 then 0 else ((s.size - st.b.length : Nat) : Int)
def RAt (g : Nat) (s : ByteArray) (st : WSt) (w : World) : Prop := ∃ k : Nat, k ≤ s.size ∧ dr s k = st.l ∧ RW g s k st.e (baOf s st) w
theorem RAt.up {g : Nat} {s : ByteArray} {st : WSt} {w w' : World} (h : RAt g s st w) (hu : Up w w') : RAt g s st w' := let ⟨k, h1, h2, h3⟩ := h; ⟨k, h1, h2, h3.up hu⟩
theorem RAt.lt {g : Nat} {s : ByteArray} {st : WSt} {w : World} (h : RAt g s st w) : g < w.heap.size := let ⟨_, _, _, h3⟩ := h; h3.lt
theorem RAt.other {g : Nat} {s : ByteArray} {st : WSt} {w : World} (h : RAt g s st w) {p : Addr} (hp : p.block ≠ g) (u : Value) : RAt g s st (w.setCell p u) := let ⟨k, h1, h2, h3⟩ := h; ⟨k, h1, h2, h3.other hp u⟩
abbrev REnd (g : Nat) (s : ByteArray) (w : World) (v : Value) (st : WSt) (e : Ending) (w' : World) : Prop := e = .returned v ∧ RAt g s st w' ∧ Gr g w w'
set_option maxHeartbeats 800000 in
theorem ok_w (g : Nat) (s : ByteArray) (st : WSt) (w : World) (h : RAt g s st w) :
   Calls Tryd.prog 20 #[.pointer (some ⟨g, 0, none⟩)] w fun e w' => e = .returned (.bool (st.e == 0)) ∧ w' = w := by
 obtain ⟨k, hk, hd, hp⟩ := h; have h2 := hp.c2; have hz := hp.lt; clear hp hd
 go_enter Tryd.func20, Tryd.ntmps20
 go_wp2_with fail
 go_ret
 exact ⟨rfl, rfl⟩
set_option maxHeartbeats 800000 in
theorem stop_w (g : Nat) (s : ByteArray) (st : WSt) (er : Int) (w : World) (her : er ≠ 0) (h : RAt g s st w) :
   Calls Tryd.prog 24 #[.pointer (some ⟨g, 0, none⟩), .int .i64 er] w (REnd g s w (.tuple #[]) (stopRf er st)) := by
 have Hok := hid (ok_w g s st w h); obtain ⟨k, hk, hd, hp⟩ := h; have h1 := hp.c1; have h2 := hp.c2; have h3 := hp.c3; have hz := hp.lt; have hf := hp.fz; have Hp := hid hp; (have hlen : (s.size - (dr s k).length : Nat) = k := by rw [dr_len]; omega); have Hlen := hid hlen; clear hp hlen
 by_cases he : st.e = 0
 · (have hb : (st.e == 0) = true := by simpa using he); have hst : stopRf er st = ⟨st.l, er, st.l⟩ := if_pos he; rw [hst]; have Hd := hid hd; clear hd he hst
   go_enter Tryd.func24, Tryd.ntmps24
   go_wp2_with (go_at_call 20; go_must (refine Hok.out.mono ?_; rintro e w1 ⟨rfl, rfl⟩))
   go_end0
   refine ⟨rfl, ⟨k, hk, Hd.out, ?_⟩, ((Gr.refl g w1).set _ _).set _ _⟩; (have : baOf s ⟨st.l, er, st.l⟩ = (k : Int) := by unfold baOf; rw [if_neg her, ← Hd.out, Hlen.out]); rw [this]; exact Hp.out.bad _ _
 · (have hb : (st.e == 0) = false := by simpa using he); have hst : stopRf er st = st := if_neg he; rw [hst]; have Hd := hid hd; clear hd he hst
   go_enter Tryd.func24, Tryd.ntmps24
   go_wp2_with (go_at_call 20; go_must (refine Hok.out.mono ?_; rintro e w1 ⟨rfl, rfl⟩))
   go_end0
   exact ⟨rfl, ⟨k, hk, Hd.out, Hp.out⟩, Gr.refl g _⟩
set_option maxHeartbeats 3200000 in
theorem skip_w (g : Nat) (s : ByteArray) (st : WSt) (w : World) (hz0 : s.size ≤ 4611686018427387904) (h : RAt g s st w) :
   Calls Tryd.prog 19 #[.pointer (some ⟨g, 0, none⟩)] w (REnd g s w (.tuple #[]) (blankRf st)) := by
 obtain ⟨k0, hk0, hd0, hp0⟩ := h; obtain ⟨e, he⟩ : ∃ e, st.e = e := ⟨_, rfl⟩; obtain ⟨ba, hba⟩ : ∃ ba, baOf s st = ba := ⟨_, rfl⟩
 have hres : ∀ k w', k ≤ s.size → dr s k = skip (dr s k0) → RW g s k e ba w' → RAt g s (blankRf st) w' := fun k w' h1 h2 h3 =>
   ⟨k, h1, by rw [h2, hd0]; rfl, by rw [← he, ← hba] at h3; exact h3⟩
 rw [he, hba] at hp0; have Hres := hid hres; have Hp0 := hid hp0; clear hres hp0 hd0 he hba
 go_enter Tryd.func19, Tryd.ntmps19
 (go_wp2_with fail); (go_loopw [2] (fun t wr => ∃ (k : Nat) (nt : Bool), k ≤ s.size ∧ t = .bool nt ∧ RW g s k e ba wr ∧ Gr g w wr ∧ skipL nt (dr s k) = skip (dr s k0)) (fun _ wr => s.size - rwAt g wr)); case atStart => exact ⟨k0, false, hk0, rfl, Hp0.out, Gr.refl _ _, rfl⟩
 case round =>
   obtain ⟨k, nt, hk, rfl, hp, hg, hs⟩ := hrel; clear Hp0; have h0 := hp.c0; have h1 := hp.c1; have hf := hp.fz 1; have hz := hp.lt; have Hp := hid hp; have Hg := hid hg; have Hs := hid hs; clear hp hg hs
   by_cases hlt : k < s.size
   · (have i1 : (k : Int) < (s.size : Int) := by omega); have j1 : decide ((k : Int) < (s.size : Int)) = true := decide_eq_true i1; have hd := hid (dr_cons hlt); obtain ⟨c, hc⟩ : ∃ c, c = s[k].toNat := ⟨_, rfl⟩; have Hc := hid hc; replace hc := hc.symm
     --BEGIN skip
     (have hb : c = 10 ∨ c = 32 ∨ c = 47 ∨ (c ≠ 10 ∧ c ≠ 32 ∧ c ≠ 47) := by omega); rcases hb with ha | ha | ha | hb
     · have q : s[k] = 10 := UInt8.toNat_inj.1 (by rw [← Hc.out, ha]; rfl); have Q := hid q; clear q; subst ha; go_wp2_with fail
       go_quiet (fail)
       go_wp2_with fail
       go_quiet (fail)
       go_wp2_with fail
       go_quiet (fail)
       go_wp2_with fail
       go_roundw
       case rel =>
         refine ⟨k + 1, false, by omega, rfl, (Hp.out.drewN _).set1 (k + 1) (by go_num), (Hg.out.drewN _).set _ _, ?_⟩; rw [← Hs.out, hd.out]; rw [Q.out]; cases nt <;> rfl
       case measure => rw [((Hp.out.drewN _).set1 (k + 1) (by go_num)).is, Hp.out.is]; omega
     · have q : s[k] = 32 := UInt8.toNat_inj.1 (by rw [← Hc.out, ha]; rfl); have Q := hid q; clear q; subst ha; go_wp2_with fail
       go_quiet (fail)
       go_wp2_with fail
       go_quiet (fail)
       go_wp2_with fail
       go_quiet (fail)
       go_wp2_with fail
       go_roundw
       case rel =>
         refine ⟨k + 1, nt, by omega, rfl, (Hp.out.drewN _).set1 (k + 1) (by go_num), (Hg.out.drewN _).set _ _, ?_⟩; rw [← Hs.out, hd.out]; rw [Q.out]; cases nt <;> rfl
       case measure => rw [((Hp.out.drewN _).set1 (k + 1) (by go_num)).is, Hp.out.is]; omega
     · by_cases hn1 : k + 1 < s.size
       · by_cases h47 : s[k + 1] = 47
         · have q : s[k] = 47 := UInt8.toNat_inj.1 (by rw [← Hc.out, ha]; rfl); have Q := hid q; clear q; subst ha; have i2 : decide ((k : Int) + 1 < (s.size : Int)) = true := decide_eq_true (by omega); obtain ⟨c2, hc2⟩ : ∃ c2, c2 = (s[k + 1]'hn1).toNat := ⟨_, rfl⟩; have Hc2 := hid hc2; replace hc2 := hc2.symm; (have e5 : c2 = 47 := by rw [Hc2.out, h47]; rfl); subst e5; (have q4 : (dr s (k + 1)).head? = some 47 := by rw [dr_cons hn1, List.head?_cons, h47]); have Q4 := hid q4; clear q4 h47; go_wp2_with fail
           go_quiet (fail)
           go_wp2_with fail
           go_quiet (fail)
           go_wp2_with fail
           go_quiet (fail)
           go_wp2_with fail
           go_roundw
           case rel =>
             refine ⟨k + 1, true, by omega, rfl, (Hp.out.drewN _).set1 (k + 1) (by go_num), (Hg.out.drewN _).set _ _, ?_⟩; rw [← Hs.out, hd.out]
             rw [Q.out]; cases nt with
             | true => rw [skipT_cons, if_neg (by decide)]
             | false => rw [skipF_cons, if_neg (by decide), if_pos ⟨rfl, Q4.out⟩]
           case measure => rw [((Hp.out.drewN _).set1 (k + 1) (by go_num)).is, Hp.out.is]; omega
         · have q : s[k] = 47 := UInt8.toNat_inj.1 (by rw [← Hc.out, ha]; rfl); have Q := hid q; clear q; subst ha; have i2 : decide ((k : Int) + 1 < (s.size : Int)) = true := decide_eq_true (by omega); obtain ⟨c2, hc2⟩ : ∃ c2, c2 = (s[k + 1]'hn1).toNat := ⟨_, rfl⟩; have Hc2 := hid hc2; replace hc2 := hc2.symm; (have e5 : ((c2 : Int) == 47) = false := by rw [beq_eq_false_iff_ne]; intro e; exact h47 (UInt8.toNat_inj.1 (by rw [← Hc2.out]; show c2 = 47; omega))); (have q4 : (dr s (k + 1)).head? ≠ some 47 := by rw [dr_cons hn1, List.head?_cons]; exact fun e => h47 (Option.some.inj e)); have Q4 := hid q4; clear q4 h47
           cases nt with
           | true =>
             go_wp2_with fail
             go_quiet (fail)
             go_wp2_with fail
             go_quiet (fail)
             go_wp2_with fail
             go_quiet (fail)
             go_wp2_with fail
             go_roundw
             case rel =>
               refine ⟨k + 1, true, by omega, rfl, (Hp.out.drewN _).set1 (k + 1) (by go_num), (Hg.out.drewN _).set _ _, ?_⟩; rw [← Hs.out, hd.out]; rw [Q.out, skipT_cons, if_neg (by decide)]
             case measure => rw [((Hp.out.drewN _).set1 (k + 1) (by go_num)).is, Hp.out.is]; omega
           | false =>
             go_wp2_with fail
             go_quiet (fail)
             go_wp2_with fail
             go_quiet (fail)
             go_wp2_with fail
             go_quiet (fail)
             go_wp2_with fail
             go_end0
             refine ⟨rfl, Hres.out k _ hk ?_ (Hp.out.drewN _), Hg.out.drewN _⟩; rw [← Hs.out, hd.out]; rw [Q.out, skipF_cons, if_neg (by decide), if_neg (fun h => Q4.out h.2)]
       · have q : s[k] = 47 := UInt8.toNat_inj.1 (by rw [← Hc.out, ha]; rfl); have Q := hid q; clear q; subst ha; have i2 : decide ((k : Int) + 1 < (s.size : Int)) = false := decide_eq_false (by omega); (have q4 : (dr s (k + 1)).head? ≠ some 47 := by rw [dr_end (by omega)]; simp); have Q4 := hid q4; clear q4
         cases nt with
         | true =>
           go_wp2_with fail
           go_quiet (fail)
           go_wp2_with fail
           go_quiet (fail)
           go_wp2_with fail
           go_quiet (fail)
           go_wp2_with fail
           go_roundw
           case rel =>
             refine ⟨k + 1, true, by omega, rfl, (Hp.out.drewN _).set1 (k + 1) (by go_num), (Hg.out.drewN _).set _ _, ?_⟩; rw [← Hs.out, hd.out]; rw [Q.out, skipT_cons, if_neg (by decide)]
           case measure => rw [((Hp.out.drewN _).set1 (k + 1) (by go_num)).is, Hp.out.is]; omega
         | false =>
           go_wp2_with fail
           go_quiet (fail)
           go_wp2_with fail
           go_quiet (fail)
           go_wp2_with fail
           go_quiet (fail)
           go_wp2_with fail
           go_end0
           refine ⟨rfl, Hres.out k _ hk ?_ (Hp.out.drewN _), Hg.out.drewN _⟩; rw [← Hs.out, hd.out]; rw [Q.out, skipF_cons, if_neg (by decide), if_neg (fun h => Q4.out h.2)]
     · (have e1 : ((c : Int) == 47) = false := by rw [beq_eq_false_iff_ne]; omega); (have e2 : ((c : Int) == 10) = false := by rw [beq_eq_false_iff_ne]; omega); (have e3 : ((c : Int) != 32) = true := by rw [bne_iff_ne]; omega); (have e4 : ((c : Int) != 10) = true := by rw [bne_iff_ne]; omega); have q1 : s[k] ≠ 10 := fun e => hb.1 (by rw [Hc.out, e]; rfl); have q2 : s[k] ≠ 32 := fun e => hb.2.1 (by rw [Hc.out, e]; rfl); have q3 : s[k] ≠ 47 := fun e => hb.2.2 (by rw [Hc.out, e]; rfl); have Q1 := hid q1; have Q2 := hid q2; have Q3 := hid q3; clear q1 q2 q3 hb
       cases nt with
       | true =>
         go_wp2_with fail
         go_quiet (fail)
         go_wp2_with fail
         go_quiet (fail)
         go_wp2_with fail
         go_quiet (fail)
         go_wp2_with fail
         go_roundw
         case rel =>
           refine ⟨k + 1, true, by omega, rfl, (Hp.out.drewN _).set1 (k + 1) (by go_num), (Hg.out.drewN _).set _ _, ?_⟩; rw [← Hs.out, hd.out]; rw [skipT_cons, if_neg Q1.out]
         case measure => rw [((Hp.out.drewN _).set1 (k + 1) (by go_num)).is, Hp.out.is]; omega
       | false =>
         go_wp2_with fail
         go_quiet (fail)
         go_wp2_with fail
         go_quiet (fail)
         go_wp2_with fail
         go_quiet (fail)
         go_wp2_with fail
         go_end0
         refine ⟨rfl, Hres.out k _ hk ?_ (Hp.out.drewN _), Hg.out.drewN _⟩; rw [← Hs.out, hd.out]; rw [skipF_cons, if_neg (not_or.2 ⟨Q2.out, Q1.out⟩), if_neg (fun h => Q3.out h.1)]
   · (have hn : k = s.size := by omega); have j1 : decide ((k : Int) < (s.size : Int)) = false := decide_eq_false (by omega); go_wp2_with fail
     go_quiet (fail)
     go_wp2_with fail
     go_end0
     refine ⟨rfl, Hres.out k _ hk ?_ (Hp.out.drewN _), Hg.out.drewN _⟩; rw [← Hs.out, dr_end (by omega)]; cases nt <;> rfl
end Go.Proofs.YtbceapeoknngnaaDoor
