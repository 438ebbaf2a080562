/-
  syntax.Parse.
-/
import Derived.Test.YtbceapeoknngnaaDoorSy25
set_option linter.unusedVariables false
namespace Go.Proofs.YtbceapeoknngnaaDoor
open Go.RowKit
set_option maxRecDepth 100000
open Lib (hid)
theorem filV_nil' (S : Nat → Prop) (w : World) : FilV S w (.agg #[.slice none 0 0, .slice none 0 0]) ⟨[], []⟩ :=
 ⟨_, _, rfl, ⟨none, 0, rfl, by simp, by unfold maxLen; omega, fun _ => rfl, fun i hi => by simp at hi⟩, ⟨none, 0, rfl, by simp, by unfold maxLen; omega, fun _ => rfl, fun i hi => by simp at hi⟩⟩
theorem PF.bad {s : ByteArray} {w : World} {F : Nat} {vm ve : Value} {ms : List Msg} {es : List Enu} {k : Nat} {wi wj : World} (h : PF s w F vm ve ms es k wi) (hg : Gr (F + 2) wi wj) (hF : w.heap.size = F) :
   wj.heap[F]? = some (.cells #[vm, ve] 25 (0, 0)) ∧ wj.heap[F + 1]? = some (.cells #[.int .i64 0, .int .i64 0] 28 (0, 0)) ∧ Up w wj := ⟨hg.blk h.f (by omega), hg.blk h.z (by omega), hg.upv h.up (by omega)⟩
def PanicAt (s : ByteArray) (w : World) (F : Nat) (er : Int) (k : Nat) (e : Exit) (a : Act) (w' : World) : Prop :=
 e = Exit.panic [oopsE er k] ∧ (∃ v1 v2, w'.heap[F]? = some (.cells #[v1, v2] 25 (0, 0)) ∧ w'.heap[F + 1]? = some (.cells #[.int .i64 0, .int .i64 0] 28 (0, 0)) ∧ Up w w') ∧ a.tmps[2]? = some (.pointer (some ⟨F, 0, none⟩)) ∧ a.tmps[3]? = some (.pointer (some ⟨F + 1, 0, none⟩)) ∧ a.defers = [{ target := Target.fn (Fn.func 13) #[.pointer (some ⟨F, 0, none⟩), .pointer (some ⟨F + 1, 0, none⟩)], args := #[] }]
theorem PanicAt.put {s : ByteArray} {w : World} {F : Nat} {er : Int} {k : Nat} {c : List PanicEntry} {a : Act} {w' : World} {dst : Option Nat} {v : Value} (h2 : dst ≠ some 2) (h3 : dst ≠ some 3) (h : PanicAt s w F er k (.panic c) (a.put dst v) w') : PanicAt s w F er k (.panic c) a w' := by
 cases dst with
 | none => exact h
 | some i =>
   have n2 : i ≠ 2 := fun e => h2 (by rw [e]); have n3 : i ≠ 3 := fun e => h3 (by rw [e]); obtain ⟨g1, g2, g3, g4, g5⟩ := h; simp only [Act.put] at g3 g4 g5; rw [Array.getElem?_setIfInBounds_ne n2] at g3; rw [Array.getElem?_setIfInBounds_ne n3] at g4; exact ⟨g1, g2, g3, g4, g5⟩
set_option maxHeartbeats 1600000 in
theorem door_p {s : ByteArray} {w : World} {F : Nat} {vm ve : Value} {er : Int} {k : Nat} {a : Act} {wi : World} (hF : w.heap.size = F) (hfz : wi.heap[F]? = some (.cells #[vm, ve] 25 (0, 0)) ∧ wi.heap[F + 1]? = some (.cells #[.int .i64 0, .int .i64 0] 28 (0, 0)) ∧ Up w wi) (hb : parseS s.data.toList = (⟨[], []⟩, er, k))
   (h2 : a.tmps[2]? = some (.pointer (some ⟨F, 0, none⟩))) (h3 : a.tmps[3]? = some (.pointer (some ⟨F + 1, 0, none⟩))) (hd : a.defers = [{ target := Target.fn (Fn.func 13) #[.pointer (some ⟨F, 0, none⟩), .pointer (some ⟨F + 1, 0, none⟩)], args := #[] }]) :
   bodyPostD Tryd.prog Tryd.f4 (fun e w' => ∃ v, e = .returned (.tuple #[v, .agg #[.int .i64 (parseS s.data.toList).2.1, .int .i64 ((parseS s.data.toList).2.2 : Int)]]) ∧ FilV (fun b => w.heap.size ≤ b) w' v (parseS s.data.toList).1 ∧ Up w w') (Exit.panic [oopsE er k]) a wi := by
 obtain ⟨tmps, defers⟩ := a; simp only at h2 h3 hd; subst hd; (have g2 : tmps.getD 2 undef = .pointer (some ⟨F, 0, none⟩) := by simp [h2]); (have g3 : tmps.getD 3 undef = .pointer (some ⟨F + 1, 0, none⟩) := by simp [h3]); refine leaves_cons (f := 13) (args := #[.pointer (some ⟨F, 0, none⟩), .pointer (some ⟨F + 1, 0, none⟩)]) (by simp) (by simp [go_sem]) ?_; refine (catch_oops F er k _ _ [] wi hfz.1 hfz.2.1).mono ?_; rintro e u' w'' ⟨rfl, rfl, q1, q2, q3⟩; have d0 := cell_of_row w'' F 0 _ _ _ q1; have d1 := cell_of_row w'' F 1 _ _ _ q1; have d2 := cell_of_row w'' (F + 1) 0 _ _ _ q2; have d3 := cell_of_row w'' (F + 1) 1 _ _ _ q2; have hup := q3 w hfz.2.2 (by rw [hF]; omega); simp only [List.getElem?_toArray, List.getElem?_cons_zero, List.getElem?_cons_succ] at d0 d1 d2 d3; have Hb := hid hb; clear hb q1 q2 q3 hfz; simp [Leaves, settle, results, Tryd.results4, go_sem, d0, d1, d2, d3, h2, h3]; rw [Hb.out]; exact ⟨_, ⟨rfl, rfl, rfl⟩, filV_nil' _ _, hup⟩
set_option maxHeartbeats 6400000 in
theorem parse_big (s : ByteArray) (w : World) (hbig : 3000 < s.size) :
   Calls Tryd.prog 4 #[.string s] w fun e w' => ∃ v, e = .returned (.tuple #[v, .agg #[.int .i64 (parseS s.data.toList).2.1, .int .i64 ((parseS s.data.toList).2.2 : Int)]]) ∧ FilV (fun b => w.heap.size ≤ b) w' v (parseS s.data.toList).1 ∧ Up w w' := by
 have hmf : ∀ (fn : Fn) (first cap : Array Value) (w : World), (Instr.makeFunc fn first cap).run Tryd.prog w = .ok (.func fn first cap) w := fun _ _ _ _ => rfl; (have h1 : (3000 : Int) < (s.size : Int) := by omega); have Hb := hid (show parseS s.data.toList = (⟨[], []⟩, 4, 0) by unfold parseS; rw [if_pos (show 3000 < s.data.toList.length from hbig)]); have hu := hid (show Up w ((w.alloc (.cells #[.slice none 0 0, .slice none 0 0] 25)).alloc (.cells #[.int .i64 4, .int .i64 0] 28)) from ((Up.refl w).alloc _).alloc _)
 go_enter_defers Tryd.func4, Tryd.ntmps4
 (go_wp2_with fail); simp [bodyPostD, Leaves, results, Tryd.results4, go_sem]; rw [Hb.out]; exact ⟨_, ⟨rfl, rfl, rfl⟩, filV_nil' _ _, hu.out⟩
set_option maxHeartbeats 6400000 in
theorem parse_p (s : ByteArray) (w : World) (hev : EvR w) (hle : s.size ≤ 3000) :
   Calls Tryd.prog 4 #[.string s] w fun e w' => ∃ v, e = .returned (.tuple #[v, .agg #[.int .i64 (parseS s.data.toList).2.1, .int .i64 ((parseS s.data.toList).2.2 : Int)]]) ∧ FilV (fun b => w.heap.size ≤ b) w' v (parseS s.data.toList).1 ∧ Up w w' := by
 have hmf : ∀ (fn : Fn) (first cap : Array Value) (w : World), (Instr.makeFunc fn first cap).run Tryd.prog w = .ok (.func fn first cap) w := fun _ _ _ _ => rfl; have h1 : ¬ (3000 : Int) < (s.size : Int) := by omega
 have hgl : 2 < w.heap.size := by
   obtain ⟨_, _, hc⟩ := hev; exact World.block_lt_of_cell? w _ hc
 have Hev := hid hev; have hbd : ∀ (er : Int) (l' : List UInt8), fileP (s.size + 1) ⟨[], []⟩ (dr s 0) = .bad er l' → parseS s.data.toList = (⟨[], []⟩, er, s.size - l'.length) := fun er l' h => parse_bad (l := s.data.toList) hle h; have hok : ∀ (f : Fil) (l' : List UInt8), fileP (s.size + 1) ⟨[], []⟩ (dr s 0) = .ok f l' → parseS s.data.toList = (f, 0, 0) := fun f l' h => parse_ok (l := s.data.toList) hle h; have HBd := hid hbd; have HOk := hid hok; clear hbd hok hev
 go_enter_defers Tryd.func4, Tryd.ntmps4
 (go_wp2_with fail); have HE : Hid (PF s w w.heap.size (.slice none 0 0) (.slice none 0 0) [] [] 0 (((w.alloc (.cells #[.slice none 0 0, .slice none 0 0] 25)).alloc (.cells #[.int .i64 0, .int .i64 0] 28)).alloc (.cells #[.string s, .int .i64 0] 41))) := hid ⟨blk_new ((w.alloc _).alloc _) _ (by simp), (((Up.refl w).alloc _).alloc _).alloc _, OwnS.nil _ _ _ _ _ _, OwnS.nil _ _ _ _ _ _, fun j e => (by simp [Value.ownBlock] at e), blk_old _ (blk_old _ (blk_new w _ rfl)), blk_old _ (blk_new (w.alloc _) _ (by simp))⟩; generalize ((w.alloc (.cells #[.slice none 0 0, .slice none 0 0] 25)).alloc (.cells #[.int .i64 0, .int .i64 0] 28)).alloc (.cells #[.string s, .int .i64 0] 41) = w0 at *; obtain ⟨F, hF⟩ : ∃ F, w.heap.size = F := ⟨_, rfl⟩; rw [hF] at HE hgl; simp only [hF]; have HFz := hid hF; clear hF; have e11 : F + 1 + 1 = F + 2 := rfl; simp only [e11]; (have hgr : 2 < F + 2 := by omega); refine (blank_p (F + 2) s 0 w0 (by omega) (by omega) HE.out.pw).mono ?_; rintro e w1 ⟨rfl, ⟨k1, hk1, hd1, hp1⟩, hg1⟩; have HE1 := hid (HE.out.step hg1 hp1 HFz.out); have Hd1 := hid hd1; clear hd1 hp1 hg1 HE e11; (have hl0 : (dr s 0).length = s.size := by rw [dr_len]; rfl); (go_wp2_with fail); (go_loopw [] (fun wr => ∃ (Fl : Fil) (l : List UInt8) (vm ve : Value) (f k : Nat), l.length < f ∧ fileP f Fl l = fileP (s.size + 1) ⟨[], []⟩ (dr s 0) ∧ Fl.msgs.length + Fl.enums.length ≤ 10 ∧ k ≤ s.size ∧ dr s k = skip l ∧ PF s w F vm ve Fl.msgs Fl.enums k wr) (fun wr => s.size - pwAt (F + 2) wr)); case atStart => exact ⟨⟨[], []⟩, dr s 0, .slice none 0 0, .slice none 0 0, s.size + 1, k1, by omega, rfl, by simp, hk1, Hd1.out, HE1.out⟩
 case round =>
   obtain ⟨Fl, l, vm, ve, f, k, hlf, hT2, hten, hk, hd, he⟩ := hrel; have HE6 := hid he; have Hd := hid hd; have HT2 := hid hT2; have Hlf := hid hlf; obtain ⟨f, rfl⟩ : ∃ f', f = f' + 1 := ⟨f - 1, by omega⟩; have Hat := hid he.pw.is; have h0 := he.pw.c0; have h1 := he.pw.c1; have hfz := he.pw.fz 1; have hz := he.pw.lt; clear he hd hT2 hlf HE1 Hd1; (have hit : fileP (f + 1) Fl l = if skip l = [] then .ok Fl [] else (topP Fl (skip l)).bind fun F' l3 => if 10 < F'.msgs.length + F'.enums.length then .bad 5 l3 else fileP f F' l3 := by rw [fileP]); have Hsl := hid (skip_len l); rw [HT2.out] at hit; generalize skip l = ls at *; have hlen := dr_len s k; rw [Hd.out] at hlen
   by_cases hlt : k < s.size
   · (have i1 : (k : Int) < (s.size : Int) := by omega); have hit2 := hid (hit.trans (if_neg (fun e => by rw [e] at hlen; simp at hlen; omega))); have Hit := hit2; clear hit hit2; (go_wp2_with fail); refine (word_p (F + 2) s k wr hk (by omega) HE6.out.pw).mono ?_; intro e w6 he; rw [Hd.out] at he; rcases p6 : wordP ls with ⟨nm2, l6⟩ | ⟨er, l'⟩
     rotate_left
     · obtain ⟨rfl, hg⟩ := he.bad p6; have Hb := hid (HBd.out er l' (by rw [Hit.out, topP, p6]; rfl)); have hfz := PF.bad HE6.out hg HFz.out; (go_wp2_with fail); exact door_p HFz.out hfz Hb.out (by rfl) (by rfl) rfl
     obtain ⟨v6, rfl, rfl, ⟨k6, hk6, hd6, hp6⟩, hg6⟩ := he.ok p6; have HE6 := hid (HE6.out.step hg6 hp6 HFz.out); have Hd6 := hid hd6; have P6 := hid p6; have Hwl := hid (word_len p6); clear hd6 hp6 hg6 he p6 h0 h1 hfz hz
     go_upto_block 2 with (fail)
     go_cut [] from 17 to 65 (fun wc => ∃ F' l3 vm' ve' k3, topP Fl ls = .ok F' l3 ∧ k3 ≤ s.size ∧ dr s k3 = l3 ∧ PF s w F vm' ve' F'.msgs F'.enums k3 wc)
     case first =>
       have Hlt6 := hid (show F + 3 ≤ w6.heap.size from lt_of_block HE6.out.pw)
       by_cases hms : nm2 = wMessage
       · (have e1 : (nm2 == [109, 101, 115, 115, 97, 103, 101]) = true := by rw [hms]; rfl); (have hpt : topP Fl ls = (messageP l6).bind fun m l3 => .ok ⟨Fl.msgs ++ [m], Fl.enums⟩ l3 := by rw [topP, P6.out, PR.bind_ok, if_pos hms]); have Hpt := hid hpt; clear hms hpt; have hme := message_p (F + 2) s k6 w6.drew hk6 (by omega) hgr ((Hev.out.up HE6.out.up).up (Up.refl _).drew) (HE6.out.pw.up (Up.refl _).drew); rw [Hd6.out] at hme; have Hme := hid hme; have m0 : w6.cell? ⟨F, 0, none⟩ = some vm := cell_of_row w6 F 0 _ _ _ HE6.out.f; have mz := lt_of_block HE6.out.f; clear hme; (go_wp2_with fail); rcases p8 : messageP l6 with ⟨x, l8⟩ | ⟨er, l'⟩
         · have P8 := hid p8; clear p8; refine wp_region_noPanic ?_
           go_region_law (first
             | (go_simp; go_at_call 16; refine Hme.out.mono ?_; intro e w8 he; obtain ⟨v8, rfl, ⟨vf8, vb8, hv8, hf8, hb8, hn8⟩, ⟨k8, hk8, hd8, hp8⟩, hg8⟩ := he.ok P8.out; obtain ⟨fa8, fc8, rfl, _, _⟩ := hf8.val; obtain ⟨ba8, bc8, rfl, _, _⟩ := hb8.val; subst hv8; have HE8 := hid ((HE6.out.upto (Up.refl _).drew).step hg8 hp8 HFz.out); obtain ⟨xs, hxs⟩ := HE8.out.om.own; have Hxs := hid hxs; have m0 : w8.cell? ⟨F, 0, none⟩ = some vm := cell_of_row w8 F 0 _ _ _ HE8.out.f; have mz := lt_of_block HE8.out.f; have mz3 := lt_of_block HE8.out.pw; have Hd8 := hid hd8; have Hf8 := hid hf8; have Hb8 := hid hb8; have Hn8 := hid hn8; clear hd8 hp8 hg8 he hxs hf8 hb8 hn8)
             | (refine step_app1 eMsg _ (by rfl) _ _ (by rfl) (F + 3) _ _ _ (by rfl) Hxs.out _ (by rfl) (by first | rfl | simp) (by rfl) (oc (by rfl)) (by omega) (by unfold maxLen; omega) (by first | omega | (simp; omega)) ?_; intro v9 w9 how9 hev9; obtain ⟨a9, c9, rfl⟩ := own_val how9; have hb9 := hev9.blk HE8.out.f (fun e => by have := (HE8.out.lo.1 _ e).1; omega); have m0 := cell_of_row w9 F 0 _ _ _ hb9; have m1 := cell_of_row w9 F 1 _ _ _ hb9; have mf := fun o => frozen_of_row w9 F o _ _ hb9; have mz := lt_of_block hb9; have HE9 := hid (PF.snocM (x := x) HE8.out Hxs.out how9 hev9 (n := w6.heap.size) Hlt6.out (fun j e => (HE6.out.lo.1 j e).2) (fun j e => (HE6.out.lo.2 j e).2) Hf8.out Hb8.out Hn8.out HFz.out); clear hb9 how9 hev9))
           all_goals
             refine NoPanic.normal ?_; go_wp2_with fail
             go_meet
             exact ⟨⟨Fl.msgs ++ [x], Fl.enums⟩, l8, _, ve, k8, by rw [Hpt.out, P8.out]; rfl, hk8, Hd8.out, HE9.out⟩
         · have Hb := hid (HBd.out er l' (by rw [Hit.out, Hpt.out, p8]; rfl)); have P8 := hid p8; clear p8; refine Code.wp_mono (Q := PanicAt s w F er (s.size - l'.length)) ?_ ?_
           · rintro e a w' ⟨rfl, ⟨v1, v2, hfz⟩, h2, h3, hd⟩; exact door_p HFz.out hfz Hb.out h2 h3 hd
           have hHeld0 : w6.drew.cell? ⟨F, 0, none⟩ = some vm := (Up.refl _).drew.cell_some m0; refine wp_region_held_drew (S := fun w' => w'.cell? ⟨F, 0, none⟩ = some vm) (by kernel_rfl) hHeld0 (fun hHeld => ?_); refine wpAnyH_take (i := 0) (v := ?_) (by simp only [List.getElem?_toArray, List.getElem?_cons_zero] <;> rfl) (by kernel_rfl) (by kernel_rfl) (by kernel_rfl) (fun _ _ _ h => PanicAt.put (by simp) (by simp) h) (Or.inl ⟨by rfl, ?_⟩) (by assumption) ?_
           rotate_left
           · (intro w hSw; (try dsimp only at hSw); go_simp)
             try with_reducible rfl
           rotate_left
           (try simp only [Act.put, List.setIfInBounds_toArray, List.set_cons_zero, List.set_cons_succ]); refine wpAnyH_take (i := 1) (v := ?_) (by simp only [List.getElem?_toArray, List.getElem?_cons_succ, List.getElem?_cons_zero] <;> rfl) (by kernel_rfl) (by kernel_rfl) (by kernel_rfl) (fun _ _ _ h => PanicAt.put (by simp) (by simp) h) (Or.inl ⟨by rfl, ?_⟩) (by assumption) ?_
           rotate_left
           · (intro w hSw; (try dsimp only at hSw); go_simp)
             try with_reducible rfl
           rotate_left
           (try simp only [Act.put, List.setIfInBounds_toArray, List.set_cons_zero, List.set_cons_succ]); refine wpAnyH_take (i := 2) (v := ?_) (by simp only [List.getElem?_toArray, List.getElem?_cons_succ, List.getElem?_cons_zero] <;> rfl) (by kernel_rfl) (by kernel_rfl) (by kernel_rfl) (fun _ _ _ h => PanicAt.put (by simp) (by simp) h) (Or.inl ⟨by rfl, ?_⟩) (by assumption) ?_
           rotate_left
           · (intro w hSw; (try dsimp only at hSw); go_simp)
             try with_reducible rfl
           rotate_left
           (try simp only [Act.put, List.setIfInBounds_toArray, List.set_cons_zero, List.set_cons_succ]); refine wpAnyH_ready (rs := [3]) (by kernel_rfl) (by simp) (AllReadyH.cons (by simp only [List.getElem?_toArray, List.getElem?_cons_succ, List.getElem?_cons_zero] <;> rfl) (fun K' hK => ?_) AllReadyH.nil); clear hK; rw [if_pos (by rfl)]; go_simp; refine Hme.out.mono ?_; intro e w8 he; obtain ⟨rfl, hg8⟩ := he.bad P8.out; exact ⟨rfl, ⟨_, _, PF.bad (HE6.out.upto (Up.refl _).drew) hg8 HFz.out⟩, rfl, rfl, rfl⟩
       · have e1 : (nm2 == [109, 101, 115, 115, 97, 103, 101]) = false := by rw [beq_eq_false_iff_ne]; exact hms
         by_cases hes : nm2 = wEnum
         · (have e2 : (nm2 == [101, 110, 117, 109]) = true := by rw [hes]; rfl); (have hpt : topP Fl ls = (enumP l6).bind fun e l3 => .ok ⟨Fl.msgs, Fl.enums ++ [e]⟩ l3 := by rw [topP, P6.out, PR.bind_ok, if_neg hms, if_pos hes]); have Hpt := hid hpt; clear hms hes hpt; have hme := enum_p (F + 2) s k6 w6.drew hk6 (by omega) hgr ((Hev.out.up HE6.out.up).up (Up.refl _).drew) (HE6.out.pw.up (Up.refl _).drew); rw [Hd6.out] at hme; have Hme := hid hme; have m1 : w6.cell? ⟨F, 1, none⟩ = some ve := cell_of_row w6 F 1 _ _ _ HE6.out.f; have mz := lt_of_block HE6.out.f; clear hme; (go_wp2_with fail); rcases p8 : enumP l6 with ⟨x, l8⟩ | ⟨er, l'⟩
           · have P8 := hid p8; clear p8; refine wp_region_noPanic ?_
             go_region_law (first
               | (go_simp; go_at_call 17; refine Hme.out.mono ?_; intro e w8 he; obtain ⟨v8, rfl, ⟨vi8, hv8, hi8, hn8⟩, ⟨k8, hk8, hd8, hp8⟩, hg8⟩ := he.ok P8.out; obtain ⟨ia8, ic8, rfl, _, _⟩ := hi8.val; subst hv8; have HE8 := hid ((HE6.out.upto (Up.refl _).drew).step hg8 hp8 HFz.out); obtain ⟨xs, hxs⟩ := HE8.out.oe.own; have Hxs := hid hxs; have m1 : w8.cell? ⟨F, 1, none⟩ = some ve := cell_of_row w8 F 1 _ _ _ HE8.out.f; have mz := lt_of_block HE8.out.f; have mz3 := lt_of_block HE8.out.pw; have Hd8 := hid hd8; have Hi8 := hid hi8; have Hn8 := hid hn8; clear hd8 hp8 hg8 he hxs hi8 hn8)
               | (refine step_app1 eEnu _ (by rfl) _ _ (by rfl) (F + 3) _ _ _ (by rfl) Hxs.out _ (by rfl) (by first | rfl | simp) (by rfl) (oc (by rfl)) (by omega) (by unfold maxLen; omega) (by first | omega | (simp; omega)) ?_; intro v9 w9 how9 hev9; obtain ⟨a9, c9, rfl⟩ := own_val how9; have hb9 := hev9.blk HE8.out.f (fun e => by have := (HE8.out.lo.2 _ e).1; omega); have m0 := cell_of_row w9 F 0 _ _ _ hb9; have m1 := cell_of_row w9 F 1 _ _ _ hb9; have mf := fun o => frozen_of_row w9 F o _ _ hb9; have mz := lt_of_block hb9; have HE9 := hid (PF.snocE (x := x) HE8.out Hxs.out how9 hev9 (n := w6.heap.size) Hlt6.out (fun j e => (HE6.out.lo.1 j e).2) (fun j e => (HE6.out.lo.2 j e).2) Hi8.out Hn8.out HFz.out); clear hb9 how9 hev9))
             all_goals
               refine NoPanic.normal ?_; go_wp2_with fail
               go_meet
               exact ⟨⟨Fl.msgs, Fl.enums ++ [x]⟩, l8, vm, _, k8, by rw [Hpt.out, P8.out]; rfl, hk8, Hd8.out, HE9.out⟩
           · have Hb := hid (HBd.out er l' (by rw [Hit.out, Hpt.out, p8]; rfl)); have P8 := hid p8; clear p8; refine Code.wp_mono (Q := PanicAt s w F er (s.size - l'.length)) ?_ ?_
             · rintro e a w' ⟨rfl, ⟨v1, v2, hfz⟩, h2, h3, hd⟩; exact door_p HFz.out hfz Hb.out h2 h3 hd
             have hHeld0 : w6.drew.cell? ⟨F, 1, none⟩ = some ve := (Up.refl _).drew.cell_some m1; refine wp_region_held_drew (S := fun w' => w'.cell? ⟨F, 1, none⟩ = some ve) (by kernel_rfl) hHeld0 (fun hHeld => ?_); refine wpAnyH_take (i := 0) (v := ?_) (by simp only [List.getElem?_toArray, List.getElem?_cons_zero] <;> rfl) (by kernel_rfl) (by kernel_rfl) (by kernel_rfl) (fun _ _ _ h => PanicAt.put (by simp) (by simp) h) (Or.inl ⟨by rfl, ?_⟩) (by assumption) ?_
             rotate_left
             · (intro w hSw; (try dsimp only at hSw); go_simp)
               try with_reducible rfl
             rotate_left
             (try simp only [Act.put, List.setIfInBounds_toArray, List.set_cons_zero, List.set_cons_succ]); refine wpAnyH_take (i := 1) (v := ?_) (by simp only [List.getElem?_toArray, List.getElem?_cons_succ, List.getElem?_cons_zero] <;> rfl) (by kernel_rfl) (by kernel_rfl) (by kernel_rfl) (fun _ _ _ h => PanicAt.put (by simp) (by simp) h) (Or.inl ⟨by rfl, ?_⟩) (by assumption) ?_
             rotate_left
             · (intro w hSw; (try dsimp only at hSw); go_simp)
               try with_reducible rfl
             rotate_left
             (try simp only [Act.put, List.setIfInBounds_toArray, List.set_cons_zero, List.set_cons_succ]); refine wpAnyH_take (i := 2) (v := ?_) (by simp only [List.getElem?_toArray, List.getElem?_cons_succ, List.getElem?_cons_zero] <;> rfl) (by kernel_rfl) (by kernel_rfl) (by kernel_rfl) (fun _ _ _ h => PanicAt.put (by simp) (by simp) h) (Or.inl ⟨by rfl, ?_⟩) (by assumption) ?_
             rotate_left
             · (intro w hSw; (try dsimp only at hSw); go_simp)
               try with_reducible rfl
             rotate_left
             (try simp only [Act.put, List.setIfInBounds_toArray, List.set_cons_zero, List.set_cons_succ]); refine wpAnyH_ready (rs := [3]) (by kernel_rfl) (by simp) (AllReadyH.cons (by simp only [List.getElem?_toArray, List.getElem?_cons_succ, List.getElem?_cons_zero] <;> rfl) (fun K' hK => ?_) AllReadyH.nil); clear hK; rw [if_pos (by rfl)]; go_simp; refine Hme.out.mono ?_; intro e w8 he; obtain ⟨rfl, hg8⟩ := he.bad P8.out; exact ⟨rfl, ⟨_, _, PF.bad (HE6.out.upto (Up.refl _).drew) hg8 HFz.out⟩, rfl, rfl, rfl⟩
         · (have e2 : (nm2 == [101, 110, 117, 109]) = false := by rw [beq_eq_false_iff_ne]; exact hes); have Hb := hid (show parseS s.data.toList = (⟨[], []⟩, 2, k) from by rw [HBd.out 2 ls (by rw [Hit.out, topP, P6.out, PR.bind_ok, if_neg hms, if_neg hes]; rfl), show s.size - ls.length = k by omega]); clear hms hes; have h1 := HE6.out.pw.c1; have hfz := HE6.out.pw.fz 1; have hz := HE6.out.pw.lt; have HE7 := hid (HE6.out.setAt k HFz.out); (go_wp2_with fail); refine (fail_p (F + 2) s k 2 _ HE7.out.pw).mono ?_; rintro e w9 ⟨rfl, hu9⟩; have hfz := PF.bad HE7.out (Gr.of_up hu9) HFz.out; (go_wp2_with fail); exact door_p HFz.out hfz Hb.out (by rfl) (by rfl) rfl
     case rest =>
       obtain ⟨F', l3, vm3, ve3, k3, hpt, hk3, hd3, he3⟩ := hcut; have hl3 := top_len hpt; have Hit3 := hid (show fileP (s.size + 1) ⟨[], []⟩ (dr s 0) = if 10 < F'.msgs.length + F'.enums.length then .bad 5 l3 else fileP f F' l3 by rw [Hit.out, hpt]; rfl); have HE3 := hid he3; have Hd3 := hid hd3; have Hl3 := hid hl3; obtain ⟨a7, q7, rfl⟩ := own_val he3.om.own.choose_spec; obtain ⟨b7, r7, rfl⟩ := own_val he3.oe.own.choose_spec; have m0 := cell_of_row wc F 0 _ _ _ he3.f; have m1 := cell_of_row wc F 1 _ _ _ he3.f; (have hml : F'.msgs.length ≤ 11 := by have := hl3.2; omega); (have hel : F'.enums.length ≤ 11 := by have := hl3.2; omega); clear hpt hd3 he3 hl3 HE6 Hd6 P6; have ew : IntKind.i64.wrap ((F'.msgs.length : Int) + (F'.enums.length : Int)) = (F'.msgs.length : Int) + (F'.enums.length : Int) := by rw [IntKind.wrap_i64]; omega
       by_cases hfull : 10 < F'.msgs.length + F'.enums.length
       · (have j1 : (10 : Int) < (F'.msgs.length : Int) + (F'.enums.length : Int) := by omega); have Hb := hid (show parseS s.data.toList = (⟨[], []⟩, 5, k3) from by rw [HBd.out 5 l3 (by rw [Hit3.out, if_pos hfull]), show s.size - l3.length = k3 by rw [← Hd3.out, dr_len]; omega]); (go_wp2_with fail); refine (fail_p (F + 2) s k3 5 _ HE3.out.pw).mono ?_; rintro e w9 ⟨rfl, hu9⟩; have hfz := PF.bad HE3.out (Gr.of_up hu9) HFz.out; (go_wp2_with fail); exact door_p HFz.out hfz Hb.out (by rfl) (by rfl) rfl
       · (have j1 : ¬ (10 : Int) < (F'.msgs.length : Int) + (F'.enums.length : Int) := by omega); have Hnf := hid (show F'.msgs.length + F'.enums.length ≤ 10 by omega); (go_wp2_with fail); refine (blank_p (F + 2) s k3 _ hk3 (by omega) HE3.out.pw).mono ?_; rintro e w9 ⟨rfl, ⟨k9, hk9, hd9, hp9⟩, hg9⟩; have HE9 := hid (HE3.out.step hg9 hp9 HFz.out); rw [Hd3.out] at hd9; have Hd9 := hid hd9; clear hd9 hp9 hg9; (go_wp2_with fail); refine ⟨⟨F', l3, _, _, f, k9, by have := Hl3.out.1; have := Hsl.out; have := Hlf.out; omega, by rw [Hit3.out, if_neg (by have := Hnf.out; omega)], Hnf.out, hk9, Hd9.out, HE9.out⟩, ?_⟩; rw [HE9.out.pw.is, Hat.out]; have h1 := dr_len s k9; rw [Hd9.out] at h1; have := Hl3.out.1; have := skip_len l3; omega
   · have hn : ls = [] := by
       cases ls with
       | nil => rfl
       | cons c r => simp at hlen; omega
     have Hb := hid (HOk.out Fl [] (by rw [hit, if_pos hn])); have m0 := cell_of_row wr F 0 _ _ _ HE6.out.f; have m1 := cell_of_row wr F 1 _ _ _ HE6.out.f; have m2 := cell_of_row wr (F + 1) 0 _ _ _ HE6.out.z; have m3 := cell_of_row wr (F + 1) 1 _ _ _ HE6.out.z; have mf := fun o => frozen_of_row wr F o _ _ HE6.out.f; have mg := fun o => frozen_of_row wr (F + 1) o _ _ HE6.out.z; have mz := lt_of_block HE6.out.f; have mz1 := lt_of_block HE6.out.z; obtain ⟨a7, q7, rfl⟩ := own_val HE6.out.om.own.choose_spec; obtain ⟨b7, r7, rfl⟩ := own_val HE6.out.oe.own.choose_spec; clear hit hn; (go_wp2_with fail); refine wp_region_noPanic ?_
     go_region
     all_goals
       refine NoPanic.normal ?_; (go_wp2_with fail); have HZ := hid ((((((HE6.out.self (b := F) (i := 0) (u := .slice a7 Fl.msgs.length q7) (.inl ⟨rfl, rfl⟩) HFz.out).self (b := F) (i := 1) (u := .slice b7 Fl.enums.length r7) (.inl ⟨rfl, rfl⟩) HFz.out).self (b := F + 1) (i := 0) (u := .int .i64 0) (.inr ⟨rfl, rfl⟩) HFz.out).self (b := F + 1) (i := 1) (u := .int .i64 0) (.inr ⟨rfl, rfl⟩) HFz.out)).upto (Up.refl _).drew); generalize ((((wr.setCell ⟨F, 0, none⟩ (.slice a7 Fl.msgs.length q7)).setCell ⟨F, 1, none⟩ (.slice b7 Fl.enums.length r7)).setCell ⟨F + 1, 0, none⟩ (.int .i64 0)).setCell ⟨F + 1, 1, none⟩ (.int .i64 0)).drew = wz at *; refine leaves_cons (f := 13) (args := #[.pointer (some ⟨F, 0, none⟩), .pointer (some ⟨F + 1, 0, none⟩)]) (by simp) (by simp [go_sem]) ?_; refine (catch_idle F wz).mono ?_; rintro e u' w'' ⟨rfl, rfl, hw⟩; subst hw; have d0 := cell_of_row w'' F 0 _ _ _ HZ.out.f; have d1 := cell_of_row w'' F 1 _ _ _ HZ.out.f; have d2 := cell_of_row w'' (F + 1) 0 _ _ _ HZ.out.z; have d3 := cell_of_row w'' (F + 1) 1 _ _ _ HZ.out.z; simp only [List.getElem?_toArray, List.getElem?_cons_zero, List.getElem?_cons_succ] at d0 d1 d2 d3; simp [Leaves, settle, results, Tryd.results4, go_sem, d0, d1, d2, d3]; rw [Hb.out]; exact ⟨_, ⟨rfl, rfl, rfl⟩, HZ.out.fil HFz.out, HZ.out.up⟩
theorem parse_s (s : ByteArray) (w : World) (hev : EvR w) :
   Calls Tryd.prog 4 #[.string s] w fun e w' => ∃ v, e = .returned (.tuple #[v, .agg #[.int .i64 (parseS s.data.toList).2.1, .int .i64 ((parseS s.data.toList).2.2 : Int)]]) ∧ FilV (fun b => w.heap.size ≤ b) w' v (parseS s.data.toList).1 ∧ Up w w' := by
 by_cases h : 3000 < s.size
 · exact parse_big s w h
 · exact parse_p s w hev (by omega)
end Go.Proofs.YtbceapeoknngnaaDoor
