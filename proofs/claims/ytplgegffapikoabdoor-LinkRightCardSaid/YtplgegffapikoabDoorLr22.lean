/-
  slices.Clone of fields, numbers, items (written by gen_clone.py).
  What a linked file is, in plain Lean.
-/
import Derived.Test.YtplgegffapikoabDoorLr06
import Derived.Test.YtplgegffapikoabDoorLr20
import Derived.Test.YtplgegffapikoabDoorLr07
import Derived.Test.YtplgegffapikoabDoorLr08
import Derived.WalkSpells
import Derived.Test.YtplgegffapikoabDoorLr21
set_option linter.unusedVariables false
namespace Go.Proofs.YtplgegffapikoabDoor
open Go.RowKit
theorem one_fld : ∀ S w a cs, DFld S w a cs → ∀ u ∈ cs, u.oneCell' = true := by
  rintro S w a cs ⟨rfl, _⟩ u hu
  simp only [List.mem_cons, List.not_mem_nil, or_false] at hu
  rcases hu with rfl | rfl | rfl | rfl | rfl | rfl <;> rfl
theorem one_num : ∀ S w a cs, DInt S w a cs → ∀ u ∈ cs, u.oneCell' = true := by
  rintro S w a cs ⟨rfl, _⟩ u hu
  simp only [List.mem_cons, List.not_mem_nil, or_false] at hu
  rcases hu with rfl
  rfl
theorem one_itm : ∀ S w a cs, DItm S w a cs → ∀ u ∈ cs, u.oneCell' = true := by
  rintro S w a cs ⟨rfl, _⟩ u hu
  simp only [List.mem_cons, List.not_mem_nil, or_false] at hu
  rcases hu with rfl | rfl <;> rfl

theorem eFld : Elem Tryd.prog 43 48 6 64 (.agg #[.string .empty, .int .i64 0, .int .i64 0, .string .empty, .bool false, .int .i64 0]) := ⟨Tryd.underlying43, info_parts (by kernel_rfl), rfl, by decide⟩
set_option maxRecDepth 100000 in
set_option maxHeartbeats 800000 in
theorem clone_fld (v : Value) (l : List Fld) (w : World) (hv : RdS DFld 6 All w v l) (hl : l.length * 64 ≤ 140737488355328) :
    Calls Tryd.prog 52 #[v] w fun e w' => ∃ v', e = .returned v' ∧ OwnS DFld w.heap.size 48 6 All w' v' l ∧ Up w w' := by
  obtain ⟨ao, cap, rfl, hc1, hc2⟩ := hv.val
  have Hn := Lib.hid (RdS.css (by decide) hv)
  clear hv
  have hnil := fun (w : World) (a : Option Addr) (n c : Nat) => Lib.run_eql_slice_nil (P := Tryd.prog) w 43 48 a n c 0 0 Tryd.underlying43
  cases ao with
  | none =>
    have h0 := Hn.out.2.1 rfl
    have : l = [] := List.eq_nil_of_length_eq_zero h0.1
    subst this
    obtain rfl := h0.2
    clear h0
    go_enter Tryd.func52, Tryd.ntmps52
    go_wp2_with fail
    go_ret
    exact ⟨_, rfl, OwnS.nil _ _ _ _ _ _, Up.refl _⟩
  | some ad =>
    obtain ⟨_, _, css, hcl, hel, hfl, hnw⟩ := Hn.out
    have Hel := Lib.hid hel; have Hnw := Lib.hid hnw; have Hfl := Lib.hid hfl; have Hcl := Lib.hid hcl
    have Hone := Lib.hid (ones_of (D := DFld) (S := All) (w := w) (l := l) (size := 6) one_fld hcl hel)
    clear hel hnw hfl hcl Hn
    go_enter Tryd.func52, Tryd.ntmps52
    go_wp2_with (at_builtin; go_loud (refine wpList_app eFld _ (by rfl) _ _ (by rfl) w.heap.size _ 0 [] (by rfl) (World.ownsRow_lit w #[] 0 (Nat.le_refl _) (by unfold maxLen; omega) (by simp)) (some ad) l.length cap (by rfl) css.flatten Hfl.out (by simp) (fun ad' h j u hu => ?_) Hone.out (by omega) (by unfold maxLen; omega) (by simp) ?_))
    · exact (Up.alloc (Up.refl w) _).cell_some (Hnw.out ad' h j u hu)
    · intro v1 w1 how1 hev1
      go_wp2_with fail
      go_ret
      refine ⟨_, rfl, ⟨css, Hcl.out, by simpa using how1, fun i hi => ?_⟩, (Up.alloc (Up.refl w) _).evo hev1 (fun k hk => by simp [Value.ownBlock] at hk; omega)⟩
      obtain ⟨cs, h1, h2, h3⟩ := Hel.out i hi
      exact ⟨cs, h1, h2, h3⟩

theorem eNum : Elem Tryd.prog 44 3 1 8 (.int .i64 0) := ⟨Tryd.underlying44, info_parts (by kernel_rfl), rfl, by decide⟩
set_option maxRecDepth 100000 in
set_option maxHeartbeats 800000 in
theorem clone_num (v : Value) (l : List Int) (w : World) (hv : RdS DInt 1 All w v l) (hl : l.length * 8 ≤ 140737488355328) :
    Calls Tryd.prog 53 #[v] w fun e w' => ∃ v', e = .returned v' ∧ OwnS DInt w.heap.size 3 1 All w' v' l ∧ Up w w' := by
  obtain ⟨ao, cap, rfl, hc1, hc2⟩ := hv.val
  have Hn := Lib.hid (RdS.css (by decide) hv)
  clear hv
  have hnil := fun (w : World) (a : Option Addr) (n c : Nat) => Lib.run_eql_slice_nil (P := Tryd.prog) w 44 3 a n c 0 0 Tryd.underlying44
  cases ao with
  | none =>
    have h0 := Hn.out.2.1 rfl
    have : l = [] := List.eq_nil_of_length_eq_zero h0.1
    subst this
    obtain rfl := h0.2
    clear h0
    go_enter Tryd.func53, Tryd.ntmps53
    go_wp2_with fail
    go_ret
    exact ⟨_, rfl, OwnS.nil _ _ _ _ _ _, Up.refl _⟩
  | some ad =>
    obtain ⟨_, _, css, hcl, hel, hfl, hnw⟩ := Hn.out
    have Hel := Lib.hid hel; have Hnw := Lib.hid hnw; have Hfl := Lib.hid hfl; have Hcl := Lib.hid hcl
    have Hone := Lib.hid (ones_of (D := DInt) (S := All) (w := w) (l := l) (size := 1) one_num hcl hel)
    clear hel hnw hfl hcl Hn
    go_enter Tryd.func53, Tryd.ntmps53
    go_wp2_with (at_builtin; go_loud (refine wpList_app eNum _ (by rfl) _ _ (by rfl) w.heap.size _ 0 [] (by rfl) (World.ownsRow_lit w #[] 0 (Nat.le_refl _) (by unfold maxLen; omega) (by simp)) (some ad) l.length cap (by rfl) css.flatten Hfl.out (by simp) (fun ad' h j u hu => ?_) Hone.out (by omega) (by unfold maxLen; omega) (by simp) ?_))
    · exact (Up.alloc (Up.refl w) _).cell_some (Hnw.out ad' h j u hu)
    · intro v1 w1 how1 hev1
      go_wp2_with fail
      go_ret
      refine ⟨_, rfl, ⟨css, Hcl.out, by simpa using how1, fun i hi => ?_⟩, (Up.alloc (Up.refl w) _).evo hev1 (fun k hk => by simp [Value.ownBlock] at hk; omega)⟩
      obtain ⟨cs, h1, h2, h3⟩ := Hel.out i hi
      exact ⟨cs, h1, h2, h3⟩

theorem eItm : Elem Tryd.prog 70 79 2 24 (.agg #[.string .empty, .int .i64 0]) := ⟨Tryd.underlying70, info_parts (by kernel_rfl), rfl, by decide⟩
set_option maxRecDepth 100000 in
set_option maxHeartbeats 800000 in
theorem clone_itm (v : Value) (l : List Itm) (w : World) (hv : RdS DItm 2 All w v l) (hl : l.length * 24 ≤ 140737488355328) :
    Calls Tryd.prog 54 #[v] w fun e w' => ∃ v', e = .returned v' ∧ OwnS DItm w.heap.size 79 2 All w' v' l ∧ Up w w' := by
  obtain ⟨ao, cap, rfl, hc1, hc2⟩ := hv.val
  have Hn := Lib.hid (RdS.css (by decide) hv)
  clear hv
  have hnil := fun (w : World) (a : Option Addr) (n c : Nat) => Lib.run_eql_slice_nil (P := Tryd.prog) w 70 79 a n c 0 0 Tryd.underlying70
  cases ao with
  | none =>
    have h0 := Hn.out.2.1 rfl
    have : l = [] := List.eq_nil_of_length_eq_zero h0.1
    subst this
    obtain rfl := h0.2
    clear h0
    go_enter Tryd.func54, Tryd.ntmps54
    go_wp2_with fail
    go_ret
    exact ⟨_, rfl, OwnS.nil _ _ _ _ _ _, Up.refl _⟩
  | some ad =>
    obtain ⟨_, _, css, hcl, hel, hfl, hnw⟩ := Hn.out
    have Hel := Lib.hid hel; have Hnw := Lib.hid hnw; have Hfl := Lib.hid hfl; have Hcl := Lib.hid hcl
    have Hone := Lib.hid (ones_of (D := DItm) (S := All) (w := w) (l := l) (size := 2) one_itm hcl hel)
    clear hel hnw hfl hcl Hn
    go_enter Tryd.func54, Tryd.ntmps54
    go_wp2_with (at_builtin; go_loud (refine wpList_app eItm _ (by rfl) _ _ (by rfl) w.heap.size _ 0 [] (by rfl) (World.ownsRow_lit w #[] 0 (Nat.le_refl _) (by unfold maxLen; omega) (by simp)) (some ad) l.length cap (by rfl) css.flatten Hfl.out (by simp) (fun ad' h j u hu => ?_) Hone.out (by omega) (by unfold maxLen; omega) (by simp) ?_))
    · exact (Up.alloc (Up.refl w) _).cell_some (Hnw.out ad' h j u hu)
    · intro v1 w1 how1 hev1
      go_wp2_with fail
      go_ret
      refine ⟨_, rfl, ⟨css, Hcl.out, by simpa using how1, fun i hi => ?_⟩, (Up.alloc (Up.refl w) _).evo hev1 (fun k hk => by simp [Value.ownBlock] at hk; omega)⟩
      obtain ⟨cs, h1, h2, h3⟩ := Hel.out i hi
      exact ⟨cs, h1, h2, h3⟩
end Go.Proofs.YtplgegffapikoabDoor
set_option linter.unusedVariables false
namespace Go.Proofs.YtplgegffapikoabDoor
open Go.RowKit
def linkX (f : Fil) (x : Fld) : Fld := if x.kind = 10 ∧ idxP (fun m => m.name == x.type) f.msgs < 0 ∧ 0 ≤ idxP (fun e => e.name == x.type) f.enums then { x with kind := 5 } else x
def linkM (f : Fil) (m : Msg) : Msg := { m with fields := m.fields.map (linkX f) }
def linkF (f : Fil) : Fil := ⟨f.msgs.map (linkM f), f.enums⟩
def linkN (f : Fil) : Fil × Int × Nat := if (wrongN (linkF f)).1 ≠ 0 then (⟨[], []⟩, wrongN (linkF f)) else (linkF f, 0, 0)
theorem linkX_ok {S : Nat → Prop} {w : World} {f : Fil} {x : Fld} (hx : okI x.number ∧ okI x.kind ∧ okI x.choice ∧ okS x.name ∧ okS x.type) : okI (linkX f x).number ∧ okI (linkX f x).kind ∧ okI (linkX f x).choice ∧ okS (linkX f x).name ∧ okS (linkX f x).type := by
  unfold linkX
  split
  · exact ⟨hx.1, (show okI 5 from ⟨by decide, by decide⟩), hx.2.2⟩
  · exact hx
theorem eMsg : Elem Tryd.prog 22 46 3 64 (.agg #[.string .empty, .slice none 0 0, .slice none 0 0]) := ⟨Tryd.underlying22, info_parts (by kernel_rfl), rfl, by decide⟩
theorem eEnu : Elem Tryd.prog 23 72 2 40 (.agg #[.string .empty, .slice none 0 0]) := ⟨Tryd.underlying23, info_parts (by kernel_rfl), rfl, by decide⟩
end Go.Proofs.YtplgegffapikoabDoor
