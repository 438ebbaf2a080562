/-
  A set of numbers: map[int]bool.
  pressref1.WrongRecord.
-/
import Derived.Test.YtplgegffapikoaaDoorPt17
import Derived.Maps.Own
import Derived.Maps.OwnOps
import Derived.Maps.Views
import Derived.Test.YtplgegffapikoaaDoorProg
import Derived.Test.YtplgegffapikoaaDoorPt03
import Derived.Test.YtplgegffapikoaaDoorPt01
import Derived.Outline
set_option linter.unusedVariables false
namespace Go.Proofs.YtplgegffapikoaaDoor
open Go.RowKit Go.Maps Go.WideMaps
theorem mlawI : Keyed Tryd.prog 3 := int_keyed Tryd.underlying3
theorem mzeroB (w : World) : (zeroValue 4).run Tryd.prog w = .ok (.bool false) w := by kernel_rfl
def SetD (D : DataW Unit) (l : List Int) : Prop := IsMap D ∧ ∀ n : Int, D.atKey (.int .i64 n) (.lit (.bool false)) = .lit (.bool (decide (n ∈ l)))
theorem set_nil : SetD (.map []) [] := ⟨isMap_empty, fun s => by simp; rfl⟩
theorem set_snoc {D : DataW Unit} {l : List Int} (h : SetD D l) (n : Int) : SetD (D.put (.int .i64 n) (.lit (.bool true))) (n :: l) := by
  refine ⟨h.1.put _ _, fun m => ?_⟩
  by_cases e : m = n
  · subst e
    rw [atKey_put_same h.1 (by trivial)]
    simp
  · rw [atKey_put_other (by simpa using e), h.2 m]
    simp [e]
theorem key_int (n : Int) (h : okI n) : keyOf Tryd.prog 3 (.int .i64 n) = some (.int .i64 n) := keyOf_int_mk Tryd.underlying3 (WalkArith.wf_i64 h)
theorem bool_inv {P : Program} {e : TypeId} (he : P.underlying e = some .bool) {v : Value} {y : Bool} {ps : List MemPlace} (h : plainElem (H := Unit) P e v = some (.lit (.bool y), ps)) : v = .bool y := by
  unfold plainElem at h
  rw [he] at h
  cases v <;> simp at h
  rw [h.1]
theorem wpList_set {ops : Array Oper} {rest : List Oper} {o : Oper} {a : Act} {Q : Exit → Act → World → Prop} {w : World} (hw : Region.wanted o (yielded ops a.tmps) = true) (m x : Operand)
    (hop : o.op = Op.lookup 109 m x false) (b n : Nat) (D : DataW Unit) (l : List Int) (s : Int) (hm : a.eval m = .map (some b)) (hown : w.ownsMap Tryd.prog 3 (plainElem Tryd.prog 4) b n D) (hh : SetD D l)
    (hx : a.eval x = .int .i64 s) (hs : okI s) (c0 : Bool) (hc0 : decide (s ∈ l) = c0) (h : wpList Tryd.prog ops Q rest (a.put o.dst (.bool c0)) w) : wpList Tryd.prog ops Q (o :: rest) a w := by
  subst hc0
  refine BigFrame.wpList_want hw fun K' hK' => ?_
  obtain ⟨v, ps, hrun, hv⟩ := hown.lookup mlawI Tryd.underlying109 (mzeroB w) (plainElem_bool Tryd.underlying4 false) (key_int s hs)
  rw [hh.2 s] at hv
  have hvb : v = .bool (decide (s ∈ l)) := by
    exact bool_inv Tryd.underlying4 hv
  subst hvb
  unfold Oper.wp
  simp [execOp, hop, hm, hx, hrun, Result.andThen]
  exact hK' _ _ h
theorem wpList_set_put {ops : Array Oper} {rest : List Oper} {o : Oper} {a : Act} {Q : Exit → Act → World → Prop} {w : World} (hg : o.guard = none) (m x v : Operand)
    (hop : o.op = Op.mapUpdate 109 m x v) (b n : Nat) (D : DataW Unit) (l : List Int) (s : Int) (hm : a.eval m = .map (some b)) (hown : w.ownsMap Tryd.prog 3 (plainElem Tryd.prog 4) b n D) (hh : SetD D l) (hn : n < maxLen)
    (hx : a.eval x = .int .i64 s) (hs : okI s) (hv : a.eval v = .bool true)
    (h : ∀ w' D', w'.ownsMap Tryd.prog 3 (plainElem Tryd.prog 4) b (n + 1) D' → SetD D' (s :: l) → w.grownBy w' (some b) → wpList Tryd.prog ops Q rest (a.put o.dst undef) w') : wpList Tryd.prog ops Q (o :: rest) a w :=
  wpList_mapUpdate_own w hg m x v _ hop _ _ mlawI Tryd.underlying109 _ b n D hm hown hn _ _ (.int .i64 s) hx hv (key_int s hs) _ [] (plainElem_bool Tryd.underlying4 true) fun w' h1 h2 => h w' _ h1 (set_snoc hh s) h2
end Go.Proofs.YtplgegffapikoaaDoor
namespace Go.Proofs.YtplgegffapikoaaDoor
open Go.RowKit

set_option maxRecDepth 100000 in
set_option maxHeartbeats 3200000 in
theorem wrongRec_r (r : Rec) (vb : Value) (w : World) (hv : RdB All w vb r.bytes) :
    Calls Tryd.prog 54 #[.agg #[.int .i64 r.number, .int .i64 r.how, .int .u64 r.bits, vb]] w fun e w' => e = .returned (.int .i64 (wrongRec r)) ∧ Up w w' := by
  obtain ⟨ao, cap, rfl, hc1, hc2⟩ := hv.val
  clear hv
  obtain ⟨number, how, bits, bytes⟩ := r
  simp only at *
  by_cases h4 : how = 0 ∨ how = 1 ∨ how = 5 ∨ how = 2
  · have hx : (how = 2 ∧ 4000 < bytes.length) ∨ (¬ (how = 2 ∧ 4000 < bytes.length) ∧ number < 1) ∨ (¬ (how = 2 ∧ 4000 < bytes.length) ∧ 536870912 ≤ number) ∨ (¬ (how = 2 ∧ 4000 < bytes.length) ∧ 1 ≤ number ∧ number < 536870912) := by omega
    rcases hx with ⟨rfl, hl⟩ | ⟨hl, hn⟩ | ⟨hl, hn⟩ | ⟨hl, hn, hn2⟩
    · go_enter Tryd.func54, Tryd.ntmps54
      go_wp2_with fail
      all_goals (go_ret; refine ⟨ret_int ?_, (Up.refl _).alloc _⟩; first | (simp [wrongRec]; done) | (simp [wrongRec]; omega))
    · rcases h4 with rfl | rfl | rfl | rfl
      all_goals try have hl : ¬ 4000 < bytes.length := by omega
      all_goals
      go_enter Tryd.func54, Tryd.ntmps54
      go_wp2_with fail
      all_goals (go_ret; refine ⟨ret_int ?_, (Up.refl _).alloc _⟩; first | (simp [wrongRec]; done) | (simp [wrongRec]; omega))
    · rcases h4 with rfl | rfl | rfl | rfl
      all_goals try have hl : ¬ 4000 < bytes.length := by omega
      all_goals
      go_enter Tryd.func54, Tryd.ntmps54
      go_wp2_with fail
      all_goals (go_ret; refine ⟨ret_int ?_, (Up.refl _).alloc _⟩; first | (simp [wrongRec]; done) | (simp [wrongRec]; omega))
    · rcases h4 with rfl | rfl | rfl | rfl
      all_goals try have hl : ¬ 4000 < bytes.length := by omega
      all_goals
      go_enter Tryd.func54, Tryd.ntmps54
      go_wp2_with fail
      all_goals (go_ret; refine ⟨ret_int ?_, (Up.refl _).alloc _⟩; first | (simp [wrongRec]; done) | (simp [wrongRec]; omega))
  · have g0 : (how == 0) = false := by rw [beq_eq_false_iff_ne]; omega
    have g1 : (how == 1) = false := by rw [beq_eq_false_iff_ne]; omega
    have g2 : (how == 2) = false := by rw [beq_eq_false_iff_ne]; omega
    have g5 : (how == 5) = false := by rw [beq_eq_false_iff_ne]; omega
    have n0 : (how != 0) = true := by rw [bne_iff_ne]; omega
    have n1 : (how != 1) = true := by rw [bne_iff_ne]; omega
    have n2 : (how != 2) = true := by rw [bne_iff_ne]; omega
    have n5 : (how != 5) = true := by rw [bne_iff_ne]; omega
    go_enter Tryd.func54, Tryd.ntmps54
    go_wp2_with fail
    go_ret
    refine ⟨ret_int ?_, (Up.refl _).alloc _⟩
    simp only [wrongRec]
    rw [if_neg h4]
end Go.Proofs.YtplgegffapikoaaDoor
