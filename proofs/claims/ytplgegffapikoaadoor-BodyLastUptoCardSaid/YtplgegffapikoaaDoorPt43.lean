/-
  A map that counts names.
-/
import Derived.Test.YtplgegffapikoaaDoorPt17
import Derived.Maps.Own
import Derived.Maps.OwnOps
import Derived.Maps.Views
set_option linter.unusedVariables false
namespace Go.Proofs.YtplgegffapikoaaDoor
open Go.RowKit Go.Maps Go.WideMaps
theorem mlaw : Keyed Tryd.prog 9 := string_keyed Tryd.underlying9
theorem mzero (w : World) : (zeroValue 3).run Tryd.prog w = .ok (.int .i64 0) w := by kernel_rfl
def HadD (D : DataW Unit) (l : List (List UInt8)) : Prop := IsMap D ∧ ∀ s : List UInt8, D.atKey (.string s) (.lit (.int .i64 0)) = .lit (.int .i64 (l.count s : Int))
theorem had_nil : HadD (.map []) [] := ⟨isMap_empty, fun s => rfl⟩
theorem had_snoc {D : DataW Unit} {l : List (List UInt8)} (h : HadD D l) (s : List UInt8) : HadD (D.put (.string s) (.lit (.int .i64 ((l.count s : Int) + 1)))) (l ++ [s]) := by
  refine ⟨h.1.put _ _, fun t => ?_⟩
  by_cases e : t = s
  · subst e
    rw [atKey_put_same h.1 (by trivial), List.count_append]
    simp
  · rw [atKey_put_other (by simpa using e), h.2 t, List.count_append, List.count_singleton]
    simp [show (s == t) = false from by rw [beq_eq_false_iff_ne]; exact fun h => e h.symm]
theorem key_str (s : List UInt8) (hs : s.length ≤ maxLen) : keyOf Tryd.prog 9 (.string ⟨s.toArray⟩) = some (.string s) := keyOf_string_mk Tryd.underlying9 (by show s.toArray.size ≤ maxLen; simpa using hs)
theorem wpList_had {ops : Array Oper} {rest : List Oper} {o : Oper} {a : Act} {Q : Exit → Act → World → Prop} {w : World} (hw : Region.wanted o (yielded ops a.tmps) = true) (m x : Operand)
    (hop : o.op = Op.lookup 104 m x false) (b n : Nat) (D : DataW Unit) (l : List (List UInt8)) (s : List UInt8) (hm : a.eval m = .map (some b)) (hown : w.ownsMap Tryd.prog 9 (plainElem Tryd.prog 3) b n D) (hh : HadD D l)
    (hx : a.eval x = .string ⟨s.toArray⟩) (hs : s.length ≤ maxLen) (c0 : Int) (hc0 : (l.count s : Int) = c0) (h : wpList Tryd.prog ops Q rest (a.put o.dst (.int .i64 c0)) w) : wpList Tryd.prog ops Q (o :: rest) a w := by
  subst hc0
  refine BigFrame.wpList_want hw fun K' hK' => ?_
  obtain ⟨c, hrun, hat, hwc⟩ := hown.lookup_int mlaw Tryd.underlying104 Tryd.underlying3 (mzero w) (key_str s hs)
  have hc : c = (l.count s : Int) := by
    have := (hat.symm.trans (hh.2 s))
    simpa using this
  subst hc
  unfold Oper.wp
  simp [execOp, hop, hm, hx, hrun, Result.andThen]
  exact hK' _ _ h
theorem wpList_had_put {ops : Array Oper} {rest : List Oper} {o : Oper} {a : Act} {Q : Exit → Act → World → Prop} {w : World} (hg : o.guard = none) (m x v : Operand)
    (hop : o.op = Op.mapUpdate 104 m x v) (b n : Nat) (D : DataW Unit) (l : List (List UInt8)) (s : List UInt8) (hm : a.eval m = .map (some b)) (hown : w.ownsMap Tryd.prog 9 (plainElem Tryd.prog 3) b n D) (hh : HadD D l) (hn : n < maxLen)
    (hx : a.eval x = .string ⟨s.toArray⟩) (hs : s.length ≤ maxLen) (hl : l.length ≤ 1000) (c0 : Int) (hc0 : (l.count s : Int) = c0) (hv : a.eval v = .int .i64 (c0 + 1))
    (h : ∀ w' D', w'.ownsMap Tryd.prog 9 (plainElem Tryd.prog 3) b (n + 1) D' → HadD D' (l ++ [s]) → w.grownBy w' (some b) → wpList Tryd.prog ops Q rest (a.put o.dst undef) w') : wpList Tryd.prog ops Q (o :: rest) a w := by
  subst hc0
  have hc := List.count_le_length (a := s) (l := l)
  exact wpList_mapUpdate_own w hg m x v _ hop _ _ mlaw Tryd.underlying104 _ b n D hm hown hn _ _ (.string s) hx hv (key_str s hs) _ [] (plainElem_int Tryd.underlying3 (WalkArith.wf_i64 (by omega))) fun w' h1 h2 => h w' _ h1 (had_snoc hh s) h2
theorem counts_any (l : List (List UInt8)) (s : List UInt8) : decide (0 < l.count s) = l.any (fun x => s == x) := by
  rw [Bool.eq_iff_iff, decide_eq_true_iff, List.count_pos_iff, List.any_eq_true]
  constructor
  · exact fun h => ⟨s, h, by simp⟩
  · rintro ⟨x, hx, e⟩
    rw [beq_iff_eq.1 e]; exact hx
end Go.Proofs.YtplgegffapikoaaDoor
