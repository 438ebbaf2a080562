/-
  body.Set, of values as they are.
  Fits, of both.
-/
import Derived.Test.YtplgegffapikoaaDoorPt14
import Derived.Test.YtplgegffapikoaaDoorPt19
import Derived.Test.YtplgegffapikoaaDoorProg
import Derived.Test.YtplgegffapikoaaDoorPt04
import Derived.Outline
import Derived.Deep.DeepMust
set_option linter.unusedVariables false
namespace Go.Proofs.YtplgegffapikoaaDoor
open Go.RowKit
abbrev PV : Type := Val × Value × Value × Value
def pv4 (p : PV) : SV := (p.1.1, p.2)
theorem zip4 {d : Nat} {S : Nat → Prop} {w : World} : ∀ {l : List Val} {l4 : List SV}, l4.length = l.length → (∀ i, (h1 : i < l4.length) → (h2 : i < l.length) → l4[i].1 = l[i].1 ∧ DValD d S w l[i] [.int .i64 l4[i].1, l4[i].2.1, l4[i].2.2.1, l4[i].2.2.2]) →
    ∃ L : List PV, L.map Prod.fst = l ∧ L.map pv4 = l4 ∧ ∀ p ∈ L, DValD d S w p.1 (c4 (pv4 p))
  | [], [], _, _ => ⟨[], rfl, rfl, fun p h => by cases h⟩
  | x :: l, [], h, _ => by simp at h
  | [], y :: l4, h, _ => by simp at h
  | x :: l, y :: l4, h, hd => by
    obtain ⟨L, h1, h2, h3⟩ := zip4 (d := d) (S := S) (w := w) (l := l) (l4 := l4) (by simpa using h) (fun i h1 h2 => hd (i + 1) (by simpa using h1) (by simpa using h2))
    have h0 := hd 0 (by simp) (by simp)
    simp only [List.getElem_cons_zero] at h0
    refine ⟨(x, y.2) :: L, by rw [List.map_cons, h1], ?_, fun p hp => ?_⟩
    · rw [List.map_cons, h2]
      congr 1
      show (x.1, y.2) = y
      rw [← h0.1]
    · rcases List.mem_cons.1 hp with rfl | hp
      · show DValD d S w x [.int .i64 x.1, y.2.1, y.2.2.1, y.2.2.2]
        rw [← h0.1]; exact h0.2
      · exact h3 p hp
theorem rd_of4 {d : Nat} {S : Nat → Prop} {w : World} {v : Value} {L : List PV} (h : RdS DVal4 4 S w v (L.map pv4)) (hd : ∀ p ∈ L, DValD d S w p.1 (c4 (pv4 p))) : RdS (DValD d) 4 S w v (L.map Prod.fst) := by
  obtain ⟨ao, cap, rfl, h1, h2, h3, h4⟩ := h
  refine ⟨ao, cap, by simp, by simpa using h1, h2, h3, fun i hi => ?_⟩
  have hi' : i < L.length := by simpa using hi
  obtain ⟨b, o, cs, e1, e2, e3, e4, e5, e6⟩ := h4 i (by simpa using hi')
  refine ⟨b, o, cs, e1, e2, e3, e4, e5, ?_⟩
  have h5 := hd L[i] (List.getElem_mem hi')
  obtain ⟨ha, hb, hc, he⟩ := e6
  have hcs : cs = c4 (pv4 L[i]) := by
    have hg : (L.map pv4)[i]'(by simpa using hi') = pv4 L[i] := by simp
    simp only [hg] at ha
    exact ha
  rw [hcs]
  simpa using h5
theorem RdS.weak {α : Type} {D : Lay α} (hD : Stable D) {size : Nat} {S S' : Nat → Prop} {w : World} {v : Value} {l : List α} (h : RdS D size S w v l) (hs : ∀ k, S k → S' k) : RdS D size S' w v l := h.keep hD (Keep.weak hs)
/-- What comes of a Set, laid out. -/
theorem lift_set {d : Nat} {S S' : Nat → Prop} {w w' : World} {vv vv' : Value} {fs : List Fld} {l : List Val} {x : Val} {a1 a2 a3 : Option Addr} {c1 c2 c3 : Nat} {L : List PV} (h1 : L.map Prod.fst = l) (h3 : ∀ p ∈ L, DValD d S w p.1 (c4 (pv4 p)))
    (hx : DValD d S w x [.int .i64 x.1, .slice a1 x.2.1.length c1, .slice a2 x.2.2.1.length c2, .slice a3 x.2.2.2.length c3]) (hS : ∀ k, S k → S' k) (hu : Up w w')
    (hr : RdS DVal4 4 S' w' vv' (setG (fun y : SV => y.1) fs (L.map pv4) (x.1, .slice a1 x.2.1.length c1, .slice a2 x.2.2.1.length c2, .slice a3 x.2.2.2.length c3) (fun f => plainN f x))) : RdS (DValD d) 4 S' w' vv' (setV fs l x) := by
  subst h1
  have e1 : setV fs (L.map Prod.fst) x = (setG (fun p : PV => p.1.1) fs L (x, .slice a1 x.2.1.length c1, .slice a2 x.2.2.1.length c2, .slice a3 x.2.2.2.length c3) (fun f => plainN f x)).map Prod.fst :=
    setG_map Prod.fst (fun y : Val => y.1) fs L (x, .slice a1 x.2.1.length c1, .slice a2 x.2.2.1.length c2, .slice a3 x.2.2.2.length c3) (fun f => plainN f x)
  have e2 := setG_map pv4 (fun y : SV => y.1) fs L (x, .slice a1 x.2.1.length c1, .slice a2 x.2.2.1.length c2, .slice a3 x.2.2.2.length c3) (fun f => plainN f x)
  rw [e1]
  refine rd_of4 (by have e3 := e2.symm; exact (show List.map pv4 _ = _ from e3) ▸ hr) (fun p hp => ?_)
  refine stable_val d _ _ _ _ _ _ ((Keep.upS hu).trans (Keep.weak hS)) ?_
  rcases setG_mem _ _ _ _ _ p hp with h | rfl
  · exact h3 p h
  · exact hx
theorem set_v (d : Nat) {S : Nat → Prop} (s vf vb vv vu : Value) (fs : List Fld) (l : List Val) (x : Val) (a1 a2 a3 : Option Addr) (c1 c2 c3 : Nat) (w : World) (hs : ∃ b, s = .string b) (hvb : IsS vb) (hvu : IsS vu) (hf : RdS DFld 6 All w vf fs) (hv : RdS (DValD d) 4 S w vv l) (hr : RisingV l) (hz : (l.length + 1) * 80 ≤ 140737488355328)
    (hx : DValD d S w x [.int .i64 x.1, .slice a1 x.2.1.length c1, .slice a2 x.2.2.1.length c2, .slice a3 x.2.2.2.length c3]) :
    Calls Tryd.prog 19 #[.agg #[s, vf, vb], .agg #[vv, vu], .agg #[.int .i64 x.1, .slice a1 x.2.1.length c1, .slice a2 x.2.2.1.length c2, .slice a3 x.2.2.2.length c3]] w fun e w' =>
      ∃ vv', e = .returned (.agg #[vv', vu]) ∧ RdS (DValD d) 4 (Sx S w) w' vv' (setV fs l x) ∧ Up w w' := by
  obtain ⟨l4, h1, h2, h3⟩ := rd4 hv
  obtain ⟨L, e1, e2, e3⟩ := zip4 h2 h3
  obtain ⟨p1, g1, p2, g2, p3, g3, he, hn, hx1, hx2, hx3, zx⟩ := val_cells hx
  simp only [List.cons.injEq, Value.slice.injEq, true_and, and_true] at he
  obtain ⟨⟨rfl, rfl⟩, ⟨rfl, rfl⟩, rfl, rfl⟩ := he
  have hx' := hx
  have hr4 : Rising l4 := by
    rw [← e2]
    rw [← e1] at hr
    have hq : L.Pairwise (fun p q => p.1.1 < q.1.1) := (List.pairwise_map (f := Prod.fst) (R := fun a b : Val => a.1 < b.1)).1 hr
    exact (List.pairwise_map (f := pv4) (R := fun a b : SV => a.1 < b.1)).2 hq
  refine (set_b (S := S) s vf vb vv vu fs l4 x a1 a2 a3 c1 c2 c3 w hs hvb hvu hf h1 hr4 (by rw [h2]; exact hz) (hx1.keep stable_u64 Keep.all) (hx2.keep stable_bytes Keep.all)).mono ?_
  rintro e w' ⟨vv', rfl, hrd, hu⟩
  rw [← e2] at hrd
  refine ⟨vv', rfl, ?_, hu⟩
  exact lift_set (vv := vv) e1 e3 hx (fun k h => .inl h) hu hrd
theorem nodup_le : ∀ {l1 l2 : List Int}, l1.Nodup → (∀ x ∈ l1, x ∈ l2) → l1.length ≤ l2.length
  | [], _, _, _ => by simp
  | a :: t, l2, hn, hs => by
    have ha := hs a List.mem_cons_self
    have h1 := nodup_le (l1 := t) (l2 := l2.erase a) (List.nodup_cons.1 hn).2 (fun x hx => (List.mem_erase_of_ne (by rintro rfl; exact (List.nodup_cons.1 hn).1 hx)).2 (hs x (List.mem_cons_of_mem _ hx)))
    rw [List.length_erase_of_mem ha] at h1
    have := List.length_pos_of_mem ha
    simp only [List.length_cons]
    omega
/-- A right body has no more values than its message has fields. -/
theorem vals_le {wv : Fld → Val → Int} {fs : List Fld} {l : List Val} {had : List Int} {prev : Option Int} (h : valsN wv fs prev had l = 0) : l.length ≤ fs.length := by
  obtain ⟨h1, h2, _, _⟩ := valsN_zero h
  have h3 : (l.map (fun x => x.1)).length ≤ (fs.map (fun x => x.number)).length := by
    refine nodup_le ?_ ?_
    · unfold List.Nodup
      rw [List.pairwise_map]
      exact h2.imp (fun h e => by omega)
    · intro n hn
      obtain ⟨v, hv, rfl⟩ := List.mem_map.1 hn
      obtain ⟨x, hx, _⟩ := h1 v hv
      obtain ⟨hx1, hx2⟩ := fldN_mem hx
      exact List.mem_map.2 ⟨x, hx1, hx2⟩
  simpa using h3
end Go.Proofs.YtplgegffapikoaaDoor
set_option linter.unusedVariables false
namespace Go.Proofs.YtplgegffapikoaaDoor
open Go.RowKit
set_option maxRecDepth 100000 in
set_option maxHeartbeats 800000 in
theorem fits_any (kind : Int) (n : Nat) (w : World) (hn : n < 2 ^ 64) :
    Calls Tryd.prog 6 #[.int .i64 kind, .int .u64 n] w fun e w' => e = .returned (.int .i64 (fitsN kind n)) ∧ w' = w := by
  go_enter Tryd.func6, Tryd.ntmps6
  go_wp2_with fail
  all_goals
    go_ret
    refine ⟨ret_int ?_, rfl⟩
    unfold fitsN
    simp only [beq_iff_eq, beq_eq_false_iff_ne, ne_eq, bne_iff_ne, bne_eq_false_iff_eq, IntKind.wrap_u64, wrap64, wrap32] at *
    (repeat' split) <;> omega
set_option maxRecDepth 100000 in
set_option maxHeartbeats 800000 in
theorem fits_r (kind : Int) (n : Nat) (w : World) (hn : n < 2 ^ 64) :
    Calls Tryd.prog 7 #[.int .i64 kind, .int .u64 n] w fun e w' => e = .returned (.int .i64 (fitsN kind n)) ∧ w' = w := by
  have hb : (n : Int) < 18446744071562067968 ∨ ¬ ((n : Int) < 18446744071562067968) := by omega
  have hc : (n : Int) ≤ 2147483647 ∨ ¬ ((n : Int) ≤ 2147483647) := by omega
  go_enter Tryd.func7, Tryd.ntmps7
  by_cases h1 : kind = 1
  · subst h1
    go_wp2_with fail
    go_ret
    exact ⟨rfl, rfl⟩
  by_cases h2 : kind = 2
  · subst h2
    go_wp2_with fail
    go_ret
    exact ⟨rfl, rfl⟩
  by_cases h3 : kind = 3
  · subst h3
    go_wp2_with fail
    go_ret
    exact ⟨rfl, rfl⟩
  by_cases h6 : kind = 6
  · subst h6
    go_wp2_with fail
    go_ret
    exact ⟨rfl, rfl⟩
  by_cases h4 : kind = 4
  · subst h4
    clear hb hc
    have h3 : n = 0 ∨ n = 1 ∨ 2 ≤ n := by omega
    rcases h3 with rfl | rfl | h
    · go_wp2_with fail
      go_ret
      exact ⟨rfl, rfl⟩
    · go_wp2_with fail
      go_ret
      exact ⟨rfl, rfl⟩
    · have b0 : ((n : Int) == 0) = false := by rw [beq_eq_false_iff_ne]; omega
      have b1 : ((n : Int) == 1) = false := by rw [beq_eq_false_iff_ne]; omega
      go_wp2_with fail
      go_ret
      refine ⟨ret_int ?_, rfl⟩
      unfold fitsN
      (repeat' split) <;> omega
  by_cases h5 : kind = 5
  · subst h5
    rcases hc with hc | hc
    · go_wp2_with fail
      go_ret
      refine ⟨ret_int ?_, rfl⟩
      unfold fitsN
      (repeat' split) <;> omega
    · rcases hb with hb | hb
      · have hb' : decide (18446744071562067968 ≤ (n : Int)) = false := decide_eq_false (by omega)
        go_wp2_with fail
        go_ret
        refine ⟨ret_int ?_, rfl⟩
        unfold fitsN
        (repeat' split) <;> omega
      · have hb' : decide (18446744071562067968 ≤ (n : Int)) = true := decide_eq_true (by omega)
        have hc' : decide ((n : Int) ≤ 2147483647) = false := decide_eq_false hc
        have Hb := Lib.hid hb; have Hc := Lib.hid hc
        clear hb hc
        go_wp2_with fail
        go_ret
        refine ⟨ret_int ?_, rfl⟩
        have hb := Hb.out; have hc := Hc.out
        unfold fitsN
        (repeat' split) <;> omega
  by_cases h7 : kind = 7
  · subst h7
    clear hb hc
    by_cases hx : (n : Int) < 4294967296
    · have hd : decide ((n : Int) < 4294967296) = true := decide_eq_true hx
      have Hx := Lib.hid hx
      go_wp2_with fail
      go_ret
      refine ⟨ret_int ?_, rfl⟩
      have hx := Hx.out
      unfold fitsN
      (repeat' split) <;> omega
    · have hd : decide ((n : Int) < 4294967296) = false := decide_eq_false hx
      have Hx := Lib.hid hx
      clear hx
      go_wp2_with fail
      go_ret
      refine ⟨ret_int ?_, rfl⟩
      have hx := Hx.out
      unfold fitsN
      (repeat' split) <;> omega
  have e1 : (kind == 1) = false := by simpa using h1
  have e2 : (kind == 2) = false := by simpa using h2
  have e3 : (kind == 3) = false := by simpa using h3
  have e4 : (kind == 4) = false := by simpa using h4
  have e5 : (kind == 5) = false := by simpa using h5
  have e6 : (kind == 6) = false := by simpa using h6
  have e7 : (kind == 7) = false := by simpa using h7
  have hfn : fitsN kind n = 1 := by unfold fitsN; rw [if_neg (by omega), if_neg h4, if_neg h5, if_neg h7]
  clear h1 h2 h3 h4 h5 h6 h7 hb hc
  go_wp2_with fail
  go_ret
  exact ⟨ret_int hfn.symm, rfl⟩
end Go.Proofs.YtplgegffapikoaaDoor
