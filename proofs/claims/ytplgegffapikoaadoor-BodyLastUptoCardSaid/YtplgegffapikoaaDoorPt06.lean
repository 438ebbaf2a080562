/-
  Lists put one behind the other: what 'append' takes, what it makes.
  Rows of the call's own: more about them.
  slices.Clone of bits, bytes (written by gen_clone.py's make).
-/
import Derived.Test.YtplgegffapikoaaDoorPt03
import Derived.Test.YtplgegffapikoaaDoorProg
import Derived.WalkSpells
import Derived.Outline
import Derived.Deep.DeepMust
namespace Go.Proofs.YtplgegffapikoaaDoor
open Go.RowKit
theorem ex_list {α : Type} (P : Nat → α → Prop) : ∀ n, (∀ i, i < n → ∃ x, P i x) → ∃ xs : List α, xs.length = n ∧ ∀ i, i < n → ∃ x, xs[i]? = some x ∧ P i x
  | 0, _ => ⟨[], rfl, fun i hi => absurd hi (Nat.not_lt_zero i)⟩
  | n + 1, h => by
    obtain ⟨xs, hl, hx⟩ := ex_list P n (fun i hi => h i (by omega))
    obtain ⟨x, hp⟩ := h n (by omega)
    refine ⟨xs ++ [x], by simp [hl], fun i hi => ?_⟩
    by_cases he : i = n
    · subst he; exact ⟨x, by rw [List.getElem?_append_right (by omega)]; simp [hl], hp⟩
    · obtain ⟨y, hy, hq⟩ := hx i (by omega)
      exact ⟨y, by rw [List.getElem?_append_left (by omega)]; exact hy, hq⟩
theorem flatten_len : ∀ (css : List (List Value)) (size : Nat), (∀ c ∈ css, c.length = size) → css.flatten.length = css.length * size
  | [], size, _ => by simp
  | c :: css, size, h => by
    rw [List.flatten_cons, List.length_append, flatten_len css size (fun x hx => h x (by simp [hx])), h c (by simp), List.length_cons, Nat.succ_mul]
    omega
/-- The elements' cells of a slice that reads as a list. -/
theorem RdS.css {α : Type} {D : Lay α} {size : Nat} {S : Nat → Prop} {w : World} {ao : Option Addr} {n cap : Nat} {l : List α} (hs : 0 < size) (h : RdS D size S w (.slice ao n cap) l) : n = l.length ∧ (ao = none → n = 0 ∧ cap = 0) ∧
    ∃ css : List (List Value), css.length = l.length ∧ (∀ i, (h : i < l.length) → ∃ cs, css[i]? = some cs ∧ cs.length = size ∧ D S w l[i] cs) ∧ css.flatten.length = n * size ∧ (∀ ad, ao = some ad → ∀ j u, css.flatten[j]? = some u → w.cell? (ad.add j) = some u) := by
  obtain ⟨ao', cap', hv, hc, hm, hn, hf⟩ := h
  simp only [Value.slice.injEq] at hv
  obtain ⟨rfl, rfl, rfl⟩ := hv
  obtain ⟨css, hl, hx⟩ := ex_list (fun i cs => ∃ (h : i < l.length) (b o : Nat), ao = some ⟨b, o, none⟩ ∧ cs.length = size ∧ CellsAt w b (o + i * size) cs ∧ D S w l[i] cs) l.length (fun i hi => by
    obtain ⟨b, o, cs, ha, _, _, hl, hcs, hd⟩ := hf i hi
    exact ⟨cs, hi, b, o, ha, hl, hcs, hd⟩)
  have hall : ∀ c ∈ css, c.length = size := fun c hcm => by
    obtain ⟨i, hi, rfl⟩ := List.getElem_of_mem hcm
    obtain ⟨cs, h4, _, _, _, _, h5, _⟩ := hx i (by omega)
    rw [List.getElem?_eq_getElem hi] at h4
    rw [Option.some.inj h4]; exact h5
  have hfl := flatten_len css size hall
  refine ⟨rfl, fun e => by have := hn e; omega, css, hl, fun i hi => ?_, by rw [hfl, hl], fun ad had j u hu => ?_⟩
  · obtain ⟨cs, h4, h3, _, _, _, h5, _, h6⟩ := hx i hi
    exact ⟨cs, h4, h5, h6⟩
  · have hj : j < l.length * size := by
      rw [← hl, ← hfl]
      exact (List.getElem?_eq_some_iff.1 hu).1
    have hi : j / size < l.length := Nat.div_lt_of_lt_mul (by rw [Nat.mul_comm]; exact hj)
    have hjm := Nat.mod_lt j hs
    obtain ⟨cs, h4, _, b, o, ha, h5, hcs, _⟩ := hx (j / size) hi
    have h7 : cs[j % size]? = some cs[j % size] := List.getElem?_eq_getElem (by omega)
    have h8 := getElem?_flatten_block css size (j / size) (j % size) _ cs hall h4 h7
    have h9 : j / size * size + j % size = j := by rw [Nat.mul_comm]; exact Nat.div_add_mod j size
    rw [h9, hu] at h8
    have h10 := hcs _ _ h7
    rw [Option.some.inj h8]
    rw [ha] at had
    obtain rfl := Option.some.inj had
    rw [show o + j / size * size + j % size = o + j by omega] at h10
    have e : (⟨b, o, none⟩ : Addr).add j = ⟨b, o + j, none⟩ := by
      unfold Addr.add
      split
      · rename_i h0
        have h0 : j = 0 := by simpa using h0
        subst h0; rfl
      · rfl
    rw [e]; exact h10
/-- A row of the call's own whose elements lead to older blocks. -/
theorem rdS_of_row {α : Type} {D : Lay α} (hD : Stable D) {base : Nat} {e : TypeId} {size : Nat} {w : World} {v : Value} {l : List α} {css : List (List Value)} (how : w.ownsRow base e size v l.length css.flatten) (hl : css.length = l.length)
    (hel : ∀ i, (h : i < l.length) → ∃ cs, css[i]? = some cs ∧ cs.length = size ∧ D (fun k => k < base) w l[i] cs) : RdS D size All w v l := by
  refine OwnS.rd (S := All) hD ⟨css, hl, how, fun i hi => ?_⟩ (fun _ _ => trivial) (fun _ _ => trivial)
  obtain ⟨cs, h1, h2, h3⟩ := hel i hi
  refine ⟨cs, h1, h2, hD _ _ _ _ _ _ (Keep.weak (fun k hk => ⟨trivial, fun e => ?_⟩)) h3⟩
  have := (how.lt k e).1
  omega
theorem rdS_join {α : Type} {D : Lay α} (hD : Stable D) {base : Nat} {e : TypeId} {size : Nat} {w w' : World} {v : Value} {x y : List α} {cx cy : List (List Value)} (hu : Up w w')
    (lx : cx.length = x.length) (ex : ∀ i, (h : i < x.length) → ∃ cs, cx[i]? = some cs ∧ cs.length = size ∧ D (fun k => k < base) w x[i] cs)
    (ly : cy.length = y.length) (ey : ∀ i, (h : i < y.length) → ∃ cs, cy[i]? = some cs ∧ cs.length = size ∧ D (fun k => k < base) w y[i] cs)
    (how : w'.ownsRow base e size v (x.length + y.length) (cx.flatten ++ cy.flatten)) : RdS D size All w' v (x ++ y) := by
  refine rdS_of_row hD (css := cx ++ cy) (by rw [List.length_append, List.flatten_append]; exact how) (by simp [lx, ly]) (fun i hi => ?_)
  rw [List.length_append] at hi
  by_cases h : i < x.length
  · obtain ⟨cs, h1, h2, h3⟩ := ex i h
    refine ⟨cs, by rw [List.getElem?_append_left (by omega)]; exact h1, h2, ?_⟩
    rw [List.getElem_append_left h]
    exact hD _ _ _ _ _ _ (Keep.upS hu) h3
  · obtain ⟨cs, h1, h2, h3⟩ := ey (i - x.length) (by omega)
    refine ⟨cs, by rw [List.getElem?_append_right (by omega), lx]; exact h1, h2, ?_⟩
    rw [List.getElem_append_right (by omega)]
    exact hD _ _ _ _ _ _ (Keep.upS hu) h3
section
variable {P : Program} {t e : TypeId} {size bytes : Nat} {z : Value} (E : Elem P t e size bytes z) (w : World)
include E
theorem wpList_appW {ops : Array Oper} {rest : List Oper} {o : Oper} {a : Act} {Q : Exit → Act → World → Prop} (hw : Region.wanted o (yielded ops a.tmps) = true) (s x : Operand)
    (ho : o.op = .call { callee := .builtin .append, args := #[s, x], argTypes := #[t, t] })
    (base : Nat) (v : Value) (n : Nat) (xs : List Value) (hs : a.eval s = v) (hown : w.ownsRow base e size v n xs) (ao : Option Addr) (m c : Nat) (hx : a.eval x = .slice ao m c) (news : List Value) (hl : news.length = m * size)
    (hnone : ao = none → m = 0 ∧ c = 0) (hnews : ∀ ad, ao = some ad → ∀ j u, news[j]? = some u → w.cell? (ad.add j) = some u) (h1 : ∀ u ∈ news, u.oneCell' = true)
    (hbytes : (n + m) * bytes ≤ 140737488355328) (h63 : n + m ≤ maxLen) (hbase : base ≤ w.heap.size)
    (h : ∀ v' w', w'.ownsRow base e size v' (n + m) (xs ++ news) → Evo w w' v v' → wpList P ops Q rest (a.put o.dst v') w') : wpList P ops Q (o :: rest) a w :=
  BigFrame.wpList_want hw fun _ hK => wp_app E w s x ho base v n xs hs hown ao m c hx news hl hnone hnews h1 hbytes h63 hbase fun v' w' h2 h3 => hK _ _ (h v' w' h2 h3)
end
theorem ones_rec {S : Nat → Prop} {w : World} {l : List Rec} {css : List (List Value)} (hl : css.length = l.length) (hel : ∀ i, (h : i < l.length) → ∃ cs, css[i]? = some cs ∧ cs.length = 4 ∧ DRec S w l[i] cs) : ∀ u ∈ css.flatten, u.oneCell' = true := by
  intro u hu
  obtain ⟨cs, hcs, hu⟩ := List.mem_flatten.1 hu
  obtain ⟨i, hi, rfl⟩ := List.getElem_of_mem hcs
  obtain ⟨cs, h1, h2, vb, rfl, hb, _⟩ := hel i (by omega)
  rw [List.getElem?_eq_getElem hi] at h1
  obtain ⟨a, c, rfl, _, _⟩ := hb.val
  rw [Option.some.inj h1] at hu
  simp only [List.mem_cons, List.not_mem_nil, or_false] at hu
  rcases hu with rfl | rfl | rfl | rfl <;> rfl
end Go.Proofs.YtplgegffapikoaaDoor
set_option linter.unusedVariables false
namespace Go.Proofs.YtplgegffapikoaaDoor
open Go.RowKit
def FilSz (f : Fil) : Prop := f.msgs.length * 64 ≤ 140737488355328 ∧ f.enums.length * 40 ≤ 140737488355328 ∧ (∀ m ∈ f.msgs, m.fields.length * 64 ≤ 140737488355328 ∧ m.barred.length * 8 ≤ 140737488355328) ∧ ∀ e ∈ f.enums, e.items.length * 24 ≤ 140737488355328
abbrev No : Nat → Prop := fun _ => False
theorem filV_nil (w : World) : FilV All w (.agg #[.slice none 0 0, .slice none 0 0]) ⟨[], []⟩ :=
  ⟨_, _, rfl, ⟨none, 0, rfl, by simp, by unfold maxLen; omega, fun _ => rfl, fun i hi => by simp at hi⟩, ⟨none, 0, rfl, by simp, by unfold maxLen; omega, fun _ => rfl, fun i hi => by simp at hi⟩⟩
/-- What is read lies in blocks that are there. -/
theorem RdS.lt {α : Type} {D : Lay α} (hD : Stable D) {size : Nat} {w : World} {v : Value} {l : List α} (h : RdS D size All w v l) : RdS D size (Lt w) w v l := h.keep hD (Keep.lt (S := All))

theorem FilV.setCell {S : Nat → Prop} {w : World} {v : Value} {f : Fil} (h : FilV S w v f) {p : Addr} (hp : ¬ S p.block) (u : Value) : FilV S (w.setCell p u) v f := h.keep (Keep.setCell hp u)
theorem FilV.alloc {S : Nat → Prop} {w : World} {v : Value} {f : Fil} (h : FilV S w v f) (o : Obj) : FilV S (w.alloc o) v f := h.keep (Keep.alloc o)
theorem FilV.all {S : Nat → Prop} {w : World} {v : Value} {f : Fil} (h : FilV S w v f) : FilV All w v f := h.keep (Keep.weak (fun _ _ => trivial))
theorem ownsRow_set {w : World} {base : Nat} {e : TypeId} {size g n cap : Nat} {xs : List Value} (h : w.ownsRow base e size (.slice (some ⟨g, 0, none⟩) n cap) n xs) (i : Nat) (u : Value) : (w.setCell ⟨g, i, none⟩ u).ownsRow base e size (.slice (some ⟨g, 0, none⟩) n cap) n (xs.set i u) := by
  refine ⟨by rw [List.length_set]; exact h.1, ?_⟩
  rcases h.2 with ⟨h0, _⟩ | ⟨g', cap', cur, hv, hb, hg, hn, hm, hs, ht⟩
  · cases h0
  · simp only [Value.slice.injEq, Option.some.injEq, Addr.mk.injEq, and_true, true_and] at hv
    obtain ⟨rfl, rfl⟩ := hv
    refine .inr ⟨g, cap, cur.setIfInBounds i u, rfl, hb, heap_setCell_same w g i cur e u hg, hn, hm, by simpa using hs, ?_⟩
    rw [Array.toList_setIfInBounds, List.take_set, ht]
theorem flatten_set : ∀ (css : List (List Value)) (size i j : Nat) (u : Value) (cs : List Value), (∀ c ∈ css, c.length = size) → css[i]? = some cs → j < size → css.flatten.set (i * size + j) u = (css.set i (cs.set j u)).flatten
  | [], _, _, _, _, _, _, h, _ => by simp at h
  | c :: css, size, 0, j, u, cs, hs, h, hj => by
    simp at h
    subst h
    have hc : c.length = size := hs c (by simp)
    rw [List.flatten_cons, List.set_append_left _ _ (by omega)]
    simp
  | c :: css, size, i + 1, j, u, cs, hs, h, hj => by
    have hc : c.length = size := hs c (by simp)
    rw [List.flatten_cons, List.set_append_right _ _ (by rw [hc, Nat.add_mul]; omega), hc, show (i + 1) * size + j - size = i * size + j by rw [Nat.add_mul]; omega,
      flatten_set css size i j u cs (fun c hc => hs c (by simp [hc])) (by simpa using h) hj]
    simp
theorem OwnS.pure {α : Type} {D : Lay α} (hD : ∀ S S' w w' a cs, D S w a cs → D S' w' a cs) {base base' : Nat} {e : TypeId} {size : Nat} {S S' : Nat → Prop} {w : World} {v : Value} {l : List α} (h : OwnS D base e size S w v l) (hb : base' ≤ base) : OwnS D base' e size S' w v l := by
  obtain ⟨css, h1, h2, h3⟩ := h
  refine ⟨css, h1, ⟨h2.1, h2.2.imp id (fun ⟨g, cap, cur, hv, hg, r⟩ => ⟨g, cap, cur, hv, Nat.le_trans hb hg, r⟩)⟩, fun i hi => ?_⟩
  obtain ⟨cs, h4, h5, h6⟩ := h3 i hi
  exact ⟨cs, h4, h5, hD _ _ _ _ _ _ h6⟩
theorem pure_fld : ∀ S S' w w' a cs, DFld S w a cs → DFld S' w' a cs := fun _ _ _ _ _ _ h => h
theorem pure_int : ∀ S S' w w' a cs, DInt S w a cs → DInt S' w' a cs := fun _ _ _ _ _ _ h => h
theorem pure_itm : ∀ S S' w w' a cs, DItm S w a cs → DItm S' w' a cs := fun _ _ _ _ _ _ h => h
theorem own_some {w : World} {base : Nat} {e : TypeId} {size : Nat} {a : Option Addr} {n c n' : Nat} {xs : List Value} (h : w.ownsRow base e size (.slice a n c) n' xs) (hn : 0 < n') : ∃ g, a = some ⟨g, 0, none⟩ ∧ base ≤ g ∧ g < w.heap.size ∧ ∀ o, w.frozen? ⟨g, o, none⟩ = false := by
  rcases h.2 with ⟨_, h0⟩ | ⟨g, cap, cur, hv, hb, hg, _⟩
  · omega
  · simp only [Value.slice.injEq] at hv
    exact ⟨g, hv.1, hb, lt_of_block hg, fun o => frozen_of_row w g o _ _ hg⟩
theorem OwnS.lo {α : Type} {D : Lay α} {base : Nat} {e : TypeId} {size : Nat} {S : Nat → Prop} {w : World} {v : Value} {l : List α} (h : OwnS D base e size S w v l) : ∀ j, v.ownBlock = some j → base ≤ j ∧ j < w.heap.size := fun j hj => by
  obtain ⟨css, _, h2, _⟩ := h
  exact h2.lt j hj
theorem own_val {w : World} {base : Nat} {e : TypeId} {size : Nat} {v : Value} {n : Nat} {xs : List Value} (h : w.ownsRow base e size v n xs) : ∃ ao cap, v = .slice ao n cap := by
  rcases h.2 with ⟨rfl, rfl⟩ | ⟨g, cap, cur, rfl, _⟩
  · exact ⟨_, _, rfl⟩
  · exact ⟨_, _, rfl⟩

theorem ones_of {α : Type} {D : Lay α} {S : Nat → Prop} {w : World} {l : List α} {size : Nat} {css : List (List Value)} (h1 : ∀ S w a cs, D S w a cs → ∀ u ∈ cs, u.oneCell' = true) (hl : css.length = l.length) (hel : ∀ i, (h : i < l.length) → ∃ cs, css[i]? = some cs ∧ cs.length = size ∧ D S w l[i] cs) : ∀ u ∈ css.flatten, u.oneCell' = true := by
  intro u hu
  obtain ⟨cs, hcs, hu⟩ := List.mem_flatten.1 hu
  obtain ⟨i, hi, rfl⟩ := List.getElem_of_mem hcs
  obtain ⟨cs, h2, _, h3⟩ := hel i (by omega)
  rw [List.getElem?_eq_getElem hi] at h2
  rw [Option.some.inj h2] at hu
  exact h1 _ _ _ _ h3 u hu
end Go.Proofs.YtplgegffapikoaaDoor
set_option linter.unusedVariables false
namespace Go.Proofs.YtplgegffapikoaaDoor
open Go.RowKit
theorem one_u64c : ∀ S w a cs, DU64 S w a cs → ∀ u ∈ cs, u.oneCell' = true := by
  rintro S w a cs ⟨rfl, _⟩ u hu
  simp only [List.mem_cons, List.not_mem_nil, or_false] at hu
  rcases hu with rfl
  rfl
theorem one_u8c : ∀ S w a cs, DU8 S w a cs → ∀ u ∈ cs, u.oneCell' = true := by
  rintro S w a cs h u hu
  unfold DU8 at h
  subst h
  simp only [List.mem_cons, List.not_mem_nil, or_false] at hu
  rcases hu with rfl
  rfl

theorem eU64c : Elem Tryd.prog 30 35 1 8 (.int .u64 0) := ⟨Tryd.underlying30, info_parts (by kernel_rfl), rfl, by decide⟩
set_option maxRecDepth 100000 in
set_option maxHeartbeats 800000 in
theorem clone_u64c (v : Value) (l : List Nat) (w : World) (hv : RdS DU64 1 All w v l) (hl : l.length * 8 ≤ 140737488355328) :
    Calls Tryd.prog 29 #[v] w fun e w' => ∃ v', e = .returned v' ∧ OwnS DU64 w.heap.size 35 1 All w' v' l ∧ Up w w' := by
  obtain ⟨ao, cap, rfl, hc1, hc2⟩ := hv.val
  have Hn := Lib.hid (RdS.css (by decide) hv)
  clear hv
  have hnil := fun (w : World) (a : Option Addr) (n c : Nat) => Lib.run_eql_slice_nil (P := Tryd.prog) w 30 35 a n c 0 0 Tryd.underlying30
  cases ao with
  | none =>
    have h0 := Hn.out.2.1 rfl
    have : l = [] := List.eq_nil_of_length_eq_zero h0.1
    subst this
    obtain rfl := h0.2
    clear h0
    go_enter Tryd.func29, Tryd.ntmps29
    go_wp2_with fail
    go_ret
    exact ⟨_, rfl, OwnS.nil _ _ _ _ _ _, Up.refl _⟩
  | some ad =>
    obtain ⟨_, _, css, hcl, hel, hfl, hnw⟩ := Hn.out
    have Hel := Lib.hid hel; have Hnw := Lib.hid hnw; have Hfl := Lib.hid hfl; have Hcl := Lib.hid hcl
    have Hone := Lib.hid (ones_of (D := DU64) (S := All) (w := w) (l := l) (size := 1) one_u64c hcl hel)
    clear hel hnw hfl hcl Hn
    go_enter Tryd.func29, Tryd.ntmps29
    go_wp2_with (at_builtin; go_loud (refine wpList_app eU64c _ (by rfl) _ _ (by rfl) w.heap.size _ 0 [] (by rfl) (World.ownsRow_lit w #[] 0 (Nat.le_refl _) (by unfold maxLen; omega) (by simp)) (some ad) l.length cap (by rfl) css.flatten Hfl.out (by simp) (fun ad' h j u hu => ?_) Hone.out (by omega) (by unfold maxLen; omega) (by simp) ?_))
    · exact (Up.alloc (Up.refl w) _).cell_some (Hnw.out ad' h j u hu)
    · intro v1 w1 how1 hev1
      go_wp2_with fail
      go_ret
      refine ⟨_, rfl, ⟨css, Hcl.out, by simpa using how1, fun i hi => ?_⟩, (Up.alloc (Up.refl w) _).evo hev1 (fun k hk => by simp [Value.ownBlock] at hk; omega)⟩
      obtain ⟨cs, h1, h2, h3⟩ := Hel.out i hi
      exact ⟨cs, h1, h2, h3⟩

theorem eU8c : Elem Tryd.prog 73 5 1 1 (.int .u8 0) := ⟨Tryd.underlying73, info_parts (by kernel_rfl), rfl, by decide⟩
set_option maxRecDepth 100000 in
set_option maxHeartbeats 800000 in
theorem clone_u8c (v : Value) (l : List UInt8) (w : World) (hv : RdS DU8 1 All w v l) (hl : l.length * 1 ≤ 140737488355328) :
    Calls Tryd.prog 30 #[v] w fun e w' => ∃ v', e = .returned v' ∧ OwnS DU8 w.heap.size 5 1 All w' v' l ∧ Up w w' := by
  obtain ⟨ao, cap, rfl, hc1, hc2⟩ := hv.val
  have Hn := Lib.hid (RdS.css (by decide) hv)
  clear hv
  have hnil := fun (w : World) (a : Option Addr) (n c : Nat) => Lib.run_eql_slice_nil (P := Tryd.prog) w 73 5 a n c 0 0 Tryd.underlying73
  cases ao with
  | none =>
    have h0 := Hn.out.2.1 rfl
    have : l = [] := List.eq_nil_of_length_eq_zero h0.1
    subst this
    obtain rfl := h0.2
    clear h0
    go_enter Tryd.func30, Tryd.ntmps30
    go_wp2_with fail
    go_ret
    exact ⟨_, rfl, OwnS.nil _ _ _ _ _ _, Up.refl _⟩
  | some ad =>
    obtain ⟨_, _, css, hcl, hel, hfl, hnw⟩ := Hn.out
    have Hel := Lib.hid hel; have Hnw := Lib.hid hnw; have Hfl := Lib.hid hfl; have Hcl := Lib.hid hcl
    have Hone := Lib.hid (ones_of (D := DU8) (S := All) (w := w) (l := l) (size := 1) one_u8c hcl hel)
    clear hel hnw hfl hcl Hn
    go_enter Tryd.func30, Tryd.ntmps30
    go_wp2_with (at_builtin; go_loud (refine wpList_app eU8c _ (by rfl) _ _ (by rfl) w.heap.size _ 0 [] (by rfl) (World.ownsRow_lit w #[] 0 (Nat.le_refl _) (by unfold maxLen; omega) (by simp)) (some ad) l.length cap (by rfl) css.flatten Hfl.out (by simp) (fun ad' h j u hu => ?_) Hone.out (by omega) (by unfold maxLen; omega) (by simp) ?_))
    · exact (Up.alloc (Up.refl w) _).cell_some (Hnw.out ad' h j u hu)
    · intro v1 w1 how1 hev1
      go_wp2_with fail
      go_ret
      refine ⟨_, rfl, ⟨css, Hcl.out, by simpa using how1, fun i hi => ?_⟩, (Up.alloc (Up.refl w) _).evo hev1 (fun k hk => by simp [Value.ownBlock] at hk; omega)⟩
      obtain ⟨cs, h1, h2, h3⟩ := Hel.out i hi
      exact ⟨cs, h1, h2, h3⟩
end Go.Proofs.YtplgegffapikoaaDoor
