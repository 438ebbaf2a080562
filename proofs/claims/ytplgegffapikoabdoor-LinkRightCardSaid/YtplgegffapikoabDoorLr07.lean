/-
  Lists put one behind the other: what 'append' takes, what it makes.
-/
import Derived.Test.YtplgegffapikoabDoorLr03
namespace Go.Proofs.YtplgegffapikoabDoor
open Go.RowKit
theorem ex_list {α : Type} (P : Nat → α → Prop) : ∀ n, (∀ i, i < n → ∃ x, P i x) → ∃ xs : List α, xs.length = n ∧ ∀ i, i < n → ∃ x, xs[i]? = some x ∧ P i x
  | 0, _ => ⟨[], rfl, fun i hi => absurd hi (Nat.not_lt_zero i)⟩
  | n + 1, h => by
    obtain ⟨xs, hl, hx⟩ := ex_list P n (fun i hi => h i (by omega))
    obtain ⟨x, hp⟩ := h n (by omega)
    refine ⟨xs ++ [x], by simp [hl], fun i hi => ?_⟩
    by_cases he : i = n
    · subst he; exact ⟨x, by rw [List.getElem?_append_right (by omega)]; simp [hl], hp⟩
    · obtain ⟨y, hy, hq⟩ := hx i (by omega)
      exact ⟨y, by rw [List.getElem?_append_left (by omega)]; exact hy, hq⟩
theorem flatten_len : ∀ (css : List (List Value)) (size : Nat), (∀ c ∈ css, c.length = size) → css.flatten.length = css.length * size
  | [], size, _ => by simp
  | c :: css, size, h => by
    rw [List.flatten_cons, List.length_append, flatten_len css size (fun x hx => h x (by simp [hx])), h c (by simp), List.length_cons, Nat.succ_mul]
    omega
/-- The elements' cells of a slice that reads as a list. -/
theorem RdS.css {α : Type} {D : Lay α} {size : Nat} {S : Nat → Prop} {w : World} {ao : Option Addr} {n cap : Nat} {l : List α} (hs : 0 < size) (h : RdS D size S w (.slice ao n cap) l) : n = l.length ∧ (ao = none → n = 0 ∧ cap = 0) ∧
    ∃ css : List (List Value), css.length = l.length ∧ (∀ i, (h : i < l.length) → ∃ cs, css[i]? = some cs ∧ cs.length = size ∧ D S w l[i] cs) ∧ css.flatten.length = n * size ∧ (∀ ad, ao = some ad → ∀ j u, css.flatten[j]? = some u → w.cell? (ad.add j) = some u) := by
  obtain ⟨ao', cap', hv, hc, hm, hn, hf⟩ := h
  simp only [Value.slice.injEq] at hv
  obtain ⟨rfl, rfl, rfl⟩ := hv
  obtain ⟨css, hl, hx⟩ := ex_list (fun i cs => ∃ (h : i < l.length) (b o : Nat), ao = some ⟨b, o, none⟩ ∧ cs.length = size ∧ CellsAt w b (o + i * size) cs ∧ D S w l[i] cs) l.length (fun i hi => by
    obtain ⟨b, o, cs, ha, _, _, hl, hcs, hd⟩ := hf i hi
    exact ⟨cs, hi, b, o, ha, hl, hcs, hd⟩)
  have hall : ∀ c ∈ css, c.length = size := fun c hcm => by
    obtain ⟨i, hi, rfl⟩ := List.getElem_of_mem hcm
    obtain ⟨cs, h4, _, _, _, _, h5, _⟩ := hx i (by omega)
    rw [List.getElem?_eq_getElem hi] at h4
    rw [Option.some.inj h4]; exact h5
  have hfl := flatten_len css size hall
  refine ⟨rfl, fun e => by have := hn e; omega, css, hl, fun i hi => ?_, by rw [hfl, hl], fun ad had j u hu => ?_⟩
  · obtain ⟨cs, h4, h3, _, _, _, h5, _, h6⟩ := hx i hi
    exact ⟨cs, h4, h5, h6⟩
  · have hj : j < l.length * size := by
      rw [← hl, ← hfl]
      exact (List.getElem?_eq_some_iff.1 hu).1
    have hi : j / size < l.length := Nat.div_lt_of_lt_mul (by rw [Nat.mul_comm]; exact hj)
    have hjm := Nat.mod_lt j hs
    obtain ⟨cs, h4, _, b, o, ha, h5, hcs, _⟩ := hx (j / size) hi
    have h7 : cs[j % size]? = some cs[j % size] := List.getElem?_eq_getElem (by omega)
    have h8 := getElem?_flatten_block css size (j / size) (j % size) _ cs hall h4 h7
    have h9 : j / size * size + j % size = j := by rw [Nat.mul_comm]; exact Nat.div_add_mod j size
    rw [h9, hu] at h8
    have h10 := hcs _ _ h7
    rw [Option.some.inj h8]
    rw [ha] at had
    obtain rfl := Option.some.inj had
    rw [show o + j / size * size + j % size = o + j by omega] at h10
    have e : (⟨b, o, none⟩ : Addr).add j = ⟨b, o + j, none⟩ := by
      unfold Addr.add
      split
      · rename_i h0
        have h0 : j = 0 := by simpa using h0
        subst h0; rfl
      · rfl
    rw [e]; exact h10
/-- A row of the call's own whose elements lead to older blocks. -/
theorem rdS_of_row {α : Type} {D : Lay α} (hD : Stable D) {base : Nat} {e : TypeId} {size : Nat} {w : World} {v : Value} {l : List α} {css : List (List Value)} (how : w.ownsRow base e size v l.length css.flatten) (hl : css.length = l.length)
    (hel : ∀ i, (h : i < l.length) → ∃ cs, css[i]? = some cs ∧ cs.length = size ∧ D (fun k => k < base) w l[i] cs) : RdS D size All w v l := by
  refine OwnS.rd (S := All) hD ⟨css, hl, how, fun i hi => ?_⟩ (fun _ _ => trivial) (fun _ _ => trivial)
  obtain ⟨cs, h1, h2, h3⟩ := hel i hi
  refine ⟨cs, h1, h2, hD _ _ _ _ _ _ (Keep.weak (fun k hk => ⟨trivial, fun e => ?_⟩)) h3⟩
  have := (how.lt k e).1
  omega
theorem rdS_join {α : Type} {D : Lay α} (hD : Stable D) {base : Nat} {e : TypeId} {size : Nat} {w w' : World} {v : Value} {x y : List α} {cx cy : List (List Value)} (hu : Up w w')
    (lx : cx.length = x.length) (ex : ∀ i, (h : i < x.length) → ∃ cs, cx[i]? = some cs ∧ cs.length = size ∧ D (fun k => k < base) w x[i] cs)
    (ly : cy.length = y.length) (ey : ∀ i, (h : i < y.length) → ∃ cs, cy[i]? = some cs ∧ cs.length = size ∧ D (fun k => k < base) w y[i] cs)
    (how : w'.ownsRow base e size v (x.length + y.length) (cx.flatten ++ cy.flatten)) : RdS D size All w' v (x ++ y) := by
  refine rdS_of_row hD (css := cx ++ cy) (by rw [List.length_append, List.flatten_append]; exact how) (by simp [lx, ly]) (fun i hi => ?_)
  rw [List.length_append] at hi
  by_cases h : i < x.length
  · obtain ⟨cs, h1, h2, h3⟩ := ex i h
    refine ⟨cs, by rw [List.getElem?_append_left (by omega)]; exact h1, h2, ?_⟩
    rw [List.getElem_append_left h]
    exact hD _ _ _ _ _ _ (Keep.upS hu) h3
  · obtain ⟨cs, h1, h2, h3⟩ := ey (i - x.length) (by omega)
    refine ⟨cs, by rw [List.getElem?_append_right (by omega), lx]; exact h1, h2, ?_⟩
    rw [List.getElem_append_right (by omega)]
    exact hD _ _ _ _ _ _ (Keep.upS hu) h3
section
variable {P : Program} {t e : TypeId} {size bytes : Nat} {z : Value} (E : Elem P t e size bytes z) (w : World)
include E
theorem wpList_appW {ops : Array Oper} {rest : List Oper} {o : Oper} {a : Act} {Q : Exit → Act → World → Prop} (hw : Region.wanted o (yielded ops a.tmps) = true) (s x : Operand)
    (ho : o.op = .call { callee := .builtin .append, args := #[s, x], argTypes := #[t, t] })
    (base : Nat) (v : Value) (n : Nat) (xs : List Value) (hs : a.eval s = v) (hown : w.ownsRow base e size v n xs) (ao : Option Addr) (m c : Nat) (hx : a.eval x = .slice ao m c) (news : List Value) (hl : news.length = m * size)
    (hnone : ao = none → m = 0 ∧ c = 0) (hnews : ∀ ad, ao = some ad → ∀ j u, news[j]? = some u → w.cell? (ad.add j) = some u) (h1 : ∀ u ∈ news, u.oneCell' = true)
    (hbytes : (n + m) * bytes ≤ 140737488355328) (h63 : n + m ≤ maxLen) (hbase : base ≤ w.heap.size)
    (h : ∀ v' w', w'.ownsRow base e size v' (n + m) (xs ++ news) → Evo w w' v v' → wpList P ops Q rest (a.put o.dst v') w') : wpList P ops Q (o :: rest) a w :=
  BigFrame.wpList_want hw fun _ hK => wp_app E w s x ho base v n xs hs hown ao m c hx news hl hnone hnews h1 hbytes h63 hbase fun v' w' h2 h3 => hK _ _ (h v' w' h2 h3)
end
theorem ones_rec {S : Nat → Prop} {w : World} {l : List Rec} {css : List (List Value)} (hl : css.length = l.length) (hel : ∀ i, (h : i < l.length) → ∃ cs, css[i]? = some cs ∧ cs.length = 4 ∧ DRec S w l[i] cs) : ∀ u ∈ css.flatten, u.oneCell' = true := by
  intro u hu
  obtain ⟨cs, hcs, hu⟩ := List.mem_flatten.1 hu
  obtain ⟨i, hi, rfl⟩ := List.getElem_of_mem hcs
  obtain ⟨cs, h1, h2, vb, rfl, hb, _⟩ := hel i (by omega)
  rw [List.getElem?_eq_getElem hi] at h1
  obtain ⟨a, c, rfl, _, _⟩ := hb.val
  rw [Option.some.inj h1] at hu
  simp only [List.mem_cons, List.not_mem_nil, or_false] at hu
  rcases hu with rfl | rfl | rfl | rfl <;> rfl
end Go.Proofs.YtplgegffapikoabDoor
