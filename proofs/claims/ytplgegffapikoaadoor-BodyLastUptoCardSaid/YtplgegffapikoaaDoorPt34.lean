/-
  pressref3.Set's loop, in plain Lean.
  pressref2.Empty.
-/
import Derived.Test.YtplgegffapikoaaDoorPt20
import Derived.Test.YtplgegffapikoaaDoorPt13
set_option linter.unusedVariables false
namespace Go.Proofs.YtplgegffapikoaaDoor
open Go.RowKit
/-- What has come to be behind k values: is the new one still to come? -/
def SetSt (kp : SV → Bool) (n : Int) (X : SV) (pl : Bool) (l : List SV) (k : Nat) (pb : Bool) (L : List SV) : Prop :=
  (pb = true ∧ pl = false ∧ L = (l.take k).filter kp ∧ ∀ y ∈ l.take k, y.1 ≤ n) ∨
  (pb = false ∧ pl = true ∧ L = (l.take k).filter kp) ∨
  (pb = false ∧ pl = false ∧ ∃ i, i ≤ k ∧ (∀ y ∈ l.take i, y.1 ≤ n) ∧ (∃ h : i < l.length, n < l[i].1) ∧ L = (l.take i).filter kp ++ X :: ((l.take k).drop i).filter kp)
theorem SetSt.ins {kp : SV → Bool} {n : Int} {X : SV} {pl : Bool} {l : List SV} {k : Nat} {L : List SV} (h : SetSt kp n X pl l k true L) (hk : k < l.length) (hn : n < l[k].1) : SetSt kp n X pl l k false (L ++ [X]) := by
  rcases h with ⟨_, h2, h3, h4⟩ | ⟨h, _⟩ | ⟨h, _⟩
  · refine .inr (.inr ⟨rfl, h2, k, Nat.le_refl k, h4, ⟨hk, hn⟩, ?_⟩)
    have : (l.take k).drop k = [] := List.drop_eq_nil_of_le (by rw [List.length_take]; omega)
    rw [this, h3]; rfl
  · cases h
  · cases h
theorem SetSt.next {kp : SV → Bool} {n : Int} {X : SV} {pl : Bool} {l : List SV} {k : Nat} {pb : Bool} {L : List SV} (h : SetSt kp n X pl l k pb L) (hk : k < l.length) (hn : pb = true → ¬ n < l[k].1) : SetSt kp n X pl l (k + 1) pb (L ++ if kp l[k] = true then [l[k]] else []) := by
  have hs := filter_take_succ kp l k hk
  rcases h with ⟨rfl, h2, h3, h4⟩ | ⟨h1, h2, h3⟩ | ⟨h1, h2, i, hi, h4, h5, h6⟩
  · refine .inl ⟨rfl, h2, by rw [hs, h3], fun y hy => ?_⟩
    rw [List.take_succ_eq_append_getElem hk] at hy
    rcases List.mem_append.1 hy with h | h
    · exact h4 y h
    · have := hn rfl
      simp only [List.mem_singleton] at h
      subst h; omega
  · exact .inr (.inl ⟨h1, h2, by rw [hs, h3]⟩)
  · refine .inr (.inr ⟨h1, h2, i, by omega, h4, h5, ?_⟩)
    rw [h6, List.take_succ_eq_append_getElem hk, List.drop_append_of_le_length (by rw [List.length_take]; omega), List.filter_append, List.append_assoc]
    congr 1
    show _ ++ _ = X :: _
    rw [List.cons_append]
    congr 1
    rw [List.filter_cons]
    rfl
theorem takeWhile_split {p : SV → Bool} {A B : List SV} (ha : ∀ a ∈ A, p a = true) (hb : ∀ b ∈ B, p b = false) : ((A ++ B).takeWhile p).length = A.length := by
  induction A with
  | nil =>
    cases B with
    | nil => rfl
    | cons b B => rw [List.nil_append, List.takeWhile_cons, if_neg (by rw [hb b List.mem_cons_self]; decide)]
  | cons a A ih =>
    rw [List.cons_append, List.takeWhile_cons, if_pos (ha a List.mem_cons_self), List.length_cons, List.length_cons, ih (fun x hx => ha x (List.mem_cons_of_mem _ hx))]
theorem insG_split {X : SV} {A B : List SV} (ha : ∀ a ∈ A, a.1 < X.1) (hb : ∀ b ∈ B, ¬ b.1 < X.1) : insG (fun y : SV => y.1) (A ++ B) X = A ++ X :: B := by
  unfold insG
  rw [takeWhile_split (p := fun y : SV => decide (y.1 < X.1)) (fun a h => decide_eq_true (ha a h)) (fun b h => decide_eq_false (hb b h))]
  rw [List.take_left' rfl, List.drop_left' rfl]
theorem keep_ne {fs : List Fld} {x : Fld} {n y : Int} (h : keepN fs x n y = true) : y ≠ n := keepN_ne h
/-- What it comes to. -/
theorem SetSt.last {fs : List Fld} {F : Fld} {X : SV} {pl : Bool} {l : List SV} {pb : Bool} {L : List SV} {k : Nat} (hk : l.length ≤ k) (hr : Rising l) (h : SetSt (fun y => keepN fs F X.1 y.1) X.1 X pl l k pb L) :
    (if pb = true then L ++ [X] else L) = if pl = true then l.filter (fun y => keepN fs F X.1 y.1) else insG (fun y : SV => y.1) (l.filter fun y => keepN fs F X.1 y.1) X := by
  have ht : l.take k = l := List.take_of_length_le hk
  rcases h with ⟨rfl, rfl, rfl, h4⟩ | ⟨rfl, rfl, rfl⟩ | ⟨rfl, rfl, i, hi, h4, ⟨h5, h5'⟩, rfl⟩
  · rw [if_pos rfl, if_neg (by decide), ht]
    have := insG_split (X := X) (A := l.filter fun y => keepN fs F X.1 y.1) (B := []) (fun a ha => by
      obtain ⟨h1, h2⟩ := List.mem_filter.1 ha
      have h3 := keepN_ne h2
      have h4' := h4 a (by rw [ht]; exact h1)
      omega) (fun b hb => by cases hb)
    rw [List.append_nil] at this
    rw [this]
  · rw [if_neg (by decide), if_pos rfl, ht]
  · rw [if_neg (by decide), if_neg (by decide), ht]
    have hsp : l.filter (fun y => keepN fs F X.1 y.1) = (l.take i).filter (fun y => keepN fs F X.1 y.1) ++ (l.drop i).filter (fun y => keepN fs F X.1 y.1) := by
      rw [← List.filter_append, List.take_append_drop]
    rw [hsp]
    refine (insG_split ?_ ?_).symm
    · intro a ha
      obtain ⟨h1, h2⟩ := List.mem_filter.1 ha
      have h3 := keepN_ne h2
      have h4' := h4 a h1
      omega
    · intro b hb
      obtain ⟨h1, h2⟩ := List.mem_filter.1 hb
      obtain ⟨j, hj, rfl⟩ := List.getElem_of_mem h1
      rw [List.getElem_drop]
      rw [List.length_drop] at hj
      rcases Nat.eq_zero_or_pos j with rfl | hpos
      · simp only [Nat.add_zero]; omega
      · have := hr.at (i := i) (j := i + j) (by omega) (by omega)
        omega
theorem SetSt.len {kp : SV → Bool} {n : Int} {X : SV} {pl : Bool} {l : List SV} {k : Nat} {pb : Bool} {L : List SV} (h : SetSt kp n X pl l k pb L) : L.length ≤ k + 1 ∧ (pb = true → L.length ≤ k) ∧ L.length ≤ l.length + 1 := by
  rcases h with ⟨_, _, rfl, _⟩ | ⟨_, _, rfl⟩ | ⟨rfl, _, i, hi, _, _, rfl⟩
  · have := List.length_filter_le kp (l.take k); rw [List.length_take] at this; exact ⟨by omega, fun _ => by omega, by omega⟩
  · have := List.length_filter_le kp (l.take k); rw [List.length_take] at this; exact ⟨by omega, fun _ => by omega, by omega⟩
  · have h1 := List.length_filter_le kp (l.take i)
    have h2 := List.length_filter_le kp ((l.take k).drop i)
    rw [List.length_take] at h1
    rw [List.length_drop, List.length_take] at h2
    rw [List.length_append, List.length_cons]
    exact ⟨by omega, fun h => (by cases h), by omega⟩
end Go.Proofs.YtplgegffapikoaaDoor
set_option linter.unusedVariables false
namespace Go.Proofs.YtplgegffapikoaaDoor
open Go.RowKit
set_option maxRecDepth 100000 in
set_option maxHeartbeats 3200000 in
theorem empty_any (f : Fld) (bf of : Nat) (x : Val) (a1 a2 a3 : Option Addr) (c1 c2 c3 : Nat) (w : World) (hk : w.cell? ⟨bf, of + 2, none⟩ = some (.int .i64 f.kind)) (hm : w.cell? ⟨bf, of + 4, none⟩ = some (.bool f.many)) (hc : w.cell? ⟨bf, of + 5, none⟩ = some (.int .i64 f.choice))
    (hbf : bf < w.heap.size) (h1 : RdS DU64 1 All w (.slice a1 x.2.1.length c1) x.2.1) (h2 : RdS DBytes 1 All w (.slice a2 x.2.2.1.length c2) x.2.2.1) :
    Calls Tryd.prog 35 #[.pointer (some ⟨bf, of, none⟩), .agg #[.int .i64 x.1, .slice a1 x.2.1.length c1, .slice a2 x.2.2.1.length c2, .slice a3 x.2.2.2.length c3]] w fun e w' => e = .returned (.bool (plainN f x)) ∧ Up w w' := by
  obtain ⟨xn, xb, xy, xs⟩ := x
  simp only at h1 h2
  simp only
  obtain ⟨fn, fnum, fk, ft, fm, fc⟩ := f
  simp only at hk hm hc
  have hpl : plainN ⟨fn, fnum, fk, ft, fm, fc⟩ (xn, xb, xy, xs) = (!(fm || decide (0 < fc) || fk == 10) && ((xb == [0]) || (xy == [[]]))) := rfl
  rw [hpl]
  clear hpl
  cases fm with
  | true =>
    clear h1 h2
    go_enter Tryd.func35, Tryd.ntmps35
    go_wp2_with fail
    go_ret
    exact ⟨ret_bool (by simp), (Up.refl w).alloc _⟩
  | false =>
    by_cases hfc : 0 < fc
    · have dc : decide (0 < fc) = true := decide_eq_true hfc
      clear h1 h2
      go_enter Tryd.func35, Tryd.ntmps35
      go_wp2_with fail
      go_ret
      exact ⟨ret_bool (by simp [hfc]), (Up.refl w).alloc _⟩
    · have dc : decide (0 < fc) = false := decide_eq_false hfc
      rw [dc]
      cases hfk : (fk == 10) with
      | true =>
        clear h1 h2
        go_enter Tryd.func35, Tryd.ntmps35
        go_wp2_with fail
        go_ret
        exact ⟨ret_bool (by simp), (Up.refl w).alloc _⟩
      | false =>
        have q1 : xb = [0] ∨ (∃ n, n ≠ 0 ∧ xb = [n]) ∨ xb.length ≠ 1 := by
          rcases xb with _ | ⟨n, _ | ⟨m, l⟩⟩
          · exact .inr (.inr (by simp))
          · by_cases hn : n = 0
            · subst hn; exact .inl rfl
            · exact .inr (.inl ⟨n, hn, rfl⟩)
          · exact .inr (.inr (by simp))
        have q2 : xy = [[]] ∨ (∃ y, y ≠ [] ∧ xy = [y]) ∨ xy.length ≠ 1 := by
          rcases xy with _ | ⟨n, _ | ⟨m, l⟩⟩
          · exact .inr (.inr (by simp))
          · by_cases hn : n = []
            · subst hn; exact .inl rfl
            · exact .inr (.inl ⟨n, hn, rfl⟩)
          · exact .inr (.inr (by simp))
        rcases q1 with rfl | hq
        · obtain ⟨b1, o1, cs, rfl, hb1, hcs, hd⟩ := h1.head
          obtain ⟨rfl, _⟩ := hd
          have n0 := hcs 0 _ rfl
          simp only [Nat.add_zero, List.length_cons, List.length_nil, Nat.zero_add] at n0 ⊢
          clear h1 h2 hcs q2
          go_enter Tryd.func35, Tryd.ntmps35
          go_wp2_with fail
          go_ret
          exact ⟨ret_bool (by simp []), (Up.refl w).alloc _⟩
        · have q3 : (xb == [0]) = false := by
            rw [beq_eq_false_iff_ne]
            rintro rfl
            rcases hq with ⟨n, hn, h⟩ | h
            · simp at h; exact hn h.symm
            · simp at h
          have q4 : ((xb.length : Int) == 1) = false ∨ ∃ n b1 o1, a1 = some ⟨b1, o1, none⟩ ∧ b1 < w.heap.size ∧ xb.length = 1 ∧ w.cell? ⟨b1, o1, none⟩ = some (.int .u64 (n : Int)) ∧ ((n : Int) == 0) = false := by
            rcases hq with ⟨n, hn, rfl⟩ | h
            · obtain ⟨b1, o1, cs, rfl, hb1, hcs, hd⟩ := h1.head
              obtain ⟨rfl, _⟩ := hd
              have n0 := hcs 0 _ rfl
              simp only [Nat.add_zero] at n0
              exact .inr ⟨n, b1, o1, rfl, hb1, rfl, n0, by rw [beq_eq_false_iff_ne]; omega⟩
            · exact .inl (by rw [beq_eq_false_iff_ne]; omega)
          have Q3 := Lib.hid q3
          clear h1 hq q3
          rcases q2 with rfl | hq
          · obtain ⟨b2, o2, cs, rfl, hb2, hcs, hd⟩ := h2.head
            obtain ⟨vy, hd, hy, _⟩ := hd
            subst hd
            obtain ⟨ay, cy, rfl, _, _⟩ := hy.val
            have n0 := hcs 0 _ rfl
            simp only [Nat.add_zero, List.length_cons, List.length_nil, Nat.zero_add] at n0 ⊢
            clear h2 hcs hy
            rcases q4 with q4 | ⟨n, b1, o1, rfl, hb1, hl1, n1, n2⟩
            · go_enter Tryd.func35, Tryd.ntmps35
              go_wp2_with fail
              go_ret
              exact ⟨ret_bool (by simp []), (Up.refl w).alloc _⟩
            · rw [hl1]
              go_enter Tryd.func35, Tryd.ntmps35
              go_wp2_with fail
              go_ret
              exact ⟨ret_bool (by simp []), (Up.refl w).alloc _⟩
          · have q5 : (xy == [[]]) = false := by
              rw [beq_eq_false_iff_ne]
              rintro rfl
              rcases hq with ⟨n, hn, h⟩ | h
              · simp at h; exact hn h
              · simp at h
            have q6 : ((xy.length : Int) == 1) = false ∨ ∃ (y : List UInt8) (b2 o2 : Nat) (ay : Option Addr) (cy : Nat), a2 = some ⟨b2, o2, none⟩ ∧ b2 < w.heap.size ∧ xy.length = 1 ∧ w.cell? ⟨b2, o2, none⟩ = some (.slice ay y.length cy) ∧ ((y.length : Int) == 0) = false := by
              rcases hq with ⟨y, hn, rfl⟩ | h
              · obtain ⟨b2, o2, cs, rfl, hb2, hcs, hd⟩ := h2.head
                obtain ⟨vy, hd, hy, _⟩ := hd
                subst hd
                obtain ⟨ay, cy, rfl, _, _⟩ := hy.val
                have n0 := hcs 0 _ rfl
                simp only [Nat.add_zero] at n0
                exact .inr ⟨y, b2, o2, ay, cy, rfl, hb2, rfl, n0, by rw [beq_eq_false_iff_ne]; have := List.length_pos_iff.2 hn; omega⟩
              · exact .inl (by rw [beq_eq_false_iff_ne]; omega)
            rw [q5, Q3.out]
            clear h2 hq q5
            rcases q4 with q4 | ⟨n, b1, o1, rfl, hb1, hl1, n1, n2⟩
            · rcases q6 with q6 | ⟨y, b2, o2, ay, cy, rfl, hb2, hl2, n3, n4⟩
              · go_enter Tryd.func35, Tryd.ntmps35
                go_wp2_with fail
                go_ret
                exact ⟨ret_bool (by simp []), (Up.refl w).alloc _⟩
              · rw [hl2]
                clear hl2
                go_enter Tryd.func35, Tryd.ntmps35
                go_wp2_with fail
                go_ret
                exact ⟨ret_bool (by simp []), (Up.refl w).alloc _⟩
            · rw [hl1]
              clear hl1
              rcases q6 with q6 | ⟨y, b2, o2, ay, cy, rfl, hb2, hl2, n3, n4⟩
              · go_enter Tryd.func35, Tryd.ntmps35
                go_wp2_with fail
                go_ret
                exact ⟨ret_bool (by simp []), (Up.refl w).alloc _⟩
              · rw [hl2]
                clear hl2
                go_enter Tryd.func35, Tryd.ntmps35
                go_wp2_with fail
                go_ret
                exact ⟨ret_bool (by simp []), (Up.refl w).alloc _⟩
end Go.Proofs.YtplgegffapikoaaDoor
