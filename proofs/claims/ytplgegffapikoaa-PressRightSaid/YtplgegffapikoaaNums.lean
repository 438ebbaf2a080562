/-
  codec.Numbers.
-/
import Derived.Test.YtplgegffapikoaaSortLay
import Derived.Test.YtplgegffapikoaaHowField
import Derived.Test.YtplgegffapikoaaOwn
import Derived.Test.YtplgegffapikoaaDrew
import Derived.Lib.SortBridge
set_option linter.unusedVariables false
namespace Go.Proofs.Ytplgegffapikoaa
open Go.RowKit Go.Shelf Go.Lib Go.Sort
theorem ltC (x y : Int) : ltOf Lib.compareInt x y = decide (x < y) := by
  unfold ltOf Lib.compareInt
  by_cases h1 : x < y
  · simp [h1]
  · by_cases h2 : y < x <;> simp [h1, h2]
theorem swoC : SWO (ltOf Lib.compareInt) where
  irrefl x := by rw [ltC]; simp
  trans x y z h1 h2 := by rw [ltC] at *; simp at *; omega
  ntrans x y z h1 h2 := by rw [ltC] at *; simp at *; omega
theorem totC (x y : Int) (h1 : ltOf Lib.compareInt x y = false) (h2 : ltOf Lib.compareInt y x = false) : x = y := by rw [ltC] at *; simp at *; omega
theorem leC : (fun x y : Int => !ltOf Lib.compareInt y x) = fun x y => decide (x ≤ y) := by
  funext x y
  rw [ltC]
  by_cases h : x ≤ y
  · have h' : ¬ y < x := by omega
    simp [h, h']
  · have h' : y < x := by omega
    simp [h, h']
theorem cmp_reads (blk off size : Nat) (w : World) : CmpReads Try.prog 84 #[] (Value.int .i64) Lib.compareInt blk off size w := fun _ _ _ _ x y => by
  refine (AnyG.cmp_Compare_int Try.cmpL x y _).mono ?_
  rintro e w' ⟨he, hw⟩
  exact ⟨he, 0, hw⟩
theorem take_putCells (s : List Int) (cur : Array Value) (h : s.length ≤ cur.size) : (putCells (Value.int .i64) 0 s.toArray cur).toList.take s.length = s.map (Value.int .i64) := by
  apply List.ext_getElem?
  intro j
  rw [List.getElem?_take, List.getElem?_map]
  by_cases hj : j < s.length
  · rw [if_pos hj, Array.getElem?_toList, putCells, Array.getElem?_mapIdx, Array.getElem?_eq_getElem (by omega)]
    simp [hj]
  · rw [if_neg hj, List.getElem?_eq_none (by omega)]
    rfl
theorem flat1 : ∀ l : List Int, (l.map (fun x => [Value.int .i64 x])).flatten = l.map (Value.int .i64)
  | [] => rfl
  | a :: l => by simpa using flat1 l
set_option maxRecDepth 100000 in
theorem sort_own (base : Nat) (v : Value) (l : List Int) (w : World) (h : OwnS DInt base 3 1 No w v l) (hl : l.length < 4611686018427387904) :
    Calls Try.prog 83 #[v, .func (.func 84) #[] #[]] w fun e w' => e = .returned (.tuple #[]) ∧ OwnS DInt base 3 1 No w' v (l.mergeSort fun x y => decide (x ≤ y)) ∧ Evo w w' v v := by
  obtain ⟨css, h1, h2, h3⟩ := h
  have hfl : css.flatten = l.map (Value.int .i64) := by
    have : css = l.map (fun x => [Value.int .i64 x]) := by
      apply List.ext_getElem?
      intro i
      by_cases hi : i < l.length
      · obtain ⟨cs, h4, h5, h6⟩ := h3 i hi
        rw [h4, List.getElem?_map, List.getElem?_eq_getElem hi]
        rw [h6.1]; rfl
      · rw [List.getElem?_eq_none (by omega), List.getElem?_eq_none (by simp; omega)]
    rw [this, flat1]
  rw [hfl] at h2
  rcases h2.2 with ⟨rfl, h0⟩ | ⟨g, cap, cur, rfl, hb, hg, hn, hm, hs, ht⟩
  · have : l = [] := List.eq_nil_of_length_eq_zero h0
    subst this
    refine (AnyF.slices_SortFunc_none (P := Try.prog) (ρ := Try.sortL_ren) { Try.sortL with } none 0 _ w).mono ?_
    rintro e w' ⟨rfl, rfl⟩
    exact ⟨rfl, by rw [List.mergeSort_nil]; exact OwnS.nil _ _ _ _ _ _, Evo.refl _ _⟩
  · have hgz := lt_of_block hg
    have hcur : l.length ≤ cur.size := by rw [hs]; omega
    rw [Nat.mul_one] at ht
    have hget : ∀ j, (hj : j < l.length) → cur[j]? = some (.int .i64 l[j]) := fun j hj => by
      have h := congrArg (fun x : List Value => x[j]?) ht
      simp only [List.getElem?_take, if_pos hj, List.getElem?_map, List.getElem?_eq_getElem hj, Array.getElem?_toList] at h
      simpa using h
    have hH : Holds (Value.int .i64) w g 0 l.toArray := fun j hj => by
      have hj' : j < l.length := by simpa using hj
      refine ⟨?_, frozen_of_row w g _ _ _ hg⟩
      rw [cell_of_row w g _ _ _ _ hg, Nat.zero_add, hget j hj']
      simp [hj']
    have hS := Any.slices_SortFunc_total Try.sortL (Value.int .i64) (fun _ => rfl) Lib.compareInt swoC 84 #[] g 0 cap l.toArray w (enters_of Try.func84 (by kernel_rfl) rfl) (cmp_reads g 0 _ w).lays hH hgz (by simpa using hl) totC
    rw [leC] at hS
    refine hS.mono ?_
    rintro e w' ⟨rfl, n, os, rfl⟩
    rw [List.toList_toArray]
    have hsl : (l.mergeSort fun x y => decide (x ≤ y)).length = l.length := List.length_mergeSort _
    have hmem : ∀ x ∈ l.mergeSort fun x y => decide (x ≤ y), x ∈ l := fun x hx => List.mem_mergeSort.1 hx
    generalize (l.mergeSort fun x y => decide (x ≤ y)) = s at *
    have hsz : (putRow (Value.int .i64) (Sort.ahead w n) g 0 s.toArray).heap.size = w.heap.size := by unfold putRow mapBlock Sort.ahead; simp
    have hh : (sortWorld (Value.int .i64) w g 0 n s.toArray os).heap[g]? = some (.cells (putCells (Value.int .i64) 0 s.toArray cur) 3 (0, 0)) := by
      unfold sortWorld
      rw [Sort.heap_grow_old _ _ (by rw [hsz]; exact hgz)]
      unfold putRow mapBlock Sort.ahead
      simp [Array.getElem?_modify, hg, onCells]
    refine ⟨rfl, ⟨s.map (fun x => [Value.int .i64 x]), by simp, ⟨by rw [flat1]; simp, .inr ⟨g, cap, putCells (Value.int .i64) 0 s.toArray cur, ?_, hb, hh, by omega, hm, ?_, ?_⟩⟩, fun i hi => ?_⟩, ⟨?_, fun k hk => .inl hk⟩⟩
    · rw [hsl]
    · rw [← hs]; simp [putCells]
    · rw [Nat.mul_one, take_putCells s cur (by omega)]
      exact (flat1 s).symm
    · refine ⟨[.int .i64 s[i]], by rw [List.getElem?_map, List.getElem?_eq_getElem hi]; rfl, rfl, rfl, ?_⟩
      obtain ⟨j, hj, he⟩ := List.getElem_of_mem (hmem _ (List.getElem_mem hi))
      rw [← he]
      obtain ⟨cs, _, _, h6⟩ := h3 j hj
      exact h6.2
    · refine ⟨rfl, rfl, rfl, ?_, fun k hk hne => ?_⟩
      · unfold sortWorld grow
        rw [Array.size_append, hsz]; omega
      · unfold sortWorld
        rw [Sort.heap_grow_old _ _ (by rw [hsz]; exact hk)]
        unfold putRow mapBlock Sort.ahead
        have : ¬ g = k := fun e => hne (by rw [e]; rfl)
        simp [Array.getElem?_modify, this]
theorem eInt : Elem Try.prog 53 3 1 8 (.int .i64 0) := ⟨Try.underlying53, info_parts (by kernel_rfl), rfl, by decide⟩
set_option maxRecDepth 100000 in
set_option maxHeartbeats 1600000 in
theorem numbers_any (m : Msg) (s vf vb : Value) (w : World) (hs : ∃ b, s = .string b) (hvb : ∃ a l c, vb = .slice a l c) (hv : RdS DFld 6 All w vf m.fields) (hz : m.fields.length ≤ 2199023255552) :
    Calls Try.prog 54 #[.agg #[s, vf, vb]] w fun e w' => ∃ v', e = .returned v' ∧ OwnS DInt w.heap.size 3 1 No w' v' (numsN m) ∧ Up w w' := by
  obtain ⟨b, rfl⟩ := hs
  obtain ⟨x1, x2, x3, rfl⟩ := hvb
  obtain ⟨ao, cap, rfl, hc1, hc2⟩ := hv.val
  have Hv := Lib.hid hv; clear hv
  go_enter Try.func54, Try.ntmps54
  go_wp2_with fail
  go_loopw [9, 3] (fun i v wr => ∃ k : Nat, k ≤ m.fields.length ∧ i = .int .i64 k ∧ OwnS DInt w.heap.size 3 1 No wr v ((m.fields.take k).map (·.number)) ∧ Up w wr) (fun i _ _ => m.fields.length - (intOf i).toNat)
  case atStart => exact ⟨0, by omega, rfl, OwnS.nil _ _ _ _ _ _, (Up.refl w).alloc _⟩
  case round =>
    obtain ⟨k, hk, rfl, how, hu⟩ := hrel
    have How := Lib.hid how; clear how
    by_cases hlt : k < m.fields.length
    · obtain ⟨b2, o2, cs, rfl, hb, hl, hcs, hd⟩ := (Hv.out.up stable_fld hu).at hlt
      obtain ⟨hd, hx⟩ := hd
      subst hd
      have c0 := hcs 0 _ rfl
      have c1 := hcs 1 _ rfl
      have c2 := hcs 2 _ rfl
      have c3 := hcs 3 _ rfl
      have c4 := hcs 4 _ rfl
      have c5 := hcs 5 _ rfl
      simp only [Nat.add_zero] at c0
      have k0 : (0 : Int) ≤ (k : Int) := by omega
      have k1 : (k : Int) < (m.fields.length : Int) := by omega
      have hsn : (m.fields.take (k + 1)).map (·.number) = (m.fields.take k).map (·.number) ++ [m.fields[k].number] := by rw [List.take_succ_eq_append_getElem hlt, List.map_append]; rfl
      have hll : ((m.fields.take k).map (·.number)).length + 1 ≤ m.fields.length := by rw [List.length_map, List.length_take]; omega
      have Hsn := Lib.hid hsn; have Hx := Lib.hid hx; have Hu := Lib.hid hu
      clear hcs hl hsn hx hu
      generalize (m.fields.take k).map (·.number) = L at *
      generalize m.fields[k] = x at *
      obtain ⟨wo, rfl⟩ : ∃ wo : World, wo = wr := ⟨_, rfl⟩
      go_upto_region 5 with (fail)
      have hy := blk_new wo (.cells #[.string ⟨x.name.toArray⟩, .int .i64 x.number, .int .i64 x.kind, .string ⟨x.type.toArray⟩, .bool x.many, .int .i64 x.choice] 74) rfl
      have huy := (Up.refl wo).alloc (.cells #[.string ⟨x.name.toArray⟩, .int .i64 x.number, .int .i64 x.kind, .string ⟨x.type.toArray⟩, .bool x.many, .int .i64 x.choice] 74)
      have Hy := Lib.hid hy; have Huy := Lib.hid huy
      generalize hwy : wo.alloc (.cells #[.string ⟨x.name.toArray⟩, .int .i64 x.number, .int .i64 x.kind, .string ⟨x.type.toArray⟩, .bool x.many, .int .i64 x.choice] 74) = wy at *
      have p1 : wy.cell? ⟨wo.heap.size, 1, none⟩ = some (.int .i64 x.number) := cell_of_row wy _ 1 _ _ _ Hy.out
      clear hwy hy huy c0 c1 c2 c3 c4 c5
      obtain ⟨xs, hxs⟩ := (How.out.up stable_int Huy.out).own
      have Hxs := Lib.hid hxs; clear hxs
      have hwz : w.heap.size ≤ wy.heap.size := Nat.le_trans Hu.out.size Huy.out.size
      go_wp2_with (first
        | (at_builtin; go_must (refine wpList_app1 eInt _ (by rfl) _ _ (by rfl) w.heap.size _ _ _ (by rfl) Hxs.out _ (by rfl) (by first | rfl | simp) (by rfl) (oc (by rfl)) (by omega) (by unfold maxLen; omega) (by first | omega | (simp; omega)) ?_; intro v3 w3 how3 hev3; have How3 := Lib.hid how3; have Hev3 := Lib.hid hev3; clear how3 hev3)))
      go_roundw
      case rel =>
        refine ⟨k + 1, by omega, by go_num, ?_, Up.evo (Hu.out.trans Huy.out) Hev3.out (fun j hj => (How.out.lo j hj).1)⟩
        rw [Hsn.out]
        exact OwnS.snoc stable_int (a := x.number) (How.out.up stable_int Huy.out) Hxs.out How3.out Hev3.out (by rfl) ⟨rfl, Hx.out.1⟩
      case measure => simp [intOf]; omega
    · have hfin : m.fields.take k = m.fields := List.take_of_length_le (by omega)
      have how := How.out
      rw [hfin] at how
      obtain ⟨ao2, co2, rfl⟩ := own_val how.own.choose_spec
      have hso := sort_own _ _ _ wr how (by rw [List.length_map]; omega)
      simp only [List.length_map] at hso
      have Hso := Lib.hid hso; clear hso
      have hlo := how.lo
      simp only [List.length_map] at hlo
      have Hlo := Lib.hid hlo; clear hlo
      clear how How hfin
      go_wp2_with fail
      (with_reducible refine Hso.out.mono ?_)
      rintro e w2 ⟨rfl, how2, hev2⟩
      go_wp2_with fail
      go_ret
      exact ⟨_, rfl, how2, Up.evo hu hev2 (fun j hj => (Hlo.out j hj).1)⟩
end Go.Proofs.Ytplgegffapikoaa
