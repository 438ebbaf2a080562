/-
  codec.Numbers, beside the codec's plain texts (turned from XNums).
  presslaw5.alive.
  What nobody knows is kept, in plain Lean.
  The codec's turns, in plain Lean.
  Many numbers one by one, in plain Lean.
-/
import Derived.Test.YtbceapeoknngnaaGreatDoorCp45
import Derived.Test.YtbceapeoknngnaaGreatDoorCp11
import Derived.Outline
import Derived.Deep.DeepMust
import Derived.Test.YtbceapeoknngnaaGreatDoorCp06
import Derived.Test.YtbceapeoknngnaaGreatDoorCp05
import Derived.Lib.SortBridge
set_option linter.unusedVariables false
namespace Go.Proofs.YtbceapeoknngnaaGreatDoor
open Go.RowKit Go.Shelf Go.Lib Go.Sort
def numsC (m : Msg) : List Int := (m.fields.map (·.number)).mergeSort (fun x y => decide (x ≤ y))
theorem ltC (x y : Int) : ltOf Lib.compareInt x y = decide (x < y) := by
  unfold ltOf Lib.compareInt
  by_cases h1 : x < y
  · simp [h1]
  · by_cases h2 : y < x <;> simp [h1, h2]
theorem swoC : SWO (ltOf Lib.compareInt) where
  irrefl x := by rw [ltC]; simp
  trans x y z h1 h2 := by rw [ltC] at *; simp at *; omega
  ntrans x y z h1 h2 := by rw [ltC] at *; simp at *; omega
theorem totC (x y : Int) (h1 : ltOf Lib.compareInt x y = false) (h2 : ltOf Lib.compareInt y x = false) : x = y := by rw [ltC] at *; simp at *; omega
theorem leC : (fun x y : Int => !ltOf Lib.compareInt y x) = fun x y => decide (x ≤ y) := by
  funext x y
  rw [ltC]
  by_cases h : x ≤ y
  · have h' : ¬ y < x := by omega
    simp [h, h']
  · have h' : y < x := by omega
    simp [h, h']
theorem cmp_reads (blk off size : Nat) (w : World) : CmpReads Tryz.prog 47 #[] (Value.int .i64) Lib.compareInt blk off size w := fun _ _ _ _ x y => by
  refine (AnyG.cmp_Compare_int Tryz.cmpL x y _).mono ?_
  rintro e w' ⟨he, hw⟩
  exact ⟨he, 0, hw⟩
theorem take_putCells (s : List Int) (cur : Array Value) (h : s.length ≤ cur.size) : (putCells (Value.int .i64) 0 s.toArray cur).toList.take s.length = s.map (Value.int .i64) := by
  apply List.ext_getElem?
  intro j
  rw [List.getElem?_take, List.getElem?_map]
  by_cases hj : j < s.length
  · rw [if_pos hj, Array.getElem?_toList, putCells, Array.getElem?_mapIdx, Array.getElem?_eq_getElem (by omega)]
    simp [hj]
  · rw [if_neg hj, List.getElem?_eq_none (by omega)]
    rfl
theorem flat1 : ∀ l : List Int, (l.map (fun x => [Value.int .i64 x])).flatten = l.map (Value.int .i64)
  | [] => rfl
  | a :: l => by simpa using flat1 l
set_option maxRecDepth 100000 in
theorem sort_own (base : Nat) (v : Value) (l : List Int) (w : World) (h : OwnS DInt base 3 1 No w v l) (hl : l.length < 4611686018427387904) :
    Calls Tryz.prog 50 #[v, .func (.func 47) #[] #[]] w fun e w' => e = .returned (.tuple #[]) ∧ OwnS DInt base 3 1 No w' v (l.mergeSort fun x y => decide (x ≤ y)) ∧ Evo w w' v v := by
  obtain ⟨css, h1, h2, h3⟩ := h
  have hfl : css.flatten = l.map (Value.int .i64) := by
    have : css = l.map (fun x => [Value.int .i64 x]) := by
      apply List.ext_getElem?
      intro i
      by_cases hi : i < l.length
      · obtain ⟨cs, h4, h5, h6⟩ := h3 i hi
        rw [h4, List.getElem?_map, List.getElem?_eq_getElem hi]
        rw [h6.1]; rfl
      · rw [List.getElem?_eq_none (by omega), List.getElem?_eq_none (by simp; omega)]
    rw [this, flat1]
  rw [hfl] at h2
  rcases h2.2 with ⟨rfl, h0⟩ | ⟨g, cap, cur, rfl, hb, hg, hn, hm, hs, ht⟩
  · have : l = [] := List.eq_nil_of_length_eq_zero h0
    subst this
    refine (AnyF.slices_SortFunc_none (P := Tryz.prog) (ρ := Tryz.sortL_ren) { Tryz.sortL with } none 0 _ w).mono ?_
    rintro e w' ⟨rfl, rfl⟩
    exact ⟨rfl, by rw [List.mergeSort_nil]; exact OwnS.nil _ _ _ _ _ _, Evo.refl _ _⟩
  · have hgz := lt_of_block hg
    have hcur : l.length ≤ cur.size := by rw [hs]; omega
    rw [Nat.mul_one] at ht
    have hget : ∀ j, (hj : j < l.length) → cur[j]? = some (.int .i64 l[j]) := fun j hj => by
      have h := congrArg (fun x : List Value => x[j]?) ht
      simp only [List.getElem?_take, if_pos hj, List.getElem?_map, List.getElem?_eq_getElem hj, Array.getElem?_toList] at h
      simpa using h
    have hH : Holds (Value.int .i64) w g 0 l.toArray := fun j hj => by
      have hj' : j < l.length := by simpa using hj
      refine ⟨?_, frozen_of_row w g _ _ _ hg⟩
      rw [cell_of_row w g _ _ _ _ hg, Nat.zero_add, hget j hj']
      simp [hj']
    have hS := Any.slices_SortFunc_total Tryz.sortL (Value.int .i64) (fun _ => rfl) Lib.compareInt swoC 47 #[] g 0 cap l.toArray w (enters_of Tryz.func47 (by kernel_rfl) rfl) (cmp_reads g 0 _ w).lays hH hgz (by simpa using hl) totC
    rw [leC] at hS
    refine hS.mono ?_
    rintro e w' ⟨rfl, n, os, rfl⟩
    rw [List.toList_toArray]
    have hsl : (l.mergeSort fun x y => decide (x ≤ y)).length = l.length := List.length_mergeSort _
    have hmem : ∀ x ∈ l.mergeSort fun x y => decide (x ≤ y), x ∈ l := fun x hx => List.mem_mergeSort.1 hx
    generalize (l.mergeSort fun x y => decide (x ≤ y)) = s at *
    have hsz : (putRow (Value.int .i64) (Sort.ahead w n) g 0 s.toArray).heap.size = w.heap.size := by unfold putRow mapBlock Sort.ahead; simp
    have hh : (sortWorld (Value.int .i64) w g 0 n s.toArray os).heap[g]? = some (.cells (putCells (Value.int .i64) 0 s.toArray cur) 3 (0, 0)) := by
      unfold sortWorld
      rw [Sort.heap_grow_old _ _ (by rw [hsz]; exact hgz)]
      unfold putRow mapBlock Sort.ahead
      simp [Array.getElem?_modify, hg, onCells]
    refine ⟨rfl, ⟨s.map (fun x => [Value.int .i64 x]), by simp, ⟨by rw [flat1]; simp, .inr ⟨g, cap, putCells (Value.int .i64) 0 s.toArray cur, ?_, hb, hh, by omega, hm, ?_, ?_⟩⟩, fun i hi => ?_⟩, ⟨?_, fun k hk => .inl hk⟩⟩
    · rw [hsl]
    · rw [← hs]; simp [putCells]
    · rw [Nat.mul_one, take_putCells s cur (by omega)]
      exact (flat1 s).symm
    · refine ⟨[.int .i64 s[i]], by rw [List.getElem?_map, List.getElem?_eq_getElem hi]; rfl, rfl, rfl, ?_⟩
      obtain ⟨j, hj, he⟩ := List.getElem_of_mem (hmem _ (List.getElem_mem hi))
      rw [← he]
      obtain ⟨cs, _, _, h6⟩ := h3 j hj
      exact h6.2
    · refine ⟨rfl, rfl, rfl, ?_, fun k hk hne => ?_⟩
      · unfold sortWorld grow
        rw [Array.size_append, hsz]; omega
      · unfold sortWorld
        rw [Sort.heap_grow_old _ _ (by rw [hsz]; exact hk)]
        unfold putRow mapBlock Sort.ahead
        have : ¬ g = k := fun e => hne (by rw [e]; rfl)
        simp [Array.getElem?_modify, this]
theorem eInt : Elem Tryz.prog 30 3 1 8 (.int .i64 0) := ⟨Tryz.underlying30, info_parts (by kernel_rfl), rfl, by decide⟩
set_option maxRecDepth 100000 in
set_option maxHeartbeats 1600000 in
theorem numbers_any (m : Msg) (s vf vb : Value) (w : World) (hs : ∃ b, s = .string b) (hvb : ∃ a l c, vb = .slice a l c) (hv : RdS DFld 6 All w vf m.fields) (hz : m.fields.length ≤ 2199023255552) :
    Calls Tryz.prog 23 #[.agg #[s, vf, vb]] w fun e w' => ∃ v', e = .returned v' ∧ OwnS DInt w.heap.size 3 1 No w' v' (numsC m) ∧ Up w w' := by
  obtain ⟨b, rfl⟩ := hs
  obtain ⟨x1, x2, x3, rfl⟩ := hvb
  obtain ⟨ao, cap, rfl, hc1, hc2⟩ := hv.val
  have Hv := Lib.hid hv; clear hv
  go_enter Tryz.func23, Tryz.ntmps23
  go_wp2_with fail
  go_loopw [9, 3] (fun i v wr => ∃ k : Nat, k ≤ m.fields.length ∧ i = .int .i64 k ∧ OwnS DInt w.heap.size 3 1 No wr v ((m.fields.take k).map (·.number)) ∧ Up w wr) (fun i _ _ => m.fields.length - (intOf i).toNat)
  case atStart => exact ⟨0, by omega, rfl, OwnS.nil _ _ _ _ _ _, (Up.refl w).alloc _⟩
  case round =>
    obtain ⟨k, hk, rfl, how, hu⟩ := hrel
    have How := Lib.hid how; clear how
    by_cases hlt : k < m.fields.length
    · obtain ⟨b2, o2, cs, rfl, hb, hl, hcs, hd⟩ := (Hv.out.up stable_fld hu).at hlt
      obtain ⟨hd, hx⟩ := hd
      subst hd
      have c0 := hcs 0 _ rfl
      have c1 := hcs 1 _ rfl
      have c2 := hcs 2 _ rfl
      have c3 := hcs 3 _ rfl
      have c4 := hcs 4 _ rfl
      have c5 := hcs 5 _ rfl
      simp only [Nat.add_zero] at c0
      have k0 : (0 : Int) ≤ (k : Int) := by omega
      have k1 : (k : Int) < (m.fields.length : Int) := by omega
      have hsn : (m.fields.take (k + 1)).map (·.number) = (m.fields.take k).map (·.number) ++ [m.fields[k].number] := by rw [List.take_succ_eq_append_getElem hlt, List.map_append]; rfl
      have hll : ((m.fields.take k).map (·.number)).length + 1 ≤ m.fields.length := by rw [List.length_map, List.length_take]; omega
      have Hsn := Lib.hid hsn; have Hx := Lib.hid hx; have Hu := Lib.hid hu
      clear hcs hl hsn hx hu
      generalize (m.fields.take k).map (·.number) = L at *
      generalize m.fields[k] = x at *
      obtain ⟨wo, rfl⟩ : ∃ wo : World, wo = wr := ⟨_, rfl⟩
      go_upto_region 5 with (fail)
      have hy := blk_new wo (.cells #[.string ⟨x.name.toArray⟩, .int .i64 x.number, .int .i64 x.kind, .string ⟨x.type.toArray⟩, .bool x.many, .int .i64 x.choice] 40) rfl
      have huy := (Up.refl wo).alloc (.cells #[.string ⟨x.name.toArray⟩, .int .i64 x.number, .int .i64 x.kind, .string ⟨x.type.toArray⟩, .bool x.many, .int .i64 x.choice] 40)
      have Hy := Lib.hid hy; have Huy := Lib.hid huy
      generalize hwy : wo.alloc (.cells #[.string ⟨x.name.toArray⟩, .int .i64 x.number, .int .i64 x.kind, .string ⟨x.type.toArray⟩, .bool x.many, .int .i64 x.choice] 40) = wy at *
      have p1 : wy.cell? ⟨wo.heap.size, 1, none⟩ = some (.int .i64 x.number) := cell_of_row wy _ 1 _ _ _ Hy.out
      clear hwy hy huy c0 c1 c2 c3 c4 c5
      obtain ⟨xs, hxs⟩ := (How.out.up stable_int Huy.out).own
      have Hxs := Lib.hid hxs; clear hxs
      have hwz : w.heap.size ≤ wy.heap.size := Nat.le_trans Hu.out.size Huy.out.size
      go_wp2_with (first
        | (at_builtin; go_must (refine wpList_app1 eInt _ (by rfl) _ _ (by rfl) w.heap.size _ _ _ (by rfl) Hxs.out _ (by rfl) (by first | rfl | simp) (by rfl) (oc (by rfl)) (by omega) (by unfold maxLen; omega) (by first | omega | (simp; omega)) ?_; intro v3 w3 how3 hev3; have How3 := Lib.hid how3; have Hev3 := Lib.hid hev3; clear how3 hev3)))
      go_roundw
      case rel =>
        refine ⟨k + 1, by omega, by go_num, ?_, Up.evo (Hu.out.trans Huy.out) Hev3.out (fun j hj => (How.out.lo j hj).1)⟩
        rw [Hsn.out]
        exact OwnS.snoc stable_int (a := x.number) (How.out.up stable_int Huy.out) Hxs.out How3.out Hev3.out (by rfl) ⟨rfl, Hx.out.1⟩
      case measure => simp [intOf]; omega
    · have hfin : m.fields.take k = m.fields := List.take_of_length_le (by omega)
      have how := How.out
      rw [hfin] at how
      obtain ⟨ao2, co2, rfl⟩ := own_val how.own.choose_spec
      have hso := sort_own _ _ _ wr how (by rw [List.length_map]; omega)
      simp only [List.length_map] at hso
      have Hso := Lib.hid hso; clear hso
      have hlo := how.lo
      simp only [List.length_map] at hlo
      have Hlo := Lib.hid hlo; clear hlo
      clear how How hfin
      go_wp2_with fail
      (with_reducible refine Hso.out.mono ?_)
      rintro e w2 ⟨rfl, how2, hev2⟩
      go_wp2_with fail
      go_ret
      exact ⟨_, rfl, how2, Up.evo hu hev2 (fun j hj => (Hlo.out j hj).1)⟩
end Go.Proofs.YtbceapeoknngnaaGreatDoor
set_option linter.unusedVariables false
namespace Go.Proofs.YtbceapeoknngnaaGreatDoor
open Go.RowKit
theorem run_msgs (a b : Value) (W : World) : (Instr.field 25 (.agg #[a, b]) 0).run Tryz.prog W = .ok a W := by
  simp [Instr.field, go_sem]
  rfl
theorem nums_C : (numsC (fileC.msgs[0]'(by decide))).length = 2 := by
  unfold numsC
  rw [List.length_mergeSort]
  rfl
set_option maxRecDepth 100000 in
set_option maxHeartbeats 6400000 in
theorem alive_5 (w : World) (hT : Tabs w) : Calls Tryz.prog 27 #[] w fun e w' => e = .returned (.bool true) ∧ Up w w' := by
  have HT := Lib.hid hT
  clear hT
  have hhw := how_c 7
  have Hhw := Lib.hid hhw
  clear hhw
  go_enter Tryz.func27, Tryz.ntmps27
  go_wp2_with (go_at_call 55; go_must (refine (file_c _).mono ?_; rintro e w1 ⟨mb, rfl, hfa, hu1⟩; have Hfa := Lib.hid hfa; have Hu1 := Lib.hid hu1; clear hfa hu1))
  have hbb := blk_old (.cells #[.int .i64 1, .slice (some ⟨w1.heap.size, 0, none⟩) 2 2, .slice none 0 0, .slice none 0 0] 53) (blk_new w1 (.cells #[.int .u64 1, .int .u64 2] 54) (g := w1.heap.size) rfl)
  have hbv := blk_new (w1.alloc (.cells #[.int .u64 1, .int .u64 2] 54)) (.cells #[.int .i64 1, .slice (some ⟨w1.heap.size, 0, none⟩) 2 2, .slice none 0 0, .slice none 0 0] 53) (g := w1.heap.size + 1) (by simp)
  have hu2 := ((Up.refl w1).alloc (.cells #[.int .u64 1, .int .u64 2] 54)).alloc (.cells #[.int .i64 1, .slice (some ⟨w1.heap.size, 0, none⟩) 2 2, .slice none 0 0, .slice none 0 0] 53)
  generalize hW2 : (w1.alloc (.cells #[.int .u64 1, .int .u64 2] 54)).alloc (.cells #[.int .i64 1, .slice (some ⟨w1.heap.size, 0, none⟩) 2 2, .slice none 0 0, .slice none 0 0] 53) = w2 at *
  have hda : DBodF 2 All w2 bodC [.slice (some ⟨w1.heap.size + 1, 0, none⟩) 1 1, .slice none 0 0] := by
    refine ⟨_, _, rfl, rds_block (l := bodC.values) hbv trivial (by decide) (fun i hi => ?_), rdS_nil _ _ _ _, by unfold BodSz; decide⟩
    have hi2 : i < 1 := hi
    have : i = 0 := by omega
    subst this
    exact ⟨rfl, ⟨_, _, _, rfl, (show okI 1 by unfold okI; decide), rds_block (l := [1, 2]) hbb trivial (by decide) (fun j hj => by
        have hj2 : j < 2 := hj
        rcases j with _ | _ | j
        · exact ⟨rfl, rfl, (show (1 : Nat) < 2 ^ 64 by decide)⟩
        · exact ⟨rfl, rfl, (show (2 : Nat) < 2 ^ 64 by decide)⟩
        · omega), rdS_nil _ _ _ _, rdS_nil _ _ _ _, (show ValSz ((1 : Int), [1, 2], [], []) by unfold ValSz; decide)⟩⟩
  have Hu2 := Lib.hid (Hu1.out.trans hu2)
  have hby := bytes_c 2 (.agg #[.slice (some ⟨mb, 0, none⟩) 1 1, .slice none 0 0]) (.slice (some ⟨w1.heap.size + 1, 0, none⟩) 1 1) (.slice none 0 0) fileC 0 bodC w2 (Hfa.out.up hu2) hda (HT.out.up (Hu1.out.trans hu2)) (fun _ => by rw [raw_C]; decide)
  rw [bytes_C] at hby
  have Hby := Lib.hid hby
  clear hby hda hbb hbv hu2 hW2 Hfa
  refine Hby.out.mono ?_
  rintro e w3 ⟨v3, rfl, how3, hu3⟩
  obtain ⟨a3, c3, rfl⟩ := own_val how3
  have hr3 : RdB All w3 (.slice a3 4 c3) [10, 2, 2, 4] := rdB_of_owns (l := [10, 2, 2, 4]) how3 (fun _ _ => trivial)
  have Hr3 := Lib.hid hr3; have Hu3 := Lib.hid (Hu2.out.trans hu3)
  clear how3 hu3 hr3 Hby
  go_wp2_with (go_at_call 55; go_must (refine (file_c _).mono ?_; rintro e w4 ⟨mb4, rfl, hfa, hu4⟩; have Hfa4 := Lib.hid hfa; have Hu4 := Lib.hid hu4; clear hfa hu4))
  have hpa := parse_c (.agg #[.slice (some ⟨mb4, 0, none⟩) 1 1, .slice none 0 0]) fileC 0 (.slice a3 4 c3) [10, 2, 2, 4] w4 Hfa4.out (Hr3.out.up stable_u8 Hu4.out) (by decide) (HT.out.up (Hu3.out.trans Hu4.out))
  rw [parse_C] at hpa
  have Hpa := Lib.hid hpa
  clear hpa Hfa4
  refine Hpa.out.mono ?_
  rintro e w5 ⟨vv, vu, rfl, hd5, hu5⟩
  obtain ⟨p1, q1, p2, q2, rfl, rfl, hv5, _, _⟩ := bod_cells hd5
  have Hu5 := Lib.hid ((Hu3.out.trans Hu4.out).trans hu5)
  have hr5 := (Hr3.out.up stable_u8 Hu4.out).up stable_u8 hu5
  clear hd5 hu5 hv5 Hpa
  go_upto_region 3 with (fail)
  have hb6 := blk_new w5 (.cells #[.slice p1 bodC.values.length q1, .slice p2 bodC.unknown.length q2] 29) (g := w5.heap.size) rfl
  have hu6 := (Up.refl w5).alloc (.cells #[.slice p1 bodC.values.length q1, .slice p2 bodC.unknown.length q2] 29)
  have hr6 := hr5.up stable_u8 hu6
  have Hu6 := Lib.hid (Hu5.out.trans hu6)
  generalize hw6 : w5.alloc (.cells #[.slice p1 bodC.values.length q1, .slice p2 bodC.unknown.length q2] 29) = w6 at *
  have l0 : w6.cell? ⟨w5.heap.size, 0, none⟩ = some (.slice p1 1 q1) := cell_of_row w6 _ 0 _ _ _ hb6
  have hc1 := run_conv (P := Tryz.prog) (w := w6) hr6 32 5 9 Tryz.underlying32 Tryz.underlying5 Tryz.underlying9
  have hrb : RdB All (w6.alloc (.cells #[.int .u8 10, .int .u8 2, .int .u8 2, .int .u8 4] 5)) (.slice (some ⟨w6.heap.size, 0, none⟩) 4 4) [10, 2, 2, 4] := rdB_of_block [10, 2, 2, 4] (blk_new w6 _ rfl) rfl trivial rfl (by omega) (by unfold maxLen; omega)
  have hc2 := run_conv (P := Tryz.prog) hrb 32 5 9 Tryz.underlying32 Tryz.underlying5 Tryz.underlying9
  change (convert 32 9 (.slice a3 4 c3)).run Tryz.prog w6 = _ at hc1
  have l0' := ((Up.refl w6).alloc (.cells #[.int .u8 10, .int .u8 2, .int .u8 2, .int .u8 4] 5)).cell_some l0
  clear hr5 hr6 hb6 hu6 hrb hw6 l0
  have hrm := run_msgs
  go_wp2_with (first
    | (go_at_call 21; go_must (refine (Hhw.out _).mono ?_; rintro e w7 ⟨rfl, hw7⟩; subst hw7))
    | (go_at_call 55; go_must (refine (file_c _).mono ?_; rintro e w7 ⟨mb7, rfl, hfa, hu7⟩; obtain ⟨vm7, ve7, he7, hm7, _⟩ := hfa; simp only [Value.agg.injEq, Array.mk.injEq, List.cons.injEq, and_true] at he7; obtain ⟨rfl, rfl⟩ := he7; obtain ⟨mb8, mo8, cs8, hmb, _, _, hcs8, hd8⟩ := hm7.at (i := 0) (by decide); simp only [Option.some.injEq, Addr.mk.injEq, and_true] at hmb; obtain ⟨rfl, rfl⟩ := hmb; obtain ⟨vf8, vb8, hd8, hfs8, hbs8, hnm8⟩ := hd8; subst hd8; obtain ⟨fa8, fc8, rfl, _, _⟩ := hfs8.val; obtain ⟨ba8, bc8, rfl, _, _⟩ := hbs8.val; have k0 := hcs8 0 _ rfl; have k1 := hcs8 1 _ rfl; have k2 := hcs8 2 _ rfl; simp only [Nat.add_zero, Nat.zero_mul] at k0 k1 k2; have Hfs8 := Lib.hid hfs8; have Hu7 := Lib.hid hu7; clear hm7 hcs8 hfs8 hbs8 hu7)))
  have hnu := numbers_any (fileC.msgs[0]'(by decide)) (.string ⟨(fileC.msgs[0]'(by decide)).name.toArray⟩) (.slice fa8 (fileC.msgs[0]'(by decide)).fields.length fc8) (.slice ba8 (fileC.msgs[0]'(by decide)).barred.length bc8) w7 ⟨_, rfl⟩ ⟨_, _, _, rfl⟩ Hfs8.out (by decide)
  refine hnu.mono ?_
  rintro e w8 ⟨v8, rfl, how8, hu8⟩
  obtain ⟨xs, hxs⟩ := how8.own
  obtain ⟨a8, c8, rfl⟩ := own_val hxs
  rw [nums_C]
  have Hu8 := Lib.hid ((Hu6.out.alloc _).trans (Hu7.out.trans hu8))
  clear how8 hxs hu8 hnu
  go_wp2_with fail
  go_ret
  exact ⟨rfl, Hu8.out⟩
end Go.Proofs.YtbceapeoknngnaaGreatDoor
set_option linter.unusedVariables false
namespace Go.Proofs.YtbceapeoknngnaaGreatDoor
open Go.RowKit
theorem addC_unk {jn : Int → Bod → Bod → Bod × Int} {f : Fil} {fs : List Fld} {b : Bod} {x : Fld} {v : Val} (h : (addC jn f fs b x v).2 = 0) : (addC jn f fs b x v).1.unknown = b.unknown := by
  have hf : ∀ u, (finC fs b u).2 = 0 → (finC fs b u).1.unknown = b.unknown := fun u hu => by
    unfold finC at hu ⊢
    split at hu
    · cases hu
    · rename_i h6; rw [if_neg h6]; rfl
  unfold addC at h ⊢
  split
  · rename_i ho; rw [ho] at h; exact hf _ h
  · rename_i o ho
    rw [ho] at h
    simp only at h
    split
    · rename_i hm; rw [if_pos hm] at h; exact hf _ h
    · rename_i hm
      rw [if_neg hm] at h
      split
      · rename_i hk
        rw [if_pos hk] at h
        split
        · rename_i hj; rw [if_pos hj] at h; exact absurd h hj
        · rename_i hj; rw [if_neg hj] at h; exact hf _ h
      · rename_i hk; rw [if_neg hk] at h; exact hf _ h
def unkF (fs : List Fld) (l : List Rec) : List Rec := l.filter fun r => (fldN fs r.number).isNone
theorem unkF_cons (fs : List Fld) (r : Rec) (l : List Rec) : unkF fs (r :: l) = if (fldN fs r.number).isNone = true then r :: unkF fs l else unkF fs l := by
  unfold unkF; rw [List.filter_cons]
theorem readL_unkIs {val : Fld → Rec → Val × Bool × Int} {jn : Int → Bod → Bod → Bod × Int} {f : Fil} {fs : List Fld} : ∀ (l : List Rec) (a : Bod), (readL val (addC jn f fs) fs l a).2 = 0 → (readL val (addC jn f fs) fs l a).1.unknown = a.unknown ++ unkF fs l
  | [], a, _ => by rw [readL]; simp [unkF]
  | r :: l, a, h => by
    rw [readL] at h ⊢
    rw [unkF_cons]
    cases hx : fldN fs r.number with
    | none =>
      rw [hx] at h
      simp only at h ⊢
      rw [readL_unkIs l _ h, if_pos (show (none : Option Fld).isNone = true from rfl)]
      simp [Bod.unknown]
    | some x =>
      rw [hx] at h
      simp only at h ⊢
      rw [if_neg (show ¬ (some x).isNone = true by simp)]
      by_cases h0 : (val x r).2.2 ≠ 0
      · rw [if_pos h0] at h; exact absurd h h0
      · rw [if_neg h0] at h ⊢
        by_cases h1 : (val x r).2.1 = false
        · rw [if_pos h1] at h ⊢
          exact readL_unkIs l _ h
        · rw [if_neg h1] at h ⊢
          by_cases h2 : (addC jn f fs a x (val x r).1).2 ≠ 0
          · rw [if_pos h2] at h; exact absurd h h2
          · rw [if_neg h2] at h ⊢
            rw [readL_unkIs l _ h, addC_unk (by simpa using h2)]
theorem wrongA_four {f : Fil} {msg : Int} {x : Bod} (h : wrongA f msg x = 0) : (wrongN f).1 = 0 ∧ 0 ≤ msg ∧ msg < f.msgs.length ∧ wrongB f 12 msg x = 0 := by
  unfold wrongA at h
  split at h
  · contradiction
  rename_i h1
  split at h
  · cases h
  · exact ⟨by simpa using h1, by omega, by omega, h⟩
theorem parseA_ok {f : Fil} {msg : Int} {l : List UInt8} (h : (parseA f msg l).2 = 0) : (wrongN f).1 = 0 ∧ 0 ≤ msg ∧ msg < f.msgs.length ∧ parseA f msg l = readC f 12 msg l ∧ (readC f 12 msg l).2 = 0 ∧ (parse l).2.1 = 0 := by
  unfold parseA at h ⊢
  by_cases h1 : (wrongN f).1 ≠ 0
  · rw [if_pos h1] at h; exact absurd h h1
  · rw [if_neg h1] at h ⊢
    by_cases h2 : msg < 0 ∨ f.msgs.length ≤ msg
    · rw [if_pos h2] at h; cases h
    · rw [if_neg h2] at h ⊢
      refine ⟨by simpa using h1, by omega, by omega, rfl, h, ?_⟩
      rw [readC] at h
      apply Classical.byContradiction
      intro g
      rw [if_pos g] at h
      exact g h
theorem parseA_right {f : Fil} {msg : Int} {l : List UInt8} (h : (parseA f msg l).2 = 0) : wrongA f msg (parseA f msg l).1 = 0 ∧ wgt 12 (parseA f msg l).1 ≤ 100000 := by
  obtain ⟨h1, h2, h3, h4, h5, h6⟩ := parseA_ok h
  rw [h4]
  refine ⟨?_, ?_⟩
  · unfold wrongA
    rw [if_neg (by rw [h1]; simp), if_neg (by omega)]
    exact read_right h1 12 (Nat.le_refl _) msg l h2 h3 h5
  · have := wgt_read h1 12 (Nat.le_refl _) msg l
    have := (parse_right h6).1
    omega
theorem parseA_unk {f : Fil} {mi : Nat} {l : List UInt8} (h : (parseA f (mi : Int) l).2 = 0) (hmi : mi < f.msgs.length) : (parseA f (mi : Int) l).1.unknown = unkF (f.msgs[mi]).fields (parse l).1 := by
  obtain ⟨h1, h2, h3, h4, h5, h6⟩ := parseA_ok h
  have hm : f.msgs[(mi : Int).toNat]? = some f.msgs[mi] := by rw [Int.toNat_natCast, List.getElem?_eq_getElem hmi]
  rw [h4]
  rw [readC, if_neg (by simpa using h6), hm] at h5 ⊢
  simp only at h5 ⊢
  rw [readL_unkIs _ _ h5]
  rfl
theorem raw_small {f : Fil} {msg : Int} {x : Bod} (h : wrongA f msg x = 0) (h64 : B64 12 x) (hw : wgt 12 x ≤ 100000) : (rawB f 12 msg x).length ≤ 100000 := by
  obtain ⟨h1, h2, h3, h4⟩ := wrongA_four h
  exact Nat.le_trans (raw_wgt h1 12 msg x h4 h64 (by omega)) hw
theorem bytes_tail {f : Fil} {msg : Int} {x : Bod} (h : wrongA f msg x = 0) (h0 : (bytesC f msg x).2 = 0) : (bytesP x.unknown).1 = x.unknown.flatMap oneB ∧ ∃ p, (bytesC f msg x).1 = p ++ x.unknown.flatMap oneB := by
  obtain ⟨h1, h2, h3, h4⟩ := wrongA_four h
  obtain ⟨k', m, e, hm, hb'⟩ := wrongB_zero h4
  obtain rfl : k' = 11 := by omega
  have hraw := raw_flat (k := 11) (b := x) hm
  have hbc : (bytesC f msg x).1 = rawB f 12 msg x ∧ (rawB f 12 msg x).length ≤ 4000 := by
    unfold bytesC at h0 ⊢
    rw [if_neg (by rw [h]; simp)] at h0 ⊢
    by_cases h5 : 4000 < (rawB f 12 msg x).length
    · rw [if_pos h5] at h0; cases h0
    · rw [if_neg h5]; exact ⟨rfl, by omega⟩
  refine ⟨?_, _, hbc.1.trans hraw⟩
  have hu := (wrongBF_zero hb').2
  have hr : ∀ r ∈ x.unknown, wrongRec r = 0 := fun r hr => by
    have := hu r hr
    unfold unkN at this
    apply Classical.byContradiction
    intro g
    rw [if_pos g] at this
    exact g this
  have hl : (x.unknown.flatMap oneB).length ≤ 4000 := by
    have := hbc.2
    rw [hraw, List.length_append] at this
    omega
  unfold bytesP
  rw [bytesF_of x.unknown 0 [] hr (by simpa using hl)]
  rfl
end Go.Proofs.YtbceapeoknngnaaGreatDoor
set_option linter.unusedVariables false
namespace Go.Proofs.YtbceapeoknngnaaGreatDoor
open Go.RowKit
theorem bytesC_ok {f : Fil} {msg : Int} {x : Bod} (h : (bytesC f msg x).2 = 0) : wrongA f msg x = 0 ∧ (bytesC f msg x).1 = rawB f 12 msg x ∧ (rawB f 12 msg x).length ≤ 4000 := by
  unfold bytesC at h ⊢
  by_cases h1 : wrongA f msg x ≠ 0
  · rw [if_pos h1] at h; exact absurd h h1
  · rw [if_neg h1] at h ⊢
    by_cases h2 : 4000 < (rawB f 12 msg x).length
    · rw [if_pos h2] at h; cases h
    · rw [if_neg h2]; exact ⟨by simpa using h1, rfl, by omega⟩
theorem parse_written {f : Fil} {msg : Int} {x : Bod} (h : (bytesC f msg x).2 = 0) (h64 : B64 12 x) : parseA f msg (bytesC f msg x).1 = (x, 0) := by
  obtain ⟨h1, h2, h3⟩ := bytesC_ok h
  obtain ⟨g1, g2, g3, g4⟩ := wrongA_four h1
  rw [h2]
  unfold parseA
  rw [if_neg (by rw [g1]; simp), if_neg (by omega), read_raw g1 12 (Nat.le_refl _) msg x g2 g3 g4 h64 h3]
theorem parseA_err {f : Fil} {msg : Int} {l : List UInt8} (h : (parseA f msg l).2 ≠ 0) : (parseA f msg l).1 = bod0 := by
  unfold parseA at h ⊢
  split
  · rfl
  · rename_i h1
    rw [if_neg h1] at h
    split
    · rfl
    · rename_i h2
      rw [if_neg h2] at h
      exact read_err h
theorem parse_joined {f : Fil} {msg : Int} {a : List UInt8} {y : Bod} (ha : (parseA f msg a).2 = 0) (hy : (bytesC f msg y).2 = 0) (h64 : B64 12 y) (hl : a.length + (bytesC f msg y).1.length ≤ 4000) :
    (wrongA f msg (joinB f 12 msg (parseA f msg a).1 y) = 0 ∧ parseA f msg (a ++ (bytesC f msg y).1) = (joinB f 12 msg (parseA f msg a).1 y, 0)) ∨ (wrongA f msg (joinB f 12 msg (parseA f msg a).1 y) = 5 ∧ parseA f msg (a ++ (bytesC f msg y).1) = (bod0, 5)) := by
  obtain ⟨h1, h2, h3⟩ := bytesC_ok hy
  obtain ⟨g1, g2, g3, g4⟩ := wrongA_four h1
  obtain ⟨_, _, _, k4, k5, _⟩ := parseA_ok ha
  rw [h2] at hl ⊢
  have hw : ∀ z, wrongA f msg z = wrongB f 12 msg z := fun z => by
    unfold wrongA
    rw [if_neg (by rw [g1]; simp), if_neg (by omega)]
  have hp : ∀ l, parseA f msg l = readC f 12 msg l := fun l => by
    unfold parseA
    rw [if_neg (by rw [g1]; simp), if_neg (by omega)]
  rw [hw, hp, hp] at *
  exact read_joined g1 (Nat.le_refl _) g2 g3 k5 g4 h64 hl
end Go.Proofs.YtbceapeoknngnaaGreatDoor
set_option linter.unusedVariables false
namespace Go.Proofs.YtbceapeoknngnaaGreatDoor
open Go.RowKit
def unpRecs (sub : Bod → List UInt8) (x : Fld) (v : Val) : List Rec :=
  if x.many = true ∧ howC x.kind ≠ 2 then v.2.1.map (fun n => ⟨x.number, howC x.kind, toldC x.kind n, []⟩) else valRecs sub x v
theorem readL_unp {wb : Int → Bod → Int} {jb : Int → Bod → Bod → Bod} {jn : Int → Bod → Bod → Bod × Int} {f : Fil} {fs : List Fld} (hch : ∀ z ∈ fs, 0 ≤ z.choice) (hjn : JnOk wb jb jn) (rd : Fld → List UInt8 → Bod × Int) (sub : Bod → List UInt8) {x : Fld} (hx : fldN fs x.number = some x) (ht : typedN f x = 0)
    {v : Val} (hv : wrongVF wb f x v = 0) (hvn : v.1 = x.number) (h64 : Num64 v) (hsub : ∀ s ∈ v.2.2.2, rd x (sub s) = (s, 0)) (rest : List Rec) (a : Bod) (ha : AllV wb f fs a.values) :
    readL (fun x r => valueC (rd x) x r) (addC jn f fs) fs (unpRecs sub x v ++ rest) a = stepL (fun x r => valueC (rd x) x r) (addC jn f fs) fs x v rest a := by
  by_cases hc : x.many = true ∧ howC x.kind ≠ 2
  · obtain ⟨hm, hk⟩ := hc
    obtain ⟨t1, t2, _, _⟩ := typed_facts ht
    obtain ⟨hfit, h60, hpl⟩ := wrongVF_iff.1 hv
    have hsh := fit_shape hfit t1 t2
    have f4 := hfit.nums
    unfold unpRecs
    rw [if_pos ⟨hm, hk⟩]
    obtain ⟨n, b, y, s⟩ := v
    simp only at hvn h64 f4 hsh
    subst hvn
    rcases hsh with ⟨g, g7, e, hne, hone⟩ | ⟨g, _⟩ | ⟨g, _⟩
    · simp only [Prod.mk.injEq, true_and] at e
      obtain ⟨rfl, rfl⟩ := e
      refine (readL_many (val := fun x r => valueC (rd x) x r) hch hjn hx hm (fun l => (x.number, l, [], [])) (fun q => ⟨x.number, howC x.kind, toldC x.kind q, []⟩) (fun t s l => rfl) (fun l => rfl) rest b a hne ha (fun q hq => ⟨rfl, val_one hk (h64 q hq) (f4 q hq), ?_⟩)).2
      have hc : ∀ l, countN x.kind (x.number, l, [], []) = (l.length, true) := fun l => by
        rw [countN_no (by intro e; exact hk (howC_two.2 (.inl e))) (by intro e; exact hk (howC_two.2 (.inr (.inl e)))) (by intro e; exact hk (howC_two.2 (.inr (.inr e))))]
        rfl
      exact ⟨by rw [hc], by rw [hc]; exact Nat.le_refl _, fun _ => by rw [hc]; rfl, fun k hk' => by obtain rfl : k = q := (by simpa using hk'); exact f4 _ hq, (fun n hn => by cases hn), (fun n hn => by cases hn)⟩
    · exact absurd g hk
    · exact absurd g hk
  · unfold unpRecs
    rw [if_neg hc]
    exact readL_val hch hjn rd sub hx ht hv hvn h64 hsub rest a ha
end Go.Proofs.YtbceapeoknngnaaGreatDoor
