/-
  presslaw3.alive.
  A file's text in plain Lean.
-/
import Derived.Test.YtplgegffapikoabDoorLr28
import Derived.Test.YtplgegffapikoabDoorLr37
import Derived.Test.YtplgegffapikoabDoorLr09
import Derived.Lib.ItoaNum
set_option linter.unusedVariables false
namespace Go.Proofs.YtplgegffapikoabDoor
open Go.RowKit
def filB : Fil := ⟨[⟨[65], [⟨[101], 1, 5, [69], false, 0⟩, ⟨[97], 2, 10, [65], false, 0⟩], []⟩], [⟨[69], [⟨[122, 101, 114, 111], 0⟩]⟩]⟩
theorem link_txtA : linkN filA = (filB, 0, 0) := by decide +kernel
theorem wrong_txtA : (wrongN filA).1 = 6 := by decide +kernel
set_option maxRecDepth 100000 in
set_option maxHeartbeats 3200000 in
theorem alive_3 (w : World) (hev : EvR w) :
    Calls Tryd.prog 21 #[] w fun e w' => e = .returned (.bool true) ∧ Up w w' := by
  have hp := parse_s ⟨txtA.toArray⟩ w hev
  rw [show parseS (⟨txtA.toArray⟩ : ByteArray).data.toList = (filA, 0, 0) from parse_txtA] at hp
  simp only at hp
  have Hp := Lib.hid hp
  clear hp
  go_enter Tryd.func21, Tryd.ntmps21
  go_wp2_with fail
  refine Hp.out.mono ?_
  rintro e w1 ⟨v, rfl, hf, hu1⟩
  have Hf := Lib.hid (hf.keep (Keep.weak (S' := All) (fun _ _ => trivial)))
  obtain ⟨vm, ve, rfl, hm, he⟩ := hf
  obtain ⟨mo, mc, rfl, _, _⟩ := hm.val
  obtain ⟨eo, ec, rfl, _, _⟩ := he.val
  have Hu1 := Lib.hid hu1
  clear hm he hu1 Hp
  go_upto_region 2 with (fail)
  have HB1 := Lib.hid (blk_old (.cells #[.int .i64 0, .int .i64 0] 28) (blk_new w1 (.cells #[.slice mo filA.msgs.length mc, .slice eo filA.enums.length ec] 25) (g := w1.heap.size) rfl))
  have HB2 := Lib.hid (blk_new (w1.alloc (.cells #[.slice mo filA.msgs.length mc, .slice eo filA.enums.length ec] 25)) (.cells #[.int .i64 0, .int .i64 0] 28) (g := w1.heap.size + 1) (by simp))
  have HU2 := Lib.hid (((Up.refl w1).alloc (.cells #[.slice mo filA.msgs.length mc, .slice eo filA.enums.length ec] 25)).alloc (.cells #[.int .i64 0, .int .i64 0] 28))
  have hfd : ∀ (a b : Int) (w : World), (Instr.field 28 (.agg #[.int .i64 a, .int .i64 b]) 0).run Tryd.prog w = .ok (.int .i64 a) w := fun _ _ _ => by kernel_rfl
  generalize (w1.alloc (.cells #[.slice mo filA.msgs.length mc, .slice eo filA.enums.length ec] 25)).alloc (.cells #[.int .i64 0, .int .i64 0] 28) = w2 at *
  obtain ⟨B1, hB1⟩ : ∃ B1, w1.heap.size = B1 := ⟨_, rfl⟩
  rw [hB1] at HB1 HB2 ⊢
  have a0 : w2.cell? ⟨B1, 0, none⟩ = some (.slice mo filA.msgs.length mc) := cell_of_row w2 _ 0 _ _ _ HB1.out
  have a1 : w2.cell? ⟨B1, 1, none⟩ = some (.slice eo filA.enums.length ec) := cell_of_row w2 _ 1 _ _ _ HB1.out
  have hl := link_l (.agg #[.slice mo filA.msgs.length mc, .slice eo filA.enums.length ec]) filA w2 (Hf.out.up HU2.out) ⟨by decide, by decide, by decide, by decide⟩
  rw [link_txtA] at hl
  simp only at hl
  have Hl := Lib.hid hl
  clear hl hB1
  go_wp2_with fail
  refine Hl.out.mono ?_
  rintro e w3 ⟨v3, rfl, hf3, hu3⟩
  have Hf3 := Lib.hid hf3
  obtain ⟨vm3, ve3, rfl, hm3, he3⟩ := hf3
  obtain ⟨no, nc, rfl, _, _⟩ := hm3.val
  obtain ⟨po, pc, rfl, _, _⟩ := he3.val
  have Hu3 := Lib.hid hu3; have Hm3 := Lib.hid hm3
  clear hm3 he3 hu3 Hl a0 a1
  go_upto_region 3 with (fail)
  have n1 : filB.msgs.length = 1 := rfl
  have n2 : filB.enums.length = 1 := rfl
  have HB1 := Lib.hid (Hu3.out.blk HB1.out); have HB2 := Lib.hid (Hu3.out.blk HB2.out)
  have HB3 := Lib.hid (blk_old (.cells #[.int .i64 0, .int .i64 0] 28) (blk_new w3 (.cells #[.slice no filB.msgs.length nc, .slice po filB.enums.length pc] 25) (g := w3.heap.size) rfl))
  have HB4 := Lib.hid (blk_new (w3.alloc (.cells #[.slice no filB.msgs.length nc, .slice po filB.enums.length pc] 25)) (.cells #[.int .i64 0, .int .i64 0] 28) (g := w3.heap.size + 1) (by simp))
  have HU4 := Lib.hid (((Up.refl w3).alloc (.cells #[.slice no filB.msgs.length nc, .slice po filB.enums.length pc] 25)).alloc (.cells #[.int .i64 0, .int .i64 0] 28))
  generalize (w3.alloc (.cells #[.slice no filB.msgs.length nc, .slice po filB.enums.length pc] 25)).alloc (.cells #[.int .i64 0, .int .i64 0] 28) = w4 at *
  obtain ⟨B3, hB3⟩ : ∃ B3, w3.heap.size = B3 := ⟨_, rfl⟩
  rw [hB3] at HB3 HB4 ⊢
  clear hB3
  rw [n1, n2] at HB3
  have hm4 := Hm3.out.up stable_msg HU4.out
  rw [n1] at hm4
  obtain ⟨b, o, cs, hno, hb, hl, hcs, hd⟩ := hm4.at (i := 0) (by decide)
  obtain ⟨vf, vb, hd, hf1, hb1, hn⟩ := hd
  obtain ⟨fo, fc, rfl, _, _⟩ := hf1.val
  subst hno
  subst hd
  have c1 := hcs 1 _ rfl
  obtain ⟨b', o', cs', hno', hb', hl', hcs', hd'⟩ := hf1.at (i := 0) (by decide)
  obtain ⟨hd', _⟩ := hd'
  subst hd'
  subst hno'
  have c2 := hcs' 2 _ rfl
  simp only [Nat.zero_mul, Nat.add_zero] at c1 c2
  have c1 : w4.cell? ⟨b, o + 1, none⟩ = some (.slice (some ⟨b', o', none⟩) 2 fc) := c1
  have c2 : w4.cell? ⟨b', o' + 2, none⟩ = some (.int .i64 5) := c2
  have s0 : w4.cell? ⟨B1 + 1, 0, none⟩ = some (.int .i64 0) := cell_of_row w4 _ 0 _ _ _ (HU4.out.blk HB2.out)
  have s1 : w4.cell? ⟨B3 + 1, 0, none⟩ = some (.int .i64 0) := cell_of_row w4 _ 0 _ _ _ HB4.out
  have s2 : w4.cell? ⟨B3, 0, none⟩ = some (.slice (some ⟨b, o, none⟩) 1 nc) := cell_of_row w4 _ 0 _ _ _ HB3.out
  have s3 : w4.cell? ⟨B3, 1, none⟩ = some (.slice po 1 pc) := cell_of_row w4 _ 1 _ _ _ HB3.out
  have hfm := fun W (u : Up w4 W) => find_msg_l (.agg #[.slice (some ⟨b, o, none⟩) 1 nc, .slice po 1 pc]) filB [65] W (Hf3.out.up (HU4.out.trans u))
  have hfe := fun W (u : Up w4 W) => find_enu_l (.agg #[.slice (some ⟨b, o, none⟩) 1 nc, .slice po 1 pc]) filB [69] W (Hf3.out.up (HU4.out.trans u))
  have hwr := fun W (u : Up w4 W) => wrong_l (.agg #[.slice mo filA.msgs.length mc, .slice eo filA.enums.length ec]) filA W (Hf.out.up (HU2.out.trans (Hu3.out.trans (HU4.out.trans u))))
  rw [show idxP (fun x => x.name == [65]) filB.msgs = 0 by decide +kernel] at hfm
  rw [show idxP (fun x => x.name == [69]) filB.enums = 0 by decide +kernel] at hfe
  rw [wrong_txtA] at hwr
  have Hfm := Lib.hid hfm; have Hfe := Lib.hid hfe; have Hwr := Lib.hid hwr
  have S2 := Lib.hid s2; have S3 := Lib.hid s3
  have T0 := Lib.hid (cell_of_row w4 B1 0 _ _ _ (HU4.out.blk HB1.out)); have T1 := Lib.hid (cell_of_row w4 B1 1 _ _ _ (HU4.out.blk HB1.out))
  have HUw := Lib.hid (Hu1.out.trans (HU2.out.trans (Hu3.out.trans HU4.out)))
  clear hfm hfe hwr hcs hcs' hf1 hb1 hn hl hl' hm4 Hm3
  go_wp2_with (first
    | (go_at_call 24; go_must (refine (Hfm.out _ (Up.refl _)).mono ?_; rintro e w5 ⟨rfl, hu5⟩; have s2 := hu5.cell_some S2.out; have s3 := hu5.cell_some S3.out; have Hu5 := Lib.hid hu5; clear hu5 Hfm))
    | (go_at_call 25; go_must (refine (Hfe.out _ Hu5.out).mono ?_; rintro e w6 ⟨rfl, hu6⟩; have Hu6 := Lib.hid (Hu5.out.trans hu6); have t0 := Hu6.out.cell_some T0.out; have t1 := Hu6.out.cell_some T1.out; clear hu6 Hfe))
    | (go_at_call 22; go_must (refine (Hwr.out _ Hu6.out).mono ?_; rintro e w7 ⟨rfl, hu7⟩)))
  go_ret
  exact ⟨rfl, HUw.out.trans (Hu6.out.trans hu7)⟩
end Go.Proofs.YtplgegffapikoabDoor
set_option linter.unusedVariables false
namespace Go.Proofs.YtplgegffapikoabDoor
def sMessage : List UInt8 := [109, 101, 115, 115, 97, 103, 101, 32]
def sEnum : List UInt8 := [101, 110, 117, 109, 32]
def sOpen : List UInt8 := [32, 123, 10]
def sShut : List UInt8 := [125, 10]
def sShut2 : List UInt8 := [32, 32, 125, 10]
def sEq : List UInt8 := [32, 61, 32]
def sEnd : List UInt8 := [59, 10]
def sMany : List UInt8 := [114, 101, 112, 101, 97, 116, 101, 100, 32]
def sBar : List UInt8 := [32, 32, 114, 101, 115, 101, 114, 118, 101, 100, 32]
def sComma : List UInt8 := [44, 32]
def sOneof : List UInt8 := [32, 32, 111, 110, 101, 111, 102, 32, 123, 10]
def sTwo : List UInt8 := [32, 32]
/-- a field's type, as it is written -/
def kindW (x : Fld) : List UInt8 := if 1 ≤ x.kind ∧ x.kind ≤ 9 ∧ x.kind ≠ 5 then words.getD (x.kind - 1).toNat [] else x.type
def lineW (x : Fld) : List UInt8 := (if x.many then sMany else []) ++ (kindW x ++ (32 :: (x.name ++ (sEq ++ (Lib.itoa x.number ++ sEnd)))))
def barF : Bool → List Int → List UInt8
  | _, [] => []
  | first, n :: l => (if first then sBar else sComma) ++ (Lib.itoa n ++ barF false l)
def barW (l : List Int) : List UInt8 := barF true l ++ (if l = [] then [] else sEnd)
def nextC : List Fld → Int
  | [] => 0
  | x :: _ => x.choice
def fieldsF : Int → List Fld → List UInt8
  | _, [] => []
  | last, x :: l => (if 0 < x.choice ∧ x.choice ≠ last then sOneof else []) ++ ((if 0 < x.choice then sTwo else []) ++ (sTwo ++ (lineW x ++ ((if 0 < x.choice ∧ nextC l ≠ x.choice then sShut2 else []) ++ fieldsF x.choice l))))
def messW (m : Msg) : List UInt8 := sMessage ++ (m.name ++ (sOpen ++ (barW m.barred ++ (fieldsF 0 m.fields ++ sShut))))
def itemW (x : Itm) : List UInt8 := sTwo ++ (x.name ++ (sEq ++ (Lib.itoa x.value ++ sEnd)))
def enumW (e : Enu) : List UInt8 := sEnum ++ (e.name ++ (sOpen ++ (e.items.flatMap itemW ++ sShut)))
def printP (F : Fil) : List UInt8 := F.enums.flatMap enumW ++ F.msgs.flatMap messW
/-- a message's fields, their choices numbered as they come -/
def numF : Int → Int → List Fld → List Fld
  | _, _, [] => []
  | last, k, x :: l => { x with choice := if 0 < x.choice then (if 0 < x.choice ∧ x.choice ≠ last then k + 1 else k) else x.choice } :: numF x.choice (if 0 < x.choice ∧ x.choice ≠ last then k + 1 else k) l
def numM (m : Msg) : Msg := ⟨m.name, numF 0 0 m.fields, m.barred⟩
def numbered (F : Fil) : Fil := ⟨F.msgs.map numM, F.enums⟩
end Go.Proofs.YtplgegffapikoabDoor
