/-
  presslaw2.alive.
-/
import Derived.Test.YtplgegffapikoabDoorPrint3
import Derived.Test.YtplgegffapikoabDoorPrintLen
import Derived.Test.YtplgegffapikoabDoorPars13
set_option linter.unusedVariables false
namespace Go.Proofs.YtplgegffapikoabDoor
open Go.RowKit
def txtB : List UInt8 := [109, 101, 115, 115, 97, 103, 101, 32, 65, 32, 123, 32, 114, 101, 112, 101, 97, 116, 101, 100, 32, 105, 110, 116, 54, 52, 32, 120, 32, 61, 32, 49, 59, 32, 111, 110, 101, 111, 102, 32, 123, 32, 65, 32, 121, 32, 61, 32, 50, 59, 32, 115, 116, 114, 105, 110, 103, 32, 122, 32, 61, 32, 51, 59, 32, 125, 32, 114, 101, 115, 101, 114, 118, 101, 100, 32, 57, 59, 32, 125]
def filC : Fil := ⟨[⟨[65], [⟨[120], 1, 1, [], true, 0⟩, ⟨[121], 2, 10, [65], false, 1⟩, ⟨[122], 3, 8, [], false, 1⟩], [9]⟩], []⟩
set_option maxRecDepth 100000 in
theorem parse_txtB : parseS txtB = (filC, 0, 0) := by decide
theorem raw_C : FilRaw filC := by
  have h := parse_raw txtB
  rw [parse_txtB] at h
  exact h
theorem print_C : 20 < (printP filC).length := by
  unfold printP filC
  rw [List.length_append]
  have : (List.flatMap messW [⟨[65], [⟨[120], 1, 1, [], true, 0⟩, ⟨[121], 2, 10, [65], false, 1⟩, ⟨[122], 3, 8, [], false, 1⟩], [9]⟩]).length = (messW ⟨[65], [⟨[120], 1, 1, [], true, 0⟩, ⟨[121], 2, 10, [65], false, 1⟩, ⟨[122], 3, 8, [], false, 1⟩], [9]⟩).length := by
    rw [List.flatMap_cons, List.flatMap_nil, List.append_nil]
  rw [this]
  unfold messW
  simp only [List.length_append]
  have e1 : sMessage.length = 8 := rfl
  have e2 : sOpen.length = 3 := rfl
  have e3 : sShut.length = 2 := rfl
  have e4 : 8 ≤ (barW [9]).length := by unfold barW; rw [barF, if_pos rfl]; simp [sBar]
  omega

set_option maxRecDepth 100000 in
set_option maxHeartbeats 3200000 in
/-- presslaw2.alive answers true. -/
theorem alive_2 (w : World) (hev : EvR w) (hpw : Pow w) : Calls Tryd.prog 18 #[] w fun e w' => e = .returned (.bool true) ∧ Up w w' := by
  have hp := parse_s ⟨txtB.toArray⟩ w hev
  rw [show (⟨txtB.toArray⟩ : ByteArray).data.toList = txtB from rfl, parse_txtB] at hp
  simp only at hp
  have Hp := Lib.hid hp; have HPw := Lib.hid hpw
  clear hp hpw
  go_enter Tryd.func18, Tryd.ntmps18
  go_wp2_with fail
  refine Hp.out.mono ?_
  rintro e w1 ⟨v, rfl, hf, hu1⟩
  have Hf := Lib.hid (hf.keep (Keep.weak (S' := All) (fun _ _ => trivial)))
  obtain ⟨vm, ve, rfl, hm, he⟩ := hf
  obtain ⟨mo, mc, rfl, _, _⟩ := hm.val
  obtain ⟨eo, ec, rfl, _, _⟩ := he.val
  have Hm := Lib.hid hm
  have Hu1 := Lib.hid hu1
  clear hm he hu1 Hp
  go_upto_region 2 with (fail)
  have n1 : filC.msgs.length = 1 := rfl
  have n2 : filC.enums.length = 0 := rfl
  have HB1 := Lib.hid (blk_old (.cells #[.int .i64 0, .int .i64 0] 28) (blk_new w1 (.cells #[.slice mo filC.msgs.length mc, .slice eo filC.enums.length ec] 25) (g := w1.heap.size) rfl))
  have HB2 := Lib.hid (blk_new (w1.alloc (.cells #[.slice mo filC.msgs.length mc, .slice eo filC.enums.length ec] 25)) (.cells #[.int .i64 0, .int .i64 0] 28) (g := w1.heap.size + 1) (by simp))
  have HU2 := Lib.hid (((Up.refl w1).alloc (.cells #[.slice mo filC.msgs.length mc, .slice eo filC.enums.length ec] 25)).alloc (.cells #[.int .i64 0, .int .i64 0] 28))
  generalize (w1.alloc (.cells #[.slice mo filC.msgs.length mc, .slice eo filC.enums.length ec] 25)).alloc (.cells #[.int .i64 0, .int .i64 0] 28) = w2 at *
  obtain ⟨B1, hB1⟩ : ∃ B1, w1.heap.size = B1 := ⟨_, rfl⟩
  rw [hB1] at HB1 HB2 ⊢
  rw [n1, n2] at HB1
  have hm4 := Hm.out.up stable_msg HU2.out
  rw [n1] at hm4
  obtain ⟨b, o, cs, hno, hb, hl, hcs, hd⟩ := hm4.at (i := 0) (by decide)
  obtain ⟨vf, vb, hd, hf1, hb1, hn⟩ := hd
  obtain ⟨fo, fc, rfl, _, _⟩ := hf1.val
  subst hno
  subst hd
  have c1 := hcs 1 _ rfl
  obtain ⟨b', o', cs', hno', hb', hl', hcs', hd'⟩ := hf1.at (i := 1) (by decide)
  obtain ⟨hd', _⟩ := hd'
  subst hd'
  subst hno'
  have c2 := hcs' 5 _ rfl
  simp only [Nat.zero_mul, Nat.add_zero] at c1
  have c1 : w2.cell? ⟨b, o + 1, none⟩ = some (.slice (some ⟨b', o', none⟩) 3 fc) := c1
  have c2 : w2.cell? ⟨b', o' + 1 * 6 + 5, none⟩ = some (.int .i64 1) := c2
  have c2b : w2.cell? ⟨b', o' + 6 + 5, none⟩ = some (.int .i64 1) := c2
  have c2c : w2.cell? ⟨b', o' + 11, none⟩ = some (.int .i64 1) := c2
  have s1 : w2.cell? ⟨B1 + 1, 0, none⟩ = some (.int .i64 0) := cell_of_row w2 _ 0 _ _ _ HB2.out
  have s2 : w2.cell? ⟨B1, 0, none⟩ = some (.slice (some ⟨b, o, none⟩) 1 mc) := cell_of_row w2 _ 0 _ _ _ HB1.out
  have s3 : w2.cell? ⟨B1, 1, none⟩ = some (.slice eo 0 ec) := cell_of_row w2 _ 1 _ _ _ HB1.out
  have hnm := fun W => named_s ⟨#[97, 95, 49]⟩ W
  rw [show named (⟨#[97, 95, 49]⟩ : ByteArray).data.toList = true by decide +kernel] at hnm
  have S2 := Lib.hid s2; have S3 := Lib.hid s3
  have HFV := Lib.hid (Hf.out.up HU2.out)
  have hPl := raw_le raw_C
  have hPg := print_C
  have Hpr := Lib.hid (fun W (u : Up w2 W) => print_s _ filC W (HFV.out.up u) (by omega) (HPw.out.up (Hu1.out.trans (HU2.out.trans u))))
  obtain ⟨L, hL⟩ : ∃ L, L = printP filC := ⟨_, rfl⟩
  rw [← hL] at Hpr hPl hPg
  have hLn : (20 : Int) < (L.length : Int) := by omega
  rw [n1, n2] at Hpr
  have HUw := Lib.hid (Hu1.out.trans HU2.out)
  clear hcs hcs' hf1 hb1 hn hl hl' hm4 Hm Hf HFV hL hPl hPg
  go_wp2_with (first
    | (go_at_call 14; go_must (refine (hnm _).mono ?_; rintro e w5 ⟨rfl, hu5⟩; have s2 := hu5.cell_some S2.out; have s3 := hu5.cell_some S3.out; have Hu5 := Lib.hid hu5; clear hu5 hnm))
    | (go_at_call 16; go_must (refine (words_s _).mono ?_; rintro e w6 ⟨rfl, hw6⟩; have Hu6 := Lib.hid (Hu5.out.trans (hw6 ▸ (Up.refl _).alloc _)); have s2 := Hu6.out.cell_some S2.out; have s3 := Hu6.out.cell_some S3.out; clear hw6))
    | (go_at_call 12; go_must (refine (Hpr.out _ Hu6.out).mono ?_; rintro e w7 ⟨rfl, hu7⟩)))
  go_ret
  exact ⟨rfl, HUw.out.trans (Hu6.out.trans hu7)⟩
end Go.Proofs.YtplgegffapikoabDoor
