/-
  strings.Builder at this dump: what WriteString makes of a builder that the call has made.
  A file's text in plain Lean.
-/
import Derived.Test.YtbceapeoknngnaaDoorSy38
import Derived.Lib.Builder
import Derived.Laws.AppendOwn
import Derived.Shelf.Strings.Builder1
import Derived.Test.YtbceapeoknngnaaDoorSy08
import Derived.Lib.ItoaNum
set_option linter.unusedVariables false
namespace Go.Proofs.YtbceapeoknngnaaDoor
open Go.RowKit
set_option maxRecDepth 100000
def Bld (B b : Nat) (l : List UInt8) (w : World) : Prop := Lib.IsBuilder 64 5 B b (Lib.byteCells l) w
theorem bld_size : (Tryd.prog.info? 64).map (·.size) = some 2 := by kernel_rfl
theorem bld_lies : liesAt Tryd.prog Tryd.prog.depth 64 (2 / Tryd.prog.cellsOf 64) 0 64 1 = true := by kernel_rfl
theorem u8_info : (Tryd.prog.info? 5).map (fun i => (i.zero, i.size, i.bytes)) = some (some (.int .u8 0), 1, 1) := by kernel_rfl
theorem bld_x : Builder.Extra Tryd.prog Tryd.strL_ren :=
 { sizeBuilder := bld_size, liesBuilder := bld_lies, t5 := Tryd.underlying5, a5 := Tryd.isAgg5, z5 := Tryd.sizeOf5, v5 := Tryd.zeroValue5, infoByte := u8_info, cellsByte := by kernel_rfl, sizeByte := by kernel_rfl, neB5 := by decide }
theorem Bld.up {B b : Nat} {l : List UInt8} {w w' : World} (h : Bld B b l w) (hu : Up w w') : Bld B b l w' := by
 have key : ∀ p, Lib.BuilderAt 64 5 B b p (Lib.byteCells l) w → Lib.BuilderAt 64 5 B b p (Lib.byteCells l) w' := by
   rintro p ⟨hB, v, hb, hown, hne⟩; exact ⟨hB, v, hu.blk hb, hown.kept hu.to_none (Classical.em _), hne⟩
 exact h.elim (fun x => .inl (key _ x)) (fun x => .inr (key _ x))
set_option maxHeartbeats 1600000 in
theorem copyCheck_s (B b : Nat) (l : List UInt8) (w : World) (h : Bld B b l w) :
   Calls Tryd.prog 41 #[.pointer (some ⟨b, 0, none⟩)] w fun e w' => e = .returned (.tuple #[]) ∧ Lib.BuilderAt 64 5 B b (.pointer (some ⟨b, 0, none⟩)) (Lib.byteCells l) w' ∧ Below B w w' := by
 obtain ⟨j, hj, hjs⟩ := Option.map_eq_some_iff.1 bld_size; rcases h with h | h
 · have h0 := h.cell0; have hsh := h.shape; have hfz := h.frozen0
   go_enter Tryd.func41, Tryd.ntmps41
   (go_wp2); rw [Lib.run_to_unsafe w ⟨b, 0, none⟩ Tryd.underlying61 Tryd.underlying84 hj (by rw [hjs]; decide) hsh (Nat.zero_lt_succ 1)]; simp only [Result.andThen]; rw [Oper.upon_value]; (go_wp2); rw [run_callFunc_extern Tryd.func48 (by kernel_rfl) (by kernel_rfl) (by kernel_rfl) (e := Extern.AbiNoEscape.same) (by kernel_rfl)]; rw [Lib.run_noEscape]; simp only [Result.andThen]; rw [Oper.upon_value]; (go_wp2); rw [Lib.run_from_unsafe w ⟨b, 0, none⟩ Tryd.underlying84 Tryd.underlying61 hj hsh bld_lies]; simp only [Result.andThen]; rw [Oper.upon_value]; go_wp2
   go_end0
   exact ⟨rfl, h.used _, (Below.refl B w).setCell (p := ⟨b, 0, none⟩) h.1 _⟩
 · have h0 := h.cell0
   go_enter Tryd.func41, Tryd.ntmps41
   (go_wp2); rw [Lib.run_neq_ptr_same w _ Tryd.underlying61 hj]; go_wp2
   go_end0
   exact ⟨rfl, h, Below.refl B w⟩
set_option maxHeartbeats 3200000 in
theorem writeString_s (B b : Nat) (l : List UInt8) (s : ByteArray) (w : World) (h : Bld B b l w) (hlen : l.length + s.size ≤ 140737488355328) (hBw : B ≤ w.heap.size) :
   Calls Tryd.prog 25 #[.pointer (some ⟨b, 0, none⟩), .string s] w fun e w' => e = .returned (.tuple #[.int .i64 s.size, .nilIface]) ∧ Bld B b (l ++ s.data.toList) w' ∧ Below B w w' := by
 obtain ⟨i0, hi, hz0, hz1, hz2⟩ := info_parts u8_info; have hll : (Lib.byteCells l).length = l.length := by simp [Lib.byteCells]
 go_enter Tryd.func25, Tryd.ntmps25
 (go_wp2_with (go_at_call 41; refine (copyCheck_s B b l _ h).mono ?_)); rintro e w1 ⟨rfl, h1, hb1⟩; obtain ⟨hB, v, hbk, hown, hne⟩ := h1; (have c0 : w1.cell? ⟨b, 0, none⟩ = some (.pointer (some ⟨b, 0, none⟩)) := by rw [Lib.cell_of_heap hbk]; rfl); (have c1 : w1.cell? ⟨b, 1, none⟩ = some v := by rw [Lib.cell_of_heap hbk]; rfl); (go_wp2_with (at_builtin; refine Lib.wpList_append_own_string _ rfl _ _ 62 9 rfl B 5 i0 Tryd.underlying62 Tryd.underlying9 hi hz0 hz1 hz2 _ _ _ rfl hown s rfl ?c3 ?c4 ?c5 ?_)); (case c3 => rw [hll]; unfold maxLen; omega); (case c4 => rw [hll]; omega); (case c5 => have := hb1.size; omega); intro v' w2 hown' hgrow _; have hlt : b < w1.heap.size := lt_of_block hbk
 have hb2 : w2.heap[b]? = some (.cells #[.pointer (some ⟨b, 0, none⟩), v] 64 (0, 0)) := by
   rw [hgrow.block b hlt (fun e => hne e.symm)]; exact hbk
 (have d0 : w2.cell? ⟨b, 0, none⟩ = some (.pointer (some ⟨b, 0, none⟩)) := by rw [Lib.cell_of_heap hb2]; rfl); (have d1 : w2.cell? ⟨b, 1, none⟩ = some v := by rw [Lib.cell_of_heap hb2]; rfl); have f1 : w2.frozen? ⟨b, 1, none⟩ = false := Lib.frozen_of_heap hb2 1
 obtain ⟨ao, n', cap, rfl⟩ : ∃ ao n' cap, v' = .slice ao n' cap := by
   rcases hown'.2 with ⟨hv, _⟩ | ⟨g, cap, cur, hv, _⟩
   · exact ⟨_, _, _, hv⟩
   · exact ⟨_, _, _, hv⟩
 go_wp2
 go_ret2
 refine ⟨rfl, ?_, ?_⟩
 · (have hc : Lib.byteCells (l ++ s.data.toList) = Lib.byteCells l ++ Lib.strCells s := by simp [Lib.byteCells, Lib.strCells]); unfold Bld; rw [hc]; exact .inr (Lib.BuilderAt.put (T := 64) (e := 5) hB hb2 (bs' := Lib.byteCells l ++ Lib.strCells s) (by simpa [Lib.strCells_length, hll] using hown') (by decide))
 · exact (hb1.grown hgrow (by have := hb1.size; omega) (fun k hk => (hown.lt k hk).1)).setCell (p := ⟨b, 1, none⟩) hB _
theorem string_s (B b : Nat) (l : List UInt8) (w : World) (h : Bld B b l w) (hBw : B ≤ w.heap.size) :
   Calls Tryd.prog 28 #[.pointer (some ⟨b, 0, none⟩)] w fun e w' => e = .returned (.string ⟨l.toArray⟩) ∧ Below B w w' :=
 Any.Builder_String_any Tryd.strL bld_x B b l w h hBw
end Go.Proofs.YtbceapeoknngnaaDoor
namespace Go.Proofs.YtbceapeoknngnaaDoor
def sMessage : List UInt8 := [109, 101, 115, 115, 97, 103, 101, 32]
def sEnum : List UInt8 := [101, 110, 117, 109, 32]
def sOpen : List UInt8 := [32, 123, 10]
def sShut : List UInt8 := [125, 10]
def sShut2 : List UInt8 := [32, 32, 125, 10]
def sEq : List UInt8 := [32, 61, 32]
def sEnd : List UInt8 := [59, 10]
def sMany : List UInt8 := [114, 101, 112, 101, 97, 116, 101, 100, 32]
def sBar : List UInt8 := [32, 32, 114, 101, 115, 101, 114, 118, 101, 100, 32]
def sComma : List UInt8 := [44, 32]
def sOneof : List UInt8 := [32, 32, 111, 110, 101, 111, 102, 32, 123, 10]
def sTwo : List UInt8 := [32, 32]
def kindW (x : Fld) : List UInt8 := if 1 ≤ x.kind ∧ x.kind ≤ 9 ∧ x.kind ≠ 5 then words.getD (x.kind - 1).toNat [] else x.type
def lineW (x : Fld) : List UInt8 := (if x.many then sMany else []) ++ (kindW x ++ (32 :: (x.name ++ (sEq ++ (Lib.itoa x.number ++ sEnd)))))
def barF : Bool → List Int → List UInt8
 | _, [] => []
 | first, n :: l => (if first then sBar else sComma) ++ (Lib.itoa n ++ barF false l)
def barW (l : List Int) : List UInt8 := barF true l ++ (if l = [] then [] else sEnd)
def nextC : List Fld → Int
 | [] => 0
 | x :: _ => x.choice
def fieldsF : Int → List Fld → List UInt8
 | _, [] => []
 | last, x :: l => (if 0 < x.choice ∧ x.choice ≠ last then sOneof else []) ++ ((if 0 < x.choice then sTwo else []) ++ (sTwo ++ (lineW x ++ ((if 0 < x.choice ∧ nextC l ≠ x.choice then sShut2 else []) ++ fieldsF x.choice l))))
def messW (m : Msg) : List UInt8 := sMessage ++ (m.name ++ (sOpen ++ (barW m.barred ++ (fieldsF 0 m.fields ++ sShut))))
def itemW (x : Itm) : List UInt8 := sTwo ++ (x.name ++ (sEq ++ (Lib.itoa x.value ++ sEnd)))
def enumW (e : Enu) : List UInt8 := sEnum ++ (e.name ++ (sOpen ++ (e.items.flatMap itemW ++ sShut)))
def printP (F : Fil) : List UInt8 := F.enums.flatMap enumW ++ F.msgs.flatMap messW
end Go.Proofs.YtbceapeoknngnaaDoor
