/-
  A file, as it comes in.
-/
import Derived.Test.YtplgegffapikoaaProg
import Derived.Test.YtplgegffapikoaaOpenZ
import Derived.Test.YtplgegffapikoaaOwn
set_option linter.unusedVariables false
namespace Go.Proofs.Ytplgegffapikoaa
open Go.RowKit
instance : Inhabited Fld := ⟨⟨[], 0, 0, [], false, 0⟩⟩
instance : Inhabited Msg := ⟨⟨[], [], []⟩⟩
instance : Inhabited Itm := ⟨⟨[], 0⟩⟩
instance : Inhabited Enu := ⟨⟨[], []⟩⟩
def LBool : Lay (Bool) := fun _ _ b cs => cs = [.bool b]
def LFlds : Lay (List Fld) := fun S w l cs => ∃ v, cs = [v] ∧ RdS DFld 6 S w v l ∧ l.length * 64 ≤ 140737488351232
def LInts : Lay (List Int) := fun S w l cs => ∃ v, cs = [v] ∧ RdS DInt 1 S w v l ∧ l.length * 8 ≤ 140737488351232
def LItms : Lay (List Itm) := fun S w l cs => ∃ v, cs = [v] ∧ RdS DItm 2 S w v l ∧ l.length * 24 ≤ 140737488351232
def LMsg : Lay (Msg) := fun S w m cs => DMsg S w m cs ∧ (m.fields.length * 64 ≤ 140737488355328 ∧ m.barred.length * 8 ≤ 140737488355328)
def LEnu : Lay (Enu) := fun S w m cs => DEnu S w m cs ∧ m.items.length * 24 ≤ 140737488355328
def LMsgs : Lay (List Msg) := fun S w l cs => ∃ v, cs = [v] ∧ RdS LMsg 3 S w v l ∧ l.length * 64 ≤ 140737488351232
def LEnus : Lay (List Enu) := fun S w l cs => ∃ v, cs = [v] ∧ RdS LEnu 2 S w v l ∧ l.length * 40 ≤ 140737488351232
theorem cz_int : Try.prog.cellsOf 3 = 1 := by kernel_rfl
theorem cz_bool : Try.prog.cellsOf 4 = 1 := by kernel_rfl
theorem cz_string : Try.prog.cellsOf 9 = 1 := by kernel_rfl
theorem rz_int : ReadsZ Try.prog 3 DInt := Reads.z (reads_int Try.underlying3)
theorem rz_bool : ReadsZ Try.prog 4 LBool := Reads.z (reads_bool Try.underlying4)
theorem rz_string : ReadsZ Try.prog 9 DStr := readsZ_str Try.underlying9
theorem rz_fld : ReadsZ Try.prog 74 DFld := fun enc w base spare held fuel cs x h hw => by
  obtain ⟨n, hl, hf⟩ := structZ Try.underlying74 h hw
  rw [show Try.prog.cellsOf 74 = 6 by kernel_rfl] at hl
  obtain ⟨c0, c1, c2, c3, c4, c5, rfl⟩ := list6 hl
  obtain ⟨a0, e0, f0⟩ := fieldZ (D := DStr) 0 rz_string cz_string (hf 0 _ rfl)
  obtain ⟨a1, e1, f1⟩ := fieldZ (D := DInt) 1 rz_int cz_int (hf 1 _ rfl)
  obtain ⟨a2, e2, f2⟩ := fieldZ (D := DInt) 2 rz_int cz_int (hf 2 _ rfl)
  obtain ⟨a3, e3, f3⟩ := fieldZ (D := DStr) 3 rz_string cz_string (hf 3 _ rfl)
  obtain ⟨a4, e4⟩ := fieldZ (D := LBool) 4 rz_bool cz_bool (hf 4 _ rfl)
  obtain ⟨a5, e5, f5⟩ := fieldZ (D := DInt) 5 rz_int cz_int (hf 5 _ rfl)
  unfold LBool at e4
  simp at e0 e1 e2 e3 e4 e5
  subst e0 e1 e2 e3 e4 e5
  exact ⟨⟨a0, a1, a2, a3, a4, a5⟩, rfl, f1, f2, f5, f0, f3⟩
theorem rz_flds : ReadsZ Try.prog 68 LFlds := readsZ_slice Try.underlying68 (by kernel_rfl) (by kernel_rfl) (by decide) rz_fld
theorem rz_ints : ReadsZ Try.prog 53 LInts := readsZ_slice Try.underlying53 (by kernel_rfl) (by kernel_rfl) (by decide) rz_int
theorem cz_flds : Try.prog.cellsOf 68 = 1 := by kernel_rfl
theorem cz_ints : Try.prog.cellsOf 53 = 1 := by kernel_rfl
theorem rz_msg : ReadsZ Try.prog 70 LMsg := fun enc w base spare held fuel cs x h hw => by
  obtain ⟨n, hl, hf⟩ := structZ Try.underlying70 h hw
  rw [show Try.prog.cellsOf 70 = 3 by kernel_rfl] at hl
  obtain ⟨c0, c1, c2, rfl⟩ := list3 hl
  obtain ⟨a0, e0, f0⟩ := fieldZ (D := DStr) 0 rz_string cz_string (hf 0 _ rfl)
  obtain ⟨a1, v1, e1, f1, g1⟩ := fieldZ (D := LFlds) 1 rz_flds cz_flds (hf 1 _ rfl)
  obtain ⟨a2, v2, e2, f2, g2⟩ := fieldZ (D := LInts) 2 rz_ints cz_ints (hf 2 _ rfl)
  simp at e0 e1 e2
  subst e0 e1 e2
  exact ⟨⟨a0, a1, a2⟩, ⟨_, _, rfl, f1, f2, f0⟩, by show a1.length * 64 ≤ _; omega, by show a2.length * 8 ≤ _; omega⟩
theorem rz_itm : ReadsZ Try.prog 98 DItm := fun enc w base spare held fuel cs x h hw => by
  obtain ⟨n, hl, hf⟩ := structZ Try.underlying98 h hw
  rw [show Try.prog.cellsOf 98 = 2 by kernel_rfl] at hl
  obtain ⟨c0, c1, rfl⟩ := list2 hl
  obtain ⟨a0, e0, f0⟩ := fieldZ (D := DStr) 0 rz_string cz_string (hf 0 _ rfl)
  obtain ⟨a1, e1, f1⟩ := fieldZ (D := DInt) 1 rz_int cz_int (hf 1 _ rfl)
  simp at e0 e1
  subst e0 e1
  exact ⟨⟨a0, a1⟩, rfl, f1, f0⟩
theorem rz_itms : ReadsZ Try.prog 85 LItms := readsZ_slice Try.underlying85 (by kernel_rfl) (by kernel_rfl) (by decide) rz_itm
theorem cz_itms : Try.prog.cellsOf 85 = 1 := by kernel_rfl
theorem rz_enu : ReadsZ Try.prog 87 LEnu := fun enc w base spare held fuel cs x h hw => by
  obtain ⟨n, hl, hf⟩ := structZ Try.underlying87 h hw
  rw [show Try.prog.cellsOf 87 = 2 by kernel_rfl] at hl
  obtain ⟨c0, c1, rfl⟩ := list2 hl
  obtain ⟨a0, e0, f0⟩ := fieldZ (D := DStr) 0 rz_string cz_string (hf 0 _ rfl)
  obtain ⟨a1, v1, e1, f1, g1⟩ := fieldZ (D := LItms) 1 rz_itms cz_itms (hf 1 _ rfl)
  simp at e0 e1
  subst e0 e1
  exact ⟨⟨a0, a1⟩, ⟨_, rfl, f1, f0⟩, by show a1.length * 24 ≤ _; omega⟩
theorem rz_msgs : ReadsZ Try.prog 42 LMsgs := readsZ_slice Try.underlying42 (by kernel_rfl) (by kernel_rfl) (by decide) rz_msg
theorem rz_enus : ReadsZ Try.prog 43 LEnus := readsZ_slice Try.underlying43 (by kernel_rfl) (by kernel_rfl) (by decide) rz_enu
theorem cz_msgs : Try.prog.cellsOf 42 = 1 := by kernel_rfl
theorem cz_enus : Try.prog.cellsOf 43 = 1 := by kernel_rfl
theorem rz_file : ReadsZ Try.prog 45 (fun S w f cs => ∃ vm ve, cs = [vm, ve] ∧ FilV S w (.agg #[vm, ve]) f ∧ FilSz f) := fun enc w base spare held fuel cs x h hw => by
  obtain ⟨n, hl, hf⟩ := structZ Try.underlying45 h hw
  rw [show Try.prog.cellsOf 45 = 2 by kernel_rfl] at hl
  obtain ⟨c0, c1, rfl⟩ := list2 hl
  obtain ⟨a0, v0, e0, f0, g0⟩ := fieldZ (D := LMsgs) 0 rz_msgs cz_msgs (hf 0 _ rfl)
  obtain ⟨a1, v1, e1, f1, g1⟩ := fieldZ (D := LEnus) 1 rz_enus cz_enus (hf 1 _ rfl)
  simp at e0 e1
  subst e0 e1
  have h0 := RdS.both f0
  have h1 := RdS.both f1
  exact ⟨⟨a0, a1⟩, _, _, rfl, ⟨_, _, rfl, h0.1, h1.1⟩, by show a0.length * 64 ≤ _; omega, by show a1.length * 40 ≤ _; omega, h0.2, h1.2⟩
end Go.Proofs.Ytplgegffapikoaa
