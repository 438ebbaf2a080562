/-
  How Go's data, as they come in, read as lists and records.
  How Go's data, as they come in, read as lists and records, none larger than the form's own reach.
  A file, as it comes in.
  A right file's text is read as the file.
  A right file's text is read as the file: messages, enums, the whole.
  What is read is right, so it is printed and read again; choices numbered once more are the same.
-/
import Derived.Deep.Slices
import Derived.ChangeArms
import Derived.ChangeSame
import Derived.DataReads
import Derived.SizedLaws
import Derived.Test.YtbceapeoknngnaaDoorSy25
import Derived.Test.YtbceapeoknngnaaDoorSy39
set_option linter.unusedVariables false
namespace Go.Proofs.YtbceapeoknngnaaDoor
open Go.RowKit
def Reads {α : Type} (P : Program) (t : TypeId) (D : Lay α) : Prop :=
 ∀ {H : Type} (enc : TypeId × Value → H) (w : World) (base : Nat) (spare : Nat → Bool) (held : Bool) (fuel : Nat) (cs : List Value) (x : DataW H × List MemPlace), DataW.trod enc P w base spare held fuel t cs = some x → ∃ a : α, D All w a cs
theorem reads_int {P : Program} {t : TypeId} (ht : P.underlying t = some (.int .i64)) : Reads P t DInt := fun enc w base spare held fuel cs x h => by
 obtain ⟨n, rfl, _, hwf⟩ := DataW.trod_int ht h; (have hx : -9223372036854775808 ≤ n ∧ n ≤ 9223372036854775807 := by simpa [Lit.wf, IntKind.min, IntKind.max, IntKind.signed, IntKind.bits] using hwf); exact ⟨n, rfl, hx.1, hx.2⟩
theorem cells?_at {w : World} {base : Nat} {a : Addr} {n : Nat} {cs : List Value} (h : w.cells? base a n = some cs) : cs.length = n ∧ ∀ j u, cs[j]? = some u → w.cell? (a.add j) = some u := by
 obtain ⟨_, hl, hc⟩ := World.cells?_some h; refine ⟨hl, fun j u hu => ?_⟩; (have hj : j < n := by rw [← hl]; exact (List.getElem?_eq_some_iff.1 hu).1); rw [hc j hj]; exact hu
def ReadsZ {α : Type} (P : Program) (t : TypeId) (D : Lay α) : Prop :=
 ∀ {H : Type} (enc : TypeId × Value → H) (w : World) (base : Nat) (spare : Nat → Bool) (held : Bool) (fuel : Nat) (cs : List Value) (x : DataW H × List MemPlace), DataW.trod enc P w base spare held fuel t cs = some x → (∀ n ∈ x.1.weights P t, n ≤ reachBytes) → ∃ a : α, D All w a cs
theorem Reads.z {α : Type} {P : Program} {t : TypeId} {D : Lay α} (h : Reads P t D) : ReadsZ P t D := fun enc w base spare held fuel cs x hx _ => h enc w base spare held fuel cs x hx
theorem reads_bool {P : Program} {t : TypeId} (ht : P.underlying t = some .bool) : Reads P t (fun _ _ (b : Bool) cs => cs = [.bool b]) := fun enc w base spare held fuel cs x h => by
 obtain ⟨b, rfl, _⟩ := DataW.trod_bool ht h; exact ⟨b, rfl⟩
theorem list2 {α : Type} {l : List α} (h : l.length = 2) : ∃ a b, l = [a, b] := by
 match l, h with
 | [a, b], _ => exact ⟨a, b, rfl⟩
theorem list3 {α : Type} {l : List α} (h : l.length = 3) : ∃ a b c, l = [a, b, c] := by
 match l, h with
 | [a, b, c], _ => exact ⟨a, b, c, rfl⟩
theorem list6 {α : Type} {l : List α} (h : l.length = 6) : ∃ a b c d e f, l = [a, b, c, d, e, f] := by
 match l, h with
 | [a, b, c, d, e, f], _ => exact ⟨a, b, c, d, e, f, rfl⟩
theorem RdS.both {α : Type} {D : Lay α} {Z : α → Prop} {size : Nat} {S : Nat → Prop} {w : World} {v : Value} {l : List α} (h : RdS (fun S w a cs => D S w a cs ∧ Z a) size S w v l) : RdS D size S w v l ∧ ∀ a ∈ l, Z a := by
 obtain ⟨ao, cap, hv, h1, h2, h3, h4⟩ := h; refine ⟨⟨ao, cap, hv, h1, h2, h3, fun i hi => ?_⟩, fun a ha => ?_⟩
 · obtain ⟨b, o, cs, e1, e2, e3, e4, e5, e6⟩ := h4 i hi; exact ⟨b, o, cs, e1, e2, e3, e4, e5, e6.1⟩
 · obtain ⟨i, hi, rfl⟩ := List.getElem_of_mem ha; obtain ⟨b, o, cs, e1, e2, e3, e4, e5, e6⟩ := h4 i hi; exact e6.2
instance : Inhabited Fld := ⟨⟨[], 0, 0, [], false, 0⟩⟩
instance : Inhabited Msg := ⟨⟨[], [], []⟩⟩
instance : Inhabited Itm := ⟨⟨[], 0⟩⟩
instance : Inhabited Enu := ⟨⟨[], []⟩⟩
def LBool : Lay (Bool) := fun _ _ b cs => cs = [.bool b]
theorem cz_int : Tryd.prog.cellsOf 3 = 1 := by kernel_rfl
theorem cz_bool : Tryd.prog.cellsOf 4 = 1 := by kernel_rfl
theorem cz_string : Tryd.prog.cellsOf 9 = 1 := by kernel_rfl
theorem cz_flds : Tryd.prog.cellsOf 43 = 1 := by kernel_rfl
theorem cz_ints : Tryd.prog.cellsOf 44 = 1 := by kernel_rfl
theorem cz_itms : Tryd.prog.cellsOf 48 = 1 := by kernel_rfl
theorem cz_msgs : Tryd.prog.cellsOf 22 = 1 := by kernel_rfl
theorem cz_enus : Tryd.prog.cellsOf 23 = 1 := by kernel_rfl
end Go.Proofs.YtbceapeoknngnaaDoor
namespace Go.Proofs.YtbceapeoknngnaaDoor
structure NameOk (w : List UInt8) : Prop where
 len : 0 < w.length ∧ w.length ≤ 16
 first : ∀ c, w.head? = some c → letterB c = true
 all : ∀ c ∈ w, moreB c = true
theorem NameOk.of (w : List UInt8) (h : named w = true) : NameOk w := by
 unfold named at h; rw [Bool.and_eq_true, decide_eq_true_eq, List.all_eq_true] at h; obtain ⟨h1, h2⟩ := h; refine ⟨h1, ?_, ?_⟩
 · intro c hc
   cases w with
   | nil => cases hc
   | cons d r =>
     simp only [List.head?_cons, Option.some.injEq] at hc; subst hc; have := h2 0 (List.mem_range.2 (by simp)); unfold partN at this; rw [if_pos rfl] at this; exact this
 · intro c hc; obtain ⟨i, hi, rfl⟩ := List.getElem_of_mem hc; have := h2 i (List.mem_range.2 hi); unfold partN at this; (have hg : w.getD i 0 = w[i] := by simp [List.getD, hi]); rw [hg] at this; split at this
   · unfold moreB moreN; unfold letterN at this; rw [decide_eq_true_eq] at this ⊢; omega
   · exact this
def typeOk (t : List UInt8) : Prop := NameOk t ∧ t ∉ words ∧ t ≠ wRepeated ∧ t ≠ wReserved ∧ t ≠ wOneof
structure FldPr (x : Fld) : Prop where
 name : NameOk x.name
 num : 0 ≤ x.number ∧ x.number ≤ 536870911
 kind : (1 ≤ x.kind ∧ x.kind ≤ 9 ∧ x.kind ≠ 5 ∧ x.type = []) ∨ ((x.kind = 5 ∨ x.kind = 10) ∧ typeOk x.type)
 choice : 0 ≤ x.choice
 many : 0 < x.choice → x.many = false
structure MsgPr (m : Msg) : Prop where
 name : NameOk m.name
 fields : ∀ x ∈ m.fields, FldPr x
 flen : m.fields.length ≤ 16
 barred : ∀ n ∈ m.barred, 0 ≤ n ∧ n ≤ 536870911
 blen : m.barred.length ≤ 16
structure EnuPr (e : Enu) : Prop where
 name : NameOk e.name
 items : ∀ x ∈ e.items, NameOk x.name ∧ -2147483648 ≤ x.value ∧ x.value ≤ 2147483647
 ilen : e.items.length ≤ 16
structure FilPr (F : Fil) : Prop where
 msgs : ∀ m ∈ F.msgs, MsgPr m
 enums : ∀ e ∈ F.enums, EnuPr e
 len : F.msgs.length + F.enums.length ≤ 10
structure FldRaw (x : Fld) : Prop where
 name : NameOk x.name
 num : 0 ≤ x.number ∧ x.number ≤ 536870911
 kind : (1 ≤ x.kind ∧ x.kind ≤ 9 ∧ x.kind ≠ 5 ∧ x.type = []) ∨ (x.kind = 10 ∧ NameOk x.type ∧ x.type ∉ words)
 choice : 0 ≤ x.choice
 many : 0 < x.choice → x.many = false
structure MsgRaw (m : Msg) : Prop where
 name : NameOk m.name
 fields : ∀ x ∈ m.fields, FldRaw x
 flen : m.fields.length ≤ 16
 barred : ∀ n ∈ m.barred, 0 ≤ n ∧ n ≤ 536870911
 blen : m.barred.length ≤ 16
structure FilRaw (F : Fil) : Prop where
 msgs : ∀ m ∈ F.msgs, MsgRaw m
 enums : ∀ e ∈ F.enums, EnuPr e
 len : F.msgs.length + F.enums.length ≤ 10
end Go.Proofs.YtbceapeoknngnaaDoor
