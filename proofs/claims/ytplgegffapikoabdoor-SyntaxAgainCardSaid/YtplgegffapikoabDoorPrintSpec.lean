/-
  A file's text in plain Lean.
-/
import Derived.Test.YtplgegffapikoabDoorParsSpec
import Derived.Lib.ItoaNum
set_option linter.unusedVariables false
namespace Go.Proofs.YtplgegffapikoabDoor
def sMessage : List UInt8 := [109, 101, 115, 115, 97, 103, 101, 32]
def sEnum : List UInt8 := [101, 110, 117, 109, 32]
def sOpen : List UInt8 := [32, 123, 10]
def sShut : List UInt8 := [125, 10]
def sShut2 : List UInt8 := [32, 32, 125, 10]
def sEq : List UInt8 := [32, 61, 32]
def sEnd : List UInt8 := [59, 10]
def sMany : List UInt8 := [114, 101, 112, 101, 97, 116, 101, 100, 32]
def sBar : List UInt8 := [32, 32, 114, 101, 115, 101, 114, 118, 101, 100, 32]
def sComma : List UInt8 := [44, 32]
def sOneof : List UInt8 := [32, 32, 111, 110, 101, 111, 102, 32, 123, 10]
def sTwo : List UInt8 := [32, 32]
/-- a field's type, as it is written -/
def kindW (x : Fld) : List UInt8 := if 1 ≤ x.kind ∧ x.kind ≤ 9 ∧ x.kind ≠ 5 then words.getD (x.kind - 1).toNat [] else x.type
def lineW (x : Fld) : List UInt8 := (if x.many then sMany else []) ++ (kindW x ++ (32 :: (x.name ++ (sEq ++ (Lib.itoa x.number ++ sEnd)))))
def barF : Bool → List Int → List UInt8
  | _, [] => []
  | first, n :: l => (if first then sBar else sComma) ++ (Lib.itoa n ++ barF false l)
def barW (l : List Int) : List UInt8 := barF true l ++ (if l = [] then [] else sEnd)
def nextC : List Fld → Int
  | [] => 0
  | x :: _ => x.choice
def fieldsF : Int → List Fld → List UInt8
  | _, [] => []
  | last, x :: l => (if 0 < x.choice ∧ x.choice ≠ last then sOneof else []) ++ ((if 0 < x.choice then sTwo else []) ++ (sTwo ++ (lineW x ++ ((if 0 < x.choice ∧ nextC l ≠ x.choice then sShut2 else []) ++ fieldsF x.choice l))))
def messW (m : Msg) : List UInt8 := sMessage ++ (m.name ++ (sOpen ++ (barW m.barred ++ (fieldsF 0 m.fields ++ sShut))))
def itemW (x : Itm) : List UInt8 := sTwo ++ (x.name ++ (sEq ++ (Lib.itoa x.value ++ sEnd)))
def enumW (e : Enu) : List UInt8 := sEnum ++ (e.name ++ (sOpen ++ (e.items.flatMap itemW ++ sShut)))
def printP (F : Fil) : List UInt8 := F.enums.flatMap enumW ++ F.msgs.flatMap messW
/-- a message's fields, their choices numbered as they come -/
def numF : Int → Int → List Fld → List Fld
  | _, _, [] => []
  | last, k, x :: l => { x with choice := if 0 < x.choice then (if 0 < x.choice ∧ x.choice ≠ last then k + 1 else k) else x.choice } :: numF x.choice (if 0 < x.choice ∧ x.choice ≠ last then k + 1 else k) l
def numM (m : Msg) : Msg := ⟨m.name, numF 0 0 m.fields, m.barred⟩
def numbered (F : Fil) : Fil := ⟨F.msgs.map numM, F.enums⟩
end Go.Proofs.YtplgegffapikoabDoor
