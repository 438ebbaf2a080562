/-
  The parser of texts in plain Lean: what each step makes of the rest of a text.
-/
import Derived.Test.YtbceapeoknngnaaDoorSy07
set_option linter.unusedVariables false
namespace Go.Proofs.YtbceapeoknngnaaDoor
inductive PR (α : Type) where
 | ok (a : α) (rest : List UInt8)
 | bad (err : Int) (rest : List UInt8)
deriving DecidableEq
namespace PR
def bind {α β : Type} : PR α → (α → List UInt8 → PR β) → PR β
 | .ok a l, f => f a l
 | .bad e l, _ => .bad e l
@[simp] theorem bind_ok {α β : Type} (a : α) (l : List UInt8) (f : α → List UInt8 → PR β) : (PR.ok a l).bind f = f a l := rfl
@[simp] theorem bind_bad {α β : Type} (e : Int) (l : List UInt8) (f : α → List UInt8 → PR β) : (PR.bad e l : PR α).bind f = .bad e l := rfl
end PR
def skipL : Bool → List UInt8 → List UInt8
 | _, [] => []
 | true, c :: l => if c = 10 then skipL false l else skipL true l
 | false, c :: l => if c = 32 ∨ c = 10 then skipL false l else if c = 47 ∧ l.head? = some 47 then skipL true l else c :: l
abbrev skip (l : List UInt8) : List UInt8 := skipL false l
def letterB (c : UInt8) : Bool := letterN c.toNat
def moreB (c : UInt8) : Bool := moreN c.toNat
def digitB (c : UInt8) : Bool := decide (48 ≤ c.toNat ∧ c.toNat ≤ 57)
def candP : List UInt8 → List UInt8
 | [] => []
 | c :: l => if letterB c then (c :: l).takeWhile moreB else []
def wordP (l : List UInt8) : PR (List UInt8) :=
 if candP (skip l) = [] then .bad 2 (skip l) else if 16 < (candP (skip l)).length then .bad 7 (skip l) else .ok (candP (skip l)) ((skip l).drop (candP (skip l)).length)
def decV (d : List UInt8) : Nat := d.foldl (fun n c => 10 * n + (c.toNat - 48)) 0
def numP (most : Nat) (l : List UInt8) : PR Nat :=
 if (skip l).takeWhile digitB = [] then .bad 2 (skip l)
 else if most < decV ((skip l).takeWhile digitB) ∨ (skip l).head? = some 48 ∧ 1 < ((skip l).takeWhile digitB).length then .bad 3 (skip l)
 else .ok (decV ((skip l).takeWhile digitB)) ((skip l).drop ((skip l).takeWhile digitB).length)
def eatP (c : UInt8) (l : List UInt8) : Bool × List UInt8 := if (skip l).head? = some c then (true, (skip l).tail) else (false, skip l)
def mustP (c : UInt8) (l : List UInt8) : PR Unit := if (eatP c l).1 then .ok () (eatP c l).2 else .bad 2 (eatP c l).2
def kindP (w : List UInt8) : Int × List UInt8 := if 0 ≤ idxP (fun x => w == x) words then (idxP (fun x => w == x) words + 1, []) else (10, w)
def headP (choice : Nat) (l : List UInt8) : PR (Bool × List UInt8) :=
 (wordP l).bind fun w l1 => if w = wRepeated ∧ choice = 0 then (wordP l1).bind fun w2 l2 => .ok (true, w2) l2 else .ok (false, w) l1
def fieldP (choice : Nat) (l : List UInt8) : PR Fld :=
 (headP choice l).bind fun mw l2 => (wordP l2).bind fun nm l3 => (mustP 61 l3).bind fun _ l4 => (numP 536870911 l4).bind fun n l5 =>
 (mustP 59 l5).bind fun _ l6 => .ok ⟨nm, n, (kindP mw.2).1, (kindP mw.2).2, mw.1, choice⟩ l6
def numsP : Nat → List Int → List UInt8 → PR (List Int)
 | 0, _, l => .bad 0 l
 | f + 1, acc, l => if (eatP 44 l).1 then (numP 536870911 (eatP 44 l).2).bind fun n l2 => numsP f (acc ++ [(n : Int)]) l2 else .ok acc (eatP 44 l).2
def choiceP : Nat → Nat → List Fld → List UInt8 → PR (List Fld)
 | 0, _, _, l => .bad 0 l
 | f + 1, c, acc, l => if (eatP 125 l).1 then .ok acc (eatP 125 l).2 else (fieldP c (eatP 125 l).2).bind fun x l2 => choiceP f c (acc ++ [x]) l2
def partP (choice : Nat) (fs : List Fld) (bs : List Int) (l : List UInt8) : PR (Nat × List Fld × List Int) :=
 (wordP l).bind fun w l2 =>
   if w = wReserved then (numP 536870911 l2).bind fun n l3 => (numsP (l3.length + 1) (bs ++ [(n : Int)]) l3).bind fun bs' l4 => (mustP 59 l4).bind fun _ l5 => .ok (choice, fs, bs') l5
   else if w = wOneof then (mustP 123 l2).bind fun _ l3 => (choiceP (l3.length + 1) (choice + 1) fs l3).bind fun fs' l4 => .ok (choice + 1, fs', bs) l4
   else (fieldP 0 l).bind fun x l3 => .ok (choice, fs ++ [x], bs) l3
def messP : Nat → List UInt8 → Nat → List Fld → List Int → List UInt8 → PR Msg
 | 0, _, _, _, _, l => .bad 0 l
 | f + 1, nm, choice, fs, bs, l => if (eatP 125 l).1 then .ok ⟨nm, fs, bs⟩ (eatP 125 l).2 else
   (partP choice fs bs (eatP 125 l).2).bind fun t l6 => if 16 < t.2.1.length ∨ 16 < t.2.2.length then .bad 5 l6 else messP f nm t.1 t.2.1 t.2.2 l6
def messageP (l : List UInt8) : PR Msg := (wordP l).bind fun nm l1 => (mustP 123 l1).bind fun _ l2 => messP (l2.length + 1) nm 0 [] [] l2
def itemP (l : List UInt8) : PR Itm :=
 (wordP l).bind fun nm l2 => (mustP 61 l2).bind fun _ l3 =>
   (if (eatP 45 l3).1 then (numP 2147483648 (eatP 45 l3).2).bind fun n l4 => .ok (-(n : Int)) l4 else (numP 2147483647 (eatP 45 l3).2).bind fun n l4 => .ok (n : Int) l4).bind fun v l5 =>
   (mustP 59 l5).bind fun _ l6 => .ok ⟨nm, v⟩ l6
def itemsP : Nat → List Itm → List UInt8 → PR (List Itm)
 | 0, _, l => .bad 0 l
 | f + 1, acc, l => if (eatP 125 l).1 then .ok acc (eatP 125 l).2 else
   (itemP (eatP 125 l).2).bind fun x l6 => if 16 < (acc ++ [x]).length then .bad 5 l6 else itemsP f (acc ++ [x]) l6
def enumP (l : List UInt8) : PR Enu := (wordP l).bind fun nm l1 => (mustP 123 l1).bind fun _ l2 => (itemsP (l2.length + 1) [] l2).bind fun is l3 => .ok ⟨nm, is⟩ l3
def wMessage : List UInt8 := [109, 101, 115, 115, 97, 103, 101]
def wEnum : List UInt8 := [101, 110, 117, 109]
def topP (F : Fil) (l : List UInt8) : PR Fil :=
 (wordP l).bind fun w l2 =>
   if w = wMessage then (messageP l2).bind fun m l3 => .ok ⟨F.msgs ++ [m], F.enums⟩ l3
   else if w = wEnum then (enumP l2).bind fun e l3 => .ok ⟨F.msgs, F.enums ++ [e]⟩ l3
   else .bad 2 l
def fileP : Nat → Fil → List UInt8 → PR Fil
 | 0, _, l => .bad 0 l
 | f + 1, F, l => if skip l = [] then .ok F [] else
   (topP F (skip l)).bind fun F' l3 => if 10 < F'.msgs.length + F'.enums.length then .bad 5 l3 else fileP f F' l3
def parseS (s : List UInt8) : Fil × Int × Nat :=
 if 3000 < s.length then (⟨[], []⟩, 4, 0) else
 match fileP (s.length + 1) ⟨[], []⟩ s with
 | .ok F _ => (F, 0, 0)
 | .bad e l => (⟨[], []⟩, e, s.length - l.length)
end Go.Proofs.YtbceapeoknngnaaDoor
