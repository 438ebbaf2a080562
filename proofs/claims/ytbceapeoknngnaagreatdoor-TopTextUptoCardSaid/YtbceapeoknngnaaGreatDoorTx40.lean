/-
  codec.Parse.
  The parser of texts in plain Lean: what each step makes of the rest of a text.
  How the parser lies: its text and its place; what a step of it comes to.
  The parser's fail, blank, eat, must.
  The parser's blank.
  The parser's eat, must.
-/
import Derived.Test.YtbceapeoknngnaaGreatDoorTx39
import Derived.Test.YtbceapeoknngnaaGreatDoorTx27
import Derived.Lib.BufferOwn
import Derived.WalkLawsBesides
set_option linter.unusedVariables false
namespace Go.Proofs.YtbceapeoknngnaaGreatDoor
open Go.RowKit
set_option maxRecDepth 100000
open Lib (hid)
set_option maxHeartbeats 3200000 in
theorem parse_c (v : Value) (f : Fil) (msg : Int) (vb : Value) (l : List UInt8) (w : World) (hf : FilV All w v f) (hr : RdB All w vb l) (hll : l.length ≤ 1099511627776) (hT : Tabs w) :
   Calls Tryz.prog 14 #[v, .int .i64 msg, vb] w fun e w' => ∃ vv vu, e = .returned (.tuple #[.agg #[vv, vu], .int .i64 (parseA f msg l).2]) ∧ DBodF 13 (From w.heap.size) w' (parseA f msg l).1 [vv, vu] ∧ Up w w' := by
 obtain ⟨vm, ve, rfl, hm, he⟩ := id hf; obtain ⟨ma, mc, rfl, _, _⟩ := hm.val; obtain ⟨ea, ec, rfl, _, _⟩ := he.val; obtain ⟨la, lc, rfl, _, _⟩ := hr.val; have Hf := hid hf; have Hr := hid hr; have HT := hid hT; have Hll := hid hll; clear hf hr hT hm he hll; obtain ⟨ANS, hANS⟩ : ∃ ANS, parseA f msg l = ANS := ⟨_, rfl⟩; rw [hANS]; unfold parseA at hANS; have HA := hid hANS; clear hANS; have hb0 : ((w.alloc (.cells #[.slice ma f.msgs.length mc, .slice ea f.enums.length ec] 25)).alloc (.cells #[.slice none 0 0, .slice none 0 0] 29)).heap[w.heap.size]? = some (.cells #[.slice ma f.msgs.length mc, .slice ea f.enums.length ec] 25 (0, 0)) := blk_old _ (blk_new w _ rfl); have hb1 : ((w.alloc (.cells #[.slice ma f.msgs.length mc, .slice ea f.enums.length ec] 25)).alloc (.cells #[.slice none 0 0, .slice none 0 0] 29)).heap[w.heap.size + 1]? = some (.cells #[.slice none 0 0, .slice none 0 0] 29 (0, 0)) := blk_new (w.alloc _) _ (by simp); have hu0 : Up w ((w.alloc (.cells #[.slice ma f.msgs.length mc, .slice ea f.enums.length ec] 25)).alloc (.cells #[.slice none 0 0, .slice none 0 0] 29)) := ((Up.refl w).alloc _).alloc _; have Hw0 := hid (fun W (u : Up w W) => wrong_l _ f W (Hf.out.up u)); obtain ⟨we, hwe⟩ : ∃ we, (wrongN f).1 = we := ⟨_, rfl⟩; rw [hwe] at Hw0; generalize hwa : (wrongN f).2 = wa at *; clear hwa
 go_enter Tryz.func14, Tryz.ntmps14
 go_upto_region 1 with (fail)
 generalize (w.alloc (.cells #[.slice ma f.msgs.length mc, .slice ea f.enums.length ec] 25)).alloc (.cells #[.slice none 0 0, .slice none 0 0] 29) = w1 at *; have i0 : w1.cell? ⟨w.heap.size, 0, none⟩ = some (.slice ma f.msgs.length mc) := cell_of_row w1 _ 0 _ _ _ hb0; have i1 : w1.cell? ⟨w.heap.size, 1, none⟩ = some (.slice ea f.enums.length ec) := cell_of_row w1 _ 1 _ _ _ hb0
 go_upto_region 2 with (go_at_call 38; go_must (refine (Hw0.out _ hu0).mono ?_; rintro e w2 ⟨rfl, hu2⟩))
 have hbX := blk_new w2 (.cells #[.int .i64 we, .int .i64 (wa : Int)] 67) (g := w2.heap.size) rfl; have hu3 := (hu0.trans hu2).alloc (.cells #[.int .i64 we, .int .i64 (wa : Int)] 67); have hb0 := blk_old (.cells #[.int .i64 we, .int .i64 (wa : Int)] 67) (hu2.blk hb0); have hb1' := hu2.blk hb1; (have hXB : w2.heap.size ≠ w.heap.size + 1 := by have := lt_of_block hb1'; omega); have hb1 := blk_old (.cells #[.int .i64 we, .int .i64 (wa : Int)] 67) hb1'; generalize w2.alloc (.cells #[.int .i64 we, .int .i64 (wa : Int)] 67) = w3 at *; generalize w2.heap.size = X at *; have z0 : w3.cell? ⟨w.heap.size + 1, 0, none⟩ = some (.slice none 0 0) := cell_of_row w3 _ 0 _ _ _ hb1; have z1 : w3.cell? ⟨w.heap.size + 1, 1, none⟩ = some (.slice none 0 0) := cell_of_row w3 _ 1 _ _ _ hb1; have zf : ∀ o, w3.frozen? ⟨w.heap.size + 1, o, none⟩ = false := fun o => frozen_of_row w3 _ o _ _ hb1; have zz : w.heap.size + 1 < w3.heap.size := lt_of_block hb1; have x0 : w3.cell? ⟨X, 0, none⟩ = some (.int .i64 we) := cell_of_row w3 _ 0 _ _ _ hbX; have Hu3 := hid hu3; have Hb0 := hid hb0; have Hb1 := hid hb1; clear hbX hu2 hu3 hb0 hb1 hb1' hu0 i0 i1; have hANS := HA.out; clear HA
 by_cases hw : we = 0
 · rw [if_neg (by rw [hwe, hw]; simp)] at hANS; subst hw; have i0 : w3.cell? ⟨w.heap.size, 0, none⟩ = some (.slice ma f.msgs.length mc) := cell_of_row w3 _ 0 _ _ _ Hb0.out; have i1 : w3.cell? ⟨w.heap.size, 1, none⟩ = some (.slice ea f.enums.length ec) := cell_of_row w3 _ 1 _ _ _ Hb0.out
   by_cases hmm : msg < 0 ∨ f.msgs.length ≤ msg
   · rw [if_pos hmm] at hANS; have Hans := hid hANS; clear hANS; (have hc : msg < 0 ∨ (¬ msg < 0 ∧ (f.msgs.length : Int) ≤ msg) := by omega); clear hmm; rcases hc with hc | ⟨hc1, hc2⟩
     all_goals
       (go_wp2_with fail); refine bodyPost_ret (v := .tuple #[.agg #[.slice none 0 0, .slice none 0 0], .int .i64 6]) (by simp [results, Tryz.results14, go_sem, z0, z1]) rfl ?_; rw [← Hans.out]; refine ⟨_, _, rfl, ⟨_, _, rfl, rdS_nil _ _ _ _, rdS_nil _ _ _ _, by simp [bod0, Bod.values], by simp [bod0, Bod.unknown]⟩, ?_⟩; exact Up.setCell (Up.setCell Hu3.out (p := ⟨w.heap.size + 1, 0, none⟩) (Nat.le_succ _) _) (p := ⟨w.heap.size + 1, 1, none⟩) (Nat.le_succ _) _
   · rw [if_neg hmm] at hANS; (have hm0 : 0 ≤ msg := by omega); (have hm1 : msg < f.msgs.length := by omega); (have hc1 : ¬ msg < 0 := by omega); (have hc2 : ¬ (f.msgs.length : Int) ≤ msg := by omega); have Hans := hid hANS; have e1 : (13 : Int) - ((12 : Nat) : Int) = 1 := rfl; have Hbod := hid (fun W C (u : Up w3 W) (hc : W.cell? ⟨C, 0, none⟩ = some (.pointer (some ⟨w.heap.size, 0, none⟩))) => rbody_c f hwe 12 (Nat.le_refl _) msg l (.slice la l.length lc) C w.heap.size W hm0 hm1 ⟨hc, _, _, u.cell_some i0, u.cell_some i1, Hf.out.up (Hu3.out.trans u)⟩ (Hr.out.up stable_u8 (Hu3.out.trans u)) Hll.out (HT.out.up (Hu3.out.trans u))); rw [e1] at Hbod; clear hANS hmm e1; have hC := blk_new w3 (.cells #[.pointer (some ⟨w.heap.size, 0, none⟩)] 94) (g := w3.heap.size) rfl; generalize readC f 12 msg l = RC at *; (go_wp2_with (go_at_call 39; go_must (refine (Hbod.out _ _ ((Up.refl w3).alloc _) (cell_of_row _ _ 0 _ _ _ hC)).mono ?_; rintro e w6 ⟨vv, vu, rfl, hd6, hu6⟩; obtain ⟨s1, n1, c1, s2, n2, c2, hbt⟩ := bod_two hd6; simp only [List.cons.injEq, and_true] at hbt; obtain ⟨rfl, rfl⟩ := hbt; have Hd6 := hid hd6; have Hu6 := hid (((Up.refl w3).alloc _).trans hu6); have hb6 := (((Up.refl w3).alloc _).trans hu6).blk Hb1.out; have y0 : w6.cell? ⟨w.heap.size + 1, 0, none⟩ = some (.slice none 0 0) := cell_of_row w6 _ 0 _ _ _ hb6; have y1 : w6.cell? ⟨w.heap.size + 1, 1, none⟩ = some (.slice none 0 0) := cell_of_row w6 _ 1 _ _ _ hb6; have yf : ∀ o, w6.frozen? ⟨w.heap.size + 1, o, none⟩ = false := (fun o => frozen_of_row w6 _ o _ _ hb6); have yz : w.heap.size + 1 < w6.heap.size := lt_of_block hb6; clear hd6 hu6 hb6 z0 z1 zf x0 i0 i1 hC))); refine bodyPost_ret (v := .tuple #[.agg #[.slice s1 n1 c1, .slice s2 n2 c2], .int .i64 RC.2]) (by simp [results, Tryz.results14, go_sem, y0, y1]) rfl ?_; rw [← Hans.out]; refine ⟨_, _, rfl, ?_, Up.setCell (Up.setCell (Hu3.out.trans Hu6.out) (p := ⟨w.heap.size + 1, 0, none⟩) (Nat.le_succ _) _) (p := ⟨w.heap.size + 1, 1, none⟩) (Nat.le_succ _) _⟩; refine stable_bod 13 _ _ _ _ _ _ ?_ Hd6.out; refine (((Keep.setCell (p := ⟨w.heap.size + 1, 0, none⟩) ?_ _).trans (Keep.setCell (p := ⟨w.heap.size + 1, 1, none⟩) ?_ _)).trans (Keep.weak fun q hq => ?_))
     · show ¬ _ ≤ _; simp; omega
     · show ¬ _ ≤ _; simp; omega
     · have h1 : (w3.alloc (.cells #[.pointer (some ⟨w.heap.size, 0, none⟩)] 94)).heap.size ≤ q := hq; simp at h1; show w.heap.size ≤ q; omega
 · rw [if_pos (by rw [hwe]; exact hw)] at hANS; have Hans := hid hANS; (have hne : (we != 0) = true := by rw [bne_iff_ne]; exact hw); rw [hwe] at Hans; clear hANS hw
   go_upto_region 3 with (fail)
   have dd : w3.drew.cell? ⟨X, 0, none⟩ = some (.int .i64 we) := x0; clear x0
   go_region_held3 (fun w' => w'.cell? ⟨X, 0, none⟩ = some (.int .i64 we))
     (first | with_reducible exact dd | exact Eq.trans (cell_set_ne (w := w3.setCell ⟨w.heap.size + 1, 0, none⟩ (.slice none 0 0)) hXB 1 (.slice none 0 0)) (Eq.trans (cell_set_ne (w := w3) hXB 0 (.slice none 0 0)) dd))
     (fail)
   all_goals
     (go_wp2_with fail); refine bodyPost_ret (v := .tuple #[.agg #[.slice none 0 0, .slice none 0 0], .int .i64 we]) (by simp [results, Tryz.results14, go_sem, z0, z1]) rfl ?_; rw [← Hans.out]; refine ⟨_, _, rfl, ⟨_, _, rfl, rdS_nil _ _ _ _, rdS_nil _ _ _ _, by simp [bod0, Bod.values], by simp [bod0, Bod.unknown]⟩, ?_⟩; exact (Up.setCell (Up.setCell Hu3.out (p := ⟨w.heap.size + 1, 0, none⟩) (Nat.le_succ _) _) (p := ⟨w.heap.size + 1, 1, none⟩) (Nat.le_succ _) _).drew
end Go.Proofs.YtbceapeoknngnaaGreatDoor
namespace Go.Proofs.YtbceapeoknngnaaGreatDoor
inductive PR (α : Type) where
 | ok (a : α) (rest : List UInt8)
 | bad (err : Int) (rest : List UInt8)
deriving DecidableEq
namespace PR
def bind {α β : Type} : PR α → (α → List UInt8 → PR β) → PR β
 | .ok a l, f => f a l
 | .bad e l, _ => .bad e l
@[simp] theorem bind_ok {α β : Type} (a : α) (l : List UInt8) (f : α → List UInt8 → PR β) : (PR.ok a l).bind f = f a l := rfl
@[simp] theorem bind_bad {α β : Type} (e : Int) (l : List UInt8) (f : α → List UInt8 → PR β) : (PR.bad e l : PR α).bind f = .bad e l := rfl
end PR
def skipL : Bool → List UInt8 → List UInt8
 | _, [] => []
 | true, c :: l => if c = 10 then skipL false l else skipL true l
 | false, c :: l => if c = 32 ∨ c = 10 then skipL false l else if c = 47 ∧ l.head? = some 47 then skipL true l else c :: l
abbrev skip (l : List UInt8) : List UInt8 := skipL false l
def letterB (c : UInt8) : Bool := letterN c.toNat
def moreB (c : UInt8) : Bool := moreN c.toNat
def digitB (c : UInt8) : Bool := decide (48 ≤ c.toNat ∧ c.toNat ≤ 57)
def candP : List UInt8 → List UInt8
 | [] => []
 | c :: l => if letterB c then (c :: l).takeWhile moreB else []
def wordP (l : List UInt8) : PR (List UInt8) :=
 if candP (skip l) = [] then .bad 2 (skip l) else if 16 < (candP (skip l)).length then .bad 7 (skip l) else .ok (candP (skip l)) ((skip l).drop (candP (skip l)).length)
def decV (d : List UInt8) : Nat := d.foldl (fun n c => 10 * n + (c.toNat - 48)) 0
def numP (most : Nat) (l : List UInt8) : PR Nat :=
 if (skip l).takeWhile digitB = [] then .bad 2 (skip l)
 else if most < decV ((skip l).takeWhile digitB) ∨ (skip l).head? = some 48 ∧ 1 < ((skip l).takeWhile digitB).length then .bad 3 (skip l)
 else .ok (decV ((skip l).takeWhile digitB)) ((skip l).drop ((skip l).takeWhile digitB).length)
def eatP (c : UInt8) (l : List UInt8) : Bool × List UInt8 := if (skip l).head? = some c then (true, (skip l).tail) else (false, skip l)
def mustP (c : UInt8) (l : List UInt8) : PR Unit := if (eatP c l).1 then .ok () (eatP c l).2 else .bad 2 (eatP c l).2
def kindP (w : List UInt8) : Int × List UInt8 := if 0 ≤ idxP (fun x => w == x) words then (idxP (fun x => w == x) words + 1, []) else (10, w)
def headP (choice : Nat) (l : List UInt8) : PR (Bool × List UInt8) :=
 (wordP l).bind fun w l1 => if w = wRepeated ∧ choice = 0 then (wordP l1).bind fun w2 l2 => .ok (true, w2) l2 else .ok (false, w) l1
def fieldP (choice : Nat) (l : List UInt8) : PR Fld :=
 (headP choice l).bind fun mw l2 => (wordP l2).bind fun nm l3 => (mustP 61 l3).bind fun _ l4 => (numP 536870911 l4).bind fun n l5 =>
 (mustP 59 l5).bind fun _ l6 => .ok ⟨nm, n, (kindP mw.2).1, (kindP mw.2).2, mw.1, choice⟩ l6
def numsP : Nat → List Int → List UInt8 → PR (List Int)
 | 0, _, l => .bad 0 l
 | f + 1, acc, l => if (eatP 44 l).1 then (numP 536870911 (eatP 44 l).2).bind fun n l2 => numsP f (acc ++ [(n : Int)]) l2 else .ok acc (eatP 44 l).2
def choiceP : Nat → Nat → List Fld → List UInt8 → PR (List Fld)
 | 0, _, _, l => .bad 0 l
 | f + 1, c, acc, l => if (eatP 125 l).1 then .ok acc (eatP 125 l).2 else (fieldP c (eatP 125 l).2).bind fun x l2 => choiceP f c (acc ++ [x]) l2
def partP (choice : Nat) (fs : List Fld) (bs : List Int) (l : List UInt8) : PR (Nat × List Fld × List Int) :=
 (wordP l).bind fun w l2 =>
   if w = wReserved then (numP 536870911 l2).bind fun n l3 => (numsP (l3.length + 1) (bs ++ [(n : Int)]) l3).bind fun bs' l4 => (mustP 59 l4).bind fun _ l5 => .ok (choice, fs, bs') l5
   else if w = wOneof then (mustP 123 l2).bind fun _ l3 => (choiceP (l3.length + 1) (choice + 1) fs l3).bind fun fs' l4 => .ok (choice + 1, fs', bs) l4
   else (fieldP 0 l).bind fun x l3 => .ok (choice, fs ++ [x], bs) l3
def messP : Nat → List UInt8 → Nat → List Fld → List Int → List UInt8 → PR Msg
 | 0, _, _, _, _, l => .bad 0 l
 | f + 1, nm, choice, fs, bs, l => if (eatP 125 l).1 then .ok ⟨nm, fs, bs⟩ (eatP 125 l).2 else
   (partP choice fs bs (eatP 125 l).2).bind fun t l6 => if 16 < t.2.1.length ∨ 16 < t.2.2.length then .bad 5 l6 else messP f nm t.1 t.2.1 t.2.2 l6
def messageP (l : List UInt8) : PR Msg := (wordP l).bind fun nm l1 => (mustP 123 l1).bind fun _ l2 => messP (l2.length + 1) nm 0 [] [] l2
def itemP (l : List UInt8) : PR Itm :=
 (wordP l).bind fun nm l2 => (mustP 61 l2).bind fun _ l3 =>
   (if (eatP 45 l3).1 then (numP 2147483648 (eatP 45 l3).2).bind fun n l4 => .ok (-(n : Int)) l4 else (numP 2147483647 (eatP 45 l3).2).bind fun n l4 => .ok (n : Int) l4).bind fun v l5 =>
   (mustP 59 l5).bind fun _ l6 => .ok ⟨nm, v⟩ l6
def itemsP : Nat → List Itm → List UInt8 → PR (List Itm)
 | 0, _, l => .bad 0 l
 | f + 1, acc, l => if (eatP 125 l).1 then .ok acc (eatP 125 l).2 else
   (itemP (eatP 125 l).2).bind fun x l6 => if 16 < (acc ++ [x]).length then .bad 5 l6 else itemsP f (acc ++ [x]) l6
def enumP (l : List UInt8) : PR Enu := (wordP l).bind fun nm l1 => (mustP 123 l1).bind fun _ l2 => (itemsP (l2.length + 1) [] l2).bind fun is l3 => .ok ⟨nm, is⟩ l3
def wMessage : List UInt8 := [109, 101, 115, 115, 97, 103, 101]
def wEnum : List UInt8 := [101, 110, 117, 109]
def topP (F : Fil) (l : List UInt8) : PR Fil :=
 (wordP l).bind fun w l2 =>
   if w = wMessage then (messageP l2).bind fun m l3 => .ok ⟨F.msgs ++ [m], F.enums⟩ l3
   else if w = wEnum then (enumP l2).bind fun e l3 => .ok ⟨F.msgs, F.enums ++ [e]⟩ l3
   else .bad 2 l
def fileP : Nat → Fil → List UInt8 → PR Fil
 | 0, _, l => .bad 0 l
 | f + 1, F, l => if skip l = [] then .ok F [] else
   (topP F (skip l)).bind fun F' l3 => if 10 < F'.msgs.length + F'.enums.length then .bad 5 l3 else fileP f F' l3
def parseS (s : List UInt8) : Fil × Int × Nat :=
 if 3000 < s.length then (⟨[], []⟩, 4, 0) else
 match fileP (s.length + 1) ⟨[], []⟩ s with
 | .ok F _ => (F, 0, 0)
 | .bad e l => (⟨[], []⟩, e, s.length - l.length)
end Go.Proofs.YtbceapeoknngnaaGreatDoor
namespace Go.Proofs.YtbceapeoknngnaaGreatDoor
open Go.RowKit
def dr (s : ByteArray) (k : Nat) : List UInt8 := s.data.toList.drop k
theorem dr_len (s : ByteArray) (k : Nat) : (dr s k).length = s.size - k := by unfold dr; rw [List.length_drop]; rfl
theorem dr_cons {s : ByteArray} {k : Nat} (h : k < s.size) : dr s k = s[k] :: dr s (k + 1) := by
 unfold dr; rw [List.drop_eq_getElem_cons (by exact h)]; rfl
theorem dr_end {s : ByteArray} {k : Nat} (h : s.size ≤ k) : dr s k = [] := by
 unfold dr; exact List.drop_of_length_le h
theorem dr_drop (s : ByteArray) (k n : Nat) : (dr s k).drop n = dr s (k + n) := by unfold dr; rw [List.drop_drop]
theorem dr_extract (s : ByteArray) (a b : Nat) : (s.extract a b).data.toList = (dr s a).take (b - a) := by
 unfold dr; rw [ByteArray.data_extract, Array.toList_extract, List.extract_eq_take_drop]
theorem dr_at {s : ByteArray} {k i : Nat} (h : k + i < s.size) : (dr s k)[i]? = some s[k + i] := by
 unfold dr; rw [List.getElem?_drop, List.getElem?_eq_getElem (by exact h)]; rfl
def PW (g : Nat) (s : ByteArray) (k : Nat) (w : World) : Prop := w.heap[g]? = some (.cells #[.string s, .int .i64 k] 154 (0, 0))
theorem PW.c0 {g : Nat} {s : ByteArray} {k : Nat} {w : World} (h : PW g s k w) : w.cell? ⟨g, 0, none⟩ = some (.string s) := cell_of_row w g 0 _ _ _ h
theorem PW.c1 {g : Nat} {s : ByteArray} {k : Nat} {w : World} (h : PW g s k w) : w.cell? ⟨g, 1, none⟩ = some (.int .i64 k) := cell_of_row w g 1 _ _ _ h
theorem PW.fz {g : Nat} {s : ByteArray} {k : Nat} {w : World} (h : PW g s k w) (o : Nat) : w.frozen? ⟨g, o, none⟩ = false := frozen_of_row w g o _ _ h
theorem PW.lt {g : Nat} {s : ByteArray} {k : Nat} {w : World} (h : PW g s k w) : g < w.heap.size := lt_of_block h
theorem PW.set {g : Nat} {s : ByteArray} {k : Nat} {w : World} (h : PW g s k w) (n : Nat) : PW g s n (w.setCell ⟨g, 1, none⟩ (.int .i64 n)) := heap_setCell_same w g 1 _ _ _ h
theorem PW.set1 {g : Nat} {s : ByteArray} {k : Nat} {w : World} (h : PW g s k w) {i : Int} (n : Nat) (e : i = n) : PW g s n (w.setCell ⟨g, 1, none⟩ (.int .i64 i)) := by subst e; exact h.set n
theorem PW.up {g : Nat} {s : ByteArray} {k : Nat} {w w' : World} (h : PW g s k w) (hu : Up w w') : PW g s k w' := hu.blk h
theorem PW.alloc {g : Nat} {s : ByteArray} {k : Nat} {w : World} (h : PW g s k w) (o : Obj) : PW g s k (w.alloc o) := h.up ((Up.refl w).alloc o)
theorem PW.other {g : Nat} {s : ByteArray} {k : Nat} {w : World} (h : PW g s k w) {p : Addr} (hp : p.block ≠ g) (u : Value) : PW g s k (w.setCell p u) := (Below.heap_setCell w p u g (fun e => hp e.symm)).trans h
theorem PW.drewN {g : Nat} {s : ByteArray} {k : Nat} {w : World} (h : PW g s k w) (n : Nat) : PW g s k (w.drewN n) := h.up ((Up.refl w).drewN n)
def pwAt (g : Nat) (w : World) : Nat := match w.cell? ⟨g, 1, none⟩ with | some (.int _ k) => k.toNat | _ => 0
theorem PW.is {g : Nat} {s : ByteArray} {k : Nat} {w : World} (h : PW g s k w) : pwAt g w = k := by unfold pwAt; rw [h.c1]; simp
def Gr (g : Nat) (w w' : World) : Prop := w.grownBy w' (some g)
theorem Gr.refl (g : Nat) (w : World) : Gr g w w := World.grownBy.refl _ _
theorem Gr.trans {g : Nat} {a b c : World} (h : Gr g a b) (k : Gr g b c) : Gr g a c := grownBy_trans h k (fun j e => .inl e)
theorem Gr.up {g : Nat} {a b c : World} (h : Gr g a b) (k : Up b c) : Gr g a c := grownBy_trans h k.to_none (fun j e => by cases e)
theorem Gr.of_up {g : Nat} {b c : World} (k : Up b c) : Gr g b c := (Gr.refl g b).up k
theorem Gr.set {g : Nat} {a b : World} (h : Gr g a b) (i : Nat) (u : Value) : Gr g a (b.setCell ⟨g, i, none⟩ u) := h.trans (Lib.grownBy_setCell b g i u)
theorem Gr.setNew {g : Nat} {a b : World} (h : Gr g a b) {p : Addr} (hp : a.heap.size ≤ p.block) (u : Value) : Gr g a (b.setCell p u) :=
 ⟨h.os, h.tape, h.output, by have := h.size; simpa using this, fun k hk hne => (Below.heap_setCell b p u k (fun e => by have : k = p.block := e; omega)).trans (h.block k hk hne)⟩
theorem Gr.alloc {g : Nat} {a b : World} (h : Gr g a b) (o : Obj) : Gr g a (b.alloc o) := h.up ((Up.refl b).alloc o)
theorem Gr.drew {g : Nat} {a b : World} (h : Gr g a b) : Gr g a b.drew := ⟨h.os, h.tape, h.output, h.size, h.block⟩
theorem Gr.drewN {g : Nat} {a b : World} (h : Gr g a b) (n : Nat) : Gr g a (b.drewN n) := h.up ((Up.refl b).drewN n)
theorem Gr.blk {g : Nat} {w w' : World} (h : Gr g w w') {b : Nat} {o : Obj} (hb : w.heap[b]? = some o) (hne : b ≠ g) : w'.heap[b]? = some o :=
 (h.block b (lt_of_block hb) (fun e => hne (by injection e))).trans hb
theorem Gr.keep {g : Nat} {w w' : World} (h : Gr g w w') : Keep (fun b => b ≠ g) w (fun b => b ≠ g) w' := fun k hs hk => ⟨h.block k hk (fun e => hs (by injection e)), hs⟩
theorem Gr.upv {g : Nat} {a w w' : World} (h : Gr g w w') (hu : Up a w) (hg : a.heap.size ≤ g) : Up a w' := hu.grown h (fun k e => by injection e with e; omega)
def At (g : Nat) (s : ByteArray) (l : List UInt8) (w : World) : Prop := ∃ k : Nat, k ≤ s.size ∧ dr s k = l ∧ PW g s k w
theorem At.up {g : Nat} {s : ByteArray} {l : List UInt8} {w w' : World} (h : At g s l w) (hu : Up w w') : At g s l w' := let ⟨k, h1, h2, h3⟩ := h; ⟨k, h1, h2, h3.up hu⟩
def oopsE (er : Int) (k : Nat) : PanicEntry := { v := .iface 151 (.agg #[.int .i64 er, .int .i64 k]), recovered := false }
def PEnd {α : Type} (g : Nat) (s : ByteArray) (w : World) (r : PR α) (V : World → α → Value → Prop) (e : Ending) (w' : World) : Prop :=
 match r with
 | .ok a l => ∃ v, e = .returned v ∧ V w' a v ∧ At g s l w' ∧ Gr g w w'
 | .bad er l => e = .panicked [oopsE er (s.size - l.length)] ∧ Gr g w w'
theorem PEnd.ok {α : Type} {g : Nat} {s : ByteArray} {w w' : World} {r : PR α} {V : World → α → Value → Prop} {e : Ending} {a : α} {l : List UInt8} (h : PEnd g s w r V e w') (hr : r = .ok a l) : ∃ v, e = .returned v ∧ V w' a v ∧ At g s l w' ∧ Gr g w w' := by subst hr; exact h
theorem PEnd.bad {α : Type} {g : Nat} {s : ByteArray} {w w' : World} {r : PR α} {V : World → α → Value → Prop} {e : Ending} {er : Int} {l : List UInt8} (h : PEnd g s w r V e w') (hr : r = .bad er l) : e = .panicked [oopsE er (s.size - l.length)] ∧ Gr g w w' := by subst hr; exact h
theorem PEnd.of_ok {α : Type} {g : Nat} {s : ByteArray} {w w' : World} {r : PR α} {V : World → α → Value → Prop} {a : α} {l : List UInt8} (hr : r = .ok a l) {v : Value} (hv : V w' a v) (ha : At g s l w') (hg : Gr g w w') : PEnd g s w r V (.returned v) w' := by subst hr; exact ⟨v, rfl, hv, ha, hg⟩
theorem PEnd.of_bad {α : Type} {g : Nat} {s : ByteArray} {w w' : World} {r : PR α} {V : World → α → Value → Prop} {er : Int} {l : List UInt8} {k : Nat} (hr : r = .bad er l) (hk : s.size - l.length = k) (hg : Gr g w w') : PEnd g s w r V (.panicked [oopsE er k]) w' := by subst hr; subst hk; exact ⟨rfl, hg⟩
def slashB (s : ByteArray) : Bool := decide (2 ≤ s.size) && ((s.extract 0 2).toList == [47, 47])
theorem slash_dr {s : ByteArray} {k : Nat} (h : k < s.size) : slashB (s.extract k s.size) = decide (s[k] = 47 ∧ (dr s (k + 1)).head? = some 47) := by
 (have hx : (s.extract k s.size).data.toList = dr s k := by rw [dr_extract, List.take_of_length_le (by rw [dr_len]; omega)]); (have hz : (s.extract k s.size).size = s.size - k := by simp [ByteArray.size_extract]); unfold slashB; rw [hz]
 have he : ((s.extract k s.size).extract 0 2).toList = (dr s k).take 2 := by
   rw [ByteArray.toList_eq, ByteArray.data_extract, Array.toList_extract, List.extract_eq_take_drop, List.drop_zero, hx]
 rw [Bool.eq_iff_iff]; simp only [Bool.and_eq_true, decide_eq_true_eq, beq_iff_eq]; rw [he, dr_cons h]; have hl := dr_len s (k + 1)
 cases hc : dr s (k + 1) with
 | nil => simp
 | cons c l =>
   rw [hc] at hl; simp only [List.length_cons] at hl; simp only [List.take_succ_cons, List.take_zero, List.cons.injEq, and_true, List.head?_cons, Option.some.injEq]; constructor
   · exact fun h => h.2
   · exact fun h' => ⟨by omega, h'⟩
set_option maxRecDepth 100000
open Lib (hid)
set_option maxHeartbeats 800000 in
theorem fail_p (g : Nat) (s : ByteArray) (k : Nat) (er : Int) (w : World) (hp : PW g s k w) :
   Calls Tryz.prog 78 #[.pointer (some ⟨g, 0, none⟩), .int .i64 er] w fun e w' => e = .panicked [oopsE er k] ∧ Up w w' := by
 have h0 := hp.c0; have h1 := hp.c1; have hz := hp.lt
 go_enter Tryz.func78, Tryz.ntmps78
 (go_wp2_with fail); refine ⟨rfl, ?_⟩; unfold oopsE; refine ⟨rfl, ?_⟩; (repeat (first | (with_reducible exact Up.refl _) | (with_reducible refine Up.setCell ?_ ?_ _) | (with_reducible refine Up.alloc ?_ _) | (with_reducible refine Up.drew ?_))); all_goals (simp only; omega)
set_option maxHeartbeats 800000 in
theorem slash_p (s : ByteArray) (w : World) :
   Calls Tryz.prog 139 #[.string s, .string ⟨#[47, 47]⟩] w fun e w' => e = .returned (.bool (slashB s)) ∧ w' = w := by
 by_cases h : 2 ≤ s.size
 · (have h2 : (2 : Int) ≤ (s.size : Int) := by omega); (have hs : slashB s = ((s.extract 0 2).toList == [47, 47]) := by unfold slashB; rw [decide_eq_true h, Bool.true_and]); have Hs := hid hs; clear hs
   go_enter Tryz.func139, Tryz.ntmps139
   go_wp2
   go_ret
   refine ⟨ret_bool ?_, rfl⟩; rw [Hs.out]
 · (have h2 : ¬ (2 : Int) ≤ (s.size : Int) := by omega); (have hs : slashB s = false := by unfold slashB; rw [decide_eq_false h, Bool.false_and]); have Hs := hid hs; clear hs
   go_enter Tryz.func139, Tryz.ntmps139
   go_wp2
   go_ret
   refine ⟨ret_bool ?_, rfl⟩; rw [Hs.out]
theorem skipF_cons (c : UInt8) (l : List UInt8) : skipL false (c :: l) = if c = 32 ∨ c = 10 then skipL false l else if c = 47 ∧ l.head? = some 47 then skipL true l else c :: l := by rw [skipL]
theorem skipT_cons (c : UInt8) (l : List UInt8) : skipL true (c :: l) = if c = 10 then skipL false l else skipL true l := by rw [skipL]
set_option maxHeartbeats 1600000 in
theorem blank_p (g : Nat) (s : ByteArray) (k0 : Nat) (w : World) (hk0 : k0 ≤ s.size) (hz0 : s.size ≤ 4611686018427387904) (hp : PW g s k0 w) :
   Calls Tryz.prog 74 #[.pointer (some ⟨g, 0, none⟩)] w fun e w' => e = .returned (.tuple #[]) ∧ At g s (skip (dr s k0)) w' ∧ Gr g w w' := by
 have Hp := hid hp; clear hp
 go_enter Tryz.func74, Tryz.ntmps74
 (go_wp2_with fail); (go_loopw [] (fun wr => ∃ k : Nat, k ≤ s.size ∧ PW g s k wr ∧ Gr g w wr ∧ skipL false (dr s k) = skipL false (dr s k0)) (fun wr => s.size - pwAt g wr)); case atStart => exact ⟨k0, hk0, Hp.out, Gr.refl _ _, rfl⟩
 case round =>
   obtain ⟨k, hk, hp, hg, he⟩ := hrel; clear Hp; have h0 := hp.c0; have h1 := hp.c1; have hf := hp.fz 1; have hz := hp.lt; have Hp := hid hp; have Hg := hid hg; have He := hid he; clear hp hg he
   by_cases hlt : k < s.size
   · (have i1 : (k : Int) < (s.size : Int) := by omega); have hd := hid (dr_cons hlt); (have hc1 : s[k].toNat = 32 ∨ s[k].toNat = 10 ∨ (s[k].toNat ≠ 32 ∧ s[k].toNat ≠ 10) := by omega); obtain ⟨c, hc⟩ : ∃ c, c = s[k].toNat := ⟨_, rfl⟩; have Hc := hid hc; rw [← hc] at hc1; replace hc := hc.symm; rcases hc1 with ha | ha | ⟨ha, ha'⟩
     · (have e1 : ((c : Int) == 32) = true := by rw [ha]; rfl); go_wp2_with fail
       go_quiet (fail)
       go_wp2_with fail
       go_quiet (fail)
       (go_wp2_with fail); have hp9 := (Hp.out.drewN 0).set (k + 1); refine ⟨⟨k + 1, by omega, (Hp.out.drewN _).set1 (k + 1) (by go_num), (Hg.out.drewN _).set _ _, ?_⟩, ?_⟩
       · rw [← He.out, hd.out, skipF_cons, if_pos (by left; exact UInt8.toNat_inj.1 (by rw [← Hc.out, ha]; rfl))]
       · rw [((Hp.out.drewN _).set1 (k + 1) (by go_num)).is, Hp.out.is]; omega
     · (have e1 : ((c : Int) == 32) = false := by rw [ha]; rfl); (have e2 : ((c : Int) == 10) = true := by rw [ha]; rfl); go_wp2_with fail
       go_quiet (fail)
       go_wp2_with fail
       go_quiet (fail)
       (go_wp2_with fail); have hp9 := (Hp.out.drewN 0).set (k + 1); refine ⟨⟨k + 1, by omega, (Hp.out.drewN _).set1 (k + 1) (by go_num), (Hg.out.drewN _).set _ _, ?_⟩, ?_⟩
       · rw [← He.out, hd.out, skipF_cons, if_pos (by right; exact UInt8.toNat_inj.1 (by rw [← Hc.out, ha]; rfl))]
       · rw [((Hp.out.drewN _).set1 (k + 1) (by go_num)).is, Hp.out.is]; omega
     · (have e1 : ((c : Int) == 32) = false := by rw [beq_eq_false_iff_ne]; omega); (have e2 : ((c : Int) == 10) = false := by rw [beq_eq_false_iff_ne]; omega); have n32 : s[k] ≠ 32 := fun e => ha (by rw [Hc.out, e]; rfl); have n10 : s[k] ≠ 10 := fun e => ha' (by rw [Hc.out, e]; rfl); have N32 := hid n32; have N10 := hid n10; clear n32 n10; have Hsl := hid (slash_dr hlt)
       by_cases hs : slashB (s.extract k s.size) = true
       · have hs2 := Hsl.out; rw [hs] at hs2; have Hs2 := hid (of_decide_eq_true hs2.symm); clear hs2; go_wp2_with fail
         go_quiet (fail)
         go_wp2_with fail
         go_quiet (fail)
         go_wp2_with fail
         go_quiet ((go_at_call 139; exact (slash_p _ _).mono (fun e w2 ⟨h1, h2⟩ => ⟨h1, _, h2⟩)))
         rw [hs]; (go_wp2_with fail); go_loopw [] (fun wr' => ∃ k' : Nat, k ≤ k' ∧ k' ≤ s.size ∧ PW g s k' wr' ∧ Gr g w wr' ∧ skipL true (dr s k') = skipL false (dr s k0)) (fun wr' => s.size - pwAt g wr')
         case atStart =>
           refine ⟨k, Nat.le_refl _, hk, by repeat (first | exact Hg.out | exact Hp.out | with_reducible refine Gr.drewN ?_ _ | with_reducible refine PW.drewN ?_ _), by repeat (first | exact Hg.out | exact Hp.out | with_reducible refine Gr.drewN ?_ _ | with_reducible refine PW.drewN ?_ _), ?_⟩; rw [← He.out, hd.out, skipF_cons, if_neg (not_or.2 ⟨N32.out, N10.out⟩), if_pos Hs2.out, skipT_cons, if_neg N10.out]
         case round =>
           obtain ⟨k', hkk, hk', hp, hg, he⟩ := hrel; have h0 := hp.c0; have h1 := hp.c1; have hf := hp.fz 1; have hz := hp.lt; have Hp2 := hid hp; have Hg2 := hid hg; have He2 := hid he; clear hp hg he
           by_cases hlt' : k' < s.size
           · (have i1' : (k' : Int) < (s.size : Int) := by omega); have j1 : decide ((k' : Int) < (s.size : Int)) = true := decide_eq_true i1'; have hd' := hid (dr_cons hlt'); obtain ⟨c', hc'⟩ : ∃ c', c' = s[k'].toNat := ⟨_, rfl⟩; have Hc' := hid hc'; replace hc' := hc'.symm
             by_cases hn : c' = 10
             · (have e3 : ((c' : Int) != 10) = false := by rw [hn]; rfl); go_wp2_with fail
               go_quiet (fail)
               go_wp2_with fail
               have hlt2 : k < k' := by
                 rcases Nat.lt_or_eq_of_le hkk with h | h
                 · exact h
                 · exfalso
                   subst h; exact N10.out (UInt8.toNat_inj.1 (by rw [← Hc'.out, hn]; rfl))
               refine ⟨⟨k', hk', Hp2.out.drewN _, Hg2.out.drewN _, ?_⟩, ?_⟩
               · rw [← He2.out, hd'.out, skipT_cons, skipF_cons, if_pos (Or.inr (UInt8.toNat_inj.1 (by rw [← Hc'.out, hn]; rfl))), if_pos (UInt8.toNat_inj.1 (by rw [← Hc'.out, hn]; rfl))]
               · rw [(Hp2.out.drewN _).is, Hp.out.is]; omega
             · (have e3 : ((c' : Int) != 10) = true := by rw [bne_iff_ne]; omega); go_wp2_with fail
               go_quiet (fail)
               (go_wp2_with fail); have n10' : s[k'] ≠ 10 := fun e => hn (by rw [Hc'.out, e]; rfl); refine ⟨⟨k' + 1, by omega, by omega, (Hp2.out.drewN _).set1 (k' + 1) (by go_num), (Hg2.out.drewN _).set _ _, ?_⟩, ?_⟩
               · rw [← He2.out, hd'.out, skipT_cons, if_neg n10']
               · rw [((Hp2.out.drewN _).set1 (k' + 1) (by go_num)).is, Hp2.out.is]; omega
           · have j1 : decide ((k' : Int) < (s.size : Int)) = false := decide_eq_false (by omega); go_wp2_with fail
             go_quiet (fail)
             (go_wp2_with fail); refine ⟨⟨k', hk', Hp2.out.drewN _, Hg2.out.drewN _, ?_⟩, ?_⟩
             · rw [← He2.out, dr_end (by omega)]; rfl
             · rw [(Hp2.out.drewN _).is, Hp.out.is]; omega
       · (have hs : slashB (s.extract k s.size) = false := by simpa using hs); have hs2 := Hsl.out; rw [hs] at hs2; have Hs2 := hid (of_decide_eq_false hs2.symm); clear hs2; go_wp2_with fail
         go_quiet (fail)
         go_wp2_with fail
         go_quiet (fail)
         go_wp2_with fail
         go_quiet ((go_at_call 139; exact (slash_p _ _).mono (fun e w2 ⟨h1, h2⟩ => ⟨h1, _, h2⟩)))
         rw [hs]; (go_wp2_with fail); refine bodyPost_ret (results_none rfl _ _ _) rfl ?_; refine ⟨rfl, ⟨k, hk, ?_, by repeat (first | exact Hg.out | exact Hp.out | with_reducible refine Gr.drewN ?_ _ | with_reducible refine PW.drewN ?_ _)⟩, by repeat (first | exact Hg.out | exact Hp.out | with_reducible refine Gr.drewN ?_ _ | with_reducible refine PW.drewN ?_ _)⟩; unfold skip; rw [← He.out, hd.out, skipF_cons, if_neg (not_or.2 ⟨N32.out, N10.out⟩), if_neg Hs2.out]
   · (have hn : k = s.size := by omega); go_wp2_with fail
     go_quiet (fail)
     go_wp2_with fail
     go_end0
     refine ⟨rfl, ⟨k, hk, ?_, Hp.out.drewN _⟩, Hg.out.drewN _⟩; unfold skip; rw [← He.out, dr_end (by omega)]; rfl
set_option maxHeartbeats 1600000 in
theorem eat_p (g : Nat) (s : ByteArray) (k0 : Nat) (c : UInt8) (w : World) (hk0 : k0 ≤ s.size) (hz0 : s.size ≤ 4611686018427387904) (hp : PW g s k0 w) :
   Calls Tryz.prog 141 #[.pointer (some ⟨g, 0, none⟩), .int .u8 (c.toNat : Int)] w fun e w' => e = .returned (.bool (eatP c (dr s k0)).1) ∧ At g s (eatP c (dr s k0)).2 w' ∧ Gr g w w' := by
 have Hb := hid (blank_p g s k0 w hk0 hz0 hp); clear hp
 go_enter Tryz.func141, Tryz.ntmps141
 (go_wp2_with (first | (go_at_call 74; go_must (refine Hb.out.mono ?_; rintro e w1 ⟨rfl, ⟨k, hk, hd, hp⟩, hg⟩)))); have h0 := hp.c0; have h1 := hp.c1; have hf := hp.fz 1; have hz := hp.lt; have Hp := hid hp; have Hg := hid hg; have Hd := hid hd; clear hp hg hd Hb
 by_cases hlt : k < s.size
 · (have i1 : (k : Int) < (s.size : Int) := by omega); (have e1 : ((k : Int) == (s.size : Int)) = false := by rw [beq_eq_false_iff_ne]; omega); have hc := hid (dr_cons hlt)
   by_cases hx : s[k] = c
   · (have e2 : ((s[k].toNat : Int) != (c.toNat : Int)) = false := by rw [hx]; simp); have Hx := hid hx; clear hx
     go_quiet (fail)
     go_wp2_with fail
     go_ret
     (have he : eatP c (dr s k0) = (true, dr s (k + 1)) := by unfold eatP; rw [← Hd.out, hc.out, Hx.out, List.head?_cons, if_pos rfl, List.tail_cons]); rw [he]; exact ⟨rfl, ⟨k + 1, by omega, rfl, (Hp.out.drewN _).set1 (k + 1) (by go_num)⟩, (Hg.out.drewN _).set _ _⟩
   · have e2 : ((s[k].toNat : Int) != (c.toNat : Int)) = true := by
       rw [bne_iff_ne]; intro e; exact hx (UInt8.toNat_inj.1 (by omega))
     have Hx := hid hx; clear hx
     go_quiet (fail)
     go_wp2_with fail
     go_ret
     have he : eatP c (dr s k0) = (false, dr s k) := by
       unfold eatP; rw [← Hd.out, hc.out, List.head?_cons, if_neg (fun e => Hx.out (Option.some.inj e))]
     rw [he]; exact ⟨rfl, ⟨k, by omega, rfl, Hp.out.drewN _⟩, Hg.out.drewN _⟩
 · have e1 : ((k : Int) == (s.size : Int)) = true := by rw [beq_iff_eq]; omega
   go_quiet (fail)
   go_wp2_with fail
   go_ret
   have he : eatP c (dr s k0) = (false, []) := by
     unfold eatP; rw [← Hd.out, dr_end (by omega)]; rfl
   rw [he]; exact ⟨rfl, ⟨k, by omega, dr_end (by omega), Hp.out.drewN _⟩, Hg.out.drewN _⟩
set_option maxHeartbeats 1600000 in
theorem must_p (g : Nat) (s : ByteArray) (k0 : Nat) (c : UInt8) (w : World) (hk0 : k0 ≤ s.size) (hz0 : s.size ≤ 4611686018427387904) (hp : PW g s k0 w) :
   Calls Tryz.prog 140 #[.pointer (some ⟨g, 0, none⟩), .int .u8 (c.toNat : Int)] w (PEnd g s w (mustP c (dr s k0)) (fun _ _ v => v = .tuple #[])) := by
 have Hb := hid (eat_p g s k0 c w hk0 hz0 hp); clear hp; have hm : mustP c (dr s k0) = if (eatP c (dr s k0)).1 then .ok () (eatP c (dr s k0)).2 else .bad 2 (eatP c (dr s k0)).2 := rfl; have Hm := hid hm; clear hm; generalize eatP c (dr s k0) = r at Hb Hm; obtain ⟨b, l⟩ := r; simp only at Hb Hm
 go_enter Tryz.func140, Tryz.ntmps140
 cases b with
 | true =>
   go_wp2_with (first | (go_at_call 141; go_must (refine Hb.out.mono ?_; rintro e w1 ⟨rfl, hp, hg⟩)))
   go_end0
   exact PEnd.of_ok Hm.out rfl hp hg
 | false =>
   (go_wp2_with (first | (go_at_call 141; go_must (refine Hb.out.mono ?_; rintro e w1 ⟨rfl, ⟨k, hk, hd, hp⟩, hg⟩)) | (go_at_call 78; go_must (refine (fail_p g s k 2 _ hp).mono ?_; rintro e w2 ⟨rfl, hu⟩)))); refine ⟨rfl, PEnd.of_bad Hm.out (by rw [← hd, dr_len]; omega) (hg.up hu)⟩
end Go.Proofs.YtbceapeoknngnaaGreatDoor
