/-
  What is wrong with a body, in plain Lean.
  A body's records and bytes, in plain Lean.
  A world that has drawn more is as the one before.
  SameRecords.
-/
import Derived.Test.YtbceapeoknngnaaGreatDoorTx04
import Derived.Lib.ValidAsc
set_option linter.unusedVariables false
namespace Go.Proofs.YtbceapeoknngnaaGreatDoor
open Go.RowKit
def byteN (kind : Int) (b : List UInt8) : Int := if 4000 < b.length then 4 else if kind = 8 ∧ Lib.validD b = false then 9 else 0
def msgI (f : Fil) (s : List UInt8) : Int := idxP (fun m => m.name == s) f.msgs
def wrongVF (wb : Int → Bod → Int) (f : Fil) (x : Fld) (v : Val) : Int :=
 if (countN x.kind v).2 = false then 8
 else if (countN x.kind v).1 < 1 ∨ 60 < (countN x.kind v).1 ∨ (x.many = false ∧ 1 < (countN x.kind v).1) then 5
 else if plainN x v = true then 2
 else if firstN (v.2.1.map (fitsN x.kind)) ≠ 0 then firstN (v.2.1.map (fitsN x.kind))
 else if firstN (v.2.2.1.map (byteN x.kind)) ≠ 0 then firstN (v.2.2.1.map (byteN x.kind))
 else firstN (v.2.2.2.map (wb (msgI f x.type)))
abbrev fldN (fs : List Fld) (n : Int) : Option Fld := fs.find? fun z => z.number == n
def badPrev (prev : Option Int) (n : Int) : Bool := match prev with | some p => decide (n ≤ p) | none => false
def valsN (wv : Fld → Val → Int) (fs : List Fld) : Option Int → List Int → List Val → Int
 | _, _, [] => 0
 | prev, had, v :: l =>
   match fldN fs v.1 with
   | none => 6
   | some x =>
     if badPrev prev v.1 = true then 2
     else if wv x v ≠ 0 then wv x v
     else if 0 < x.choice ∧ x.choice ∈ had then 8
     else valsN wv fs (some v.1) (if 0 < x.choice then x.choice :: had else had) l
def unkN (fs : List Fld) (r : Rec) : Int := if wrongRec r ≠ 0 then wrongRec r else if (fldN fs r.number).isSome then 7 else 0
def wrongBF (wv : Fld → Val → Int) (m : Msg) (b : Bod) : Int :=
 if valsN wv m.fields none [] b.values ≠ 0 then valsN wv m.fields none [] b.values else firstN (b.unknown.map (unkN m.fields))
def wrongB (f : Fil) : Nat → Int → Bod → Int
 | 0, _, _ => 10
 | k + 1, msg, b => match f.msgs[msg.toNat]? with
   | none => 6
   | some m => wrongBF (wrongVF (wrongB f k) f) m b
def wrongA (f : Fil) (msg : Int) (b : Bod) : Int :=
 if (wrongN f).1 ≠ 0 then (wrongN f).1 else if msg < 0 ∨ f.msgs.length ≤ msg then 6 else wrongB f 12 msg b
theorem firstN_map_at {α : Type} {q : α → Int} {l : List α} {k : Nat} (hk : k < l.length) (hg : ∀ j, (hj : j < l.length) → j < k → q l[j] = 0) (e : q l[k] ≠ 0) : firstN (l.map q) = q l[k] := by
 have h := firstN_at (l.map q) k (by simpa using hk) (fun j hj hjk => by simpa using hg j (by simpa using hj) hjk) (by simpa using e); simpa using h
theorem firstN_map_none {α : Type} {q : α → Int} {l : List α} (hg : ∀ j, (hj : j < l.length) → q l[j] = 0) : firstN (l.map q) = 0 :=
 firstN_none _ (fun j hj => by simpa using hg j (by simpa using hj))
theorem firstN_zero : ∀ (l : List Int), firstN l = 0 → ∀ j, (hj : j < l.length) → l[j] = 0
 | [], _, j, hj => by simp at hj
 | a :: l, h, j, hj => by
   by_cases ha : a = 0
   · rw [firstN, if_neg (by simpa using ha)] at h
     cases j with
     | zero => exact ha
     | succ j => exact firstN_zero l h j (by simpa using hj)
   · rw [firstN, if_pos ha] at h; exact absurd h ha
theorem firstAt_zero : ∀ (l : List Int) (i : Nat), (firstAt i l).1 = 0 → ∀ j, (hj : j < l.length) → l[j] = 0
 | [], _, _, j, hj => by simp at hj
 | a :: l, i, h, j, hj => by
   by_cases ha : a = 0
   · rw [firstAt, if_neg (by simpa using ha)] at h
     cases j with
     | zero => exact ha
     | succ j => exact firstAt_zero l _ h j (by simpa using hj)
   · rw [firstAt, if_pos ha] at h; exact absurd h ha
theorem right_msg {f : Fil} (h : (wrongN f).1 = 0) : ∀ m ∈ f.msgs, msgN f m = 0 := by
 intro m hm; unfold wrongN at h; split at h
 · cases h
 · split at h
   · contradiction
   · split at h
     · contradiction
     · rename_i _ _ h3; obtain ⟨j, hj, rfl⟩ := List.getElem_of_mem hm; have := firstAt_zero _ _ (by simpa using h3) j (by simpa using hj); simpa using this
theorem right_len {f : Fil} (h : (wrongN f).1 = 0) : f.msgs.length + f.enums.length ≤ 10 := by
 unfold wrongN at h; split at h
 · cases h
 · omega
theorem msg_field {f : Fil} {m : Msg} (h : msgN f m = 0) : m.fields.length ≤ 16 ∧ m.barred.length ≤ 16 ∧ ∀ i, (hi : i < m.fields.length) → fieldN f m i m.fields[i] = 0 := by
 unfold msgN at h; split at h
 · cases h
 · split at h
   · cases h
   · refine ⟨by omega, by omega, fun i hi => ?_⟩; have := firstN_zero _ h i (by simpa using hi); simpa using this
theorem field_facts {f : Fil} {m : Msg} {i : Nat} {x : Fld} (h : fieldN f m i x = 0) : 1 ≤ x.number ∧ x.number < 536870912 ∧ (∀ y ∈ m.fields.take i, y.number ≠ x.number) ∧ typedN f x = 0 ∧ (x.choice ≠ 0 → x.choice ≠ lastC (m.fields.take i) → x.choice = begun 0 (m.fields.take i) + 1) := by
 unfold fieldN at h; split at h
 · cases h
 split at h
 · cases h
 rename_i _ h2; split at h
 · cases h
 rename_i h3; split at h
 · contradiction
 rename_i h4; split at h
 · cases h
 rename_i h5; refine ⟨by omega, by omega, fun y hy e => h3 ?_, by simpa using h4, fun g1 g2 => ?_⟩
 · rw [Bool.or_eq_true]; exact .inr (List.any_eq_true.2 ⟨y, hy, by simp [e]⟩)
 · by_cases g : x.choice = begun 0 (m.fields.take i) + 1
   · exact g
   · exact absurd ⟨g1, g2, g⟩ h5
theorem typed_facts {f : Fil} {x : Fld} (h : typedN f x = 0) : 1 ≤ x.kind ∧ x.kind ≤ 10 ∧ (x.kind = 10 → 0 ≤ msgI f x.type) ∧ (0 < x.choice → x.many = false) := by
 unfold typedN at h; split at h
 · cases h
 split at h
 · cases h
 rename_i h1 h2; split at h
 · cases h
 rename_i h3; refine ⟨by omega, by omega, fun g => ?_, fun g => ?_⟩
 · unfold msgI
   by_cases g2 : idxP (fun m => m.name == x.type) f.msgs < 0
   · exact absurd (.inl ⟨g, g2⟩) h2
   · omega
 · cases g2 : x.many with
   | false => rfl
   | true => exact absurd (.inr ⟨g, g2⟩) h3
theorem choice_bd {f : Fil} {m : Msg} (h : msgN f m = 0) : ∀ i, (hi : i < m.fields.length) → 0 ≤ m.fields[i].choice ∧ m.fields[i].choice ≤ begun 0 (m.fields.take (i + 1)) := by
 obtain ⟨h1, h2, h3⟩ := msg_field h; intro i
 induction i with
 | zero =>
   intro hi; have h4 := (field_facts (h3 0 hi)).2.2.2.2; have h6 := begun_take hi; have h7 := begun_bd (m.fields.take 0) 0
   by_cases e : m.fields[0].choice = 0
   · have := begun_bd (m.fields.take (0 + 1)) 0; omega
   · (have e2 : m.fields[0].choice ≠ lastC (m.fields.take 0) := by rw [List.take_zero]; exact e); have := h4 e e2; rw [h6, if_pos ⟨e, e2⟩]; omega
 | succ i ih =>
   intro hi; have h5 := ih (by omega); have h4 := (field_facts (h3 (i + 1) hi)).2.2.2.2; have h6 := begun_take hi; have h7 := begun_bd (m.fields.take (i + 1)) 0
   by_cases e : m.fields[i + 1].choice = 0
   · have := begun_bd (m.fields.take (i + 1 + 1)) 0; omega
   · by_cases e2 : m.fields[i + 1].choice = lastC (m.fields.take (i + 1))
     · have e3 := lastC_take (l := m.fields) (k := i + 1) (by omega) (by omega); simp only [Nat.add_sub_cancel] at e3; rw [e3] at e2; rw [h6]; split <;> omega
     · have := h4 e e2; rw [h6, if_pos ⟨e, e2⟩]; omega
theorem choice_16 {f : Fil} {m : Msg} (h : msgN f m = 0) {x : Fld} (hx : x ∈ m.fields) : 0 ≤ x.choice ∧ x.choice ≤ 16 := by
 obtain ⟨i, hi, rfl⟩ := List.getElem_of_mem hx; have h1 := choice_bd h i hi; have h2 := begun_bd (m.fields.take (i + 1)) 0; have h3 := (msg_field h).1; rw [List.length_take] at h2; omega
theorem msgI_bd (f : Fil) (s : List UInt8) : msgI f s = -1 ∨ (0 ≤ msgI f s ∧ msgI f s < f.msgs.length) := by
 unfold msgI; generalize f.msgs = l
 induction l with
 | nil => exact .inl rfl
 | cons a l ih =>
   rw [idxP]; split
   · exact .inr ⟨by omega, by simp⟩
   · split
     · exact .inl rfl
     · refine .inr ⟨by omega, ?_⟩; simp only [List.length_cons]; omega
theorem fldN_mem {fs : List Fld} {n : Int} {x : Fld} (h : fldN fs n = some x) : x ∈ fs ∧ x.number = n := ⟨List.mem_of_find?_eq_some h, by have := List.find?_some h; simpa using this⟩
end Go.Proofs.YtbceapeoknngnaaGreatDoor
namespace Go.Proofs.YtbceapeoknngnaaGreatDoor
def howC (k : Int) : Int := if k = 6 then 1 else if k = 7 then 5 else if k = 8 ∨ k = 9 ∨ k = 10 then 2 else 0
def sgn (n : Nat) : Int := if n < 9223372036854775808 then (n : Int) else (n : Int) - 18446744073709551616
def toldC (kind : Int) (n : Nat) : Nat := if kind = 2 then Lib.zigzag (sgn n) else n
def packC (kind : Int) (l : List Nat) : List UInt8 := l.flatMap fun n => (oneB ⟨1, howC kind, toldC kind n, []⟩).drop 1
def valRecs (sub : Bod → List UInt8) (x : Fld) (v : Val) : List Rec :=
 if x.many = true ∧ howC x.kind ≠ 2 then [⟨x.number, 2, 0, packC x.kind v.2.1⟩]
 else v.2.1.map (fun n => ⟨x.number, howC x.kind, toldC x.kind n, []⟩) ++ (v.2.2.1.map (fun t => ⟨x.number, 2, 0, t⟩) ++ v.2.2.2.map (fun s => ⟨x.number, 2, 0, sub s⟩))
def valsRecs (sub : Fld → Bod → List UInt8) (fs : List Fld) (l : List Val) : List Rec :=
 l.flatMap fun v => match fldN fs v.1 with | none => [] | some x => valRecs (sub x) x v
def recsB (f : Fil) : Nat → Int → Bod → List Rec
 | 0, _, _ => []
 | k + 1, msg, b => match f.msgs[msg.toNat]? with
   | none => []
   | some m => valsRecs (fun x s => (recsB f k (msgI f x.type) s).flatMap oneB) m.fields b.values ++ b.unknown
def rawB (f : Fil) (k : Nat) (msg : Int) (b : Bod) : List UInt8 := (recsB f k msg b).flatMap oneB
theorem raw_succ {f : Fil} {k : Nat} {msg : Int} {b : Bod} {m : Msg} (h : f.msgs[msg.toNat]? = some m) :
   rawB f (k + 1) msg b = (valsRecs (fun x s => rawB f k (msgI f x.type) s) m.fields b.values).flatMap oneB ++ b.unknown.flatMap oneB := by
 unfold rawB; rw [recsB, h, List.flatMap_append]
def bytesC (f : Fil) (msg : Int) (b : Bod) : List UInt8 × Int :=
 if wrongA f msg b ≠ 0 then ([], wrongA f msg b) else if 4000 < (rawB f 12 msg b).length then ([], 4) else (rawB f 12 msg b, 0)
open Go.RowKit
theorem Up.drewN {a w : World} (h : Up a w) (n : Nat) : Up a (w.drewN n) := ⟨h.os, h.tape, h.output, h.size, h.block⟩
set_option maxRecDepth 100000
open Lib (hid)
set_option maxHeartbeats 1600000 in
theorem same_any (va vb : Value) (a b : List Rec) (w : World) (hva : RdS DRec 4 All w va a) (hvb : RdS DRec 4 All w vb b) :
   Calls Tryz.prog 49 #[va, vb] w fun e w' => ∃ t : Bool, e = .returned (.bool t) ∧ (t = true ↔ a = b) ∧ Up w w' := by
 obtain ⟨ao, cap, rfl, hc1, hc2⟩ := hva.val; obtain ⟨bo, bap, rfl, hd1, hd2⟩ := hvb.val; have Ha := hid hva; clear hva; have Hb := hid hvb; clear hvb
 by_cases hne : a.length = b.length
 · (have hne2 : ((a.length : Int) != (b.length : Int)) = false := by simp [hne]); have hne3 := hid hne; clear hne
   go_enter Tryz.func49, Tryz.ntmps49
   (go_wp2_with fail); (go_loopw [13] (fun i wr => ∃ k : Nat, k ≤ a.length ∧ i = .int .i64 k ∧ a.take k = b.take k ∧ ∃ n, wr = w.drewN n) (fun i _ => a.length - (intOf i).toNat)); case atStart => exact ⟨0, by omega, rfl, by simp, 0, rfl⟩
   case round =>
     obtain ⟨k, hk, rfl, ht, nw, rfl⟩ := hrel; have Ht := hid ht; clear ht
     by_cases hlt : k < a.length
     · obtain ⟨ba, oa, a3, c3, rfl, hrb, h64, g0, g1, g2, g3⟩ := rdRec_cell Ha.out hlt; (have hltb : k < b.length := by have := hne3.out; omega); obtain ⟨bb, ob, b3, d3, rfl, hrb2, h642, k0, k1, k2, k3⟩ := rdRec_cell Hb.out hltb; have Hal := hid (show a.take (k + 1) = a.take k ++ [a[k]] from by rw [List.take_succ_eq_append_getElem hlt]); have Hbl := hid (show b.take (k + 1) = b.take k ++ [b[k]] from by rw [List.take_succ_eq_append_getElem hltb]); generalize hr : a[k] = r at *; generalize hs : b[k] = s at *; (have i0 : (0 : Int) ≤ (k : Int) := by omega); (have i1 : (k : Int) < (a.length : Int) := by omega); (have i2 : (k : Int) < (b.length : Int) := by omega); have hcr := fun n => run_conv (P := Tryz.prog) (w := w.drewN n) (hrb.up stable_u8 (Up.drewN (Up.refl w) n)) 32 5 9 Tryz.underlying32 Tryz.underlying5 Tryz.underlying9; have hcs := fun n => run_conv (P := Tryz.prog) (w := w.drewN n) (hrb2.up stable_u8 (Up.drewN (Up.refl w) n)) 32 5 9 Tryz.underlying32 Tryz.underlying5 Tryz.underlying9; have Hrs := hid hr; clear hr; have Hss := hid hs; clear hs hrb hrb2 h64 h642
       by_cases e1 : r.number = s.number
       · have x1 : (r.number != s.number) = false := by simp [e1]
         by_cases e2 : r.how = s.how
         · have x2 : (r.how != s.how) = false := by simp [e2]
           by_cases e3 : r.bits = s.bits
           · (have x3 : ((r.bits : Int) != (s.bits : Int)) = false := by simp [e3]); have Hx1 := hid e1; have Hx2 := hid e2; have Hx3 := hid e3; clear e1 e2 e3
             by_cases e4 : r.bytes = s.bytes
             · have x4 := leq_true e4; have Hx4 := hid e4; clear e4; go_wp2_with fail
               go_quiet (fail)
               go_wp2_with fail
               go_roundw
               case rel =>
                 have hrs : r = s := by
                   have h1 := Hx1.out; have h2 := Hx2.out; have h3 := Hx3.out; have h4 := Hx4.out; cases r; cases s; simp at h1 h2 h3 h4; simp [h1, h2, h3, h4]
                 exact ⟨k + 1, by omega, by go_num, by rw [Hal.out, Hbl.out, Ht.out, hrs], _, rfl⟩
               case measure => simp [intOf]; omega
             · have x4 := leq_false e4; go_wp2_with fail
               go_quiet (fail)
               go_wp2_with fail
               go_ret
               exact ⟨false, rfl, ⟨(fun h => nomatch h), fun h => by subst h; exact absurd (by rw [← Hrs.out, ← Hss.out]) e4⟩, by repeat (first | exact Up.refl _ | with_reducible refine Up.drewN ?_ _)⟩
           · (have x3 : ((r.bits : Int) != (s.bits : Int)) = true := by rw [bne_iff_ne]; omega); have Hx1 := hid e1; have Hx2 := hid e2; clear e1 e2; go_wp2_with fail
             go_quiet (fail)
             go_wp2_with fail
             go_ret
             exact ⟨false, rfl, ⟨(fun h => nomatch h), fun h => by subst h; exact absurd (by rw [← Hrs.out, ← Hss.out]) e3⟩, by repeat (first | exact Up.refl _ | with_reducible refine Up.drewN ?_ _)⟩
         · (have x2 : (r.how != s.how) = true := by rw [bne_iff_ne]; exact e2); have Hx1 := hid e1; clear e1; go_wp2_with fail
           go_quiet (fail)
           go_wp2_with fail
           go_ret
           exact ⟨false, rfl, ⟨(fun h => nomatch h), fun h => by subst h; exact absurd (by rw [← Hrs.out, ← Hss.out]) e2⟩, by repeat (first | exact Up.refl _ | with_reducible refine Up.drewN ?_ _)⟩
       · (have x1 : (r.number != s.number) = true := by rw [bne_iff_ne]; exact e1); go_wp2_with fail
         go_quiet (fail)
         go_wp2_with fail
         go_ret
         exact ⟨false, rfl, ⟨(fun h => nomatch h), fun h => by subst h; exact absurd (by rw [← Hrs.out, ← Hss.out]) e1⟩, by repeat (first | exact Up.refl _ | with_reducible refine Up.drewN ?_ _)⟩
     · go_wp2_with fail
       go_ret
       refine ⟨true, rfl, ⟨fun _ => ?_, fun _ => rfl⟩, Up.drewN (Up.refl w) _⟩; have := Ht.out
       rwa [List.take_of_length_le (by omega), List.take_of_length_le (by have := hne3.out; omega)] at this
 · have hne2 : ((a.length : Int) != (b.length : Int)) = true := by rw [bne_iff_ne]; omega
   go_enter Tryz.func49, Tryz.ntmps49
   go_wp2_with fail
   go_ret
   exact ⟨false, rfl, by constructor; (intro h; cases h); (intro h; exact absurd (congrArg List.length h) hne), Up.refl _⟩
end Go.Proofs.YtbceapeoknngnaaGreatDoor
