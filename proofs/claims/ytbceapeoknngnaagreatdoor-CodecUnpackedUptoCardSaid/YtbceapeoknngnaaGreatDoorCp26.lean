/-
  (*writer).value; (*writer).body.
  Numbers of a field come back from their bytes, in plain Lean.
  The closures of link.fields and link.items.
-/
import Derived.Test.YtbceapeoknngnaaGreatDoorCp24
import Derived.Test.YtbceapeoknngnaaGreatDoorCp25
import Derived.Test.YtbceapeoknngnaaGreatDoorCp14
import Derived.Test.YtbceapeoknngnaaGreatDoorCp16
import Derived.Test.YtbceapeoknngnaaGreatDoorCp10
import Derived.Test.YtbceapeoknngnaaGreatDoorCp04
import Derived.Test.YtbceapeoknngnaaGreatDoorCp05
import Derived.Outline
import Derived.Deep.DeepMust
import Derived.BigQuiet
import Derived.Deep.QuietTactic
set_option linter.unusedVariables false
namespace Go.Proofs.YtbceapeoknngnaaGreatDoor
open Go.RowKit
theorem valsN_ok (wv : Fld → Val → Int) (fs : List Fld) : ∀ (l : List Val) (prev : Option Int) (had : List Int), valsN wv fs prev had l = 0 → ∀ v ∈ l, ∃ x, fldN fs v.1 = some x ∧ wv x v = 0
  | [], _, _, _, v, hv => by cases hv
  | a :: l, prev, had, h, v, hv => by
    rw [valsN] at h
    cases hf : fldN fs a.1 with
    | none => rw [hf] at h; simp at h
    | some x =>
      rw [hf] at h
      simp only at h
      split at h
      · cases h
      split at h
      · contradiction
      rename_i _ hw
      split at h
      · cases h
      rcases List.mem_cons.1 hv with e | e
      · subst e; exact ⟨x, hf, by simpa using hw⟩
      · exact valsN_ok wv fs l _ _ h v e
theorem right_val {f : Fil} {k : Nat} {x : Fld} {v : Val} (h : wrongVF (wrongB f k) f x v = 0) (ht : typedN f x = 0) :
    (∀ n ∈ v.2.1, howC x.kind ≠ 2 ∧ (x.kind = 7 → n < 4294967296)) ∧ ∀ s ∈ v.2.2.2, 0 ≤ msgI f x.type ∧ wrongB f k (msgI f x.type) s = 0 := by
  unfold wrongVF at h
  split at h
  · cases h
  rename_i h1
  split at h
  · cases h
  split at h
  · cases h
  split at h
  · contradiction
  rename_i h2
  split at h
  · contradiction
  have h2 : firstN (v.2.1.map (fitsN x.kind)) = 0 := by simpa using h2
  have hc : (countN x.kind v).2 = true := by simpa using h1
  unfold countN at hc
  constructor
  · intro n hn
    obtain ⟨j, hj, rfl⟩ := List.getElem_of_mem hn
    have hf := firstN_zero _ h2 j (by simpa using hj)
    rw [List.getElem_map] at hf
    have hlen : 0 < v.2.1.length := by omega
    constructor
    · intro e
      unfold howC at e
      split at hc
      · simp only [beq_iff_eq] at hc; omega
      · split at hc
        · simp only [beq_iff_eq] at hc; omega
        · rename_i g1 g2
          split at e
          · cases e
          split at e
          · cases e
          split at e
          · omega
          · cases e
    · intro e
      unfold fitsN at hf
      rw [e] at hf
      rw [if_neg (by decide), if_neg (by decide), if_neg (by decide), if_pos rfl] at hf
      split at hf
      · cases hf
      · omega
  · intro s hs
    obtain ⟨j, hj, rfl⟩ := List.getElem_of_mem hs
    have hf := firstN_zero _ h j (by simpa using hj)
    rw [List.getElem_map] at hf
    refine ⟨(typed_facts ht).2.2.1 ?_, hf⟩
    split at hc
    · simp only [beq_iff_eq] at hc; omega
    · split at hc
      · assumption
      · simp only [beq_iff_eq] at hc; omega
theorem wvalue_c (k d : Nat) (f : Fil) (ih : WBodC k d f) (x : Fld) (v : Val) (cb fb bf fo b o base : Nat) (vb : Value) (l : List UInt8) (a1 a2 a3 : Option Addr) (c1 c2 c3 : Nat) (w0 w : World) (hu0 : Up w0 w) (hbs : w0.heap.size ≤ base)
    (hc : ChkAt w0 cb fb f) (hx : FldAt w0 bf fo x) (hv : ValAt w0 b o v a1 a2 a3 c1 c2 c3) (hd : DValD d All w0 v [.int .i64 v.1, .slice a1 v.2.1.length c1, .slice a2 v.2.2.1.length c2, .slice a3 v.2.2.2.length c3]) (n1 : 1 ≤ x.number) (n2 : x.number < 536870912)
    (hw : wrongVF (wrongB f k) f x v = 0) (ht : typedN f x = 0)
    (hlen : (l ++ (valRecs (fun s => rawB f k (msgI f x.type) s) x v).flatMap oneB).length ≤ 1099511627776 - 8200)
    (hown : w.ownsRow base 5 1 vb l.length (B8 l)) (hb : base ≤ w.heap.size) :
    Calls Tryz.prog 65 #[.pointer (some ⟨cb, 0, none⟩), vb, .pointer (some ⟨bf, fo, none⟩), .pointer (some ⟨b, o, none⟩)] w fun e w' => ∃ v', e = .returned v' ∧ w'.ownsRow base 5 1 v' (l ++ (valRecs (fun s => rawB f k (msgI f x.type) s) x v).flatMap oneB).length (B8 (l ++ (valRecs (fun s => rawB f k (msgI f x.type) s) x v).flatMap oneB)) ∧ Evo w w' vb v' := by
  obtain ⟨h1, h2⟩ := right_val hw ht
  by_cases hm : x.many = true ∧ howC x.kind ≠ 2
  · rw [val_pack _ _ _ hm] at hlen ⊢
    obtain ⟨p1, g1, p2, g2, p3, g3, he, hn, hx1, hx2, hx3, zx⟩ := val_cells hd
    simp only [List.cons.injEq, Value.slice.injEq, true_and, and_true] at he
    obtain ⟨⟨rfl, rfl⟩, _⟩ := he
    refine wvalue_pack k f x v cb bf fo b o base vb l _ _ w0 w hu0 hbs hx hv.2.1 hx1 n1 n2 hm.1 hm.2 (fun n hn => ⟨?_, (h1 n hn).2⟩) hlen hown hb
    obtain ⟨j, hj, rfl⟩ := List.getElem_of_mem hn
    obtain ⟨_, _, cs, _, _, _, _, hd⟩ := hx1.at hj
    exact hd.2
  · rw [val_flat _ _ _ hm] at hlen ⊢
    exact wvalue_flat k d f ih x v cb fb bf fo b o base vb l a1 a2 a3 c1 c2 c3 w0 w hu0 hbs hc hx hv hd n1 n2 hm h1 h2 hlen hown hb
def valG (f : Fil) (k : Nat) (m : Msg) (v : Val) : List UInt8 := match fldN m.fields v.1 with | none => [] | some x => (valRecs (fun s => rawB f k (msgI f x.type) s) x v).flatMap oneB
theorem raw_flat {f : Fil} {k : Nat} {msg : Int} {b : Bod} {m : Msg} (h : f.msgs[msg.toNat]? = some m) : rawB f (k + 1) msg b = b.values.flatMap (valG f k m) ++ b.unknown.flatMap oneB := by
  rw [raw_succ h]
  congr 1
  unfold valsRecs
  rw [List.flatMap_assoc]
  congr 1
  funext v
  unfold valG
  cases fldN m.fields v.1 <;> rfl
end Go.Proofs.YtbceapeoknngnaaGreatDoor
set_option linter.unusedVariables false
namespace Go.Proofs.YtbceapeoknngnaaGreatDoor
open Go.RowKit Go.Lib
theorem usg_sgn {n : Nat} (h : n < 18446744073709551616) : usg (sgn n) = n := by
  unfold usg sgn
  split <;> split <;> omega
theorem back_told {k : Int} {n : Nat} (h : n < 18446744073709551616) (hf : fitsN k n = 0) : backC k (toldC k n) = n := by
  unfold backC toldC
  by_cases h2 : k = 2
  · rw [if_pos h2, if_pos h2, unzig_zigzag, usg_sgn h]
  rw [if_neg h2, if_neg h2]
  unfold fitsN at hf
  by_cases h4 : k = 4
  · subst h4
    rw [if_pos rfl]
    have : ¬ 1 < n := fun g => by rw [if_neg (by decide), if_pos rfl, if_pos g] at hf; cases hf
    omega
  rw [if_neg h4]
  by_cases h5 : k = 5
  · subst h5
    rw [if_pos rfl]
    have : n ≤ 2147483647 ∨ 18446744071562067968 ≤ n := by
      apply Classical.byContradiction
      intro g
      rw [if_neg (by decide), if_neg (by decide), if_pos rfl, if_neg g] at hf
      cases hf
    split <;> omega
  rw [if_neg h5]
theorem back_fits {k : Int} {n : Nat} (hk1 : 1 ≤ k) (hk2 : k ≤ 7) (h : n < 18446744073709551616) (h7 : k = 7 → n < 4294967296) : fitsN k (backC k n) = 0 ∧ backC k n < 18446744073709551616 := by
  have hk : k = 1 ∨ k = 2 ∨ k = 3 ∨ k = 4 ∨ k = 5 ∨ k = 6 ∨ k = 7 := by omega
  rcases hk with rfl | rfl | rfl | rfl | rfl | rfl | rfl
  · exact ⟨rfl, h⟩
  · refine ⟨rfl, ?_⟩
    obtain ⟨g1, g2⟩ := unzig_range (n := n) (by omega)
    show usg (unzig n) < _
    unfold usg
    split <;> omega
  · exact ⟨rfl, h⟩
  · show fitsN 4 (min n 1) = 0 ∧ min n 1 < _
    refine ⟨?_, by omega⟩
    show (if 1 < min n 1 then (3 : Int) else 0) = 0
    rw [if_neg (by omega)]
  · have e : backC 5 n = (if n % 4294967296 < 2147483648 then n % 4294967296 else n % 4294967296 + 18446744069414584320) := rfl
    rw [e]
    have e2 : ∀ z, fitsN 5 z = if z ≤ 2147483647 ∨ 18446744071562067968 ≤ z then 0 else 3 := fun _ => rfl
    rw [e2]
    split
    · exact ⟨by rw [if_pos (by omega)], by omega⟩
    · exact ⟨by rw [if_pos (by omega)], by omega⟩
  · exact ⟨rfl, h⟩
  · refine ⟨?_, h⟩
    show (if 4294967295 < n then (3 : Int) else 0) = 0
    have := h7 rfl
    rw [if_neg (by omega)]
theorem howC_two {k : Int} : howC k = 2 ↔ k = 8 ∨ k = 9 ∨ k = 10 := by
  unfold howC
  split
  · constructor
    · intro h; cases h
    · intro h; omega
  · split
    · constructor
      · intro h; cases h
      · intro h; omega
    · split
      · exact ⟨fun _ => by assumption, fun _ => rfl⟩
      · constructor
        · intro h; cases h
        · intro h; exact absurd h (by assumption)
theorem howC_five {k : Int} : howC k = 5 → k = 7 := by
  unfold howC
  split
  · intro h; cases h
  · split
    · intro _; assumption
    · split <;> (intro h; cases h)
theorem drop_tag (how : Int) (n : Nat) (hh : how = 0 ∨ how = 1 ∨ how = 5) : (oneB ⟨1, how, n, []⟩).drop 1 = (if how = 0 then uvarint n else if how = 1 then lowB 8 n else lowB 4 n) := by
  have ht : tagB 1 how.toNat = [UInt8.ofNat (8 + how.toNat)] := by
    unfold tagB
    rw [uvarint_small (by rcases hh with rfl | rfl | rfl <;> decide)]
  unfold oneB
  show (tagB 1 how.toNat ++ _).drop 1 = _
  rw [ht]
  rcases hh with rfl | rfl | rfl <;> rfl
theorem uvarint_ne (n : Nat) : uvarint n ≠ [] := by
  intro h
  unfold uvarint at h
  split at h <;> simp at h
theorem head_put {kind : Int} {n : Nat} (m : List UInt8) (hk : howC kind ≠ 2) (h : n < 18446744073709551616) (h7 : kind = 7 → n < 4294967296) :
    headC (howC kind) ((oneB ⟨1, howC kind, n, []⟩).drop 1 ++ m) = (n, ((oneB ⟨1, howC kind, n, []⟩).drop 1).length, 0) ∧ 0 < ((oneB ⟨1, howC kind, n, []⟩).drop 1).length := by
  have hh : howC kind = 0 ∨ howC kind = 1 ∨ howC kind = 5 := by
    have h0 : howC kind = 0 ∨ howC kind = 1 ∨ howC kind = 5 ∨ howC kind = 2 := by
      unfold howC
      split
      · exact .inr (.inl rfl)
      · split
        · exact .inr (.inr (.inl rfl))
        · split
          · exact .inr (.inr (.inr rfl))
          · exact .inl rfl
    rcases h0 with h | h | h | h
    · exact .inl h
    · exact .inr (.inl h)
    · exact .inr (.inr h)
    · exact absurd h hk
  rw [drop_tag _ _ hh]
  have h5 := howC_five (k := kind)
  have e1 : ∀ L, headC 1 L = if L.length < 8 then (0, 0, 2) else (lowVal (L.take 8), 8, 0) := fun _ => rfl
  have e5 : ∀ L, headC 5 L = if L.length < 4 then (0, 0, 2) else (lowVal (L.take 4), 4, 0) := fun _ => rfl
  have p1 : (if (1 : Int) = 0 then uvarint n else if (1 : Int) = 1 then lowB 8 n else lowB 4 n) = lowB 8 n := rfl
  have p5 : (if (5 : Int) = 0 then uvarint n else if (5 : Int) = 1 then lowB 8 n else lowB 4 n) = lowB 4 n := rfl
  rcases hh with h0 | h0 | h0
  · rw [h0]
    have e0 : ∀ L, headC 0 L = get L := fun _ => rfl
    rw [e0, if_pos rfl, get_put n m (by omega)]
    exact ⟨rfl, List.length_pos_iff.2 (uvarint_ne n)⟩
  · rw [h0, e1, p1]
    rw [if_neg (by rw [List.length_append, lowB_length]; omega)]
    have e : (lowB 8 n ++ m).take 8 = lowB 8 n := by
      rw [List.take_append_of_le_length (by rw [lowB_length]; omega), List.take_of_length_le (by rw [lowB_length]; omega)]
    rw [e, lowVal_lowB, lowB_length, Nat.mod_eq_of_lt (by omega)]
    exact ⟨rfl, by omega⟩
  · have := h7 (h5 h0)
    rw [h0, e5, p5]
    rw [if_neg (by rw [List.length_append, lowB_length]; omega)]
    have e : (lowB 4 n ++ m).take 4 = lowB 4 n := by
      rw [List.take_append_of_le_length (by rw [lowB_length]; omega), List.take_of_length_le (by rw [lowB_length]; omega)]
    rw [e, lowVal_lowB, lowB_length, Nat.mod_eq_of_lt (by omega)]
    exact ⟨rfl, by omega⟩
theorem told_7 {k : Int} {n : Nat} (h : k = 7 → n < 4294967296) : k = 7 → toldC k n < 4294967296 := by
  intro h7
  have := h h7
  subst h7
  exact this
theorem pack_put {kind : Int} (hk : howC kind ≠ 2) : ∀ (l : List Nat) (f : Nat), (∀ n ∈ l, n < 18446744073709551616 ∧ fitsN kind n = 0) → (packC kind l).length < f → packP kind f (packC kind l) = (l, 0)
  | [], 0, _, h => absurd h (by simp)
  | [], f + 1, _, _ => by rw [packC]; rfl
  | n :: l, 0, _, h => absurd h (by simp)
  | n :: l, f + 1, h, hf => by
    obtain ⟨h1, h2⟩ := h n (by simp)
    have e : packC kind (n :: l) = (oneB ⟨1, howC kind, toldC kind n, []⟩).drop 1 ++ packC kind l := rfl
    have h7 : kind = 7 → n < 4294967296 := by
      rintro rfl
      have e3 : fitsN 7 n = if 4294967295 < n then 3 else 0 := rfl
      rw [e3] at h2
      split at h2
      · cases h2
      · omega
    obtain ⟨g1, g2⟩ := head_put (packC kind l) hk (told_64 h1) (told_7 h7)
    rw [e] at hf ⊢
    rw [List.length_append] at hf
    generalize (oneB ⟨1, howC kind, toldC kind n, []⟩).drop 1 = P at *
    rw [packP, if_neg (by intro h0; rw [List.append_eq_nil_iff] at h0; rw [h0.1] at g2; exact absurd g2 (by simp))]
    rw [g1]
    simp only [ne_eq, not_true_eq_false, if_false]
    have e2 : (P ++ packC kind l).drop P.length = packC kind l := by rw [List.drop_append_of_le_length (by omega), List.drop_length, List.nil_append]
    rw [e2, pack_put hk l f (fun n hn => h n (by simp [hn])) (by omega)]
    simp only [not_true_eq_false, if_false]
    rw [back_told h1 h2]
end Go.Proofs.YtbceapeoknngnaaGreatDoor
set_option linter.unusedVariables false
namespace Go.Proofs.YtbceapeoknngnaaGreatDoor
open Go.RowKit
set_option maxRecDepth 100000 in
set_option maxHeartbeats 800000 in
theorem fields1 (n : Int) (w : World) :
    Calls Tryz.prog 125 (#[.int .i64 n] ++ #[]) w fun e w' => e = .returned (.bool (decide (n < 0 ∨ 536870912 ≤ n))) ∧ Up w w' := by
  show Calls Tryz.prog 125 #[.int .i64 n] w _
  by_cases h : n < 0
  all_goals
    go_enter Tryz.func125, Tryz.ntmps125
    go_wp2_with fail
    go_ret
    refine ⟨ret_bool ?_, Up.refl _⟩
    (rw [Bool.eq_iff_iff]; simp only [Bool.or_eq_true, decide_eq_true_eq, true_iff]; omega)
set_option maxRecDepth 100000 in
set_option maxHeartbeats 800000 in
theorem items1 (x : Itm) (b : Nat) (y : Itm) (cs : List Value) (w : World) (hb : b < w.heap.size) (hc : w.cell? ⟨b, 0, none⟩ = some (.string ⟨x.name.toArray⟩)) (hd : DItm All w y cs) :
    Calls Tryz.prog 132 (#[.agg cs.toArray] ++ #[.pointer (some ⟨b, 0, none⟩)]) w fun e w' => e = .returned (.bool (x.name == y.name)) ∧ Up w w' := by
  obtain ⟨hd, _, _⟩ := hd
  subst hd
  show Calls Tryz.prog 132 #[.agg #[.string ⟨y.name.toArray⟩, .int .i64 y.value], .pointer (some ⟨b, 0, none⟩)] w _
  have hne : b ≠ w.heap.size := by omega
  go_enter Tryz.func132, Tryz.ntmps132
  go_wp2_with fail
  go_ret
  exact ⟨ret_bool (by simp), (Up.refl w).alloc _⟩
set_option maxRecDepth 100000 in
set_option maxHeartbeats 800000 in
theorem items2 (x : Itm) (b : Nat) (y : Itm) (cs : List Value) (w : World) (hb : b < w.heap.size) (hc : w.cell? ⟨b, 1, none⟩ = some (.int .i64 x.value)) (hd : DItm All w y cs) :
    Calls Tryz.prog 133 (#[.agg cs.toArray] ++ #[.pointer (some ⟨b, 0, none⟩)]) w fun e w' => e = .returned (.bool (x.value == y.value)) ∧ Up w w' := by
  obtain ⟨hd, _, _⟩ := hd
  subst hd
  show Calls Tryz.prog 133 #[.agg #[.string ⟨y.name.toArray⟩, .int .i64 y.value], .pointer (some ⟨b, 0, none⟩)] w _
  have hne : b ≠ w.heap.size := by omega
  go_enter Tryz.func133, Tryz.ntmps133
  go_wp2_with fail
  go_ret
  exact ⟨ret_bool (by simp), (Up.refl w).alloc _⟩
set_option maxRecDepth 100000 in
set_option maxHeartbeats 800000 in
theorem fields2 (x : Fld) (c b o : Nat) (y : Fld) (cs : List Value) (w : World) (hb : b < w.heap.size) (hcz : c < w.heap.size) (hp : w.cell? ⟨c, 0, none⟩ = some (.pointer (some ⟨b, o, none⟩))) (hc : w.cell? ⟨b, o, none⟩ = some (.string ⟨x.name.toArray⟩)) (hd : DFld All w y cs) :
    Calls Tryz.prog 127 (#[.agg cs.toArray] ++ #[.pointer (some ⟨c, 0, none⟩)]) w fun e w' => e = .returned (.bool (x.name == y.name)) ∧ Up w w' := by
  obtain ⟨hd, _, _⟩ := hd
  subst hd
  show Calls Tryz.prog 127 #[.agg #[.string ⟨y.name.toArray⟩, .int .i64 y.number, .int .i64 y.kind, .string ⟨y.type.toArray⟩, .bool y.many, .int .i64 y.choice], .pointer (some ⟨c, 0, none⟩)] w _
  have hne : b ≠ w.heap.size := by omega
  have hne2 : c ≠ w.heap.size := by omega
  go_enter Tryz.func127, Tryz.ntmps127
  go_wp2_with fail
  go_quiet (fail)
  go_wp2_with fail
  go_ret
  exact ⟨ret_bool (by simp), ((Up.refl w).alloc _).drewN _⟩
set_option maxRecDepth 100000 in
set_option maxHeartbeats 800000 in
theorem fields3 (x : Fld) (c b o : Nat) (y : Fld) (cs : List Value) (w : World) (hb : b < w.heap.size) (hcz : c < w.heap.size) (hp : w.cell? ⟨c, 0, none⟩ = some (.pointer (some ⟨b, o, none⟩))) (hc : w.cell? ⟨b, o + 1, none⟩ = some (.int .i64 x.number)) (hd : DFld All w y cs) :
    Calls Tryz.prog 129 (#[.agg cs.toArray] ++ #[.pointer (some ⟨c, 0, none⟩)]) w fun e w' => e = .returned (.bool (x.number == y.number)) ∧ Up w w' := by
  obtain ⟨hd, _, _⟩ := hd
  subst hd
  show Calls Tryz.prog 129 #[.agg #[.string ⟨y.name.toArray⟩, .int .i64 y.number, .int .i64 y.kind, .string ⟨y.type.toArray⟩, .bool y.many, .int .i64 y.choice], .pointer (some ⟨c, 0, none⟩)] w _
  have hne : b ≠ w.heap.size := by omega
  have hne2 : c ≠ w.heap.size := by omega
  go_enter Tryz.func129, Tryz.ntmps129
  go_wp2_with fail
  go_quiet (fail)
  go_wp2_with fail
  go_ret
  exact ⟨ret_bool (by simp), ((Up.refl w).alloc _).drewN _⟩
end Go.Proofs.YtbceapeoknngnaaGreatDoor
