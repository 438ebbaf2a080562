/-
  (*writer).value; (*writer).body.
  Numbers of a field come back from their bytes, in plain Lean.
  body.Set, of values as they are.
  A region that draws its order, and whose last operation waits for all the others: the last one by itself.
  body.join.
  The closures of link.fields and link.items.
-/
import Derived.Test.YtbceapeoknngnaaGreatDoorTx16
import Derived.StillTail
import Derived.OrdersHeld
import Derived.Deep.CutBlock
import Derived.Laws.Rows
set_option linter.unusedVariables false
namespace Go.Proofs.YtbceapeoknngnaaGreatDoor
open Go.RowKit
theorem valsN_ok (wv : Fld → Val → Int) (fs : List Fld) : ∀ (l : List Val) (prev : Option Int) (had : List Int), valsN wv fs prev had l = 0 → ∀ v ∈ l, ∃ x, fldN fs v.1 = some x ∧ wv x v = 0
 | [], _, _, _, v, hv => by cases hv
 | a :: l, prev, had, h, v, hv => by
   rw [valsN] at h
   cases hf : fldN fs a.1 with
   | none => rw [hf] at h; simp at h
   | some x =>
     rw [hf] at h; simp only at h; split at h
     · cases h
     split at h
     · contradiction
     rename_i _ hw; split at h
     · cases h
     rcases List.mem_cons.1 hv with e | e
     · subst e; exact ⟨x, hf, by simpa using hw⟩
     · exact valsN_ok wv fs l _ _ h v e
theorem right_val {f : Fil} {k : Nat} {x : Fld} {v : Val} (h : wrongVF (wrongB f k) f x v = 0) (ht : typedN f x = 0) :
   (∀ n ∈ v.2.1, howC x.kind ≠ 2 ∧ (x.kind = 7 → n < 4294967296)) ∧ ∀ s ∈ v.2.2.2, 0 ≤ msgI f x.type ∧ wrongB f k (msgI f x.type) s = 0 := by
 unfold wrongVF at h; split at h
 · cases h
 rename_i h1; split at h
 · cases h
 split at h
 · cases h
 split at h
 · contradiction
 rename_i h2; split at h
 · contradiction
 (have h2 : firstN (v.2.1.map (fitsN x.kind)) = 0 := by simpa using h2); (have hc : (countN x.kind v).2 = true := by simpa using h1); unfold countN at hc; constructor
 · intro n hn; obtain ⟨j, hj, rfl⟩ := List.getElem_of_mem hn; have hf := firstN_zero _ h2 j (by simpa using hj); rw [List.getElem_map] at hf; (have hlen : 0 < v.2.1.length := by omega); constructor
   · intro e; unfold howC at e; split at hc
     · simp only [beq_iff_eq] at hc; omega
     · split at hc
       · simp only [beq_iff_eq] at hc; omega
       · rename_i g1 g2; split at e
         · cases e
         split at e
         · cases e
         split at e
         · omega
         · cases e
   · intro e; unfold fitsN at hf; rw [e] at hf; rw [if_neg (by decide), if_neg (by decide), if_neg (by decide), if_pos rfl] at hf; split at hf
     · cases hf
     · omega
 · intro s hs; obtain ⟨j, hj, rfl⟩ := List.getElem_of_mem hs; have hf := firstN_zero _ h j (by simpa using hj); rw [List.getElem_map] at hf; refine ⟨(typed_facts ht).2.2.1 ?_, hf⟩; split at hc
   · simp only [beq_iff_eq] at hc; omega
   · split at hc
     · assumption
     · simp only [beq_iff_eq] at hc; omega
def valG (f : Fil) (k : Nat) (m : Msg) (v : Val) : List UInt8 := match fldN m.fields v.1 with | none => [] | some x => (valRecs (fun s => rawB f k (msgI f x.type) s) x v).flatMap oneB
theorem raw_flat {f : Fil} {k : Nat} {msg : Int} {b : Bod} {m : Msg} (h : f.msgs[msg.toNat]? = some m) : rawB f (k + 1) msg b = b.values.flatMap (valG f k m) ++ b.unknown.flatMap oneB := by
 rw [raw_succ h]
 congr 1
 unfold valsRecs; rw [List.flatMap_assoc]
 congr 1
 funext v
 unfold valG; cases fldN m.fields v.1 <;> rfl
end Go.Proofs.YtbceapeoknngnaaGreatDoor
namespace Go.Proofs.YtbceapeoknngnaaGreatDoor
open Go.RowKit Go.Lib
theorem usg_sgn {n : Nat} (h : n < 18446744073709551616) : usg (sgn n) = n := by
 unfold usg sgn; split <;> split <;> omega
theorem back_told {k : Int} {n : Nat} (h : n < 18446744073709551616) (hf : fitsN k n = 0) : backC k (toldC k n) = n := by
 unfold backC toldC
 by_cases h2 : k = 2
 · rw [if_pos h2, if_pos h2, unzig_zigzag, usg_sgn h]
 rw [if_neg h2, if_neg h2]; unfold fitsN at hf
 by_cases h4 : k = 4
 · subst h4; rw [if_pos rfl]; (have : ¬ 1 < n := fun g => by rw [if_neg (by decide), if_pos rfl, if_pos g] at hf; cases hf); omega
 rw [if_neg h4]
 by_cases h5 : k = 5
 · subst h5; rw [if_pos rfl]
   have : n ≤ 2147483647 ∨ 18446744071562067968 ≤ n := by
     apply Classical.byContradiction; intro g; rw [if_neg (by decide), if_neg (by decide), if_pos rfl, if_neg g] at hf; cases hf
   split <;> omega
 rw [if_neg h5]
theorem back_fits {k : Int} {n : Nat} (hk1 : 1 ≤ k) (hk2 : k ≤ 7) (h : n < 18446744073709551616) (h7 : k = 7 → n < 4294967296) : fitsN k (backC k n) = 0 ∧ backC k n < 18446744073709551616 := by
 (have hk : k = 1 ∨ k = 2 ∨ k = 3 ∨ k = 4 ∨ k = 5 ∨ k = 6 ∨ k = 7 := by omega); rcases hk with rfl | rfl | rfl | rfl | rfl | rfl | rfl
 · exact ⟨rfl, h⟩
 · refine ⟨rfl, ?_⟩; obtain ⟨g1, g2⟩ := unzig_range (n := n) (by omega); show usg (unzig n) < _; unfold usg; split <;> omega
 · exact ⟨rfl, h⟩
 · show fitsN 4 (min n 1) = 0 ∧ min n 1 < _; refine ⟨?_, by omega⟩; show (if 1 < min n 1 then (3 : Int) else 0) = 0; rw [if_neg (by omega)]
 · have e : backC 5 n = (if n % 4294967296 < 2147483648 then n % 4294967296 else n % 4294967296 + 18446744069414584320) := rfl; rw [e]; have e2 : ∀ z, fitsN 5 z = if z ≤ 2147483647 ∨ 18446744071562067968 ≤ z then 0 else 3 := fun _ => rfl; rw [e2]; split
   · exact ⟨by rw [if_pos (by omega)], by omega⟩
   · exact ⟨by rw [if_pos (by omega)], by omega⟩
 · exact ⟨rfl, h⟩
 · refine ⟨?_, h⟩; show (if 4294967295 < n then (3 : Int) else 0) = 0; have := h7 rfl; rw [if_neg (by omega)]
theorem howC_two {k : Int} : howC k = 2 ↔ k = 8 ∨ k = 9 ∨ k = 10 := by
 unfold howC; split
 · constructor
   · intro h; cases h
   · intro h; omega
 · split
   · constructor
     · intro h; cases h
     · intro h; omega
   · split
     · exact ⟨fun _ => by assumption, fun _ => rfl⟩
     · constructor
       · intro h; cases h
       · intro h; exact absurd h (by assumption)
theorem howC_five {k : Int} : howC k = 5 → k = 7 := by
 unfold howC; split
 · intro h; cases h
 · split
   · intro _; assumption
   · split <;> (intro h; cases h)
theorem drop_tag (how : Int) (n : Nat) (hh : how = 0 ∨ how = 1 ∨ how = 5) : (oneB ⟨1, how, n, []⟩).drop 1 = (if how = 0 then uvarint n else if how = 1 then lowB 8 n else lowB 4 n) := by
 have ht : tagB 1 how.toNat = [UInt8.ofNat (8 + how.toNat)] := by
   unfold tagB; rw [uvarint_small (by rcases hh with rfl | rfl | rfl <;> decide)]
 unfold oneB; show (tagB 1 how.toNat ++ _).drop 1 = _; rw [ht]; rcases hh with rfl | rfl | rfl <;> rfl
theorem uvarint_ne (n : Nat) : uvarint n ≠ [] := by
 intro h; unfold uvarint at h; split at h <;> simp at h
theorem head_put {kind : Int} {n : Nat} (m : List UInt8) (hk : howC kind ≠ 2) (h : n < 18446744073709551616) (h7 : kind = 7 → n < 4294967296) :
   headC (howC kind) ((oneB ⟨1, howC kind, n, []⟩).drop 1 ++ m) = (n, ((oneB ⟨1, howC kind, n, []⟩).drop 1).length, 0) ∧ 0 < ((oneB ⟨1, howC kind, n, []⟩).drop 1).length := by
 have hh : howC kind = 0 ∨ howC kind = 1 ∨ howC kind = 5 := by
   have h0 : howC kind = 0 ∨ howC kind = 1 ∨ howC kind = 5 ∨ howC kind = 2 := by
     unfold howC; split
     · exact .inr (.inl rfl)
     · split
       · exact .inr (.inr (.inl rfl))
       · split
         · exact .inr (.inr (.inr rfl))
         · exact .inl rfl
   rcases h0 with h | h | h | h
   · exact .inl h
   · exact .inr (.inl h)
   · exact .inr (.inr h)
   · exact absurd h hk
 rw [drop_tag _ _ hh]; have h5 := howC_five (k := kind); have e1 : ∀ L, headC 1 L = if L.length < 8 then (0, 0, 2) else (lowVal (L.take 8), 8, 0) := fun _ => rfl; have e5 : ∀ L, headC 5 L = if L.length < 4 then (0, 0, 2) else (lowVal (L.take 4), 4, 0) := fun _ => rfl; have p1 : (if (1 : Int) = 0 then uvarint n else if (1 : Int) = 1 then lowB 8 n else lowB 4 n) = lowB 8 n := rfl; have p5 : (if (5 : Int) = 0 then uvarint n else if (5 : Int) = 1 then lowB 8 n else lowB 4 n) = lowB 4 n := rfl; rcases hh with h0 | h0 | h0
 · rw [h0]; have e0 : ∀ L, headC 0 L = get L := fun _ => rfl; rw [e0, if_pos rfl, get_put n m (by omega)]; exact ⟨rfl, List.length_pos_iff.2 (uvarint_ne n)⟩
 · rw [h0, e1, p1]; rw [if_neg (by rw [List.length_append, lowB_length]; omega)]
   have e : (lowB 8 n ++ m).take 8 = lowB 8 n := by
     rw [List.take_append_of_le_length (by rw [lowB_length]; omega), List.take_of_length_le (by rw [lowB_length]; omega)]
   rw [e, lowVal_lowB, lowB_length, Nat.mod_eq_of_lt (by omega)]; exact ⟨rfl, by omega⟩
 · have := h7 (h5 h0); rw [h0, e5, p5]; rw [if_neg (by rw [List.length_append, lowB_length]; omega)]
   have e : (lowB 4 n ++ m).take 4 = lowB 4 n := by
     rw [List.take_append_of_le_length (by rw [lowB_length]; omega), List.take_of_length_le (by rw [lowB_length]; omega)]
   rw [e, lowVal_lowB, lowB_length, Nat.mod_eq_of_lt (by omega)]; exact ⟨rfl, by omega⟩
theorem told_7 {k : Int} {n : Nat} (h : k = 7 → n < 4294967296) : k = 7 → toldC k n < 4294967296 := by
 intro h7; have := h h7; subst h7; exact this
theorem pack_put {kind : Int} (hk : howC kind ≠ 2) : ∀ (l : List Nat) (f : Nat), (∀ n ∈ l, n < 18446744073709551616 ∧ fitsN kind n = 0) → (packC kind l).length < f → packP kind f (packC kind l) = (l, 0)
 | [], 0, _, h => absurd h (by simp)
 | [], f + 1, _, _ => by rw [packC]; rfl
 | n :: l, 0, _, h => absurd h (by simp)
 | n :: l, f + 1, h, hf => by
   obtain ⟨h1, h2⟩ := h n (by simp); have e : packC kind (n :: l) = (oneB ⟨1, howC kind, toldC kind n, []⟩).drop 1 ++ packC kind l := rfl
   have h7 : kind = 7 → n < 4294967296 := by
     rintro rfl; have e3 : fitsN 7 n = if 4294967295 < n then 3 else 0 := rfl; rw [e3] at h2; split at h2
     · cases h2
     · omega
   obtain ⟨g1, g2⟩ := head_put (packC kind l) hk (told_64 h1) (told_7 h7); rw [e] at hf ⊢; rw [List.length_append] at hf; generalize (oneB ⟨1, howC kind, toldC kind n, []⟩).drop 1 = P at *; rw [packP, if_neg (by intro h0; rw [List.append_eq_nil_iff] at h0; rw [h0.1] at g2; exact absurd g2 (by simp))]; rw [g1]; simp only [ne_eq, not_true_eq_false, if_false]; (have e2 : (P ++ packC kind l).drop P.length = packC kind l := by rw [List.drop_append_of_le_length (by omega), List.drop_length, List.nil_append]); rw [e2, pack_put hk l f (fun n hn => h n (by simp [hn])) (by omega)]; simp only [not_true_eq_false, if_false]; rw [back_told h1 h2]
end Go.Proofs.YtbceapeoknngnaaGreatDoor
namespace Go.Proofs.YtbceapeoknngnaaGreatDoor
open Go.RowKit
abbrev PV : Type := Val × Value × Value × Value
def pv4 (p : PV) : SV := (p.1.1, p.2)
theorem zip4 {d : Nat} {S : Nat → Prop} {w : World} : ∀ {l : List Val} {l4 : List SV}, l4.length = l.length → (∀ i, (h1 : i < l4.length) → (h2 : i < l.length) → l4[i].1 = l[i].1 ∧ DValD d S w l[i] [.int .i64 l4[i].1, l4[i].2.1, l4[i].2.2.1, l4[i].2.2.2]) →
   ∃ L : List PV, L.map Prod.fst = l ∧ L.map pv4 = l4 ∧ ∀ p ∈ L, DValD d S w p.1 (c4 (pv4 p))
 | [], [], _, _ => ⟨[], rfl, rfl, fun p h => by cases h⟩
 | x :: l, [], h, _ => by simp at h
 | [], y :: l4, h, _ => by simp at h
 | x :: l, y :: l4, h, hd => by
   obtain ⟨L, h1, h2, h3⟩ := zip4 (d := d) (S := S) (w := w) (l := l) (l4 := l4) (by simpa using h) (fun i h1 h2 => hd (i + 1) (by simpa using h1) (by simpa using h2)); have h0 := hd 0 (by simp) (by simp); simp only [List.getElem_cons_zero] at h0; refine ⟨(x, y.2) :: L, by rw [List.map_cons, h1], ?_, fun p hp => ?_⟩
   · rw [List.map_cons, h2]
     congr 1
     show (x.1, y.2) = y; rw [← h0.1]
   · rcases List.mem_cons.1 hp with rfl | hp
     · show DValD d S w x [.int .i64 x.1, y.2.1, y.2.2.1, y.2.2.2]; rw [← h0.1]; exact h0.2
     · exact h3 p hp
theorem rd_of4 {d : Nat} {S : Nat → Prop} {w : World} {v : Value} {L : List PV} (h : RdS DVal4 4 S w v (L.map pv4)) (hd : ∀ p ∈ L, DValD d S w p.1 (c4 (pv4 p))) : RdS (DValD d) 4 S w v (L.map Prod.fst) := by
 obtain ⟨ao, cap, rfl, h1, h2, h3, h4⟩ := h; refine ⟨ao, cap, by simp, by simpa using h1, h2, h3, fun i hi => ?_⟩; (have hi' : i < L.length := by simpa using hi); obtain ⟨b, o, cs, e1, e2, e3, e4, e5, e6⟩ := h4 i (by simpa using hi'); refine ⟨b, o, cs, e1, e2, e3, e4, e5, ?_⟩; have h5 := hd L[i] (List.getElem_mem hi'); obtain ⟨ha, hb, hc, he⟩ := e6
 have hcs : cs = c4 (pv4 L[i]) := by
   (have hg : (L.map pv4)[i]'(by simpa using hi') = pv4 L[i] := by simp); simp only [hg] at ha; exact ha
 rw [hcs]; simpa using h5
theorem RdS.weak {α : Type} {D : Lay α} (hD : Stable D) {size : Nat} {S S' : Nat → Prop} {w : World} {v : Value} {l : List α} (h : RdS D size S w v l) (hs : ∀ k, S k → S' k) : RdS D size S' w v l := h.keep hD (Keep.weak hs)
theorem lift_set {d : Nat} {S S' : Nat → Prop} {w w' : World} {vv vv' : Value} {fs : List Fld} {l : List Val} {x : Val} {a1 a2 a3 : Option Addr} {c1 c2 c3 : Nat} {L : List PV} (h1 : L.map Prod.fst = l) (h3 : ∀ p ∈ L, DValD d S w p.1 (c4 (pv4 p)))
   (hx : DValD d S w x [.int .i64 x.1, .slice a1 x.2.1.length c1, .slice a2 x.2.2.1.length c2, .slice a3 x.2.2.2.length c3]) (hS : ∀ k, S k → S' k) (hu : Up w w')
   (hr : RdS DVal4 4 S' w' vv' (setG (fun y : SV => y.1) fs (L.map pv4) (x.1, .slice a1 x.2.1.length c1, .slice a2 x.2.2.1.length c2, .slice a3 x.2.2.2.length c3) (fun f => plainN f x))) : RdS (DValD d) 4 S' w' vv' (setV fs l x) := by
 subst h1
 have e1 : setV fs (L.map Prod.fst) x = (setG (fun p : PV => p.1.1) fs L (x, .slice a1 x.2.1.length c1, .slice a2 x.2.2.1.length c2, .slice a3 x.2.2.2.length c3) (fun f => plainN f x)).map Prod.fst :=
   setG_map Prod.fst (fun y : Val => y.1) fs L (x, .slice a1 x.2.1.length c1, .slice a2 x.2.2.1.length c2, .slice a3 x.2.2.2.length c3) (fun f => plainN f x)
 have e2 := setG_map pv4 (fun y : SV => y.1) fs L (x, .slice a1 x.2.1.length c1, .slice a2 x.2.2.1.length c2, .slice a3 x.2.2.2.length c3) (fun f => plainN f x); rw [e1]; refine rd_of4 (by have e3 := e2.symm; exact (show List.map pv4 _ = _ from e3) ▸ hr) (fun p hp => ?_); refine stable_val d _ _ _ _ _ _ ((Keep.upS hu).trans (Keep.weak hS)) ?_; rcases setG_mem _ _ _ _ _ p hp with h | rfl
 · exact h3 p h
 · exact hx
theorem set_v (d : Nat) {S : Nat → Prop} (s vf vb vv vu : Value) (fs : List Fld) (l : List Val) (x : Val) (a1 a2 a3 : Option Addr) (c1 c2 c3 : Nat) (w : World) (hs : ∃ b, s = .string b) (hvb : IsS vb) (hvu : IsS vu) (hf : RdS DFld 6 All w vf fs) (hv : RdS (DValD d) 4 S w vv l) (hr : RisingV l) (hz : (l.length + 1) * 80 ≤ 140737488355328)
   (hx : DValD d S w x [.int .i64 x.1, .slice a1 x.2.1.length c1, .slice a2 x.2.2.1.length c2, .slice a3 x.2.2.2.length c3]) :
   Calls Tryz.prog 18 #[.agg #[s, vf, vb], .agg #[vv, vu], .agg #[.int .i64 x.1, .slice a1 x.2.1.length c1, .slice a2 x.2.2.1.length c2, .slice a3 x.2.2.2.length c3]] w fun e w' =>
     ∃ vv', e = .returned (.agg #[vv', vu]) ∧ RdS (DValD d) 4 (Sx S w) w' vv' (setV fs l x) ∧ Up w w' := by
 obtain ⟨l4, h1, h2, h3⟩ := rd4 hv; obtain ⟨L, e1, e2, e3⟩ := zip4 h2 h3; obtain ⟨p1, g1, p2, g2, p3, g3, he, hn, hx1, hx2, hx3, zx⟩ := val_cells hx; simp only [List.cons.injEq, Value.slice.injEq, true_and, and_true] at he; obtain ⟨⟨rfl, rfl⟩, ⟨rfl, rfl⟩, rfl, rfl⟩ := he; have hx' := hx
 have hr4 : Rising l4 := by
   rw [← e2]; rw [← e1] at hr; have hq : L.Pairwise (fun p q => p.1.1 < q.1.1) := (List.pairwise_map (f := Prod.fst) (R := fun a b : Val => a.1 < b.1)).1 hr; exact (List.pairwise_map (f := pv4) (R := fun a b : SV => a.1 < b.1)).2 hq
 refine (set_b (S := S) s vf vb vv vu fs l4 x a1 a2 a3 c1 c2 c3 w hs hvb hvu hf h1 hr4 (by rw [h2]; exact hz) (hx1.keep stable_u64 Keep.all) (hx2.keep stable_bytes Keep.all)).mono ?_; rintro e w' ⟨vv', rfl, hrd, hu⟩; rw [← e2] at hrd; refine ⟨vv', rfl, ?_, hu⟩; exact lift_set (vv := vv) e1 e3 hx (fun k h => .inl h) hu hrd
theorem nodup_le : ∀ {l1 l2 : List Int}, l1.Nodup → (∀ x ∈ l1, x ∈ l2) → l1.length ≤ l2.length
 | [], _, _, _ => by simp
 | a :: t, l2, hn, hs => by
   have ha := hs a List.mem_cons_self; have h1 := nodup_le (l1 := t) (l2 := l2.erase a) (List.nodup_cons.1 hn).2 (fun x hx => (List.mem_erase_of_ne (by rintro rfl; exact (List.nodup_cons.1 hn).1 hx)).2 (hs x (List.mem_cons_of_mem _ hx))); rw [List.length_erase_of_mem ha] at h1; have := List.length_pos_of_mem ha; simp only [List.length_cons]; omega
theorem vals_le {wv : Fld → Val → Int} {fs : List Fld} {l : List Val} {had : List Int} {prev : Option Int} (h : valsN wv fs prev had l = 0) : l.length ≤ fs.length := by
 obtain ⟨h1, h2, _, _⟩ := valsN_zero h
 have h3 : (l.map (fun x => x.1)).length ≤ (fs.map (fun x => x.number)).length := by
   refine nodup_le ?_ ?_
   · unfold List.Nodup; rw [List.pairwise_map]; exact h2.imp (fun h e => by omega)
   · intro n hn; obtain ⟨v, hv, rfl⟩ := List.mem_map.1 hn; obtain ⟨x, hx, _⟩ := h1 v hv; obtain ⟨hx1, hx2⟩ := fldN_mem hx; exact List.mem_map.2 ⟨x, hx1, hx2⟩
 simpa using h3
end Go.Proofs.YtbceapeoknngnaaGreatDoor
namespace Go.Proofs.YtbceapeoknngnaaGreatDoor
section
variable {P : Program} {ops : Array Oper} {md : Region.Mode} {Q : Exit → Act → World → Prop}
def AskLast (P : Program) (ops : Array Oper) (m : Nat) (Q : Exit → Act → World → Prop) : Exit → Act → World → Prop := fun e a w => match e with
 | .normal => wpOp P ops Q m (Q .normal) a w
 | e => Q e a w
theorem AskLast.normal {m : Nat} {a : Act} {w : World} (h : wpOp P ops Q m (Q .normal) a w) : AskLast P ops m Q .normal a w := h
theorem wpOp_ask {m i : Nat} {K : Act → World → Prop} {a : Act} {w : World} (h : wpOp P ops (AskLast P ops m Q) i K a w) : wpOp P ops Q i K a w := by
 unfold wpOp at *; split
 · rename_i hn; simp only [hn] at h; exact h
 · rename_i o ho; simp only [ho] at h; split
   · rename_i hw; simp only [hw, if_true] at h; rcases h with h | h
     · refine .inl ?_; unfold Oper.wp at h ⊢; generalize (execOp a.eval o).run P w = r at *
       cases r with
       | ok n w' => cases n <;> exact h
       | halt x w' => cases x <;> exact h
     · exact .inr h
   · rename_i hw; rw [if_neg hw] at h; exact h
theorem unlisted_low {m : Nat} {listed : Array Bool} (hdep : ∀ (j : Nat) (oj : Oper), ops[j]? = some oj → ∀ e ∈ oj.after, Region.binds md e = true → e.on < j) (hsz : listed.size = ops.size)
   (hr : ∀ i, i ≠ m → i ∉ Region.ready md ops listed) (hno : ∀ (j : Nat) (oj : Oper), ops[j]? = some oj → ∀ e ∈ oj.after, Region.binds md e = true → e.on ≠ m) :
   ∀ i, i < ops.size → i ≠ m → listed.getD i false = true := by
 intro i
 induction i using Nat.strongRecOn with
 | _ i ih =>
   intro hi him
   cases hl : listed.getD i false with
   | true => rfl
   | false =>
     refine absurd (mem_ready.2 ⟨getD_in (by omega) hl, ops[i], by simp [hi], fun e he hb => ?_⟩) (hr i him); have h1 := hdep i ops[i] (by simp [hi]) e he hb; exact ih e.on h1 (by omega) (hno i ops[i] (by simp [hi]) e he hb)
theorem wpAny_last {m : Nat} (hm : m + 1 = ops.size) (hs : Region.sinkB md ops m = true) (hc : Region.chainB md ops m = true) (hdep : ∀ (j : Nat) (oj : Oper), ops[j]? = some oj → ∀ e ∈ oj.after, Region.binds md e = true → e.on < j) :
   ∀ (f : Nat) (listed : Array Bool) (a : Act) (w : World), HeadInv md ops m listed → wpAny P md ops (AskLast P ops m Q) f (listed.setIfInBounds m true) a w → wpAny P md ops Q (f + 1) listed a w := by
 have hno : ∀ (j : Nat) (oj : Oper), ops[j]? = some oj → ∀ e ∈ oj.after, Region.binds md e = true → e.on ≠ m := fun j oj hj e he hb => by
   have h1 := hdep j oj hj e he hb; have h2 := (Array.getElem?_eq_some_iff.1 hj).1; omega
 have hback : ∀ (listed : Array Bool) (i : Nat), i ≠ m → i ∈ Region.ready md ops (listed.setIfInBounds m true) → i ∈ Region.ready md ops listed := fun listed i him h => by
   obtain ⟨h0, o, ho, hall⟩ := mem_ready.1 h; refine mem_ready.2 ⟨by rw [getD_set_ne true (Ne.symm him)] at h0; exact h0, o, ho, fun e he hb => ?_⟩; have := hall e he hb; rw [getD_set_ne false (Ne.symm (hno i o ho e he hb))] at this; exact this
 have hself : ∀ (listed : Array Bool), listed.size = ops.size → m ∉ Region.ready md ops (listed.setIfInBounds m true) := fun listed hsz h => by
   have h0 := (mem_ready.1 h).1; simp [show m < listed.size by omega] at h0
 have hdone : ∀ (listed : Array Bool), HeadInv md ops m listed → m ∈ Region.ready md ops listed → Region.ready md ops (listed.setIfInBounds m true) = [] := fun listed inv hmr => by
   refine List.eq_nil_iff_forall_not_mem.2 fun i hi => ?_; have him : i ≠ m := fun e => hself listed inv.size (e ▸ hi); obtain ⟨hun, o, ho, _⟩ := mem_ready.1 (hback listed i him hi); have hlt := (Array.getElem?_eq_some_iff.1 ho).1; exact tail_waits hs hc (by omega) inv _ i rfl (by omega) hun m (Nat.le_refl _) hmr
 have hall : ∀ (listed : Array Bool), HeadInv md ops m listed → Region.ready md ops (listed.setIfInBounds m true) = [] → m ∈ Region.ready md ops listed := fun listed inv hr => by
   have hlow := unlisted_low (listed := listed) hdep inv.size (fun i him hi => by
     have := ready_mono hi him; rw [hr] at this; cases this) hno
   refine mem_ready.2 ⟨inv.tail m (Nat.le_refl _) (by omega), ops[m], by simp [show m < ops.size by omega], fun e he hb => ?_⟩; have h1 := hdep m ops[m] (by simp [show m < ops.size by omega]) e he hb; exact hlow e.on (by omega) (by omega)
 have hend : ∀ (f : Nat) (listed : Array Bool) (a : Act) (w : World), HeadInv md ops m listed → m ∈ Region.ready md ops listed → wpAny P md ops (AskLast P ops m Q) f (listed.setIfInBounds m true) a w → wpOp P ops Q m (wpAny P md ops Q f (listed.setIfInBounds m true)) a w := fun f listed a w inv hmr h => by
   have hr := hdone listed inv hmr
   have hq : AskLast P ops m Q .normal a w := by
     cases f with
     | zero => exact h.2
     | succ f => exact h.1 hr
   refine wpOp_mono (fun a' w' h' => ?_) (show wpOp P ops Q m (Q .normal) a w from hq)
   cases f with
   | zero => exact ⟨hr, h'⟩
   | succ f => exact ⟨fun _ => h', fun i hi => by rw [hr] at hi; cases hi⟩
 intro f
 induction f with
 | zero =>
   intro listed a w inv h; have hmr := hall listed inv h.1; refine ⟨fun h0 => (by rw [h0] at hmr; cases hmr), fun i hi => ?_⟩
   by_cases him : i = m
   · subst him; exact hend 0 listed a w inv hmr h
   · have := ready_mono hi him; rw [h.1] at this; cases this
 | succ f ih =>
   intro listed a w inv h; refine ⟨fun h0 => ?_, fun i hi => ?_⟩
   · have : Region.ready md ops (listed.setIfInBounds m true) = [] := List.eq_nil_iff_forall_not_mem.2 fun i hi => by
       have him : i ≠ m := fun e => hself listed inv.size (e ▸ hi); have := hback listed i him hi; rw [h0] at this; cases this
     have := hall listed inv this; rw [h0] at this; cases this
   · by_cases him : i = m
     · subst him; exact hend (f + 1) listed a w inv hi h
     · have hi2 := ready_mono hi him; (have hlt : i < ops.size := by obtain ⟨_, o, ho, _⟩ := mem_ready.1 hi; exact (Array.getElem?_eq_some_iff.1 ho).1); refine wpOp_ask (m := m) (wpOp_mono (fun a' w' h' => ih _ a' w' (inv.set hi (by omega)) ?_) (h.2 i hi2)); rw [Array.setIfInBounds_comm _ _ him]; exact h'
theorem wp_region_last {S : World → Prop} {id m : Nat} {a : Act} {w : World} (hf : P.follows .mixedOrders = true) (hm : m + 1 = ops.size) (hs : Region.sinkB .any ops m = true) (hc : Region.chainB .any ops m = true)
   (hdep : (List.range ops.size).all (fun j => match ops[j]? with | some oj => oj.after.all (fun e => !Region.binds .any e || decide (e.on < j)) | none => true) = true)
   (h : wpAnyH P .any ops (AskLast P ops m Q) S m ((Array.replicate ops.size false).setIfInBounds m true) a { w with drawn := w.drawn + 1 }) : (Code.region id ops true).wp P Q a w := by
 have hd : ∀ (j : Nat) (oj : Oper), ops[j]? = some oj → ∀ e ∈ oj.after, Region.binds .any e = true → e.on < j := fun j oj hj e he hb => by
   have h1 := List.all_eq_true.1 hdep j (List.mem_range.2 (Array.getElem?_eq_some_iff.1 hj).1); rw [hj] at h1; have h2 := (Array.all_eq_true_iff_forall_mem.1 h1) e he; simp only [hb, Bool.not_true, Bool.false_or, decide_eq_true_eq] at h2; exact h2
 refine wp_region_any hf ?_; rw [← hm]; rw [← hm] at h; exact wpAny_last hm hs hc hd m _ a _ ⟨by simp [hm], fun j oj _ hl => (by rw [getD_replicate_false] at hl; cases hl), fun t _ ht => getD_in (by simp; omega) (getD_replicate_false _ _)⟩ (wpAny_of_held _ _ _ _ h)
end
end Go.Proofs.YtbceapeoknngnaaGreatDoor
namespace Go.Proofs.YtbceapeoknngnaaGreatDoor
open Go.RowKit
def SA (S : Nat → Prop) (B : Nat) : Nat → Prop := fun b => (S b ∧ b < B) ∨ B + 4 ≤ b
def SB (S : Nat → Prop) (B T : Nat) : Nat → Prop := fun b => (S b ∧ b < B) ∨ (B + 4 ≤ b ∧ b < T)
theorem SB.a {S : Nat → Prop} {B T b : Nat} (h : SB S B T b) : SA S B b := h.imp id (fun h => h.1)
theorem SB.no {S : Nat → Prop} {B T : Nat} (h : B + 3 < T) : ¬ SB S B T T := fun g => by rcases g with ⟨_, h1⟩ | ⟨_, h1⟩ <;> omega
theorem SA.sx {S : Nat → Prop} {B : Nat} {w : World} (h : B + 3 < w.heap.size) : ∀ b, Sx (SA S B) w b → SA S B b := fun b g => by
 rcases g with g | g
 · exact g
 · exact .inr (by omega)
theorem SB.sx {S : Nat → Prop} {B T : Nat} {w : World} (h : B + 3 < w.heap.size) : ∀ b, Sx (SB S B T) w b → SA S B b := fun b g => by
 rcases g with g | g
 · exact g.a
 · exact .inr (by omega)
def SN (S : Nat → Prop) (B T : Nat) : Nat → Prop := fun b => SA S B b ∧ b ≠ T
theorem SN.no {S : Nat → Prop} {B T : Nat} : ¬ SN S B T T := fun g => g.2 rfl
theorem SBx.n {S : Nat → Prop} {B T : Nat} {w : World} (h : B + 3 < T) (hw : T < w.heap.size) : ∀ b, Sx (SB S B T) w b → SN S B T b := fun b g => ⟨SB.sx (by omega) b g, by
 rintro rfl; rcases g with g | g
 · exact SB.no h g
 · omega⟩
theorem cell_set_ne {w : World} {b o T : Nat} (h : b ≠ T) (i : Nat) (z : Value) : (w.setCell ⟨T, i, none⟩ z).cell? ⟨b, o, none⟩ = w.cell? ⟨b, o, none⟩ := by
 have h2 := heap_setCell_other w ⟨T, i, none⟩ b z h; simp only [World.cell?, h2]
theorem rd_one {d : Nat} {S : Nat → Prop} {W : World} {g : Nat} {vv vu : Value} {x : Bod} {t : TypeId} (hb : W.heap[g]? = some (.cells #[vv, vu] t (0, 0))) (hS : S g) (hx : DBodF d S W x [vv, vu]) : RdS (DBodF d) 2 S W (.slice (some ⟨g, 0, none⟩) 1 1) [x] := by
 refine ⟨some ⟨g, 0, none⟩, 1, rfl, by simp, by unfold maxLen; omega, (fun h => by cases h), fun i hi => ?_⟩; (have h0 : i = 0 := by simpa using hi); subst h0; refine ⟨g, 0, [vv, vu], rfl, hS, lt_of_block hb, rfl, fun j u hu => ?_, hx⟩
 have hj : j < 2 := by
   have := (List.getElem?_eq_some_iff.1 hu).1; simpa using this
 rcases j with _ | _ | j
 · simp at hu; subst hu; exact cell_of_row W g 0 _ _ _ hb
 · simp at hu; subst hu; exact cell_of_row W g 1 _ _ _ hb
 · omega
theorem box2_set {w : World} {g : Nat} {x y : Value} {t : TypeId} (h : w.heap[g]? = some (.cells #[x, y] t (0, 0))) (u v : Value) : ((w.setCell ⟨g, 0, none⟩ u).setCell ⟨g, 1, none⟩ v).heap[g]? = some (.cells #[u, v] t (0, 0)) :=
 heap_setCell_same _ g 1 _ t v (heap_setCell_same w g 0 _ t u h)
theorem box4_1 {w : World} {g : Nat} {a b c d : Value} {t : TypeId} (h : w.heap[g]? = some (.cells #[a, b, c, d] t (0, 0))) (u : Value) : (w.setCell ⟨g, 1, none⟩ u).heap[g]? = some (.cells #[a, u, c, d] t (0, 0)) := heap_setCell_same w g 1 _ t u h
theorem box4_2 {w : World} {g : Nat} {a b c d : Value} {t : TypeId} (h : w.heap[g]? = some (.cells #[a, b, c, d] t (0, 0))) (u : Value) : (w.setCell ⟨g, 2, none⟩ u).heap[g]? = some (.cells #[a, b, u, d] t (0, 0)) := heap_setCell_same w g 2 _ t u h
theorem box4_3 {w : World} {g : Nat} {a b c d : Value} {t : TypeId} (h : w.heap[g]? = some (.cells #[a, b, c, d] t (0, 0))) (u : Value) : (w.setCell ⟨g, 3, none⟩ u).heap[g]? = some (.cells #[a, b, c, u] t (0, 0)) := heap_setCell_same w g 3 _ t u h
theorem SBx.no {S : Nat → Prop} {B T : Nat} {w : World} (h : B + 3 < T) (hw : T < w.heap.size) : ¬ Sx (SB S B T) w T := fun g => by
 rcases g with g | g
 · exact SB.no h g
 · omega
theorem box2_other {w : World} {g k : Nat} (hk : k ≠ g) (u v : Value) : ((w.setCell ⟨g, 0, none⟩ u).setCell ⟨g, 1, none⟩ v).heap[k]? = w.heap[k]? :=
 (heap_setCell_other _ _ k v hk).trans (heap_setCell_other w _ k u hk)
theorem bothV_num (jb : Int → Bod → Bod → Bod) (f : Fil) (x : Fld) (o : Option Val) (v : Val) : (bothV jb f x o v).1 = v.1 := by
 unfold bothV; split
 · rfl
 · split
   · rfl
   · split <;> rfl
set_option maxRecDepth 100000
set_option maxHeartbeats 800000 in
theorem fields1 (n : Int) (w : World) :
   Calls Tryz.prog 125 (#[.int .i64 n] ++ #[]) w fun e w' => e = .returned (.bool (decide (n < 0 ∨ 536870912 ≤ n))) ∧ Up w w' := by
 show Calls Tryz.prog 125 #[.int .i64 n] w _
 by_cases h : n < 0
 all_goals
   go_enter Tryz.func125, Tryz.ntmps125
   go_wp2_with fail
   go_ret
   refine ⟨ret_bool ?_, Up.refl _⟩
   (rw [Bool.eq_iff_iff]; simp only [Bool.or_eq_true, decide_eq_true_eq, true_iff]; omega)
set_option maxHeartbeats 800000 in
theorem items1 (x : Itm) (b : Nat) (y : Itm) (cs : List Value) (w : World) (hb : b < w.heap.size) (hc : w.cell? ⟨b, 0, none⟩ = some (.string ⟨x.name.toArray⟩)) (hd : DItm All w y cs) :
   Calls Tryz.prog 132 (#[.agg cs.toArray] ++ #[.pointer (some ⟨b, 0, none⟩)]) w fun e w' => e = .returned (.bool (x.name == y.name)) ∧ Up w w' := by
 obtain ⟨hd, _, _⟩ := hd; subst hd; show Calls Tryz.prog 132 #[.agg #[.string ⟨y.name.toArray⟩, .int .i64 y.value], .pointer (some ⟨b, 0, none⟩)] w _; have hne : b ≠ w.heap.size := by omega
 go_enter Tryz.func132, Tryz.ntmps132
 go_wp2_with fail
 go_ret
 exact ⟨ret_bool (by simp), (Up.refl w).alloc _⟩
set_option maxHeartbeats 800000 in
theorem items2 (x : Itm) (b : Nat) (y : Itm) (cs : List Value) (w : World) (hb : b < w.heap.size) (hc : w.cell? ⟨b, 1, none⟩ = some (.int .i64 x.value)) (hd : DItm All w y cs) :
   Calls Tryz.prog 133 (#[.agg cs.toArray] ++ #[.pointer (some ⟨b, 0, none⟩)]) w fun e w' => e = .returned (.bool (x.value == y.value)) ∧ Up w w' := by
 obtain ⟨hd, _, _⟩ := hd; subst hd; show Calls Tryz.prog 133 #[.agg #[.string ⟨y.name.toArray⟩, .int .i64 y.value], .pointer (some ⟨b, 0, none⟩)] w _; have hne : b ≠ w.heap.size := by omega
 go_enter Tryz.func133, Tryz.ntmps133
 go_wp2_with fail
 go_ret
 exact ⟨ret_bool (by simp), (Up.refl w).alloc _⟩
set_option maxHeartbeats 800000 in
theorem fields2 (x : Fld) (c b o : Nat) (y : Fld) (cs : List Value) (w : World) (hb : b < w.heap.size) (hcz : c < w.heap.size) (hp : w.cell? ⟨c, 0, none⟩ = some (.pointer (some ⟨b, o, none⟩))) (hc : w.cell? ⟨b, o, none⟩ = some (.string ⟨x.name.toArray⟩)) (hd : DFld All w y cs) :
   Calls Tryz.prog 127 (#[.agg cs.toArray] ++ #[.pointer (some ⟨c, 0, none⟩)]) w fun e w' => e = .returned (.bool (x.name == y.name)) ∧ Up w w' := by
 obtain ⟨hd, _, _⟩ := hd; subst hd; show Calls Tryz.prog 127 #[.agg #[.string ⟨y.name.toArray⟩, .int .i64 y.number, .int .i64 y.kind, .string ⟨y.type.toArray⟩, .bool y.many, .int .i64 y.choice], .pointer (some ⟨c, 0, none⟩)] w _; (have hne : b ≠ w.heap.size := by omega); have hne2 : c ≠ w.heap.size := by omega
 go_enter Tryz.func127, Tryz.ntmps127
 go_wp2_with fail
 go_quiet (fail)
 go_wp2_with fail
 go_ret
 exact ⟨ret_bool (by simp), ((Up.refl w).alloc _).drewN _⟩
set_option maxHeartbeats 800000 in
theorem fields3 (x : Fld) (c b o : Nat) (y : Fld) (cs : List Value) (w : World) (hb : b < w.heap.size) (hcz : c < w.heap.size) (hp : w.cell? ⟨c, 0, none⟩ = some (.pointer (some ⟨b, o, none⟩))) (hc : w.cell? ⟨b, o + 1, none⟩ = some (.int .i64 x.number)) (hd : DFld All w y cs) :
   Calls Tryz.prog 129 (#[.agg cs.toArray] ++ #[.pointer (some ⟨c, 0, none⟩)]) w fun e w' => e = .returned (.bool (x.number == y.number)) ∧ Up w w' := by
 obtain ⟨hd, _, _⟩ := hd; subst hd; show Calls Tryz.prog 129 #[.agg #[.string ⟨y.name.toArray⟩, .int .i64 y.number, .int .i64 y.kind, .string ⟨y.type.toArray⟩, .bool y.many, .int .i64 y.choice], .pointer (some ⟨c, 0, none⟩)] w _; (have hne : b ≠ w.heap.size := by omega); have hne2 : c ≠ w.heap.size := by omega
 go_enter Tryz.func129, Tryz.ntmps129
 go_wp2_with fail
 go_quiet (fail)
 go_wp2_with fail
 go_ret
 exact ⟨ret_bool (by simp), ((Up.refl w).alloc _).drewN _⟩
end Go.Proofs.YtbceapeoknngnaaGreatDoor
