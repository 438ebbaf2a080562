/-
  What is written is read, in plain Lean.
-/
import Derived.Test.YtbceapeoknngnaaGreatDoorTx21
set_option linter.unusedVariables false
namespace Go.Proofs.YtbceapeoknngnaaGreatDoor
open Go.RowKit
def catV (u v : Val) : Val := (v.1, u.2.1 ++ v.2.1, u.2.2.1 ++ v.2.2.1, u.2.2.2 ++ v.2.2.2)
theorem fit_cat {wb : Int → Bod → Int} {f : Fil} {x : Fld} {u v : Val} (hm : x.many = true) (hu : FitV wb f x u) (hv : FitV wb f x v) : FitV wb f x (catV u v) ∧ (countN x.kind (catV u v)).1 = (countN x.kind u).1 + (countN x.kind v).1 := by
 (have h1 := fit_both (jb := fun _ a _ => a) hu hv (fun g => by rw [hm] at g; cases g)); rw [both_many hm] at h1; exact ⟨h1, (countN_app (n := v.1) hu.cnt hv.cnt).2⟩
theorem add_add {wb : Int → Bod → Int} {jb : Int → Bod → Bod → Bod} {jn : Int → Bod → Bod → Bod × Int} {f : Fil} {fs : List Fld} (hch : ∀ z ∈ fs, 0 ≤ z.choice) (hjn : JnOk wb jb jn) {b : Bod} (h : AllV wb f fs b.values) {x : Fld} {u v : Val} (hx : fldN fs x.number = some x) (hm : x.many = true)
   (hu : FitV wb f x u) (hv : FitV wb f x v) (nu : u.1 = x.number) (nv : v.1 = x.number) :
   ((addC jn f fs b x u).2 = 0 ∧ AllV wb f fs (addC jn f fs b x u).1.values ∧ addC jn f fs (addC jn f fs b x u).1 x v = addC jn f fs b x (catV u v)) ∨ ((addC jn f fs b x u).2 ≠ 0 ∧ addC jn f fs b x (catV u v) = (bod0, 5) ∧ addC jn f fs b x u = (bod0, 5)) := by
 (have hxu : fldN fs u.1 = some x := by rw [nu]; exact hx); (have hxv : fldN fs v.1 = some x := by rw [nv]; exact hx); obtain ⟨hc, hcc⟩ := fit_cat hm hu hv; have hxc : fldN fs (catV u v).1 = some x := hxv
 have key : ∀ o, bothV jb f x o (catV u v) = catV (bothV jb f x o u) v := by
   intro o
   cases o with
   | none => rfl
   | some o => rw [both_many hm, both_many hm]; simp [catV, List.append_assoc]
 have a1 := add_ok hjn h hxu hu; have a2 := add_ok hjn h hxc hc; rw [nu] at a1; rw [show (catV u v).1 = x.number from nv, key] at a2
 have hB : FitV wb f x (bothV jb f x (findV b.values x.number) u) := by
   cases ho : findV b.values x.number with
   | none => exact hu
   | some o =>
     obtain ⟨hom, hon⟩ := findV_mem ho; obtain ⟨y, hy, hwo⟩ := h.fld o hom; rw [hon, hx] at hy; obtain rfl := Option.some.inj hy; exact fit_both (wrongVF_iff.1 hwo).1 hu (fun g => by rw [hm] at g; cases g)
 (have hnB : (bothV jb f x (findV b.values x.number) u).1 = x.number := by rw [bothV_num]; exact nu); generalize bothV jb f x (findV b.values x.number) u = B at *; obtain ⟨hBc, hBcc⟩ := fit_cat hm hB hv; have hvo := hv.one; rcases a1 with ⟨g1, g2, g3⟩ | ⟨g1, g2⟩
 · refine .inl ⟨by rw [g3], ?_, ?_⟩
   · rw [g3]; exact set_right hch h (by rw [hnB]; exact hx) g1 g2
   · rw [g3]; have hall := set_right hch h (by rw [hnB]; exact hx) g1 g2; have a3 := add_ok hjn (b := .mk (setV fs b.values B) b.unknown) hall hxv hv
     have hfind : findV (setV fs b.values B) v.1 = some B := by
       rw [find_set h.ris (by rw [hnB]; exact hx), nv, hnB, if_pos rfl, plain_many hm]; rfl
     have hboth : bothV jb f x (some B) v = catV B v := both_many hm; rw [show Bod.values (.mk (setV fs b.values B) b.unknown) = setV fs b.values B from rfl, hfind, hboth] at a3; rcases a3 with ⟨k1, k2, k3⟩ | ⟨k1, k2⟩
     · rcases a2 with ⟨m1, m2, m3⟩ | ⟨m1, m2⟩
       · rw [k3, m3, set_set h.ris (by rw [hnB]; exact hx) (show (catV B v).1 = B.1 from nv.trans hnB.symm)]; rfl
       · exact absurd (wrongVF_iff.2 ⟨k1, k2, plain_many hm⟩) m1
     · rcases a2 with ⟨m1, m2, m3⟩ | ⟨m1, m2⟩
       · exact absurd (wrongVF_iff.2 ⟨m1, m2, plain_many hm⟩) k1
       · rw [k2, m2]
 · refine .inr ⟨by rw [g2]; decide, ?_, g2⟩; rcases a2 with ⟨m1, m2, m3⟩ | ⟨m1, m2⟩
   · exact absurd (wrongVF_iff.2 ⟨hB, by omega, plain_many hm⟩) g1
   · exact m2
def stepL (val : Fld → Rec → Val × Bool × Int) (ad : Bod → Fld → Val → Bod × Int) (fs : List Fld) (x : Fld) (v : Val) (rest : List Rec) (a : Bod) : Bod × Int :=
 if (ad a x v).2 ≠ 0 then (bod0, (ad a x v).2) else readL val ad fs rest (ad a x v).1
theorem readL_one {val : Fld → Rec → Val × Bool × Int} {ad : Bod → Fld → Val → Bod × Int} {fs : List Fld} {x : Fld} {v : Val} {r : Rec} {rest : List Rec} {a : Bod} (hx : fldN fs r.number = some x) (hv : val x r = (v, true, 0)) : readL val ad fs (r :: rest) a = stepL val ad fs x v rest a := by
 rw [readL, hx]; simp only; rw [hv]; rfl
theorem readL_many {α : Type} {wb : Int → Bod → Int} {jb : Int → Bod → Bod → Bod} {jn : Int → Bod → Bod → Bod × Int} {f : Fil} {fs : List Fld} (hch : ∀ z ∈ fs, 0 ≤ z.choice) (hjn : JnOk wb jb jn) {val : Fld → Rec → Val × Bool × Int} {x : Fld} (hx : fldN fs x.number = some x) (hm : x.many = true) (V : List α → Val) (R : α → Rec)
   (hcat : ∀ t s l, V (t :: s :: l) = catV (V [t]) (V (s :: l))) (hn : ∀ l, (V l).1 = x.number) (rest : List Rec) : ∀ (l : List α) (a : Bod), l ≠ [] → AllV wb f fs a.values → (∀ t ∈ l, (R t).number = x.number ∧ val x (R t) = (V [t], true, 0) ∧ FitV wb f x (V [t])) →
   FitV wb f x (V l) ∧ readL val (addC jn f fs) fs (l.map R ++ rest) a = stepL val (addC jn f fs) fs x (V l) rest a
 | [], _, h, _, _ => absurd rfl h
 | [t], a, _, _, h => by
   obtain ⟨h1, h2, h3⟩ := h t List.mem_cons_self; exact ⟨h3, readL_one (by rw [h1]; exact hx) h2⟩
 | t :: s :: l, a, _, ha, h => by
   obtain ⟨h1, h2, h3⟩ := h t List.mem_cons_self; have hr : ∀ q ∈ s :: l, (R q).number = x.number ∧ val x (R q) = (V [q], true, 0) ∧ FitV wb f x (V [q]) := fun q hq => h q (List.mem_cons_of_mem _ hq); have h4 := (readL_many hch hjn hx hm V R hcat hn rest (s :: l) a (by simp) ha hr).1; rw [hcat]; refine ⟨(fit_cat hm h3 h4).1, ?_⟩; rw [List.map_cons, List.cons_append, readL_one (by rw [h1]; exact hx) h2]; unfold stepL; rcases add_add hch hjn ha hx hm h3 h4 (hn _) (hn _) with ⟨g1, g2, g3⟩ | ⟨g1, g2, g3⟩
   · rw [if_neg (by simpa using g1), (readL_many hch hjn hx hm V R hcat hn rest (s :: l) _ (by simp) g2 hr).2]; unfold stepL; rw [g3]
   · rw [if_pos g1, g2, g3, if_pos (by decide)]
theorem kind_how {k : Int} (h1 : 1 ≤ k) (h2 : k ≤ 10) : (howC k ≠ 2 ∧ k ≤ 7) ∨ (howC k = 2 ∧ (k = 8 ∨ k = 9)) ∨ (howC k = 2 ∧ k = 10) := by
 by_cases h : howC k = 2
 · rcases howC_two.1 h with g | g | g
   · exact .inr (.inl ⟨h, .inl g⟩)
   · exact .inr (.inl ⟨h, .inr g⟩)
   · exact .inr (.inr ⟨h, g⟩)
 · refine .inl ⟨h, ?_⟩; have : ¬ (k = 8 ∨ k = 9 ∨ k = 10) := fun g => h (howC_two.2 g); omega
theorem fit_shape {wb : Int → Bod → Int} {f : Fil} {x : Fld} {v : Val} (h : FitV wb f x v) (h1 : 1 ≤ x.kind) (h2 : x.kind ≤ 10) :
   (howC x.kind ≠ 2 ∧ x.kind ≤ 7 ∧ v = (v.1, v.2.1, [], []) ∧ v.2.1 ≠ [] ∧ (x.many = false → ∃ n, v.2.1 = [n])) ∨ (howC x.kind = 2 ∧ (x.kind = 8 ∨ x.kind = 9) ∧ v = (v.1, [], v.2.2.1, []) ∧ v.2.2.1 ≠ [] ∧ (x.many = false → ∃ t, v.2.2.1 = [t])) ∨ (howC x.kind = 2 ∧ x.kind = 10 ∧ v = (v.1, [], [], v.2.2.2) ∧ v.2.2.2 ≠ [] ∧ (x.many = false → ∃ s, v.2.2.2 = [s])) := by
 obtain ⟨c1, c2, c3, _, _, _⟩ := h; obtain ⟨n, b, y, s⟩ := v
 have nil2 : ∀ {α β : Type} {l : List α} {r : List β}, (l.length + r.length == 0) = true → l = [] ∧ r = [] := fun {α β l r} g => by
   simp only [beq_iff_eq] at g; exact ⟨List.length_eq_zero_iff.1 (by omega), List.length_eq_zero_iff.1 (by omega)⟩
 (have ne1 : ∀ {α : Type} {l : List α}, 1 ≤ l.length → l ≠ [] := fun {α l} g e => by rw [e] at g; simp at g); have one1 : ∀ {α : Type} {l : List α}, l.length = 1 → ∃ n, l = [n] := fun {α l} g => List.length_eq_one_iff.1 g; rcases kind_how h1 h2 with ⟨g, g7⟩ | ⟨g, g8⟩ | ⟨g, g8⟩
 · have hc := countN_no (kind := x.kind) (by omega) (by omega) (by omega) (n, b, y, s); rw [hc] at c1 c2 c3; obtain ⟨rfl, rfl⟩ := nil2 c1; exact .inl ⟨g, g7, rfl, ne1 c2, fun hm => one1 (c3 hm)⟩
 · (have hc : countN x.kind (n, b, y, s) = (y.length, b.length + s.length == 0) := by unfold countN; rw [if_pos g8]); rw [hc] at c1 c2 c3; obtain ⟨rfl, rfl⟩ := nil2 c1; exact .inr (.inl ⟨g, g8, rfl, ne1 c2, fun hm => one1 (c3 hm)⟩)
 · (have hc : countN x.kind (n, b, y, s) = (s.length, b.length + y.length == 0) := by unfold countN; rw [if_neg (by omega), if_pos g8]); rw [hc] at c1 c2 c3; obtain ⟨rfl, rfl⟩ := nil2 c1; exact .inr (.inr ⟨g, g8, rfl, ne1 c2, fun hm => one1 (c3 hm)⟩)
theorem val_one {rd : List UInt8 → Bod × Int} {x : Fld} {n : Nat} (hk : howC x.kind ≠ 2) (h : n < 18446744073709551616) (hf : fitsN x.kind n = 0) : valueC rd x ⟨x.number, howC x.kind, toldC x.kind n, []⟩ = ((x.number, [n], [], []), true, 0) := by
 unfold valueC; rw [if_pos hk]; unfold numbersC; simp only [if_true]; rw [back_told h hf]; rfl
theorem val_pack1 {rd : List UInt8 → Bod × Int} {x : Fld} {l : List Nat} (hm : x.many = true) (hk : howC x.kind ≠ 2) (hl : l ≠ []) (h : ∀ n ∈ l, n < 18446744073709551616 ∧ fitsN x.kind n = 0) : valueC rd x ⟨x.number, 2, 0, packC x.kind l⟩ = ((x.number, l, [], []), true, 0) := by
 have hn : numbersC x ⟨x.number, 2, 0, packC x.kind l⟩ = (l, 0) := by
   unfold numbersC; (rw [if_neg (fun e => hk e.symm), if_neg (by rintro (g | g); exact g rfl; rw [hm] at g; cases g)]); exact pack_put hk l _ h (Nat.lt_succ_self _)
 unfold valueC; rw [if_pos hk, hn]; have : 0 < l.length := List.length_pos_iff.2 hl; simp only; rw [decide_eq_true this]
theorem val_text {rd : List UInt8 → Bod × Int} {x : Fld} {t : List UInt8} (hk : howC x.kind = 2) (h8 : x.kind = 8 ∨ x.kind = 9) (h : byteN x.kind t = 0) : valueC rd x ⟨x.number, 2, 0, t⟩ = ((x.number, [], [t], []), true, 0) := by
 unfold valueC; rw [if_neg (by simpa using hk), if_neg (by simp)]; rcases h8 with h8 | h8
 · rw [if_pos h8]
   have hv : ¬ Lib.validD t = false := fun g => by
     unfold byteN at h; split at h
     · cases h
     · rw [if_pos ⟨h8, g⟩] at h; cases h
   rw [if_neg hv]
 · rw [if_neg (by omega), if_pos h8]
theorem val_sub {rd : List UInt8 → Bod × Int} {x : Fld} {t : List UInt8} {s : Bod} (hk : howC x.kind = 2) (h10 : x.kind = 10) (h : rd t = (s, 0)) : valueC rd x ⟨x.number, 2, 0, t⟩ = ((x.number, [], [], [s]), true, 0) := by
 unfold valueC; rw [if_neg (by simpa using hk), if_neg (by simp), if_neg (by omega), if_neg (by omega), h, if_neg (by simp)]
abbrev Num64 (v : Val) : Prop := ∀ n ∈ v.2.1, n < 18446744073709551616
theorem readL_val {wb : Int → Bod → Int} {jb : Int → Bod → Bod → Bod} {jn : Int → Bod → Bod → Bod × Int} {f : Fil} {fs : List Fld} (hch : ∀ z ∈ fs, 0 ≤ z.choice) (hjn : JnOk wb jb jn) (rd : Fld → List UInt8 → Bod × Int) (sub : Bod → List UInt8) {x : Fld} (hx : fldN fs x.number = some x) (ht : typedN f x = 0)
   {v : Val} (hv : wrongVF wb f x v = 0) (hvn : v.1 = x.number) (h64 : Num64 v) (hsub : ∀ s ∈ v.2.2.2, rd x (sub s) = (s, 0)) (rest : List Rec) (a : Bod) (ha : AllV wb f fs a.values) :
   readL (fun x r => valueC (rd x) x r) (addC jn f fs) fs (valRecs sub x v ++ rest) a = stepL (fun x r => valueC (rd x) x r) (addC jn f fs) fs x v rest a := by
 obtain ⟨t1, t2, _, _⟩ := typed_facts ht; obtain ⟨hfit, h60, hpl⟩ := wrongVF_iff.1 hv; have hsh := fit_shape hfit t1 t2; obtain ⟨f1, f2, f3, f4, f5, f6⟩ := hfit; obtain ⟨n, b, y, s⟩ := v; simp only at hvn h64 hsub f4 f5 f6 hsh; subst hvn; rcases hsh with ⟨g, g7, e, hne, hone⟩ | ⟨g, g8, e, hne, hone⟩ | ⟨g, g8, e, hne, hone⟩
 · simp only [Prod.mk.injEq, true_and] at e; obtain ⟨rfl, rfl⟩ := e
   cases hm : x.many with
   | true =>
     (have e2 : valRecs sub x (x.number, b, [], []) = [⟨x.number, 2, 0, packC x.kind b⟩] := by unfold valRecs; rw [if_pos ⟨hm, g⟩]); rw [e2]; exact readL_one hx (val_pack1 hm g hne (fun n hn => ⟨h64 n hn, f4 n hn⟩))
   | false =>
     obtain ⟨n, rfl⟩ := hone hm; (have e2 : valRecs sub x (x.number, [n], [], []) = [⟨x.number, howC x.kind, toldC x.kind n, []⟩] := by unfold valRecs; rw [if_neg (by rw [hm]; simp)]; rfl); rw [e2]; exact readL_one hx (val_one g (h64 n (by simp)) (f4 n (by simp)))
 · simp only [Prod.mk.injEq, true_and] at e; obtain ⟨rfl, rfl⟩ := e; (have e2 : valRecs sub x (x.number, [], y, []) = y.map fun t => ⟨x.number, 2, 0, t⟩ := by unfold valRecs; rw [if_neg (by rintro ⟨_, h⟩; exact h g)]; simp); rw [e2]
   cases hm : x.many with
   | true =>
     refine (readL_many (val := fun x r => valueC (rd x) x r) hch hjn hx hm (fun l => (x.number, [], l, [])) (fun t => ⟨x.number, 2, 0, t⟩) (fun t s l => rfl) (fun l => rfl) rest y a hne ha (fun t ht => ⟨rfl, val_text g g8 (f5 t ht), ?_⟩)).2; (have hc : ∀ l, countN x.kind (x.number, [], l, []) = (l.length, true) := fun l => by unfold countN; rw [if_pos g8]; rfl); exact ⟨by rw [hc], by rw [hc]; exact Nat.le_refl _, fun _ => by rw [hc]; rfl, (fun n hn => by cases hn), fun b hb => by obtain rfl : b = t := (by simpa using hb); exact f5 _ ht, (fun n hn => by cases hn)⟩
   | false =>
     obtain ⟨t, rfl⟩ := hone hm; exact readL_one hx (val_text g g8 (f5 t (by simp)))
 · simp only [Prod.mk.injEq, true_and, and_true] at e; obtain ⟨rfl, rfl⟩ := e; (have e2 : valRecs sub x (x.number, [], [], s) = s.map fun t => ⟨x.number, 2, 0, sub t⟩ := by unfold valRecs; rw [if_neg (by rintro ⟨_, h⟩; exact h g)]; simp); rw [e2]
   cases hm : x.many with
   | true =>
     refine (readL_many (val := fun x r => valueC (rd x) x r) hch hjn hx hm (fun l => (x.number, [], [], l)) (fun t => ⟨x.number, 2, 0, sub t⟩) (fun t s l => rfl) (fun l => rfl) rest s a hne ha (fun t ht => ⟨rfl, val_sub g g8 (hsub t ht), ?_⟩)).2; (have hc : ∀ l, countN x.kind (x.number, [], [], l) = (l.length, true) := fun l => by unfold countN; rw [if_neg (by omega), if_pos g8]; rfl); exact ⟨by rw [hc], by rw [hc]; exact Nat.le_refl _, fun _ => by rw [hc]; rfl, (fun n hn => by cases hn), (fun n hn => by cases hn), fun b hb => by obtain rfl : b = t := (by simpa using hb); exact f6 _ ht⟩
   | false =>
     obtain ⟨t, rfl⟩ := hone hm; exact readL_one hx (val_sub g g8 (hsub t (by simp)))
theorem readL_unk {val : Fld → Rec → Val × Bool × Int} {ad : Bod → Fld → Val → Bod × Int} {fs : List Fld} : ∀ (l : List Rec) (a : Bod), (∀ r ∈ l, fldN fs r.number = none) → readL val ad fs l a = (.mk a.values (a.unknown ++ l), 0)
 | [], a, _ => by rw [readL, List.append_nil]; cases a; rfl
 | r :: l, a, h => by
   rw [readL, h r List.mem_cons_self]; simp only; rw [readL_unk l _ (fun q hq => h q (List.mem_cons_of_mem _ hq))]; simp [Bod.values, Bod.unknown]
theorem readL_vals {wb : Int → Bod → Int} {jb : Int → Bod → Bod → Bod} {jn : Int → Bod → Bod → Bod × Int} {f : Fil} {fs : List Fld} (hch : ∀ z ∈ fs, 0 ≤ z.choice) (hty : ∀ z ∈ fs, typedN f z = 0) (hself : ∀ z ∈ fs, fldN fs z.number = some z) (hjn : JnOk wb jb jn) (rd : Fld → List UInt8 → Bod × Int) (sub : Fld → Bod → List UInt8) (rest : List Rec) :
   ∀ (l : List Val) (a : Bod), AllV wb f fs a.values → AllV wb f fs l → (∀ v ∈ l, Num64 v) → (∀ v ∈ l, ∀ x, fldN fs v.1 = some x → ∀ s ∈ v.2.2.2, rd x (sub x s) = (s, 0)) →
   readL (fun x r => valueC (rd x) x r) (addC jn f fs) fs (valsRecs sub fs l ++ rest) a = (let p := joinL (addC jn f fs) fs l a
     if p.2 ≠ 0 then (bod0, p.2) else readL (fun x r => valueC (rd x) x r) (addC jn f fs) fs rest p.1)
 | [], a, _, _, _, _ => by rw [joinL]; rfl
 | v :: l, a, ha, hl, h64, hs => by
   obtain ⟨x, hx, hw⟩ := hl.fld v List.mem_cons_self; obtain ⟨hxm, hxn⟩ := fldN_mem hx
   have e : valsRecs sub fs (v :: l) ++ rest = valRecs (sub x) x v ++ (valsRecs sub fs l ++ rest) := by
     unfold valsRecs; rw [List.flatMap_cons, hx, List.append_assoc]
   rw [e, readL_val hch hjn rd (sub x) (hself x hxm) (hty x hxm) hw hxn.symm (h64 v List.mem_cons_self) (hs v List.mem_cons_self x hx) _ a ha]; unfold stepL; rw [joinL, hx]; simp only; rcases add_ok hjn ha hx (wrongVF_iff.1 hw).1 with ⟨g1, g2, g3⟩ | ⟨g1, g2⟩
   · rw [g3]; simp only [ne_eq, not_true_eq_false, if_false]; exact readL_vals hch hty hself hjn rd sub rest l (.mk _ _) (set_right hch ha (by rw [bothV_num]; exact hx) g1 g2) hl.tail (fun u hu => h64 u (List.mem_cons_of_mem _ hu)) (fun u hu => hs u (List.mem_cons_of_mem _ hu))
   · rw [g2]; rfl
end Go.Proofs.YtbceapeoknngnaaGreatDoor
