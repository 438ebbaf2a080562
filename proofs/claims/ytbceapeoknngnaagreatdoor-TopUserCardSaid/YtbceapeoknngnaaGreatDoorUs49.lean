/-
  A user, in plain Lean.
  What TopUser lays out: strings as bytes, values of one thing each, a slice of empty bodies.
  A body that grows by body.Set, in its box.
  The message of presstop's one text; bits of a number.
-/
import Derived.Test.YtbceapeoknngnaaGreatDoorUs48
import Derived.Laws.OwnMore
set_option linter.unusedVariables false
namespace Go.Proofs.YtbceapeoknngnaaGreatDoor
open Go.RowKit
def u1 (name : List UInt8) : Val := (1, [], [name], [])
def u2 (score : Nat) : Val := (2, [score], [], [])
def u3 (role : Nat) : Val := (3, [role], [], [])
def u4 (n : Nat) : Val := (4, [], [], List.replicate n bod0)
def u5 (key : List UInt8) : Val := (5, [], [key], [])
def u6 : Val := (6, [1], [], [])
abbrev fsU : List Fld := fldsU 5
def usrL (name : List UInt8) (score role : Nat) (n : Nat) (key : List UInt8) : List Val :=
 let l3 := setV fsU (setV fsU (setV fsU [] (u1 name)) (u2 score)) (u3 role)
 setV fsU (if 0 < n then setV fsU l3 (u4 n) else l3) (u5 key)
def usrV (name : List UInt8) (score role : Nat) (n : Nat) (key : List UInt8) (opn : Bool) : List Val :=
 if opn = true then setV fsU (usrL name score role n key) u6 else usrL name score role n key
def usrF (name : List UInt8) (score role : Nat) (n : Nat) (key : List UInt8) (opn : Bool) : List Val :=
 (if name = [] then [] else [u1 name]) ++ ((if score = 0 then [] else [u2 score]) ++ ((if role = 0 then [] else [u3 role]) ++ ((if n = 0 then [] else [u4 n]) ++ (if opn = true then [u6] else [u5 key]))))
theorem tw_all {α : Type} (p : α → Bool) : ∀ l : List α, (∀ y ∈ l, p y = true) → l.takeWhile p = l
 | [], _ => rfl
 | a :: l, h => by rw [List.takeWhile_cons, if_pos (h a (List.mem_cons_self ..)), tw_all p l (fun y hy => h y (List.mem_cons_of_mem _ hy))]
theorem ins_end {A : List Val} {v : Val} (h : ∀ y ∈ A, y.1 < v.1) : insG (fun y : Val => y.1) A v = A ++ [v] := by
 unfold insG; rw [tw_all _ A (fun y hy => decide_eq_true (h y hy)), List.take_length, List.drop_length]
theorem set_end {fs : List Fld} {A B : List Val} {v : Val} {x : Fld} (hx : fs.find? (fun z => z.number == v.1) = some x) (hA : ∀ y ∈ A, keepN fs x v.1 y.1 = true ∧ y.1 < v.1) (hB : ∀ y ∈ B, keepN fs x v.1 y.1 = false) :
   setV fs (A ++ B) v = if plainN x v = true then A else A ++ [v] := by
 have h1 : (A ++ B).filter (fun y => keepN fs x v.1 y.1) = A := by
   rw [List.filter_append, List.filter_eq_self.2 (fun y hy => (hA y hy).1), List.filter_eq_nil_iff.2 (fun y hy => by rw [hB y hy]; simp), List.append_nil]
 have h2 : insG (fun y : Val => y.1) A v = A ++ [v] := ins_end (fun y hy => (hA y hy).2); unfold setV setG; rw [hx]; simp only [h1, h2]
def usrA (name : List UInt8) (score role : Nat) (n : Nat) : List Val :=
 (if name = [] then [] else [u1 name]) ++ ((if score = 0 then [] else [u2 score]) ++ ((if role = 0 then [] else [u3 role]) ++ (if n = 0 then [] else [u4 n])))
theorem usr_is (name : List UInt8) (score role : Nat) (n : Nat) (key : List UInt8) (opn : Bool) : usrV name score role n key opn = usrF name score role n key opn := by
 have s1 : setV fsU [] (u1 name) = usrA name 0 0 0 := by
   have h := set_end (fs := fsU) (A := []) (B := []) (v := u1 name) (x := ⟨[110, 97, 109, 101], 1, 8, [], false, 0⟩) rfl (fun y hy => by cases hy) (fun y hy => by cases hy); rw [List.nil_append] at h; rw [h]; cases name <;> rfl
 have m1 : ∀ y ∈ usrA name 0 0 0, y.1 = 1 := fun y hy => by
   cases name with
   | nil => cases hy
   | cons a l => obtain rfl := List.mem_singleton.1 hy; rfl
 have s2 : setV fsU (usrA name 0 0 0) (u2 score) = usrA name score 0 0 := by
   have h := set_end (fs := fsU) (A := usrA name 0 0 0) (B := []) (v := u2 score) (x := ⟨[115, 99, 111, 114, 101], 2, 2, [], false, 0⟩) rfl (fun y hy => by show keepN fsU _ 2 y.1 = true ∧ y.1 < 2; rw [m1 y hy]; decide) (fun y hy => by cases hy); rw [List.append_nil] at h; rw [h]; cases name <;> cases score <;> rfl
 have m2 : ∀ y ∈ usrA name score 0 0, y.1 = 1 ∨ y.1 = 2 := fun y hy => by
   rcases List.mem_append.1 hy with h | h
   · split at h
     · cases h
     · obtain rfl := List.mem_singleton.1 h; exact .inl rfl
   rcases List.mem_append.1 h with h | h
   · split at h
     · cases h
     · obtain rfl := List.mem_singleton.1 h; exact .inr rfl
   · cases h
 have s3 : setV fsU (usrA name score 0 0) (u3 role) = usrA name score role 0 := by
   have h := set_end (fs := fsU) (A := usrA name score 0 0) (B := []) (v := u3 role) (x := ⟨[114, 111, 108, 101], 3, 5, [82, 111, 108, 101], false, 0⟩) rfl (fun y hy => by show keepN fsU _ 3 y.1 = true ∧ y.1 < 3; rcases m2 y hy with e | e <;> (rw [e]; decide)) (fun y hy => by cases hy); rw [List.append_nil] at h; rw [h]; cases name <;> cases score <;> cases role <;> rfl
 have m3 : ∀ y ∈ usrA name score role 0, y.1 = 1 ∨ y.1 = 2 ∨ y.1 = 3 := fun y hy => by
   rcases List.mem_append.1 hy with h | h
   · split at h
     · cases h
     · obtain rfl := List.mem_singleton.1 h; exact .inl rfl
   rcases List.mem_append.1 h with h | h
   · split at h
     · cases h
     · obtain rfl := List.mem_singleton.1 h; exact .inr (.inl rfl)
   rcases List.mem_append.1 h with h | h
   · split at h
     · cases h
     · obtain rfl := List.mem_singleton.1 h; exact .inr (.inr rfl)
   · cases h
 have s4 : (if 0 < n then setV fsU (usrA name score role 0) (u4 n) else usrA name score role 0) = usrA name score role n := by
   have h := set_end (fs := fsU) (A := usrA name score role 0) (B := []) (v := u4 n) (x := ⟨[102, 114, 105, 101, 110, 100, 115], 4, 10, [85, 115, 101, 114], true, 0⟩) rfl (fun y hy => by show keepN fsU _ 4 y.1 = true ∧ y.1 < 4; rcases m3 y hy with e | e | e <;> (rw [e]; decide)) (fun y hy => by cases hy); rw [List.append_nil] at h; rw [h]
   cases n with
   | zero => rfl
   | succ n => cases name <;> cases score <;> cases role <;> rfl
 have m4 : ∀ y ∈ usrA name score role n, y.1 = 1 ∨ y.1 = 2 ∨ y.1 = 3 ∨ y.1 = 4 := fun y hy => by
   rcases List.mem_append.1 hy with h | h
   · split at h
     · cases h
     · obtain rfl := List.mem_singleton.1 h; exact .inl rfl
   rcases List.mem_append.1 h with h | h
   · split at h
     · cases h
     · obtain rfl := List.mem_singleton.1 h; exact .inr (.inl rfl)
   rcases List.mem_append.1 h with h | h
   · split at h
     · cases h
     · obtain rfl := List.mem_singleton.1 h; exact .inr (.inr (.inl rfl))
   · split at h
     · cases h
     · obtain rfl := List.mem_singleton.1 h; exact .inr (.inr (.inr rfl))
 have s5 : setV fsU (usrA name score role n) (u5 key) = usrA name score role n ++ [u5 key] := by
   have h := set_end (fs := fsU) (A := usrA name score role n) (B := []) (v := u5 key) (x := ⟨[107, 101, 121], 5, 9, [], false, 1⟩) rfl (fun y hy => by show keepN fsU _ 5 y.1 = true ∧ y.1 < 5; rcases m4 y hy with e | e | e | e <;> (rw [e]; decide)) (fun y hy => by cases hy); rw [List.append_nil] at h; rw [h]; rfl
 have s6 : setV fsU (usrA name score role n ++ [u5 key]) u6 = usrA name score role n ++ [u6] := by
   have h := set_end (fs := fsU) (A := usrA name score role n) (B := [u5 key]) (v := u6) (x := ⟨[111, 112, 101, 110], 6, 4, [], false, 1⟩) rfl (fun y hy => by show keepN fsU _ 6 y.1 = true ∧ y.1 < 6; rcases m4 y hy with e | e | e | e <;> (rw [e]; decide)) (fun y hy => by obtain rfl := List.mem_singleton.1 hy; rfl); rw [h]; rfl
 have hl : usrL name score role n key = usrA name score role n ++ [u5 key] := by
   unfold usrL; simp only [s1, s2, s3, s4, s5]
 unfold usrV usrF; rw [hl, s6]; unfold usrA; cases opn <;> simp [List.append_assoc]
theorem usr_mem {name : List UInt8} {score role : Nat} {n : Nat} {key : List UInt8} {opn : Bool} {v : Val} (h : v ∈ usrF name score role n key opn) :
   (v = u1 name ∧ name ≠ []) ∨ (v = u2 score ∧ score ≠ 0) ∨ (v = u3 role ∧ role ≠ 0) ∨ (v = u4 n ∧ n ≠ 0) ∨ (v = u5 key ∧ opn = false) ∨ (v = u6 ∧ opn = true) := by
 unfold usrF at h; simp only [List.mem_append] at h; rcases h with h | h | h | h | h
 · split at h
   · cases h
   · exact .inl ⟨List.mem_singleton.1 h, by assumption⟩
 · split at h
   · cases h
   · exact .inr (.inl ⟨List.mem_singleton.1 h, by assumption⟩)
 · split at h
   · cases h
   · exact .inr (.inr (.inl ⟨List.mem_singleton.1 h, by assumption⟩))
 · split at h
   · cases h
   · exact .inr (.inr (.inr (.inl ⟨List.mem_singleton.1 h, by assumption⟩)))
 · split at h
   · exact .inr (.inr (.inr (.inr (.inr ⟨List.mem_singleton.1 h, by assumption⟩))))
   · rename_i ho; exact .inr (.inr (.inr (.inr (.inl ⟨List.mem_singleton.1 h, by simpa using ho⟩))))
def usrB (name : List UInt8) (score role : Nat) (n : Nat) (key : List UInt8) (opn : Bool) : Bod := .mk (usrF name score role n key opn) []
theorem usr_rise (name : List UInt8) (score role : Nat) (n : Nat) (key : List UInt8) (opn : Bool) : RisingV (usrF name score role n key opn) := by
 cases name <;> cases score <;> cases role <;> cases n <;> cases opn <;> simp [usrF, RisingV, u1, u2, u3, u4, u5, u6]
theorem usr_b64 {name : List UInt8} {score role : Nat} {n : Nat} {key : List UInt8} {opn : Bool} (h2 : score < 18446744073709551616) (h3 : role < 18446744073709551616) : B64 12 (usrB name score role n key opn) := by
 refine ⟨fun v hv => ?_, fun r hr => (by cases hr)⟩; rcases usr_mem (show v ∈ usrF name score role n key opn from hv) with ⟨rfl, _⟩ | ⟨rfl, _⟩ | ⟨rfl, _⟩ | ⟨rfl, _⟩ | ⟨rfl, _⟩ | ⟨rfl, _⟩
 · exact ⟨fun m hm => (by cases hm), fun s hs => (by cases hs)⟩
 · exact ⟨fun m hm => (by obtain rfl := List.mem_singleton.1 hm; exact h2), fun s hs => (by cases hs)⟩
 · exact ⟨fun m hm => (by obtain rfl := List.mem_singleton.1 hm; exact h3), fun s hs => (by cases hs)⟩
 · exact ⟨fun m hm => (by cases hm), fun s hs => (by obtain rfl := List.eq_of_mem_replicate (show s ∈ List.replicate n bod0 from hs); exact ⟨fun v hv => (by cases hv), fun r hr => (by cases hr)⟩)⟩
 · exact ⟨fun m hm => (by cases hm), fun s hs => (by cases hs)⟩
 · exact ⟨fun m hm => (by obtain rfl := List.mem_singleton.1 hm; decide), fun s hs => (by cases hs)⟩
theorem usr_right {name : List UInt8} {score role : Nat} {n : Nat} {key : List UInt8} {opn : Bool} (hv : Lib.validD name = true) (hn : name.length ≤ 100) (hk : key.length ≤ 100) (h20 : n ≤ 20) (hr : fitsN 5 role = 0) : wrongA filU 0 (usrB name score role n key opn) = 0 := by
 have hm : filU.msgs[(0 : Int).toNat]? = some ⟨[85, 115, 101, 114], fsU, []⟩ := rfl; (have hch : ∀ z ∈ fsU, 0 ≤ z.choice := by decide); unfold wrongA; rw [if_neg (by rw [wrong_filU]; simp), if_neg (by decide)]; refine (wrongB_is (k := 11) hm hch _).2 ⟨⟨usr_rise _ _ _ _ _ _, fun v hv' => ?_, fun u hu w hw hne x y hx hy h0 e => ?_⟩, fun r hr => (by cases hr)⟩
 · rcases usr_mem (show v ∈ usrF name score role n key opn from hv') with ⟨rfl, h⟩ | ⟨rfl, h⟩ | ⟨rfl, h⟩ | ⟨rfl, h⟩ | ⟨rfl, h⟩ | ⟨rfl, h⟩
   · refine ⟨⟨[110, 97, 109, 101], 1, 8, [], false, 0⟩, rfl, wrongVF_iff.2 ⟨⟨rfl, Nat.le_refl _, fun _ => rfl, fun m hm => (by cases hm), fun t ht => ?_, fun s hs => (by cases hs)⟩, (show (1:Nat) ≤ 60 by decide), ?_⟩⟩
     · obtain rfl := List.mem_singleton.1 (show t ∈ [name] from ht); unfold byteN; rw [if_neg (by omega), if_neg (by rw [hv]; simp)]
     · cases name with
       | nil => exact absurd rfl h
       | cons a l => rfl
   · refine ⟨⟨[115, 99, 111, 114, 101], 2, 2, [], false, 0⟩, rfl, wrongVF_iff.2 ⟨⟨rfl, Nat.le_refl _, fun _ => rfl, fun m hm => rfl, fun t ht => (by cases ht), fun s hs => (by cases hs)⟩, (show (1:Nat) ≤ 60 by decide), ?_⟩⟩
     cases score with
     | zero => exact absurd rfl h
     | succ a => rfl
   · refine ⟨⟨[114, 111, 108, 101], 3, 5, [82, 111, 108, 101], false, 0⟩, rfl, wrongVF_iff.2 ⟨⟨rfl, Nat.le_refl _, fun _ => rfl, fun m hm => ?_, fun t ht => (by cases ht), fun s hs => (by cases hs)⟩, (show (1:Nat) ≤ 60 by decide), ?_⟩⟩
     · obtain rfl := List.mem_singleton.1 (show m ∈ [role] from hm); exact hr
     · cases role with
       | zero => exact absurd rfl h
       | succ a => rfl
   · have hlen : (List.replicate n bod0).length = n := List.length_replicate; refine ⟨⟨[102, 114, 105, 101, 110, 100, 115], 4, 10, [85, 115, 101, 114], true, 0⟩, rfl, wrongVF_iff.2 ⟨⟨rfl, ?_, fun h => (by cases h), fun m hm => (by cases hm), fun t ht => (by cases ht), fun s hs => ?_⟩, ?_, rfl⟩⟩
     · show 1 ≤ (List.replicate n bod0).length; omega
     · obtain rfl := List.eq_of_mem_replicate (show s ∈ List.replicate n bod0 from hs); exact nil_right (m := ⟨[85, 115, 101, 114], fsU, []⟩) (k := 10) rfl
     · show (List.replicate n bod0).length ≤ 60; omega
   · refine ⟨⟨[107, 101, 121], 5, 9, [], false, 1⟩, rfl, wrongVF_iff.2 ⟨⟨rfl, Nat.le_refl _, fun _ => rfl, fun m hm => (by cases hm), fun t ht => ?_, fun s hs => (by cases hs)⟩, (show (1:Nat) ≤ 60 by decide), rfl⟩⟩; obtain rfl := List.mem_singleton.1 (show t ∈ [key] from ht); unfold byteN; rw [if_neg (by omega), if_neg (by simp)]
   · exact ⟨⟨[111, 112, 101, 110], 6, 4, [], false, 1⟩, rfl, by decide +kernel⟩
 · have hu' := usr_mem (show u ∈ usrF name score role n key opn from hu); have hw' := usr_mem (show w ∈ usrF name score role n key opn from hw)
   have key : ∀ v : Val, ∀ z, ((v = u1 name ∧ name ≠ []) ∨ (v = u2 score ∧ score ≠ 0) ∨ (v = u3 role ∧ role ≠ 0) ∨ (v = u4 n ∧ n ≠ 0) ∨ (v = u5 key ∧ opn = false) ∨ (v = u6 ∧ opn = true)) → fldN fsU v.1 = some z → 0 < z.choice → (v.1 = 5 ∧ opn = false) ∨ (v.1 = 6 ∧ opn = true) := by
     intro v z h hz h0; rcases h with ⟨rfl, _⟩ | ⟨rfl, _⟩ | ⟨rfl, _⟩ | ⟨rfl, _⟩ | ⟨rfl, ho⟩ | ⟨rfl, ho⟩
     · cases hz; cases h0
     · cases hz; cases h0
     · cases hz; cases h0
     · cases hz; cases h0
     · exact .inl ⟨rfl, ho⟩
     · exact .inr ⟨rfl, ho⟩
   rcases key u x hu' hx h0 with ⟨a1, a2⟩ | ⟨a1, a2⟩
   · rcases key w y hw' hy (by omega) with ⟨b1, b2⟩ | ⟨b1, b2⟩
     · exact hne (a1.trans b1.symm)
     · rw [a2] at b2; cases b2
   · rcases key w y hw' hy (by omega) with ⟨b1, b2⟩ | ⟨b1, b2⟩
     · rw [a2] at b2; cases b2
     · exact hne (a1.trans b1.symm)
theorem usr_wgt {name : List UInt8} {score role : Nat} {n : Nat} {key : List UInt8} {opn : Bool} (hn : name.length ≤ 100) (hk : key.length ≤ 100) (h20 : n ≤ 20) : wgt 12 (usrB name score role n key opn) ≤ 1000 := by
 have h4 : ∀ n : Nat, ((List.replicate n bod0).map fun s => wgt 11 s + 25).sum = 25 * n := by
   intro n
   induction n with
   | zero => rfl
   | succ n ih => rw [List.replicate_succ, List.map_cons, List.sum_cons, ih, wgt_zero]; omega
 (have e1 : wgtV (wgt 11) (u1 name) = name.length + 25 := by simp [wgtV, u1]); (have e2 : wgtV (wgt 11) (u2 score) = 25 := by simp [wgtV, u2]); have e3 : wgtV (wgt 11) (u3 role) = 25 := by simp [wgtV, u3]
 have e4 : wgtV (wgt 11) (u4 n) = 25 * n := by
   have h := h4 n; unfold wgtV u4; simp only [List.length_nil, List.map_nil, List.sum_nil]; omega
 (have e5 : wgtV (wgt 11) (u5 key) = key.length + 25 := by simp [wgtV, u5]); (have e6 : wgtV (wgt 11) u6 = 25 := by simp [wgtV, u6]); show ((usrF name score role n key opn).map (wgtV (wgt 11))).sum + wgtU [] ≤ 1000; unfold usrF; simp only [List.map_append, sum_append]; (have f1 : ((if name = [] then [] else [u1 name]).map (wgtV (wgt 11))).sum ≤ 125 := by split <;> simp [e1]; omega); (have f2 : ((if score = 0 then [] else [u2 score]).map (wgtV (wgt 11))).sum ≤ 25 := by split <;> simp [e2]); (have f3 : ((if role = 0 then [] else [u3 role]).map (wgtV (wgt 11))).sum ≤ 25 := by split <;> simp [e3]); (have f4 : ((if n = 0 then [] else [u4 n]).map (wgtV (wgt 11))).sum ≤ 500 := by split <;> simp [e4]; omega); (have f5 : ((if opn = true then [u6] else [u5 key]).map (wgtV (wgt 11))).sum ≤ 125 := by split <;> simp [e5, e6]; omega); simp only [wgtU, List.map_nil, List.sum_nil]; omega
theorem usr_back {name : List UInt8} {score role : Nat} {n : Nat} {key : List UInt8} {opn : Bool} (hv : Lib.validD name = true) (hn : name.length ≤ 100) (hk : key.length ≤ 100) (h20 : n ≤ 20) (hr : fitsN 5 role = 0) (h2 : score < 18446744073709551616) (h3 : role < 18446744073709551616) :
   (bytesC filU 0 (usrB name score role n key opn)).2 = 0 ∧ parseA filU 0 (bytesC filU 0 (usrB name score role n key opn)).1 = (usrB name score role n key opn, 0) ∧ (rawB filU 12 0 (usrB name score role n key opn)).length ≤ 4000 ∧ (bytesC filU 0 (usrB name score role n key opn)).1.length ≤ 4000 := by
 have hw := usr_right (score := score) (role := role) (opn := opn) hv hn hk h20 hr; have h64 := usr_b64 (name := name) (score := score) (role := role) (n := n) (key := key) (opn := opn) h2 h3; have hg := usr_wgt (score := score) (role := role) (opn := opn) hn hk h20; have hraw := raw_wgt wrong_filU 12 0 _ (wrongA_four hw).2.2.2 h64 (by omega)
 have hb : bytesC filU 0 (usrB name score role n key opn) = (rawB filU 12 0 (usrB name score role n key opn), 0) := by
   unfold bytesC; rw [if_neg (by rw [hw]; simp), if_neg (by omega)]
 have hp := parse_written (f := filU) (msg := 0) (x := usrB name score role n key opn) (by rw [hb]) h64; exact ⟨by rw [hb], hp, by omega, by rw [hb]; show (rawB filU 12 0 (usrB name score role n key opn)).length ≤ 4000; omega⟩
theorem usr_five (name : List UInt8) (score role : Nat) (n : Nat) (key : List UInt8) (opn : Bool) : (findV (usrF name score role n key opn) 5).isSome = !opn := by
 cases name <;> cases score <;> cases role <;> cases n <;> cases opn <;> rfl
theorem usr_six (name : List UInt8) (score role : Nat) (n : Nat) (key : List UInt8) (opn : Bool) : findV (usrF name score role n key opn) 6 = if opn = true then some u6 else none := by
 cases name <;> cases score <;> cases role <;> cases n <;> cases opn <;> rfl
theorem usr_two (key : List UInt8) : (rawB filU 12 0 (usrB [] 0 0 0 key true)).length = 2 := by
 have e : usrB [] 0 0 0 key true = .mk [u6] [] := rfl; rw [e]; decide +kernel
theorem conv_rd (s : ByteArray) (w : World) (hs : s.size ≤ 140737488355328) : ∃ (w1 : World) (cap : Nat), (convert 9 32 (.string s)).run Tryz.prog w = .ok (.slice (some ⟨w.heap.size, 0, none⟩) s.data.toList.length cap) w1 ∧ Up w w1 ∧ w.heap.size < w1.heap.size ∧ RdB (fun b => w.heap.size ≤ b) w1 (.slice (some ⟨w.heap.size, 0, none⟩) s.data.toList.length cap) s.data.toList := by
 have hsl : s.size = s.data.toList.length := rfl; have hb : (w.drew.alloc (.cells (bytesRow s (grownCap w s.size 0 5)) 5 ((bytesRow s (grownCap w s.size 0 5)).size, (bytesRow s (grownCap w s.size 0 5)).size + 1))).heap[w.heap.size]? = some _ := heap_alloc_new w.drew _; refine ⟨_, _, run_bytes_of_string (P := Tryz.prog) w 9 32 5 s Tryz.underlying9 Tryz.underlying32 Tryz.underlying5, (Up.refl w).drew.alloc _, lt_of_block hb, some ⟨w.heap.size, 0, none⟩, _, rfl, grownCap_ge w s.size 0 _, grownCap_le_maxLen w s.size 0 _ (by unfold maxLen; omega), (fun e => nomatch e), fun i hi => ⟨w.heap.size, 0, [.int .u8 ((s.data.toList[i]).toNat : Int)], rfl, Nat.le_refl _, lt_of_block hb, rfl, fun j u hu => ?_, rfl⟩⟩
 have hj : j = 0 := by
   have := (List.getElem?_eq_some_iff.1 hu).1; simpa using this
 subst hj; simp at hu; subst hu; rw [cell_of_row _ _ _ _ _ _ hb]; have h := bytesRow_at s (grownCap w s.size 0 5) i (by simpa using hi); rw [show 0 + i * 1 + 0 = i by omega, h]
theorem valu_byt {d g : Nat} {S : Nat → Prop} {w : World} {n : Int} {l : List UInt8} {v : Value} {e : TypeId} {f : Nat × Nat} (hb : w.heap[g]? = some (.cells #[v] e f)) (hS : S g) (hv : RdB S w v l) (hl : l.length ≤ 140737488355328) (hn : okI n) :
   DValD d S w (n, [], [l], []) [.int .i64 n, .slice none 0 0, .slice (some ⟨g, 0, none⟩) 1 1, .slice none 0 0] :=
 ⟨_, _, _, rfl, hn, rdS_nil _ _ _ _, rdS_of_block [l] [[v]] hb rfl hS rfl (fun i hi => (by
   (have : i = 0 := by simpa using hi); subst this; exact ⟨[v], rfl, rfl, v, rfl, hv, hl⟩)) rfl (Nat.le_refl _) (by unfold maxLen; omega), rdS_nil _ _ _ _, ⟨by simp, by simp, by simp⟩⟩
theorem valu_num {d g k : Nat} {S : Nat → Prop} {w : World} {n : Int} {e : TypeId} {f : Nat × Nat} (hb : w.heap[g]? = some (.cells #[.int .u64 (k : Int)] e f)) (hS : S g) (hk : k < 2 ^ 64) (hn : okI n) :
   DValD d S w (n, [k], [], []) [.int .i64 n, .slice (some ⟨g, 0, none⟩) 1 1, .slice none 0 0, .slice none 0 0] :=
 ⟨_, _, _, rfl, hn, rdS_of_block [k] [[.int .u64 (k : Int)]] hb rfl hS rfl (fun i hi => (by
   (have : i = 0 := by simpa using hi); subst this; exact ⟨_, rfl, rfl, rfl, hk⟩)) rfl (Nat.le_refl _) (by unfold maxLen; omega), rdS_nil _ _ _ _, rdS_nil _ _ _ _, ⟨by simp, by simp, by simp⟩⟩
theorem made_bod (n i : Nat) (hi : i < n * 2) : (madeCells (Value.agg #[.slice none 0 0, .slice none 0 0]).cells (n * 2))[i]? = some (.slice none 0 0) := by
 (have hz : (Value.agg #[.slice none 0 0, .slice none 0 0]).cells = #[.slice none 0 0, .slice none 0 0] := by simp [Value.cells]); rw [hz]; unfold madeCells; rw [Array.getElem?_map, Array.getElem?_range, if_pos hi]; (have h2 : i % 2 = 0 ∨ i % 2 = 1 := by omega); simp only [Option.map_some]; rcases h2 with h | h
 · simp [h]
 · simp [h]
def UserSt (B : World) (X : Nat) (W : World) (vv : Value) (L : List Val) (n : Nat) : Prop :=
 Up B W ∧ W.heap[X]? = some (.cells #[vv, .slice none 0 0] 29 (0, 0)) ∧ RdS (DValD 12) 4 (fun b => b ≠ X) W vv L ∧ RisingV L ∧ L.length ≤ n
theorem UserSt.start (B : World) : UserSt B B.heap.size (B.alloc (.cells #[.slice none 0 0, .slice none 0 0] 29)) (.slice none 0 0) [] 0 :=
 ⟨(Up.refl B).alloc _, blk_new B _ rfl, rdS_nil _ _ _ _, List.Pairwise.nil, Nat.le_refl _⟩
theorem UserSt.up {B W W1 : World} {X n : Nat} {vv : Value} {L : List Val} (h : UserSt B X W vv L n) (u : Up W W1) : UserSt B X W1 vv L n :=
 ⟨h.1.trans u, u.blk h.2.1, h.2.2.1.up (stable_val 12) u, h.2.2.2⟩
theorem UserSt.val {B W : World} {X n : Nat} {vv : Value} {L : List Val} (h : UserSt B X W vv L n) : ∃ p c, vv = .slice p L.length c := by
 obtain ⟨p, c, e, _, _⟩ := h.2.2.1.val; exact ⟨p, c, e⟩
theorem UserSt.cells {B W : World} {X n : Nat} {vv : Value} {L : List Val} (h : UserSt B X W vv L n) : W.cell? ⟨X, 0, none⟩ = some vv ∧ W.cell? ⟨X, 1, none⟩ = some (.slice none 0 0) ∧ (∀ o, W.frozen? ⟨X, o, none⟩ = false) ∧ X < W.heap.size :=
 ⟨cell_of_row W _ 0 _ _ _ h.2.1, cell_of_row W _ 1 _ _ _ h.2.1, fun o => frozen_of_row W _ o _ _ h.2.1, lt_of_block h.2.1⟩
theorem UserSt.bod {B W : World} {X n : Nat} {vv : Value} {L : List Val} (h : UserSt B X W vv L n) (hn : n ≤ 10) : DBodF 13 All W (.mk L []) [vv, .slice none 0 0] :=
 ⟨_, _, rfl, h.2.2.1.keep (stable_val 12) Keep.all, rdS_nil _ _ _ _, by have := h.2.2.2.2; unfold BodSz; show L.length * 80 ≤ _ ∧ 0 * 48 ≤ _; omega⟩
theorem usr_set {B W W1 : World} {X n : Nat} {vv : Value} {L : List Val} (h : UserSt B X W vv L n) (hn : n ≤ 10) (hBX : B.heap.size ≤ X) (u : Up W W1) (x : Val) {s : ByteArray} {fo bo : Option Addr} {fn fc bn bc : Nat} {a1 a2 a3 : Option Addr} {c1 c2 c3 : Nat}
   (hx : DValD 12 (fun b => b ≠ X) W1 x [.int .i64 x.1, .slice a1 x.2.1.length c1, .slice a2 x.2.2.1.length c2, .slice a3 x.2.2.2.length c3]) (hf : RdS DFld 6 All W1 (.slice fo fn fc) fsU) :
   Calls Tryz.prog 18 #[.agg #[.string s, .slice fo fn fc, .slice bo bn bc], .agg #[vv, .slice none 0 0], .agg #[.int .i64 x.1, .slice a1 x.2.1.length c1, .slice a2 x.2.2.1.length c2, .slice a3 x.2.2.2.length c3]] W1 fun e w' =>
     ∃ p k c, e = .returned (.agg #[.slice p k c, .slice none 0 0]) ∧ (w'.cell? ⟨X, 0, none⟩ = some vv ∧ w'.cell? ⟨X, 1, none⟩ = some (.slice none 0 0) ∧ (∀ o, w'.frozen? ⟨X, o, none⟩ = false) ∧ X < w'.heap.size) ∧ Up W1 w' ∧
       UserSt B X ((w'.setCell ⟨X, 0, none⟩ (.slice p k c)).setCell ⟨X, 1, none⟩ (.slice none 0 0)) (.slice p k c) (setV fsU L x) (n + 1) := by
 have h1 := h.up u; obtain ⟨p0, c0, rfl⟩ := h.val; refine (set_v 12 (S := fun b => b ≠ X) (.string s) (.slice fo fn fc) (.slice bo bn bc) (.slice p0 L.length c0) (.slice none 0 0) fsU L x a1 a2 a3 c1 c2 c3 W1 ⟨_, rfl⟩ ⟨_, _, _, rfl⟩ ⟨_, _, _, rfl⟩ hf h1.2.2.1 h1.2.2.2.1 (by have := h1.2.2.2.2; omega) hx).mono ?_; rintro e w' ⟨vv', rfl, hr, hu⟩; obtain ⟨p, c, rfl, _, _⟩ := hr.val; have h2 := h1.up hu; have hz := lt_of_block h1.2.1
 have hr' : RdS (DValD 12) 4 (fun b => b ≠ X) w' _ (setV fsU L x) := hr.keep (stable_val 12) (Keep.weak (fun k hk => by
   rcases hk with hk | hk
   · exact hk
   · intro e; subst e; omega))
 refine ⟨_, _, _, rfl, h2.cells, hu, Up.setCell (Up.setCell h2.1 hBX _) hBX _, ?_, (hr'.keep (stable_val 12) (Keep.setCell (fun h => h rfl) _)).keep (stable_val 12) (Keep.setCell (fun h => h rfl) _), rising_set h.2.2.2.1 x, by have := set_len fsU L x; have := h.2.2.2.2; omega⟩; exact heap_setCell_same _ X 1 _ _ _ (heap_setCell_same w' X 0 _ _ _ h2.2.1)
theorem msg_user {w : World} {mo eo : Option Addr} {mc ec : Nat} (h : FilV All w (.agg #[.slice mo 1 mc, .slice eo 1 ec]) filU) : ∃ (b o : Nat) (nm : ByteArray) (fo bo : Option Addr) (fn fc bn bc : Nat), mo = some ⟨b, o, none⟩ ∧ 0 < mc ∧ w.cell? ⟨b, o, none⟩ = some (.string nm) ∧ w.cell? ⟨b, o + 1, none⟩ = some (.slice fo fn fc) ∧ w.cell? ⟨b, o + 2, none⟩ = some (.slice bo bn bc) ∧ RdS DFld 6 All w (.slice fo fn fc) fsU := by
 obtain ⟨vm, ve, e, hm, he⟩ := h; simp only [Value.agg.injEq, Array.mk.injEq, List.cons.injEq, and_true] at e; obtain ⟨rfl, rfl⟩ := e; have hmv := hm.val; obtain ⟨b, o, cs, rfl, _, _, hcs, hd⟩ := hm.at (i := 0) (by decide); obtain ⟨vf, vb, hd, hf1, hb1, hn⟩ := hd; have hf2 : RdS DFld 6 All w vf fsU := hf1; obtain ⟨fo, fc, rfl, _, _⟩ := hf2.val; obtain ⟨bo, bc, rfl, _, _⟩ := hb1.val; subst hd; obtain ⟨_, _, ev, e1, _⟩ := hmv; simp only [Value.slice.injEq] at ev; refine ⟨b, o, _, fo, bo, _, fc, _, bc, rfl, by obtain ⟨_, e2, e3⟩ := ev; subst e3; omega, by have h := hcs 0 _ rfl; simpa using h, by have h := hcs 1 _ rfl; simpa using h, by have h := hcs 2 _ rfl; simpa using h, hf2⟩
theorem num_user {a1 a2 : Int} (h1 : -9223372036854775808 ≤ a1 ∧ a1 ≤ 9223372036854775807) (h2 : -2147483648 ≤ a2 ∧ a2 ≤ 2147483647) : ∃ K1 K2 : Nat, (IntKind.u64.wrap a1 = (K1 : Int) ∧ K1 < 2 ^ 64) ∧ (IntKind.u64.wrap a2 = (K2 : Int) ∧ K2 < 2 ^ 64) ∧ (K1 = 0 → a1 = 0) ∧ (K2 = 0 → a2 = 0) ∧ fitsN 5 K2 = 0 := by
 refine ⟨(a1 % 18446744073709551616).toNat, (a2 % 18446744073709551616).toNat, ⟨by rw [IntKind.wrap_u64]; omega, by omega⟩, ⟨by rw [IntKind.wrap_u64]; omega, by omega⟩, by omega, by omega, ?_⟩; unfold fitsN; rw [if_neg (by decide), if_neg (by decide), if_pos rfl, if_pos (by omega)]
theorem eBodM : Elem Tryz.prog 51 29 2 48 (.agg #[.slice none 0 0, .slice none 0 0]) := ⟨Tryz.underlying51, info_parts (by kernel_rfl), rfl, by decide⟩
def zeroB (n : Nat) : Array Value := madeCells (Value.agg #[.slice none 0 0, .slice none 0 0]).cells (n * 2)
theorem make_user (n : Nat) (hn : n ≤ 20) (W : World) : (Instr.makeSlice 51 (.int .i64 (n : Int)) (.int .i64 (n : Int))).run Tryz.prog W = .ok (.slice (some ⟨W.heap.size, 0, none⟩) n n) (W.alloc (.cells (zeroB n) 29)) := by
 obtain ⟨i, hi, hz, hs, hb⟩ := eBodM.info; have h := run_make (P := Tryz.prog) W 51 29 i _ eBodM.ht hi hz .i64 .i64 (n : Int) (n : Int) (by omega) (Int.le_refl _) (by rw [hb]; omega) (by omega); rw [Int.toNat_natCast, hs] at h; exact h
theorem valu_sub2 {d n : Nat} {S : Nat → Prop} {w : World} {k : Int} {g : Nat} {e : TypeId} {f : Nat × Nat} (hb : w.heap[g]? = some (.cells (zeroB n) e f)) (hS : S g) (hn : n ≤ 20) (hk : okI k) :
   DValD (d + 1) S w (k, [], [], List.replicate n bod0) [.int .i64 k, .slice none 0 0, .slice none 0 0, .slice (some ⟨g, 0, none⟩) n n] := by
 have hlen : (List.replicate n bod0).length = n := List.length_replicate; refine ⟨_, _, _, rfl, hk, rdS_nil _ _ _ _, rdS_nil _ _ _ _, ?_, by unfold ValSz; simp; omega⟩; show RdS (DBodF (d + 1)) 2 S w _ (List.replicate n bod0); refine ⟨some ⟨g, 0, none⟩, n, by rw [hlen], by omega, by unfold maxLen; omega, (fun e => nomatch e), fun i hi => ⟨g, 0, [.slice none 0 0, .slice none 0 0], rfl, hS, lt_of_block hb, rfl, fun j u hu => ?_, ?_⟩⟩
 · have hj : j < 2 := by simpa using (List.getElem?_eq_some_iff.1 hu).1
   have hu' : u = .slice none 0 0 := by
     rcases (show j = 0 ∨ j = 1 by omega) with rfl | rfl <;> (simp at hu; exact hu.symm)
   subst hu'; rw [cell_of_row _ _ _ _ _ _ hb]; exact made_bod n _ (by omega)
 · rw [List.getElem_replicate]; exact ⟨_, _, rfl, rdS_nil _ _ _ _, rdS_nil _ _ _ _, by unfold BodSz; decide⟩
end Go.Proofs.YtbceapeoknngnaaGreatDoor
