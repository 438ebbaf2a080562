/-
  What is read, written again, is not too long for the walk; in plain Lean.
  presslaw5.file, and what presslaw5.alive asks, in plain Lean.
  Layings of the library's contracts at this dump (made by the kit's program).
-/
import Derived.Test.YtbceapeoknngnaaGreatDoorCp44
import Derived.Test.YtbceapeoknngnaaGreatDoorCp43
import Derived.Test.YtbceapeoknngnaaGreatDoorProg
import Derived.Shelf.SlSortCmp.NoneTotal
import Derived.Shelf.SlicesG.Cmp
import Derived.Shelf.SlGeneric
import Derived.Ground.SlsfProg
import Derived.Ground.SlgcProg
set_option linter.unusedVariables false
namespace Go.Proofs.YtbceapeoknngnaaGreatDoor
open Go.RowKit Go.Lib
theorem uv10 {n : Nat} (h : n < 18446744073709551616) : (uvarint n).length ≤ 10 := uvarint_length64 h
theorem howC_three {k : Int} (h : howC k ≠ 2) : howC k = 0 ∨ howC k = 1 ∨ howC k = 5 := by
  unfold howC at h ⊢
  split
  · exact .inr (.inl rfl)
  · rename_i h6
    rw [if_neg h6] at h
    split
    · exact .inr (.inr rfl)
    · rename_i h7
      rw [if_neg h7] at h
      split
      · rename_i h8; rw [if_pos h8] at h; exact absurd rfl h
      · exact .inl rfl
theorem sum_25 : ∀ l : List Nat, (l.map fun _ => 25).sum = 25 * l.length
  | [] => rfl
  | a :: l => by rw [List.map_cons, List.sum_cons, sum_25 l, List.length_cons]; omega
theorem sized_len {num : Int} {t : List UInt8} (n1 : 1 ≤ num) (n2 : num < 536870912) (h : t.length < 18446744073709551616) : (oneB ⟨num, 2, 0, t⟩).length ≤ t.length + 15 := by
  have h1 := tagB_length num.toNat (2 : Int).toNat (by omega) (by decide)
  have h2 := uv10 h
  unfold oneB
  show (tagB num.toNat (2 : Int).toNat ++ (if (2 : Int) = 0 then _ else if (2 : Int) = 1 then _ else if (2 : Int) = 5 then _ else uvarint t.length ++ t)).length ≤ _
  rw [if_neg (by decide), if_neg (by decide), if_neg (by decide), List.length_append, List.length_append]
  show (tagB num.toNat (2 : Int).toNat).length + ((uvarint t.length).length + t.length) ≤ _
  omega
theorem num_len {k : Int} {num : Int} {n : Nat} (n1 : 1 ≤ num) (n2 : num < 536870912) (hk : howC k ≠ 2) (h : n < 18446744073709551616) : (oneB ⟨num, howC k, n, []⟩).length ≤ 15 := by
  have hh := howC_three hk
  unfold oneB
  show (tagB num.toNat (howC k).toNat ++ if howC k = 0 then uvarint n else if howC k = 1 then lowB 8 n else if howC k = 5 then lowB 4 n else _).length ≤ 15
  rw [List.length_append]
  have h2 := uv10 h
  rcases hh with e | e | e
  · rw [e, if_pos rfl]
    have h1 := tagB_length num.toNat (0 : Int).toNat (by omega) (by decide)
    omega
  · rw [e, if_neg (by decide), if_pos rfl, lowB_length]
    have h1 := tagB_length num.toNat (1 : Int).toNat (by omega) (by decide)
    omega
  · rw [e, if_neg (by decide), if_neg (by decide), if_pos rfl, lowB_length]
    have h1 := tagB_length num.toNat (5 : Int).toNat (by omega) (by decide)
    omega
theorem flat_sum {α : Type} (g : α → List UInt8) (h : α → Nat) : ∀ (l : List α), (∀ a ∈ l, (g a).length ≤ h a) → (l.flatMap g).length ≤ (l.map h).sum
  | [], _ => Nat.le_refl _
  | a :: l, hl => by
    rw [List.flatMap_cons, List.length_append, List.map_cons, List.sum_cons]
    have h1 := hl a List.mem_cons_self
    have h2 := flat_sum g h l (fun b hb => hl b (List.mem_cons_of_mem _ hb))
    omega
theorem pack_len {k : Int} (hk : howC k ≠ 2) : ∀ (l : List Nat), (∀ n ∈ l, n < 18446744073709551616) → (packC k l).length ≤ 10 * l.length
  | [], _ => Nat.le_refl _
  | n :: l, h => by
    have e : packC k (n :: l) = (oneB ⟨1, howC k, toldC k n, []⟩).drop 1 ++ packC k l := rfl
    have hh := howC_three hk
    have h10 := uv10 (told_64 (k := k) (h n List.mem_cons_self))
    have h1 : ((oneB ⟨1, howC k, toldC k n, []⟩).drop 1).length ≤ 10 := by
      rw [drop_tag _ _ hh]
      split
      · exact h10
      · split
        · rw [lowB_length]; decide
        · rw [lowB_length]; decide
    rw [e, List.length_append, List.length_cons]
    have h2 := pack_len hk l (fun b hb => h b (List.mem_cons_of_mem _ hb))
    omega
theorem sum_memB (g : Bod → Nat) {l : List Bod} {v : Bod} (h : v ∈ l) : g v ≤ (l.map g).sum := by
  induction l with
  | nil => cases h
  | cons a l ih =>
    rw [List.map_cons, List.sum_cons]
    rcases List.mem_cons.1 h with rfl | h
    · omega
    · have := ih h; omega
theorem val_wgt {wb : Int → Bod → Int} {f : Fil} {x : Fld} {v : Val} {sub : Bod → List UInt8} {ws : Bod → Nat} (n1 : 1 ≤ x.number) (n2 : x.number < 536870912) (ht : typedN f x = 0) (hv : FitV wb f x v) (h60 : (countN x.kind v).1 ≤ 60) (h64 : Num64 v) (hs : ∀ s ∈ v.2.2.2, (sub s).length ≤ ws s) (hz : wgtV ws v < 18446744073709551616) :
    ((valRecs sub x v).flatMap oneB).length ≤ wgtV ws v := by
  obtain ⟨t1, t2, _, _⟩ := typed_facts ht
  have hcnt := count_sum hv.cnt
  have hone := hv.one
  have hsh := fit_shape hv t1 t2
  have htx := hv.texts
  obtain ⟨n, b, y, s⟩ := v
  simp only at h64 hs hsh htx hcnt
  rcases hsh with ⟨g, g7, e, hne, hal⟩ | ⟨g, g8, e, hne, hal⟩ | ⟨g, g8, e, hne, hal⟩
  · simp only [Prod.mk.injEq, true_and] at e
    obtain ⟨rfl, rfl⟩ := e
    have ew : wgtV ws (n, b, [], []) = 25 * b.length := rfl
    rw [ew] at hz ⊢
    have hb1 : 1 ≤ b.length := List.length_pos_iff.2 hne
    cases hm : x.many with
    | true =>
      have e2 : valRecs sub x (n, b, [], []) = [⟨x.number, 2, 0, packC x.kind b⟩] := by unfold valRecs; rw [if_pos ⟨hm, g⟩]
      rw [e2, List.flatMap_cons, List.flatMap_nil, List.append_nil]
      have h1 := pack_len g b h64
      have h2 := sized_len (t := packC x.kind b) n1 n2 (by omega)
      omega
    | false =>
      have e2 : valRecs sub x (n, b, [], []) = b.map fun q => ⟨x.number, howC x.kind, toldC x.kind q, []⟩ := by unfold valRecs; rw [if_neg (by rw [hm]; simp)]; simp
      rw [e2, List.flatMap_map]
      have := flat_sum (fun q => oneB ⟨x.number, howC x.kind, toldC x.kind q, []⟩) (fun _ => 25) b (fun q hq => Nat.le_trans (num_len n1 n2 g (told_64 (h64 q hq))) (by omega))
      rw [sum_25] at this
      omega
  · simp only [Prod.mk.injEq, true_and] at e
    obtain ⟨rfl, rfl⟩ := e
    have e2 : valRecs sub x (n, [], y, []) = y.map fun t => ⟨x.number, 2, 0, t⟩ := by unfold valRecs; rw [if_neg (by rintro ⟨_, h⟩; exact h g)]; simp
    have ew : wgtV ws (n, [], y, []) = 25 * 0 + ((y.map fun t => t.length + 25).sum + 0) := rfl
    rw [e2, List.flatMap_map]
    have := flat_sum (fun t => oneB ⟨x.number, 2, 0, t⟩) (fun t => t.length + 25) y (fun t ht => by
      have h4 : t.length ≤ 4000 := by
        have := htx t ht
        unfold byteN at this
        split at this
        · cases this
        · omega
      have := sized_len (t := t) n1 n2 (by omega)
      omega)
    rw [ew]
    omega
  · simp only [Prod.mk.injEq, true_and] at e
    obtain ⟨rfl, rfl, _⟩ := e
    have e2 : valRecs sub x (n, [], [], s) = s.map fun t => ⟨x.number, 2, 0, sub t⟩ := by unfold valRecs; rw [if_neg (by rintro ⟨_, h⟩; exact h g)]; simp
    have ew : wgtV ws (n, [], [], s) = 25 * 0 + (0 + (s.map fun t => ws t + 25).sum) := rfl
    rw [ew] at hz ⊢
    rw [e2, List.flatMap_map]
    have hsm : ∀ t ∈ s, ws t + 25 ≤ (s.map fun t => ws t + 25).sum := fun t ht => sum_memB (fun t => ws t + 25) ht
    have := flat_sum (fun t => oneB ⟨x.number, 2, 0, sub t⟩) (fun t => ws t + 25) s (fun t ht => by
      have h1 := hs t ht
      have h2 := hsm t ht
      have := sized_len (t := sub t) n1 n2 (by omega)
      omega)
    omega
theorem raw_wgt {f : Fil} (hright : (wrongN f).1 = 0) : ∀ (k : Nat) (msg : Int) (b : Bod), wrongB f k msg b = 0 → B64 k b → wgt k b < 18446744073709551616 → (rawB f k msg b).length ≤ wgt k b
  | 0, _, _, h, _, _ => by cases h
  | k + 1, msg, b, h, h64, hz => by
    obtain ⟨k', m, e, hm, hb'⟩ := wrongB_zero h
    obtain rfl : k = k' := by omega
    have hmr := right_msg hright m (List.mem_of_getElem? hm)
    have hch : ∀ z ∈ m.fields, 0 ≤ z.choice := fun z hz => (choice_16 hmr hz).1
    obtain ⟨hA, uA⟩ := (wrongB_is (k := k) hm hch b).1 h
    rw [raw_flat hm, List.length_append]
    have ew : wgt (k + 1) b = (b.values.map (wgtV (wgt k))).sum + wgtU b.unknown := rfl
    rw [ew] at hz ⊢
    have h1 := flat_sum (valG f k m) (wgtV (wgt k)) b.values (fun v hv => by
      obtain ⟨x, hx, hw⟩ := hA.fld v hv
      obtain ⟨hxm, hxn⟩ := fldN_mem hx
      obtain ⟨i, hi, e⟩ := List.getElem_of_mem hxm
      have hff := field_facts ((msg_field hmr).2.2 i hi)
      rw [e] at hff
      obtain ⟨g1, g2, g3⟩ := wrongVF_iff.1 hw
      have hle := sum_mem (wgtV (wgt k)) hv
      unfold valG
      rw [hx]
      simp only
      refine val_wgt hff.1 hff.2.1 hff.2.2.2.1 g1 g2 (h64.1 v hv).1 (fun s hs => ?_) (by omega)
      have hws : wgt k s ≤ wgtV (wgt k) v := by
        unfold wgtV
        have : wgt k s + 25 ≤ (v.2.2.2.map fun s => wgt k s + 25).sum := sum_memB (fun s => wgt k s + 25) hs
        omega
      exact raw_wgt hright k _ s (g1.subs s hs) ((h64.1 v hv).2 s hs) (by omega))
    have h2 := flat_sum oneB (fun r => r.bytes.length + 25) b.unknown (fun r hr => by
      have hu := uA r hr
      have hr0 : wrongRec r = 0 := by
        unfold unkN at hu
        apply Classical.byContradiction
        intro g
        rw [if_pos g] at hu
        exact g hu
      obtain ⟨r1, r2, r3, r4, r5⟩ := wrongRec_ok hr0
      have h64r := h64.2 r hr
      obtain ⟨number, how, bits, bytes⟩ := r
      simp only at r1 r2 r3 r4 r5 h64r ⊢
      rcases r5 with ⟨rfl, rfl, h4⟩ | ⟨hn, rfl⟩
      · have := sized_len (t := bytes) r1 r2 (by omega); omega
      · have e : (oneB ⟨number, how, bits, []⟩).length ≤ 15 := by
          unfold oneB
          show (tagB number.toNat how.toNat ++ if how = 0 then uvarint bits else if how = 1 then lowB 8 bits else if how = 5 then lowB 4 bits else _).length ≤ 15
          rw [List.length_append]
          have h2 := uv10 h64r
          rcases r3 with e | e | e | e
          · rw [e, if_pos rfl]
            have h1 := tagB_length number.toNat (0 : Int).toNat (by omega) (by decide)
            omega
          · rw [e, if_neg (by decide), if_pos rfl, lowB_length]
            have h1 := tagB_length number.toNat (1 : Int).toNat (by omega) (by decide)
            omega
          · rw [e, if_neg (by decide), if_neg (by decide), if_pos rfl, lowB_length]
            have h1 := tagB_length number.toNat (5 : Int).toNat (by omega) (by decide)
            omega
          · exact absurd e hn
        simp only [List.length_nil]
        omega)
    have e3 : wgtU b.unknown = (b.unknown.map fun r => r.bytes.length + 25).sum := rfl
    omega
end Go.Proofs.YtbceapeoknngnaaGreatDoor
set_option linter.unusedVariables false
namespace Go.Proofs.YtbceapeoknngnaaGreatDoor
open Go.RowKit
theorem rds_block {α : Type} {D : Lay α} {size : Nat} {S : Nat → Prop} {W : World} {g : Nat} {cs : Array Value} {t : TypeId} {l : List α} (hb : W.heap[g]? = some (.cells cs t (0, 0))) (hS : S g) (hm : l.length ≤ maxLen) (hd : ∀ i, (hi : i < l.length) → ((cs.toList.drop (i * size)).take size).length = size ∧ D S W l[i] ((cs.toList.drop (i * size)).take size)) :
    RdS D size S W (.slice (some ⟨g, 0, none⟩) l.length l.length) l := by
  refine ⟨some ⟨g, 0, none⟩, l.length, rfl, Nat.le_refl _, hm, (fun h => by cases h), fun i hi => ?_⟩
  obtain ⟨h1, h2⟩ := hd i hi
  refine ⟨g, 0, (cs.toList.drop (i * size)).take size, rfl, hS, lt_of_block hb, h1, fun j u hu => ?_, h2⟩
  have hj : j < size := by have := (List.getElem?_eq_some_iff.1 hu).1; omega
  rw [List.getElem?_take_of_lt hj, List.getElem?_drop, Array.getElem?_toList] at hu
  rw [Nat.zero_add]
  have hj2 := (Array.getElem?_eq_some_iff.1 hu).1
  exact cell_of_row W g (i * size + j) _ _ _ hb |>.trans (by simpa using hu)
def fileC : Fil := ⟨[⟨[65], [⟨[120], 1, 2, [], true, 0⟩, ⟨[121], 2, 10, [65], false, 0⟩], []⟩], []⟩
def bodC : Bod := .mk [(1, [1, 2], [], [])] []
theorem wrong_fileC : (wrongN fileC).1 = 0 := by decide +kernel
theorem wrong_C : wrongA fileC 0 bodC = 0 := by decide +kernel
theorem raw_C : rawB fileC 12 0 bodC = [10, 2, 2, 4] := by decide +kernel
theorem bytes_C : bytesC fileC 0 bodC = ([10, 2, 2, 4], 0) := by
  unfold bytesC
  rw [wrong_C, raw_C]
  rfl
theorem b64_C : B64 12 bodC := ⟨fun v hv => by
  obtain rfl : v = ((1 : Int), [1, 2], ([] : List (List UInt8)), ([] : List Bod)) := by simpa [bodC, Bod.values] using hv
  refine ⟨fun n hn => ?_, fun s hs => by cases hs⟩
  have hn : n ∈ [1, 2] := hn
  simp at hn
  omega, fun r hr => by cases hr⟩
theorem parse_C : parseA fileC 0 [10, 2, 2, 4] = (bodC, 0) := by
  have h := read_raw wrong_fileC 12 (Nat.le_refl _) 0 bodC (by decide) (by decide) (wrongA_parts wrong_C).2.2.2 b64_C (by rw [raw_C]; decide)
  rw [raw_C] at h
  unfold parseA
  rw [wrong_fileC, if_neg (by decide), if_neg (by decide), h]
set_option maxRecDepth 100000 in
set_option maxHeartbeats 1600000 in
theorem file_c (w : World) : Calls Tryz.prog 55 #[] w fun e w' => ∃ mb, e = .returned (.agg #[.slice (some ⟨mb, 0, none⟩) 1 1, .slice none 0 0]) ∧ FilV All w' (.agg #[.slice (some ⟨mb, 0, none⟩) 1 1, .slice none 0 0]) fileC ∧ Up w w' := by
  go_enter Tryz.func55, Tryz.ntmps55
  go_wp2_with fail
  generalize hW : ((w.alloc (.cells #[.slice (some ⟨w.heap.size + 1 + 1, 0, none⟩) 1 1, .slice none 0 0] 25)).alloc (.cells #[.string ⟨#[120]⟩, .int .i64 1, .int .i64 2, .string ⟨#[]⟩, .bool true, .int .i64 0, .string ⟨#[121]⟩, .int .i64 2, .int .i64 10, .string ⟨#[65]⟩, .bool false, .int .i64 0] 40)).alloc (.cells #[.string ⟨#[65]⟩, .slice (some ⟨w.heap.size + 1, 0, none⟩) 2 2, .slice none 0 0] 38) = W
  have hb0 : W.heap[w.heap.size]? = some (.cells #[.slice (some ⟨w.heap.size + 1 + 1, 0, none⟩) 1 1, .slice none 0 0] 25 (0, 0)) := by rw [← hW]; exact blk_old _ (blk_old _ (blk_new w _ rfl))
  have hb1 : W.heap[w.heap.size + 1]? = some (.cells #[.string ⟨#[120]⟩, .int .i64 1, .int .i64 2, .string ⟨#[]⟩, .bool true, .int .i64 0, .string ⟨#[121]⟩, .int .i64 2, .int .i64 10, .string ⟨#[65]⟩, .bool false, .int .i64 0] 40 (0, 0)) := by rw [← hW]; exact blk_old _ (blk_new (w.alloc _) _ (by simp))
  have hb2 : W.heap[w.heap.size + 1 + 1]? = some (.cells #[.string ⟨#[65]⟩, .slice (some ⟨w.heap.size + 1, 0, none⟩) 2 2, .slice none 0 0] 38 (0, 0)) := by rw [← hW]; exact blk_new ((w.alloc _).alloc _) _ (by simp)
  have hu : Up w W := by rw [← hW]; exact (((Up.refl w).alloc _).alloc _).alloc _
  clear hW
  have r0 : W.cell? ⟨w.heap.size, 0, none⟩ = some (.slice (some ⟨w.heap.size + 1 + 1, 0, none⟩) 1 1) := cell_of_row W _ 0 _ _ _ hb0
  have r1 : W.cell? ⟨w.heap.size, 1, none⟩ = some (.slice none 0 0) := cell_of_row W _ 1 _ _ _ hb0
  have hsz : w.heap.size < W.heap.size := lt_of_block hb0
  refine bodyPost_ret (v := .agg #[.slice (some ⟨w.heap.size + 1 + 1, 0, none⟩) 1 1, .slice none 0 0]) (by simp [results, Tryz.results55, go_sem, r0, r1]) rfl ?_
  refine ⟨_, rfl, ⟨_, _, rfl, rds_block (l := fileC.msgs) hb2 trivial (by decide) (fun i hi => ?_), rdS_nil _ _ _ _⟩, hu⟩
  have hi0 : i = 0 := by have h : i < 1 := hi; omega
  subst hi0
  refine ⟨rfl, _, _, rfl, rds_block (l := (fileC.msgs[0]).fields) hb1 trivial (show (2 : Nat) ≤ maxLen by decide) (fun j hj => ?_), rdS_nil _ _ _ _, (show okS [65] by unfold okS; decide)⟩
  have hj2 : j < 2 := hj
  rcases j with _ | _ | j
  · exact ⟨rfl, rfl, (show okI 1 by unfold okI; decide), (show okI 2 by unfold okI; decide), (show okI 0 by unfold okI; decide), (show okS [120] by unfold okS; decide), (show okS [] by unfold okS; decide)⟩
  · exact ⟨rfl, rfl, (show okI 2 by unfold okI; decide), (show okI 10 by unfold okI; decide), (show okI 0 by unfold okI; decide), (show okS [121] by unfold okS; decide), (show okS [65] by unfold okS; decide)⟩
  · omega
end Go.Proofs.YtbceapeoknngnaaGreatDoor
namespace Go.Proofs
open Go.Shelf
def Tryz.sortL_ren : Go.Shelf.Ren := ⟨fun | 6 => 50 | 15 => 90 | 14 => 89 | 28 => 158 | 29 => 159 | 20 => 150 | 21 => 151 | 22 => 152 | 23 => 153 | 24 => 154 | 25 => 155 | 26 => 156 | 27 => 157 | 46 => 189 | 47 => 190 | 48 => 191 | 49 => 192 | 50 => 193 | 57 => 199 | n => n, fun | 22 => 30 | 24 => 3 | 25 => 104 | 3 => 3 | 39 => 120 | 0 => 0 | 53 => 229 | 55 => 54 | 4 => 4 | 46 => 223 | 45 => 222 | 50 => 102 | 5 => 5 | 9 => 9 | 66 => 263 | 70 => 267 | 76 => 271 | 77 => 272 | n => n, fun | n => n⟩
theorem Tryz.sortL : Go.Proofs.SlLaysF.n6 Tryz.prog Tryz.sortL_ren := {
  mixed := by kernel_rfl
  f6 := ⟨Tryz.f50.name, by decide, Tryz.func50.trans (congrArg some (by kernel_rfl))⟩
  f14 := ⟨Tryz.f89.name, by decide, Tryz.func89.trans (congrArg some (by kernel_rfl))⟩
  f15 := Tryz.func90.trans (congrArg some (by kernel_rfl))
  f20 := ⟨Tryz.f150.name, by decide, Tryz.func150.trans (congrArg some (by kernel_rfl))⟩
  f21 := ⟨Tryz.f151.name, by decide, Tryz.func151.trans (congrArg some (by kernel_rfl))⟩
  f22 := ⟨Tryz.f152.name, by decide, Tryz.func152.trans (congrArg some (by kernel_rfl))⟩
  f23 := ⟨Tryz.f153.name, by decide, Tryz.func153.trans (congrArg some (by kernel_rfl))⟩
  f24 := ⟨Tryz.f154.name, by decide, Tryz.func154.trans (congrArg some (by kernel_rfl))⟩
  f25 := ⟨Tryz.f155.name, by decide, Tryz.func155.trans (congrArg some (by kernel_rfl))⟩
  f26 := ⟨Tryz.f156.name, by decide, Tryz.func156.trans (congrArg some (by kernel_rfl))⟩
  f27 := ⟨Tryz.f157.name, by decide, Tryz.func157.trans (congrArg some (by kernel_rfl))⟩
  f28 := Tryz.func158.trans (congrArg some (by kernel_rfl))
  f29 := Tryz.func159.trans (congrArg some (by kernel_rfl))
  f46 := ⟨Tryz.f189.name, by decide, Tryz.func189.trans (congrArg some (by kernel_rfl))⟩
  f47 := Tryz.func190.trans (congrArg some (by kernel_rfl))
  f48 := Tryz.func191.trans (congrArg some (by kernel_rfl))
  f49 := ⟨Tryz.f192.name, by decide, Tryz.func192.trans (congrArg some (by kernel_rfl))⟩
  f50 := ⟨Tryz.f193.name, by decide, Tryz.func193.trans (congrArg some (by kernel_rfl))⟩
  f57 := ⟨Tryz.f199.name, by decide, Tryz.func199.trans (congrArg some (by kernel_rfl))⟩
  t0 := Tryz.underlying0
  a0 := Tryz.isAgg0
  z0 := Tryz.sizeOf0
  v0 := Tryz.zeroValue0
  t3 := Tryz.underlying3
  a3 := Tryz.isAgg3
  z3 := Tryz.sizeOf3
  v3 := Tryz.zeroValue3
  t4 := Tryz.underlying4
  a4 := Tryz.isAgg4
  z4 := Tryz.sizeOf4
  v4 := Tryz.zeroValue4
  t5 := Tryz.underlying5
  a5 := Tryz.isAgg5
  z5 := Tryz.sizeOf5
  v5 := Tryz.zeroValue5
  t9 := Tryz.underlying9
  a9 := Tryz.isAgg9
  z9 := Tryz.sizeOf9
  v9 := Tryz.zeroValue9
  t22 := Tryz.underlying30
  a22 := Tryz.isAgg30
  z22 := Tryz.sizeOf30
  v22 := Tryz.zeroValue30
  a24 := Tryz.isAgg3
  z24 := Tryz.sizeOf3
  t25 := Tryz.underlying104
  a25 := Tryz.isAgg104
  z25 := Tryz.sizeOf104
  v25 := Tryz.zeroValue104
  t39 := Tryz.underlying120
  a39 := Tryz.isAgg120
  z39 := Tryz.sizeOf120
  v39 := Tryz.zeroValue120
  t45 := Tryz.underlying222
  a45 := Tryz.isAgg222
  z45 := Tryz.sizeOf222
  v45 := Tryz.zeroValue222
  t46 := Tryz.underlying223
  a46 := Tryz.isAgg223
  z46 := Tryz.sizeOf223
  v46 := Tryz.zeroValue223
  t50 := Tryz.underlying102
  a50 := Tryz.isAgg102
  z50 := Tryz.sizeOf102
  v50 := Tryz.zeroValue102
  t53 := Tryz.underlying229
  a53 := Tryz.isAgg229
  z53 := Tryz.sizeOf229
  v53 := Tryz.zeroValue229
  t55 := Tryz.underlying54
  a55 := Tryz.isAgg54
  z55 := Tryz.sizeOf54
  v55 := Tryz.zeroValue54
  t66 := Tryz.underlying263
  a66 := Tryz.isAgg263
  z66 := Tryz.sizeOf263
  v66 := Tryz.zeroValue263
  t70 := Tryz.underlying267
  a70 := Tryz.isAgg267
  z70 := Tryz.sizeOf267
  v70 := Tryz.zeroValue267
  t76 := Tryz.underlying271
  a76 := Tryz.isAgg271
  z76 := Tryz.sizeOf271
  v76 := Tryz.zeroValue271
  t77 := Tryz.underlying272
  a77 := Tryz.isAgg272
  z77 := Tryz.sizeOf272
  v77 := Tryz.zeroValue272 }
def Tryz.cmpL_ren : Go.Shelf.Ren := ⟨fun | 5 => 47 | 7 => 86 | n => n, fun | 22 => 3 | 3 => 3 | 4 => 4 | n => n, fun | n => n⟩
theorem Tryz.cmpL : Go.Proofs.SlLaysC2.n5 Tryz.prog Tryz.cmpL_ren := {
  mixed := by kernel_rfl
  f5 := ⟨Tryz.f47.name, by decide, Tryz.func47.trans (congrArg some (by kernel_rfl))⟩
  f7 := ⟨Tryz.f86.name, by decide, Tryz.func86.trans (congrArg some (by kernel_rfl))⟩
  t3 := Tryz.underlying3
  a3 := Tryz.isAgg3
  z3 := Tryz.sizeOf3
  v3 := Tryz.zeroValue3
  t4 := Tryz.underlying4
  a4 := Tryz.isAgg4
  z4 := Tryz.sizeOf4
  v4 := Tryz.zeroValue4
  t22 := Tryz.underlying3
  a22 := Tryz.isAgg3
  z22 := Tryz.sizeOf3
  v22 := Tryz.zeroValue3 }
end Go.Proofs
