/-
  syntax.line: a field's line.
-/
import Derived.Test.YtbceapeoknngnaaDoorSy39
import Derived.Test.YtbceapeoknngnaaDoorSy11
import Derived.Lib.SmallJoins
import Derived.Deep.RegionHeld3
import Derived.Deep.DeepCutAuto
set_option linter.unusedVariables false
namespace Go.Proofs.YtbceapeoknngnaaDoor
open Go.RowKit
set_option maxRecDepth 100000
open Lib (hid)
def Pow (w : World) : Prop := Lib.TabIs Tryd.prog w "internal/strconv.uint64pow10" .u64 Lib.pow10Tab
theorem pow_name : Tryd.prog.globalNamed "internal/strconv.uint64pow10" = some 0 := by kernel_rfl
theorem Pow.up {w w' : World} (h : Pow w) (u : Up w w') : Pow w' := Go.Joins.tab_stays pow_name h u (Nat.le_refl _)
open Go.Sort in
theorem up_grow (w : World) (k : Nat) (os : Array Obj) : Up w (grow (w.drewN k) os) :=
 ⟨rfl, rfl, rfl, by simp [grow], fun j hj => by simp only [grow]; rw [Array.getElem?_append_left (by simpa using hj)]; rfl⟩
theorem itoa_s (n : Int) (hn : okI n) (w : World) (hP : Pow w) : Calls Tryd.prog 26 #[.int .i64 n] w fun e w' => e = .returned (.string ⟨(Lib.itoa n).toArray⟩) ∧ Up w w' := by
 refine (Any.strconv_Itoa Tryd.itoaL n hn.1 hn.2 w hP).mono ?_; rintro e w' ⟨rfl, k, os, rfl⟩; exact ⟨rfl, up_grow w k os⟩
theorem ba_app (a b : ByteArray) : (a ++ b).data.toList = a.data.toList ++ b.data.toList := by rw [ByteArray.data_append, Array.toList_append]
theorem cat_run (a b : ByteArray) (la lb : List UInt8) (ha : a.data.toList = la) (hb : b.data.toList = lb) (h : la.length + lb.length ≤ 9223372036854775807) : ∃ c : ByteArray, c.data.toList = la ++ lb ∧ ∀ w, (Op.stringOp .add a b).run Tryd.prog w = .ok (.string c) w := by
 subst ha; subst hb; refine ⟨a ++ b, ba_app a b, fun w => run_string_add_sum w a b ?_⟩; rw [← ByteArray.size_data, ← ByteArray.size_data]; simpa using h
theorem write_s {w0 w : World} {b : Nat} {l : List UInt8} (s : ByteArray) (hu : Up w0 w) (h : Bld w0.heap.size b l w) (hlen : l.length + s.data.toList.length ≤ 140737488355328) :
   Calls Tryd.prog 25 #[.pointer (some ⟨b, 0, none⟩), .string s] w fun e w' => e = .returned (.tuple #[.int .i64 s.size, .nilIface]) ∧ Up w0 w' ∧ Bld w0.heap.size b (l ++ s.data.toList) w' := by
 refine (writeString_s _ b l s w h (by rw [← ByteArray.size_data]; simpa using hlen) hu.size).mono ?_; rintro e w' ⟨rfl, h1, h2⟩; exact ⟨rfl, Below.trans hu h2, h1⟩
set_option maxHeartbeats 3200000 in
theorem line_s (w0 : World) (b : Nat) (l : List UInt8) (x : Fld) (fb fo : Nat) (w : World) (hp : Pow w0) (hu : Up w0 w) (hB : Bld w0.heap.size b l w) (hf : CellsAt w0 fb fo [.string ⟨x.name.toArray⟩, .int .i64 x.number, .int .i64 x.kind, .string ⟨x.type.toArray⟩, .bool x.many, .int .i64 x.choice])
   (hn : okI x.number) (hlen : l.length + (lineW x).length ≤ 140737488355328) :
   Calls Tryd.prog 43 #[.pointer (some ⟨b, 0, none⟩), .pointer (some ⟨fb, fo, none⟩)] w fun e w' => e = .returned (.tuple #[]) ∧ Up w0 w' ∧ Bld w0.heap.size b (l ++ lineW x) w' := by
 have c0 := hf 0 _ rfl; have c1 := hf 1 _ rfl; have c2 := hf 2 _ rfl; have c3 := hf 3 _ rfl; have c4 := hf 4 _ rfl; simp only [Nat.add_zero] at c0; have HB := hid hB; have HU := hid hu; have HP := hid hp; have HN := hid hn; have HL := hid hlen; clear hf hB hu hp hn hlen; have d4 := HU.out.cell_some c4
 go_enter Tryd.func43, Tryd.ntmps43
 go_upto_if 8 with (fail)
 go_cut [] (fun wc => Up w0 wc ∧ Bld w0.heap.size b (l ++ (if x.many then sMany else [])) wc)
 case first =>
   cases hm : x.many
   case false =>
     rw [hm] at d4; go_wp2_with fail
     go_meet
     exact ⟨HU.out, by rw [hm, if_neg (by decide), List.append_nil]; exact HB.out⟩
   case true =>
     rw [hm] at d4; (go_wp2_with fail); refine (write_s _ HU.out HB.out (by have := HL.out; unfold lineW at this; rw [hm] at this; simp [sMany] at this ⊢; omega)).mono ?_; rintro e w1 ⟨rfl, hu1, hb1⟩; go_wp2_with fail
     go_meet
     exact ⟨hu1, by rw [hm]; exact hb1⟩
 case rest =>
   obtain ⟨hu1, hb1⟩ := hcut; clear HB HU d4; have HU := hid hu1; have HB := hid hb1; have d2 := HU.out.cell_some c2; have d3 := HU.out.cell_some c3; clear hu1 hb1
   go_upto_region 3 with (fail)
   go_cut [33] (fun v w2 => v = .bool (decide (1 ≤ x.kind ∧ x.kind ≤ 9 ∧ x.kind ≠ 5)) ∧ w2 = wc)
   case first =>
     (have hk : x.kind < 1 ∨ (1 ≤ x.kind ∧ 9 < x.kind) ∨ x.kind = 5 ∨ (1 ≤ x.kind ∧ x.kind ≤ 9 ∧ x.kind ≠ 5) := by omega); rcases hk with k | ⟨k, k'⟩ | k | ⟨k1, k2, k3⟩; case inr.inr.inl => rw [k] at d2; go_wp2_with fail; go_meet; exact ⟨by rw [k]; rfl, rfl⟩
     case inr.inr.inr =>
       (have k4 : (x.kind != 5) = true := by rw [bne_iff_ne]; exact k3); have K3 := hid k3; clear k3; go_wp2_with fail; go_meet; exact ⟨by rw [decide_eq_true ⟨k1, k2, K3.out⟩], rfl⟩
     all_goals
       go_wp2_with fail
       go_meet
       exact ⟨by rw [decide_eq_false (by omega)], rfl⟩
   case rest =>
     obtain ⟨rfl, rfl⟩ := hcut
     go_upto_if 33 with (fail)
     go_cut [4] (fun v w2 => v = .string ⟨(kindW x).toArray⟩ ∧ Up w0 w2 ∧ Bld w0.heap.size b (l ++ (if x.many then sMany else [])) w2)
     case first =>
       by_cases hk : 1 ≤ x.kind ∧ x.kind ≤ 9 ∧ x.kind ≠ 5
       case neg =>
         rw [decide_eq_false hk]; go_wp2_with fail
         go_meet
         exact ⟨by unfold kindW; rw [if_neg hk], HU.out, HB.out⟩
       case pos =>
         rw [decide_eq_true hk]; obtain ⟨i, hi⟩ : ∃ i : Nat, x.kind = (i : Int) + 1 := ⟨(x.kind - 1).toNat, by omega⟩; rw [hi] at d2; (have hi9 : (i : Int) < 9 := by omega); (have hi0 : (0 : Int) ≤ (i : Int) := by omega); (have hiw : IntKind.i64.wrap ((i : Int) + 1 - 1) = (i : Int) := by rw [IntKind.wrap_i64]; omega); have hiw2 : IntKind.i64.wrap (i : Int) = (i : Int) := by rw [IntKind.wrap_i64]; omega
         have hgw : ∀ (W : World) (g : Nat), (words_at : g = W.heap.size) → (W.alloc (.cells wordsV.toArray 9)).cell? ⟨g, i, none⟩ = some (.string ⟨(kindW x).toArray⟩) := by
           rintro W g rfl; (have hk2 : kindW x = words.getD i [] := by unfold kindW; rw [if_pos hk, hi]; congr 1; omega); rw [cell_of_row _ _ _ _ _ _ (blk_new W _ rfl), hk2]; (have : i < 9 := by omega); rcases (by omega : i = 0 ∨ i = 1 ∨ i = 2 ∨ i = 3 ∨ i = 4 ∨ i = 5 ∨ i = 6 ∨ i = 7 ∨ i = 8) with rfl | rfl | rfl | rfl | rfl | rfl | rfl | rfl | rfl <;> rfl
         have Hgw := hid hgw; have hkW := hid hk; clear hgw hk; go_wp2_with fail
         go_region_with (first | (go_at_call 11; refine (words_s _).mono ?_; rintro e w2 ⟨rfl, hw2⟩; have hx2 := ((Up.refl wc).drew).alloc (.cells wordsV.toArray 9); have cW := Hgw.out wc.drew wc.heap.size rfl; rw [← hw2] at cW hx2; clear hw2; have d2' := hx2.cell_some d2))
         all_goals
           go_wp2_with fail
           go_meet
           exact ⟨rfl, HU.out.trans hx2, HB.out.up hx2⟩
     case rest =>
       obtain ⟨rfl, hu2, hb2⟩ := hcut; clear HB HU d2 d3; have HU := hid hu2; have HB := hid hb2; have d0 := HU.out.cell_some c0; have d1 := HU.out.cell_some c1; clear hu2 hb2; rename_i w5
       have hlen2 : (l ++ (if x.many then sMany else [])).length + (kindW x ++ (32 :: (x.name ++ (sEq ++ (Lib.itoa x.number ++ sEnd))))).length ≤ 140737488355328 := by
         have := HL.out; unfold lineW at this; rw [List.length_append] at this ⊢; omega
       have HL2 := hid hlen2; clear hlen2
       have hll : (kindW x).length + (1 + (x.name.length + (3 + ((Lib.itoa x.number).length + 2)))) ≤ 140737488355328 := by
         have := HL2.out; simp [sEq, sEnd] at this; omega
       obtain ⟨s1, hs1, cat1⟩ := cat_run ⟨(kindW x).toArray⟩ ⟨#[32]⟩ (kindW x) [32] rfl rfl (by simp; omega); obtain ⟨s2, hs2, cat2⟩ := cat_run s1 ⟨x.name.toArray⟩ _ x.name hs1 rfl (by simp; omega); obtain ⟨s3, hs3, cat3⟩ := cat_run s2 ⟨#[32, 61, 32]⟩ _ sEq hs2 rfl (by simp [sEq]; omega); obtain ⟨s4, hs4, cat4⟩ := cat_run s3 ⟨(Lib.itoa x.number).toArray⟩ _ (Lib.itoa x.number) hs3 rfl (by simp [sEq]; omega); obtain ⟨s5, hs5, cat5⟩ := cat_run s4 ⟨#[59, 10]⟩ _ sEnd hs4 rfl (by simp [sEq, sEnd]; omega); (have hs6 : s5.data.toList = kindW x ++ (32 :: (x.name ++ (sEq ++ (Lib.itoa x.number ++ sEnd)))) := by rw [hs5]; simp [List.append_assoc]); have Hs := hid hs6; clear hs1 hs2 hs3 hs4 hs5 hs6 hll; go_wp2_with fail
       go_region_held3 (fun w' => w'.cell? ⟨fb, fo, none⟩ = some (.string ⟨x.name.toArray⟩) ∧ w'.cell? ⟨fb, fo + 1, none⟩ = some (.int .i64 x.number)) (first | go_keep | exact ⟨d0, d1⟩ | exact ⟨HU6.out.cell_some c0, HU6.out.cell_some c1⟩ | exact ⟨HU7.out.cell_some c0, HU7.out.cell_some c1⟩)
         (first
           | (go_at_call 26; refine (itoa_s _ HN.out _ (HP.out.up (HU.out.trans ((Up.refl _).drew)))).mono ?_; rintro e w6 ⟨rfl, hu6⟩; have HU6 := hid (HU.out.trans ((Up.refl _).drew.trans hu6)); have HB6 := hid (HB.out.up ((Up.refl _).drew.trans hu6)); clear hu6)
           | (go_at_call 25; refine (write_s _ HU6.out HB6.out (by rw [Hs.out]; exact HL2.out)).mono ?_; rintro e w7 ⟨rfl, hu7, hb7⟩; rw [Hs.out] at hb7; have HU7 := hid hu7; have HB7 := hid hb7; clear hu7 hb7))
       go_wp2_with fail
       go_end0
       refine ⟨rfl, HU7.out, ?_⟩; have := HB7.out; unfold lineW; rw [List.append_assoc] at this; exact this
end Go.Proofs.YtbceapeoknngnaaDoor
