/-
  The law SyntaxTells.
-/
import Derived.Test.YtbceapeoknngnaaDoorSy26
import Derived.Test.YtbceapeoknngnaaDoorSy37
import Derived.Test.YtbceapeoknngnaaDoorSy43
set_option linter.unusedVariables false
namespace Go.Proofs.YtbceapeoknngnaaDoor
open Go.RowKit
set_option maxRecDepth 100000
open Lib (hid)
def KY (wx : World) (B0 B1 B2 B3 B4 : Nat) (m0 e0 m1 e1 m3 e3 x y : Value) (w' : World) : Prop :=
 Up wx w' ∧ w'.cell? ⟨B0, 0, none⟩ = some m0 ∧ w'.cell? ⟨B0, 1, none⟩ = some e0 ∧ w'.cell? ⟨B1, 0, none⟩ = some m1 ∧ w'.cell? ⟨B1, 1, none⟩ = some e1 ∧ w'.cell? ⟨B2, 0, none⟩ = some x ∧ w'.cell? ⟨B2, 1, none⟩ = some y ∧ w'.cell? ⟨B3, 0, none⟩ = some m3 ∧ w'.cell? ⟨B3, 1, none⟩ = some e3 ∧ w'.cell? ⟨B4, 0, none⟩ = some x ∧ w'.cell? ⟨B4, 1, none⟩ = some y
theorem KY.up {wx : World} {B0 B1 B2 B3 B4 : Nat} {m0 e0 m1 e1 m3 e3 x y : Value} {w1 w2 : World} (h : KY wx B0 B1 B2 B3 B4 m0 e0 m1 e1 m3 e3 x y w1) (u : Up w1 w2) : KY wx B0 B1 B2 B3 B4 m0 e0 m1 e1 m3 e3 x y w2 := by
 obtain ⟨a, b, c, d, e, f, g, i, j, k, l⟩ := h; exact ⟨a.trans u, u.cell_some b, u.cell_some c, u.cell_some d, u.cell_some e, u.cell_some f, u.cell_some g, u.cell_some i, u.cell_some j, u.cell_some k, u.cell_some l⟩
theorem word_cell (W : World) (e : TypeId) (k : Nat) (h : k < 9) : ∀ g, g = W.heap.size → (W.alloc (.cells wordsV.toArray e)).cell? ⟨g, k, none⟩ = some (.string ⟨(words.getD k []).toArray⟩) := by
 rintro g rfl; rw [cell_of_row _ _ _ _ _ _ (blk_new W _ rfl)]; rcases (by omega : k = 0 ∨ k = 1 ∨ k = 2 ∨ k = 3 ∨ k = 4 ∨ k = 5 ∨ k = 6 ∨ k = 7 ∨ k = 8) with rfl | rfl | rfl | rfl | rfl | rfl | rfl | rfl | rfl <;> rfl
set_option maxHeartbeats 3200000 in
theorem syntaxTells_any (hpr : ∀ (va : Value) (F : Fil) (w : World), FilV All w va F → (printP F).length ≤ 140737488355328 → Pow w → Calls Tryd.prog 8 #[va] w fun e w' => e = .returned (.string ⟨(printP F).toArray⟩) ∧ Up w w')
   (s : ByteArray) (v : Value) (F : Fil) (w : World) (hf : FilV All w v F) (hT : (printP F).length ≤ 140737488355328) (hp : Pow w) (hev : EvR w) (hs : s.data.toList.length ≤ 140737488355328) :
   Calls Tryd.prog 3 #[.string s, v] w fun e w' => e = .returned (.bool true) ∧ Up w w' := by
 have Hf := hid hf; obtain ⟨vm, ve, rfl, hm, he⟩ := hf; obtain ⟨mo, mc, rfl, _, _⟩ := hm.val; obtain ⟨eo, ec, rfl, _, _⟩ := he.val; (have hsz : s.size ≤ 9223372036854775807 := by have : s.data.toList.length = s.size := rfl; omega); have HT := hid hT; have HP := hid hp; have HE := hid hev; have Hsz := hid hsz; clear hm he hT hp hev hs hsz
 go_enter Tryd.func3, Tryd.ntmps3
 go_upto_region 1 with (fail)
 have hb0 := blk_new w (.cells #[.slice mo F.msgs.length mc, .slice eo F.enums.length ec] 25) (g := w.heap.size) rfl; have hu0 := (Up.refl w).alloc (.cells #[.slice mo F.msgs.length mc, .slice eo F.enums.length ec] 25); obtain ⟨B0, hB0⟩ : ∃ B0, w.heap.size = B0 := ⟨_, rfl⟩; rw [hB0] at hb0 ⊢; generalize w.alloc (.cells #[.slice mo F.msgs.length mc, .slice eo F.enums.length ec] 25) = w1 at *; have Hb0 := hid hb0; have Hu0 := hid hu0; clear hb0 hu0 hB0; (go_wp2_with fail); refine (parse_s s w1 (HE.out.up Hu0.out)).mono ?_; rintro e w2 ⟨va, rfl, ha, hu1⟩; have ha := ha.all; generalize hA : parseS s.data.toList = A at *; obtain ⟨FA, x, y⟩ := A; have HA := hid hA; have Ha := hid ha; obtain ⟨vm1, ve1, rfl, hm1, he1⟩ := ha; obtain ⟨mo1, mc1, rfl, _, _⟩ := hm1.val; obtain ⟨eo1, ec1, rfl, _, _⟩ := he1.val; have Hu1 := hid hu1; clear hA hm1 he1 hu1
 go_upto_region 2 with (fail)
 have hb1 := blk_old (.cells #[.int .i64 x, .int .i64 (y : Int)] 28) (blk_new w2 (.cells #[.slice mo1 FA.msgs.length mc1, .slice eo1 FA.enums.length ec1] 25) (g := w2.heap.size) rfl); have hb2 := blk_new (w2.alloc (.cells #[.slice mo1 FA.msgs.length mc1, .slice eo1 FA.enums.length ec1] 25)) (.cells #[.int .i64 x, .int .i64 (y : Int)] 28) (g := w2.heap.size + 1) (by simp); have hu2 := ((Up.refl w2).alloc (.cells #[.slice mo1 FA.msgs.length mc1, .slice eo1 FA.enums.length ec1] 25)).alloc (.cells #[.int .i64 x, .int .i64 (y : Int)] 28); obtain ⟨B1, hB1⟩ : ∃ B1, w2.heap.size = B1 := ⟨_, rfl⟩; rw [hB1] at hb1 hb2 ⊢; generalize (w2.alloc (.cells #[.slice mo1 FA.msgs.length mc1, .slice eo1 FA.enums.length ec1] 25)).alloc (.cells #[.int .i64 x, .int .i64 (y : Int)] 28) = w3 at *; have Hb1 := hid hb1; have Hb2 := hid hb2; have Hu2 := hid (Hu1.out.trans hu2); have Ha := hid (Ha.out.up hu2); clear hb1 hb2 hu2 hB1 Hu1; (go_wp2_with fail); refine (file_w s w3).mono ?_; rw [fileR_parse, HA.out]; rintro e w4 ⟨vb, rfl, hb, hu3⟩; have Hb := hid hb; obtain ⟨vm2, ve2, rfl, hm2, he2⟩ := hb; obtain ⟨mo2, mc2, rfl, _, _⟩ := hm2.val; obtain ⟨eo2, ec2, rfl, _, _⟩ := he2.val; have Hu3 := hid hu3; clear hm2 he2 hu3
 go_upto_region 3 with (fail)
 have hb3 := blk_old (.cells #[.int .i64 x, .int .i64 (y : Int)] 28) (blk_new w4 (.cells #[.slice mo2 FA.msgs.length mc2, .slice eo2 FA.enums.length ec2] 25) (g := w4.heap.size) rfl); have hb4 := blk_new (w4.alloc (.cells #[.slice mo2 FA.msgs.length mc2, .slice eo2 FA.enums.length ec2] 25)) (.cells #[.int .i64 x, .int .i64 (y : Int)] 28) (g := w4.heap.size + 1) (by simp); have hu4 := ((Up.refl w4).alloc (.cells #[.slice mo2 FA.msgs.length mc2, .slice eo2 FA.enums.length ec2] 25)).alloc (.cells #[.int .i64 x, .int .i64 (y : Int)] 28); obtain ⟨B3, hB3⟩ : ∃ B3, w4.heap.size = B3 := ⟨_, rfl⟩; rw [hB3] at hb3 hb4 ⊢; generalize (w4.alloc (.cells #[.slice mo2 FA.msgs.length mc2, .slice eo2 FA.enums.length ec2] 25)).alloc (.cells #[.int .i64 x, .int .i64 (y : Int)] 28) = w5 at *; have Hu4 := hid (Hu3.out.trans hu4); have Hb := hid (Hb.out.up hu4); have Hu := hid (Hu0.out.trans (Hu2.out.trans Hu4.out)); have Ha := hid (Ha.out.up Hu4.out)
 have hks : KY w5 B0 B1 (B1 + 1) B3 (B3 + 1) (.slice mo F.msgs.length mc) (.slice eo F.enums.length ec) (.slice mo1 FA.msgs.length mc1) (.slice eo1 FA.enums.length ec1) (.slice mo2 FA.msgs.length mc2) (.slice eo2 FA.enums.length ec2) (.int .i64 x) (.int .i64 (y : Int)) w5 := by
   have u0 := Hu2.out.trans Hu4.out; exact ⟨Up.refl _, cell_of_row w5 _ 0 _ _ _ (u0.blk Hb0.out), cell_of_row w5 _ 1 _ _ _ (u0.blk Hb0.out), cell_of_row w5 _ 0 _ _ _ (Hu4.out.blk Hb1.out), cell_of_row w5 _ 1 _ _ _ (Hu4.out.blk Hb1.out), cell_of_row w5 _ 0 _ _ _ (Hu4.out.blk Hb2.out), cell_of_row w5 _ 1 _ _ _ (Hu4.out.blk Hb2.out), cell_of_row w5 _ 0 _ _ _ hb3, cell_of_row w5 _ 1 _ _ _ hb3, cell_of_row w5 _ 0 _ _ _ hb4, cell_of_row w5 _ 1 _ _ _ hb4⟩
 have Hks := hid hks; clear hks hb3 hb4 hu4 hB3 Hu3 Hb0 Hb1 Hb2; have Hsf := hid (fun W (u : Up w5 W) => samefile_r _ _ _ W (Ha.out.up u) (Hb.out.up u)); have Hp1 := hid (fun W (u : Up w5 W) => print_s _ F W (Hf.out.up (Hu.out.trans u)) HT.out (HP.out.up (Hu.out.trans u))); have Hp2 := hid (fun W (u : Up w5 W) => hpr _ F W (Hf.out.up (Hu.out.trans u)) HT.out (HP.out.up (Hu.out.trans u))); have Hn1 := hid (fun W (u : Up w5 W) => named_s s W); have Hn2 := hid (fun W (u : Up w5 W) => named_r s W Hsz.out); clear Ha Hb Hf HP HT HE Hsz Hu0 Hu2 Hu4 HA hpr; generalize named s.data.toList = NM at *; generalize printP F = PR at *; generalize F.msgs.length = n1 at *; generalize F.enums.length = n2 at *; generalize FA.msgs.length = n3 at *; generalize FA.enums.length = n4 at *
 go_cut [48] (fun v w2 => v = .bool false ∧ Up w5 w2)
 case first =>
   go_region_held3 (fun w' => Up w5 w' ∧ w'.cell? ⟨B0, 0, none⟩ = some (.slice mo n1 mc) ∧ w'.cell? ⟨B0, 1, none⟩ = some (.slice eo n2 ec) ∧ w'.cell? ⟨B1, 0, none⟩ = some (.slice mo1 n3 mc1) ∧ w'.cell? ⟨B1, 1, none⟩ = some (.slice eo1 n4 ec1) ∧ w'.cell? ⟨B1 + 1, 0, none⟩ = some (.int .i64 x) ∧ w'.cell? ⟨B1 + 1, 1, none⟩ = some (.int .i64 (y : Int)) ∧ w'.cell? ⟨B3, 0, none⟩ = some (.slice mo2 n3 mc2) ∧ w'.cell? ⟨B3, 1, none⟩ = some (.slice eo2 n4 ec2) ∧ w'.cell? ⟨B3 + 1, 0, none⟩ = some (.int .i64 x) ∧ w'.cell? ⟨B3 + 1, 1, none⟩ = some (.int .i64 (y : Int)))
     (first | (exact KY.up Hks.out ((Up.refl w5).drew)) | (exact hkn))
     (first
       | (go_at_call 6; refine (Hsf.out _ (And.left (by assumption : KY w5 B0 B1 (B1 + 1) B3 (B3 + 1) (.slice mo n1 mc) (.slice eo n2 ec) (.slice mo1 n3 mc1) (.slice eo1 n4 ec1) (.slice mo2 n3 mc2) (.slice eo2 n4 ec2) (.int .i64 x) (.int .i64 (y : Int)) _))).mono ?_; rintro e wn ⟨rfl, hun⟩; have hkn : KY w5 B0 B1 (B1 + 1) B3 (B3 + 1) (.slice mo n1 mc) (.slice eo n2 ec) (.slice mo1 n3 mc1) (.slice eo1 n4 ec1) (.slice mo2 n3 mc2) (.slice eo2 n4 ec2) (.int .i64 x) (.int .i64 (y : Int)) wn := KY.up (by assumption) hun; have Hkn := hid hkn)
       | (go_at_call 7; refine (Hp1.out _ (And.left (by assumption : KY w5 B0 B1 (B1 + 1) B3 (B3 + 1) (.slice mo n1 mc) (.slice eo n2 ec) (.slice mo1 n3 mc1) (.slice eo1 n4 ec1) (.slice mo2 n3 mc2) (.slice eo2 n4 ec2) (.int .i64 x) (.int .i64 (y : Int)) _))).mono ?_; rintro e wn ⟨rfl, hun⟩; have hkn : KY w5 B0 B1 (B1 + 1) B3 (B3 + 1) (.slice mo n1 mc) (.slice eo n2 ec) (.slice mo1 n3 mc1) (.slice eo1 n4 ec1) (.slice mo2 n3 mc2) (.slice eo2 n4 ec2) (.int .i64 x) (.int .i64 (y : Int)) wn := KY.up (by assumption) hun; have Hkn := hid hkn)
       | (go_at_call 8; refine (Hp2.out _ (And.left (by assumption : KY w5 B0 B1 (B1 + 1) B3 (B3 + 1) (.slice mo n1 mc) (.slice eo n2 ec) (.slice mo1 n3 mc1) (.slice eo1 n4 ec1) (.slice mo2 n3 mc2) (.slice eo2 n4 ec2) (.int .i64 x) (.int .i64 (y : Int)) _))).mono ?_; rintro e wn ⟨rfl, hun⟩; have hkn : KY w5 B0 B1 (B1 + 1) B3 (B3 + 1) (.slice mo n1 mc) (.slice eo n2 ec) (.slice mo1 n3 mc1) (.slice eo1 n4 ec1) (.slice mo2 n3 mc2) (.slice eo2 n4 ec2) (.int .i64 x) (.int .i64 (y : Int)) wn := KY.up (by assumption) hun; have Hkn := hid hkn)
       | (go_at_call 9; refine (Hn1.out _ (And.left (by assumption : KY w5 B0 B1 (B1 + 1) B3 (B3 + 1) (.slice mo n1 mc) (.slice eo n2 ec) (.slice mo1 n3 mc1) (.slice eo1 n4 ec1) (.slice mo2 n3 mc2) (.slice eo2 n4 ec2) (.int .i64 x) (.int .i64 (y : Int)) _))).mono ?_; rintro e wn ⟨rfl, hun⟩; have hkn : KY w5 B0 B1 (B1 + 1) B3 (B3 + 1) (.slice mo n1 mc) (.slice eo n2 ec) (.slice mo1 n3 mc1) (.slice eo1 n4 ec1) (.slice mo2 n3 mc2) (.slice eo2 n4 ec2) (.int .i64 x) (.int .i64 (y : Int)) wn := KY.up (by assumption) hun; have Hkn := hid hkn)
       | (go_at_call 10; refine (Hn2.out _ (And.left (by assumption : KY w5 B0 B1 (B1 + 1) B3 (B3 + 1) (.slice mo n1 mc) (.slice eo n2 ec) (.slice mo1 n3 mc1) (.slice eo1 n4 ec1) (.slice mo2 n3 mc2) (.slice eo2 n4 ec2) (.int .i64 x) (.int .i64 (y : Int)) _))).mono ?_; rintro e wn ⟨rfl, hun⟩; have hkn : KY w5 B0 B1 (B1 + 1) B3 (B3 + 1) (.slice mo n1 mc) (.slice eo n2 ec) (.slice mo1 n3 mc1) (.slice eo1 n4 ec1) (.slice mo2 n3 mc2) (.slice eo2 n4 ec2) (.int .i64 x) (.int .i64 (y : Int)) wn := KY.up (by assumption) hun; have Hkn := hid hkn)
       | (go_at_call 11; refine (words_s _).mono ?_; rintro e wn ⟨rfl, hwn⟩; have hkn : KY w5 B0 B1 (B1 + 1) B3 (B3 + 1) (.slice mo n1 mc) (.slice eo n2 ec) (.slice mo1 n3 mc1) (.slice eo1 n4 ec1) (.slice mo2 n3 mc2) (.slice eo2 n4 ec2) (.int .i64 x) (.int .i64 (y : Int)) wn := (by rw [hwn]; exact KY.up (by assumption) ((Up.refl _).alloc _)); clear hwn; have Hkn := hid hkn))
   all_goals
     go_wp2_with fail
     go_meet
     exact ⟨rfl, Hkn.out.1⟩
 case rest =>
   obtain ⟨rfl, hu6⟩ := hcut; clear Hsf Hp1 Hp2 Hn1 Hn2 Hks
   go_upto_region 5 with (fail)
   (go_wp2_with fail); refine (words_s _).mono ?_; rintro e w6 ⟨rfl, hw6⟩; have hu7 := (Up.refl wc).alloc (.cells wordsV.toArray 9); rw [← hw6] at hu7; have HW := hid (fun k (h : k < 9) => hw6 ▸ word_cell wc 9 k h _ rfl); obtain ⟨B, hB⟩ : ∃ B, wc.heap.size = B := ⟨_, rfl⟩; rw [hB] at HW ⊢; have Hu7 := hid (Hu.out.trans (hu6.trans hu7)); clear hw6 hu7 hu6 hB; (go_wp2_with fail); (go_loopw [51] (fun i wr => ∃ k : Nat, k ≤ 9 ∧ i = .int .i64 k ∧ Up w6 wr) (fun i _ => 9 - (intOf i).toNat)); case atStart => exact ⟨0, by omega, rfl, Up.refl _⟩
   case round =>
     obtain ⟨k, hk, rfl, hu⟩ := hrel
     by_cases hlt : k < 9
     · have c0 := hu.cell_some (HW.out k hlt); (have k0 : (0 : Int) ≤ (k : Int) := by omega); (have k1 : (k : Int) < 9 := by omega); generalize hWk : (words.getD k []) = wk at *
       go_upto_region 8 with (fail)
       (go_wp2_with fail); refine (words_r _).mono ?_; rintro e w7 ⟨rfl, hw7⟩; have hu8 := (Up.refl wr).alloc (.cells wordsV.toArray 9); have c1 := word_cell wr 9 k hlt _ rfl; rw [← hw7] at hu8 c1; rw [hWk] at c1; clear hw7; go_wp2_with fail
       go_roundw
       (case rel => exact ⟨k + 1, by omega, by go_num, hu.trans hu8⟩); case measure => simp [intOf]; omega
     · (have k2 : ¬ (k : Int) < 9 := by omega); go_wp2_with fail
       go_ret
       exact ⟨rfl, Hu7.out.trans hu⟩
end Go.Proofs.YtbceapeoknngnaaDoor
