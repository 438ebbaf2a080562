/-
  pressref2.Print.
-/
import Derived.Test.YtbceapeoknngnaaDoorSy45
import Derived.Test.YtbceapeoknngnaaDoorSy40
import Derived.Lib.MinMax
import Derived.Deep.RegionWith
set_option linter.unusedVariables false
set_option linter.unusedSimpArgs false
namespace Go.Proofs.YtbceapeoknngnaaDoor
open Go.RowKit
set_option maxRecDepth 100000
open Lib (hid)
theorem take_flatR {α : Type} (g : α → List UInt8) {L : List α} {k : Nat} (h : k < L.length) : (L.take (k + 1)).flatMap g = (L.take k).flatMap g ++ g L[k] := by
 rw [List.take_succ_eq_append_getElem h, List.flatMap_append]; simp
theorem flat_leR {α : Type} (g : α → List UInt8) (L : List α) (k : Nat) : ((L.take k).flatMap g).length ≤ (L.flatMap g).length := by
 (have : L.flatMap g = (L.take k).flatMap g ++ (L.drop k).flatMap g := by rw [← List.flatMap_append, List.take_append_drop]); rw [this, List.length_append]; omega
theorem ba_eqR {b : ByteArray} {l : List UInt8} (h : b.data.toList = l) : b = ⟨l.toArray⟩ := by
 subst h; rfl
theorem barF_app (b : Bool) : ∀ (l r : List Int), ∃ t, barF b (l ++ r) = barF b l ++ t
 | [], r => ⟨barF b r, rfl⟩
 | n :: l, r => by
   obtain ⟨t, h⟩ := barF_app false l r; exact ⟨t, by rw [List.cons_append, barF, barF, h]; simp only [List.append_assoc]⟩
theorem bar_leR (l : List Int) (k : Nat) : (barF true (l.take k)).length ≤ (barF true l).length := by
 obtain ⟨t, h⟩ := barF_app true (l.take k) (l.drop k); rw [List.take_append_drop] at h; rw [h, List.length_append]; omega
theorem preR_app : ∀ (l r : List Fld) (a : Int), ∃ t, (preR a (l ++ r)).1 = (preR a l).1 ++ t
 | [], r, a => ⟨(preR a r).1, rfl⟩
 | x :: l, r, a => by
   obtain ⟨t, h⟩ := preR_app l r x.choice; exact ⟨t, by rw [List.cons_append, preR, preR]; simp only [h, List.append_assoc]⟩
theorem pre_le (l : List Fld) (k : Nat) : (preR 0 (l.take k)).1.length ≤ (fieldsF 0 l).length := by
 obtain ⟨t, h⟩ := preR_app (l.take k) (l.drop k) 0; rw [List.take_append_drop] at h; rw [← preR_zero, h, List.length_append, List.length_append]; omega
theorem mess_lens (m : Msg) : (messW m).length = 8 + (m.name.length + (3 + ((barF true m.barred).length + ((if m.barred = [] then [] else sEnd).length + ((fieldsF 0 m.fields).length + 2))))) := by
 unfold messW barW; simp only [List.length_append]; simp [sMessage, sOpen, sShut]; omega
set_option maxHeartbeats 64000000 in
theorem print_r (va : Value) (F : Fil) (w : World) (hf : FilV All w va F) (hT : (printP F).length ≤ 140737488355328) (hp : Pow w) :
   Calls Tryd.prog 8 #[va] w fun e w' => e = .returned (.string ⟨(printP F).toArray⟩) ∧ Up w w' := by
 obtain ⟨vm, ve, rfl, hm, he⟩ := hf; obtain ⟨mo, mc, rfl, _, _⟩ := hm.val; obtain ⟨eo, ec, rfl, _, _⟩ := he.val; (have htot : (F.enums.flatMap enumW).length + (F.msgs.flatMap messW).length ≤ 140737488355328 := by unfold printP at hT; rw [List.length_append] at hT; exact hT); have Hm := hid hm; have He := hid he; have HP := hid hp; have Htot := hid htot; clear hm he hp hT htot
 go_enter Tryd.func8, Tryd.ntmps8
 go_upto_region 1 with (fail)
 have hb1 := blk_new w (.cells #[.slice mo F.msgs.length mc, .slice eo F.enums.length ec] 25) (g := w.heap.size) rfl; have hu1 := (Up.refl w).alloc (.cells #[.slice mo F.msgs.length mc, .slice eo F.enums.length ec] 25); obtain ⟨B, hB⟩ : ∃ B, w.heap.size = B := ⟨_, rfl⟩; rw [hB] at hb1 ⊢; generalize w.alloc (.cells #[.slice mo F.msgs.length mc, .slice eo F.enums.length ec] 25) = w1 at *; have Hb1 := hid hb1; have U1 := hid hu1; have f1 := cell_of_row w1 B 1 _ _ _ hb1; clear hb1 hu1 hB; (go_wp2_with fail); clear f1; (go_loopw [19, 3] (fun i v wr => ∃ (k : Nat) (T : ByteArray), k ≤ F.enums.length ∧ i = .int .i64 k ∧ v = .string T ∧ T.data.toList = (F.enums.take k).flatMap enumW ∧ Up w1 wr) (fun i _ _ => F.enums.length - (intOf i).toNat)); case atStart => exact ⟨0, ⟨#[]⟩, by omega, rfl, rfl, rfl, Up.refl _⟩
 case round =>
   obtain ⟨k, T, hk, rfl, rfl, ht, hu⟩ := hrel; have Hu := hid hu; clear hu
   by_cases hlt : k < F.enums.length
   · as_aux_lemma =>
     obtain ⟨b, o, cs, rfl, _, _, hcs, hd⟩ := (He.out.up stable_enu (U1.out.trans Hu.out)).at hlt; obtain ⟨vi, hd, hri, hnm⟩ := hd; subst hd; obtain ⟨io, ic, rfl, _, _⟩ := hri.val; have n0 := hcs 0 _ rfl; have n1 := hcs 1 _ rfl; simp only [Nat.add_zero] at n0; have htk := take_flatR enumW hlt; have hle := flat_leR enumW F.enums (k + 1); rw [htk, List.length_append] at hle; (have k0 : (0 : Int) ≤ (k : Int) := by omega); (have k1 : (k : Int) < (F.enums.length : Int) := by omega); generalize F.enums[k] = e at *; generalize (F.enums.take k).flatMap enumW = P at *
     have hel : (enumW e).length = 5 + (e.name.length + (3 + ((e.items.flatMap itemW).length + 2))) := by
       unfold enumW; simp only [List.length_append]; simp [sEnum, sOpen, sShut]; try omega
     (have hlim : P.length + (5 + (e.name.length + (3 + ((e.items.flatMap itemW).length + 2)))) ≤ 140737488355328 := by have := Htot.out; omega); have Hri := hid hri; have Htk := hid htk; clear hcs hri htk hle hel hnm; obtain ⟨s1, hs1, cat1⟩ := cat_run T ⟨#[101, 110, 117, 109, 32]⟩ P (sEnum) ht rfl (by simp [sEnum, sOpen, sShut, sTwo, sEq, sEnd, sMessage, sShut2, sOneof, sMany, sBar, sComma]; omega); obtain ⟨s2, hs2, cat2⟩ := cat_run s1 ⟨(e.name).toArray⟩ _ (e.name) hs1 rfl (by simp [sEnum, sOpen, sShut, sTwo, sEq, sEnd, sMessage, sShut2, sOneof, sMany, sBar, sComma]; omega); obtain ⟨s3, hs3, cat3⟩ := cat_run s2 ⟨#[32, 123, 10]⟩ _ (sOpen) hs2 rfl (by simp [sEnum, sOpen, sShut, sTwo, sEq, sEnd, sMessage, sShut2, sOneof, sMany, sBar, sComma]; omega); obtain ⟨Q, hQ⟩ : ∃ Q, P ++ sEnum ++ e.name ++ sOpen = Q := ⟨_, rfl⟩; (have hql : Q.length = P.length + (5 + (e.name.length + 3)) := by rw [← hQ]; simp only [List.length_append]; simp [sEnum, sOpen]; omega); rw [hQ] at hs3; (have hlim2 : Q.length + ((e.items.flatMap itemW).length + 2) ≤ 140737488355328 := by omega); have HQ := hid hQ; have Hs3 := hid hs3; have Hlim2 := hid hlim2; clear hs1 hs2 hs3 hQ hql hlim hlim2 ht
     go_upto_region 5 with (fail)
     have hbx := blk_new wr (.cells #[.string ⟨e.name.toArray⟩, .slice io e.items.length ic] 50) (g := wr.heap.size) rfl; have hux := (Up.refl wr).alloc (.cells #[.string ⟨e.name.toArray⟩, .slice io e.items.length ic] 50); obtain ⟨X, hX⟩ : ∃ X, wr.heap.size = X := ⟨_, rfl⟩; rw [hX] at hbx ⊢; generalize wr.alloc (.cells #[.string ⟨e.name.toArray⟩, .slice io e.items.length ic] 50) = wx at *; have Hux := hid (Hu.out.trans hux); have Hri2 := hid (Hri.out.up stable_itm hux); have e0 := cell_of_row wx X 0 _ _ _ hbx; have e1 := cell_of_row wx X 1 _ _ _ hbx; clear hbx hux hX n0 n1; (go_wp2_with fail); clear cat1 cat2 cat3 e0 e1; (go_loopw [32, 3] (fun i v wr => ∃ (j : Nat) (T2 : ByteArray), j ≤ e.items.length ∧ i = .int .i64 j ∧ v = .string T2 ∧ T2.data.toList = Q ++ (e.items.take j).flatMap itemW ∧ Up wx wr) (fun i _ _ => e.items.length - (intOf i).toNat)); case atStart => exact ⟨0, s3, by omega, rfl, rfl, by rw [Hs3.out]; simp, Up.refl _⟩
     case round =>
       obtain ⟨j, T2, hj, rfl, rfl, ht2, hu2⟩ := hrel; have Hu2 := hid hu2; clear hu2
       by_cases hlt2 : j < e.items.length
       · obtain ⟨b2, o2, cs, rfl, _, _, hcs, hd⟩ := (Hri2.out.up stable_itm Hu2.out).at hlt2; obtain ⟨hd, hoi, hos⟩ := hd; subst hd; have n0 := hcs 0 _ rfl; have n1 := hcs 1 _ rfl; simp only [Nat.add_zero] at n0; have htk := take_flatR itemW hlt2; have hle := flat_leR itemW e.items (j + 1); rw [htk, List.length_append] at hle; (have j0 : (0 : Int) ≤ (j : Int) := by omega); (have j1 : (j : Int) < (e.items.length : Int) := by omega); generalize e.items[j] = x at *
         have hil : (itemW x).length = 2 + (x.name.length + (3 + ((Lib.itoa x.value).length + 2))) := by
           unfold itemW; simp only [List.length_append]; simp [sTwo, sEq, sEnd]; try omega
         obtain ⟨P2, hP2⟩ : ∃ P2, Q ++ (e.items.take j).flatMap itemW = P2 := ⟨_, rfl⟩; (have hpl : P2.length = Q.length + ((e.items.take j).flatMap itemW).length := by rw [← hP2, List.length_append]); rw [hP2] at ht2; (have hlim : P2.length + (2 + (x.name.length + (3 + ((Lib.itoa x.value).length + 2)))) ≤ 140737488355328 := by have := Hlim2.out; omega); have HP2 := hid hP2; have Htk2 := hid htk; have Hoi := hid hoi; clear hcs htk hle hil hP2 hpl hoi hos; obtain ⟨s1, hs1, cat1⟩ := cat_run T2 ⟨#[32, 32]⟩ P2 (sTwo) ht2 rfl (by simp [sEnum, sOpen, sShut, sTwo, sEq, sEnd, sMessage, sShut2, sOneof, sMany, sBar, sComma]; omega); obtain ⟨s2, hs2, cat2⟩ := cat_run s1 ⟨(x.name).toArray⟩ _ (x.name) hs1 rfl (by simp [sEnum, sOpen, sShut, sTwo, sEq, sEnd, sMessage, sShut2, sOneof, sMany, sBar, sComma]; omega); obtain ⟨s3, hs3, cat3⟩ := cat_run s2 ⟨#[32, 61, 32]⟩ _ (sEq) hs2 rfl (by simp [sEnum, sOpen, sShut, sTwo, sEq, sEnd, sMessage, sShut2, sOneof, sMany, sBar, sComma]; omega); obtain ⟨s4, hs4, cat4⟩ := cat_run s3 ⟨(Lib.itoa x.value).toArray⟩ _ (Lib.itoa x.value) hs3 rfl (by simp [sEnum, sOpen, sShut, sTwo, sEq, sEnd, sMessage, sShut2, sOneof, sMany, sBar, sComma]; omega); obtain ⟨s5, hs5, cat5⟩ := cat_run s4 ⟨#[59, 10]⟩ _ (sEnd) hs4 rfl (by simp [sEnum, sOpen, sShut, sTwo, sEq, sEnd, sMessage, sShut2, sOneof, sMany, sBar, sComma]; omega); have Hs5 := hid hs5; clear hs1 hs2 hs3 hs4 hs5 hlim ht2
         go_upto_region 9 with (fail)
         have hbx := blk_new wr (.cells #[.string ⟨x.name.toArray⟩, .int .i64 x.value] 60) (g := wr.heap.size) rfl; have hux := (Up.refl wr).alloc (.cells #[.string ⟨x.name.toArray⟩, .int .i64 x.value] 60); obtain ⟨X2, hX⟩ : ∃ X, wr.heap.size = X := ⟨_, rfl⟩; rw [hX] at hbx ⊢; generalize wr.alloc (.cells #[.string ⟨x.name.toArray⟩, .int .i64 x.value] 60) = wy at *; have Huy := hid (Hu2.out.trans hux); have d0 := cell_of_row wy X2 0 _ _ _ hbx; have d1 := cell_of_row wy X2 1 _ _ _ hbx; have DD := hid (fun W (u : Up wy W) => (⟨u.cell_some d0, u.cell_some d1⟩ : W.cell? ⟨X2, 0, none⟩ = some (.string ⟨x.name.toArray⟩) ∧ W.cell? ⟨X2, 1, none⟩ = some (.int .i64 x.value))); have dd : wy.drew.cell? ⟨X2, 0, none⟩ = some (.string ⟨x.name.toArray⟩) ∧ wy.drew.cell? ⟨X2, 1, none⟩ = some (.int .i64 x.value) := ⟨d0, d1⟩; clear hbx hux hX n0 n1 d0 d1
         go_region_held3 (fun w' => w'.cell? ⟨X2, 0, none⟩ = some (.string ⟨x.name.toArray⟩) ∧ w'.cell? ⟨X2, 1, none⟩ = some (.int .i64 x.value))
           (first | with_reducible exact dd | with_reducible exact DD.out _ hu7)
           (first | (go_at_call 26; refine (itoa_s _ Hoi.out _ (HP.out.up (U1.out.trans (Hux.out.trans Huy.out.drew)))).mono ?_; rintro e w6 ⟨rfl, hu6⟩; have hu7 := (Up.refl wy).drew.trans hu6))
         all_goals
           go_wp2_with fail
           go_roundw
           (case rel => exact ⟨j + 1, s5, by omega, by go_num, rfl, by rw [Hs5.out, Htk2.out, ← HP2.out, itemW]; simp only [List.append_assoc], Huy.out.trans hu7⟩); case measure => simp [intOf]; omega
       · have hfin : e.items.take j = e.items := List.take_of_length_le (by omega); rw [hfin] at ht2; obtain ⟨P2, hP2⟩ : ∃ P2, Q ++ e.items.flatMap itemW = P2 := ⟨_, rfl⟩; (have hpl : P2.length + 2 ≤ 140737488355328 := by rw [← hP2, List.length_append]; have := Hlim2.out; omega); rw [hP2] at ht2; obtain ⟨s1, hs1, cat1⟩ := cat_run T2 ⟨#[125, 10]⟩ P2 (sShut) ht2 rfl (by simp [sEnum, sOpen, sShut, sTwo, sEq, sEnd, sMessage, sShut2, sOneof, sMany, sBar, sComma]; omega); have Hs1 := hid hs1; have HP2 := hid hP2; clear hs1 hP2 hpl ht2 hfin; go_wp2_with fail
         go_roundw
         (case rel => exact ⟨k + 1, s1, by omega, by go_num, rfl, by rw [Hs1.out, Htk.out, ← HP2.out, ← HQ.out, enumW]; simp only [List.append_assoc], Hux.out.trans Hu2.out⟩); case measure => simp [intOf]; omega
     --]
   · have hfin : F.enums.take k = F.enums := List.take_of_length_le (by omega); rw [hfin] at ht; have f0 := cell_of_row wr B 0 _ _ _ (Hu.out.blk Hb1.out); have Ht := hid ht; clear ht hfin; obtain ⟨PE, hPE⟩ : ∃ PE, F.enums.flatMap enumW = PE := ⟨_, rfl⟩; rw [hPE] at Ht Htot; have HPE := hid hPE; clear hPE; (go_wp2_with fail); clear f0; (go_loopw [54, 3] (fun i v wr => ∃ (k : Nat) (T : ByteArray), k ≤ F.msgs.length ∧ i = .int .i64 k ∧ v = .string T ∧ T.data.toList = PE ++ (F.msgs.take k).flatMap messW ∧ Up w1 wr) (fun i _ _ => F.msgs.length - (intOf i).toNat)); case atStart => exact ⟨0, T, by omega, rfl, rfl, by rw [Ht.out]; simp, Hu.out⟩
     case round =>
       clear Ht hk hlt; obtain ⟨k, T, hk, rfl, rfl, ht, hu⟩ := hrel; have Hu := hid hu; clear hu
       by_cases hlt : k < F.msgs.length
       · obtain ⟨b, o, cs, rfl, _, _, hcs, hd⟩ := (Hm.out.up stable_msg (U1.out.trans Hu.out)).at hlt; obtain ⟨vf, vb, hd, hrf, hrb, hnm⟩ := hd; subst hd; obtain ⟨fo, fc, rfl, _, _⟩ := hrf.val; obtain ⟨bo, bc, rfl, _, _⟩ := hrb.val; have n0 := hcs 0 _ rfl; have n1 := hcs 1 _ rfl; have n2 := hcs 2 _ rfl; simp only [Nat.add_zero] at n0; have htk := take_flatR messW hlt; have hle := flat_leR messW F.msgs (k + 1); rw [htk, List.length_append] at hle; (have k0 : (0 : Int) ≤ (k : Int) := by omega); (have k1 : (k : Int) < (F.msgs.length : Int) := by omega); generalize F.msgs[k] = m at *; obtain ⟨P, hP⟩ : ∃ P, PE ++ (F.msgs.take k).flatMap messW = P := ⟨_, rfl⟩; (have hpl : P.length = PE.length + ((F.msgs.take k).flatMap messW).length := by rw [← hP, List.length_append]); rw [hP] at ht; have hml := mess_lens m; obtain ⟨LB, hLB⟩ : ∃ x, (barF true m.barred).length = x := ⟨_, rfl⟩; obtain ⟨LE, hLE⟩ : ∃ x, (if m.barred = [] then [] else sEnd).length = x := ⟨_, rfl⟩; obtain ⟨LF, hLF⟩ : ∃ x, (fieldsF 0 m.fields).length = x := ⟨_, rfl⟩; rw [hLB, hLE, hLF] at hml; (have hlim : P.length + (8 + (m.name.length + (3 + (LB + (LE + (LF + 2)))))) ≤ 140737488355328 := by have := Htot.out; omega); have Hrf := hid hrf; have Hrb := hid hrb; have Htk := hid htk; have HPm := hid hP; have HLB := hid hLB; have HLE := hid hLE; have HLF := hid hLF; clear hcs hrf hrb htk hle hml hnm hP hpl hLB hLE hLF; obtain ⟨s1, hs1, cat1⟩ := cat_run T ⟨#[109, 101, 115, 115, 97, 103, 101, 32]⟩ P (sMessage) ht rfl (by simp [sEnum, sOpen, sShut, sTwo, sEq, sEnd, sMessage, sShut2, sOneof, sMany, sBar, sComma]; omega); obtain ⟨s2, hs2, cat2⟩ := cat_run s1 ⟨(m.name).toArray⟩ _ (m.name) hs1 rfl (by simp [sEnum, sOpen, sShut, sTwo, sEq, sEnd, sMessage, sShut2, sOneof, sMany, sBar, sComma]; omega); obtain ⟨s3, hs3, cat3⟩ := cat_run s2 ⟨#[32, 123, 10]⟩ _ (sOpen) hs2 rfl (by simp [sEnum, sOpen, sShut, sTwo, sEq, sEnd, sMessage, sShut2, sOneof, sMany, sBar, sComma]; omega); obtain ⟨Q, hQ⟩ : ∃ Q, P ++ sMessage ++ m.name ++ sOpen = Q := ⟨_, rfl⟩; (have hql : Q.length = P.length + (8 + (m.name.length + 3)) := by rw [← hQ]; simp only [List.length_append]; simp [sMessage, sOpen]; omega); rw [hQ] at hs3; (have hlim2 : Q.length + (LB + (LE + (LF + 2))) ≤ 140737488355328 := by omega); have HQ := hid hQ; have Hs3 := hid hs3; have Hlim2 := hid hlim2; clear hs1 hs2 hs3 hQ hql hlim hlim2 ht
         go_upto_region 16 with (fail)
         have hbx := blk_new wr (.cells #[.string ⟨m.name.toArray⟩, .slice fo m.fields.length fc, .slice bo m.barred.length bc] 46) (g := wr.heap.size) rfl; have hux := (Up.refl wr).alloc (.cells #[.string ⟨m.name.toArray⟩, .slice fo m.fields.length fc, .slice bo m.barred.length bc] 46); obtain ⟨X, hX⟩ : ∃ X, wr.heap.size = X := ⟨_, rfl⟩; rw [hX] at hbx ⊢; generalize wr.alloc (.cells #[.string ⟨m.name.toArray⟩, .slice fo m.fields.length fc, .slice bo m.barred.length bc] 46) = wx at *; have Hux := hid (Hu.out.trans hux); have Hrf2 := hid (Hrf.out.up stable_fld hux); have Hrb2 := hid (Hrb.out.up stable_int hux); have Hbx := hid hbx; have e0 := cell_of_row wx X 0 _ _ _ hbx; have e2 := cell_of_row wx X 2 _ _ _ hbx; clear hbx hux hX n0 n1 n2; (go_wp2_with fail); clear cat1 cat2 cat3 e0 e2; (go_loopw [67, 3] (fun i v wr => ∃ (j : Nat) (T2 : ByteArray), j ≤ m.barred.length ∧ i = .int .i64 j ∧ v = .string T2 ∧ T2.data.toList = Q ++ barF true (m.barred.take j) ∧ Up wx wr) (fun i _ _ => m.barred.length - (intOf i).toNat)); case atStart => exact ⟨0, s3, by omega, rfl, rfl, by rw [Hs3.out]; simp [barF], Up.refl _⟩
         case round =>
           obtain ⟨j, T2, hj, rfl, rfl, ht2, hu2⟩ := hrel; have Hu2 := hid hu2; clear hu2
           by_cases hlt2 : j < m.barred.length
           · as_aux_lemma =>
             obtain ⟨b2, o2, cs, rfl, _, _, hcs, hd⟩ := (Hrb2.out.up stable_int Hu2.out).at hlt2; obtain ⟨hd, ho1, ho2⟩ := hd; subst hd; have n0 := hcs 0 _ rfl; simp only [Nat.add_zero, Nat.mul_one] at n0
             have hbs : barF true (m.barred.take (j + 1)) = barF true (m.barred.take j) ++ ((if j = 0 then sBar else sComma) ++ Lib.itoa m.barred[j]) := by
               rw [List.take_succ_eq_append_getElem hlt2, barF_snoc]
               congr 2
               by_cases h0 : j = 0
               · subst h0; simp
               · have : m.barred.take j ≠ [] := fun e => by
                   have h9 := congrArg List.length e; rw [List.length_take, Nat.min_eq_left (Nat.le_of_lt hlt2)] at h9; exact h0 h9
                 rw [if_neg this, if_neg h0]
             have hle := bar_leR m.barred (j + 1); rw [hbs, HLB.out] at hle; simp only [List.length_append] at hle; (have j0 : (0 : Int) ≤ (j : Int) := by omega); (have j1 : (j : Int) < (m.barred.length : Int) := by omega); generalize m.barred[j] = n at *; obtain ⟨P2, hP2⟩ : ∃ P2, Q ++ barF true (m.barred.take j) = P2 := ⟨_, rfl⟩; (have hpl : P2.length = Q.length + (barF true (m.barred.take j)).length := by rw [← hP2, List.length_append]); rw [hP2] at ht2; have HP2 := hid hP2; have Hbs := hid hbs; have Hoi := hid (show okI n from ⟨ho1, ho2⟩); clear hcs hbs hP2 ho1 ho2
             by_cases h0 : j = 0
             · rw [if_pos h0] at hle; (have hlim : P2.length + (11 + (Lib.itoa n).length) ≤ 140737488355328 := by have := Hlim2.out; simp only [sBar, List.length_cons, List.length_nil] at hle; omega); (have hmin : min (j : Int) 1 = 0 := by omega); have H0 := hid h0; clear hle hpl h0; obtain ⟨s1, hs1, cat1⟩ := cat_run T2 ⟨#[32, 32, 114, 101, 115, 101, 114, 118, 101, 100, 32]⟩ P2 (sBar) ht2 rfl (by simp [sEnum, sOpen, sShut, sTwo, sEq, sEnd, sMessage, sShut2, sOneof, sMany, sBar, sComma]; omega); obtain ⟨s2, hs2, cat2⟩ := cat_run s1 ⟨(Lib.itoa n).toArray⟩ _ (Lib.itoa n) hs1 rfl (by simp [sEnum, sOpen, sShut, sTwo, sEq, sEnd, sMessage, sShut2, sOneof, sMany, sBar, sComma]; omega); have Hs2 := hid hs2; clear hs1 hs2 hlim ht2; obtain ⟨wy, rfl⟩ : ∃ y : World, y = wr := ⟨_, rfl⟩
               go_upto_region 20 with (fail)
               clear n0
               go_region_with (first | (go_at_call 26; refine (itoa_s _ Hoi.out _ (HP.out.up (by first | with_reducible exact (U1.out.trans (Hux.out.trans Hu2.out)).drew | with_reducible exact ((U1.out.trans (Hux.out.trans Hu2.out)).alloc _).drew))).mono ?_; rintro e w6 ⟨rfl, hu6⟩; first | (have hu7 : Up wy w6 := (by with_reducible exact (Up.refl wy).drew.trans hu6)) | (have hu7 : Up wy w6 := (by with_reducible exact ((Up.refl wy).alloc _).drew.trans hu6); have z0 := hu6.cell_some ((Up.refl _).drew.cell_some (cell_of_row _ _ 0 _ _ _ (blk_new wy (.cells #[.string ⟨#[32, 32, 114, 101, 115, 101, 114, 118, 101, 100, 32]⟩, .string ⟨#[44, 32]⟩] 9) rfl))); have z1 := hu6.cell_some ((Up.refl _).drew.cell_some (cell_of_row _ _ 1 _ _ _ (blk_new wy (.cells #[.string ⟨#[32, 32, 114, 101, 115, 101, 114, 118, 101, 100, 32]⟩, .string ⟨#[44, 32]⟩] 9) rfl))))))
               all_goals
                 go_wp2_with fail
                 go_roundw
                 (case rel => exact ⟨j + 1, s2, by omega, by go_num, rfl, by rw [Hs2.out, Hbs.out, ← HP2.out, if_pos H0.out]; simp only [List.append_assoc], by (first | with_reducible exact Hu2.out.trans hu7 | with_reducible exact Hu2.out.trans (hu7.alloc _))⟩); case measure => simp [intOf]; omega
             · rw [if_neg h0] at hle; (have hlim : P2.length + (2 + (Lib.itoa n).length) ≤ 140737488355328 := by have := Hlim2.out; simp only [sComma, List.length_cons, List.length_nil] at hle; omega); (have hmin : min (j : Int) 1 = 1 := by omega); have H0 := hid h0; clear hle hpl h0; obtain ⟨s1, hs1, cat1⟩ := cat_run T2 ⟨#[44, 32]⟩ P2 (sComma) ht2 rfl (by simp [sEnum, sOpen, sShut, sTwo, sEq, sEnd, sMessage, sShut2, sOneof, sMany, sBar, sComma]; omega); obtain ⟨s2, hs2, cat2⟩ := cat_run s1 ⟨(Lib.itoa n).toArray⟩ _ (Lib.itoa n) hs1 rfl (by simp [sEnum, sOpen, sShut, sTwo, sEq, sEnd, sMessage, sShut2, sOneof, sMany, sBar, sComma]; omega); have Hs2 := hid hs2; clear hs1 hs2 hlim ht2; obtain ⟨wy, rfl⟩ : ∃ y : World, y = wr := ⟨_, rfl⟩
               go_upto_region 20 with (fail)
               clear n0
               go_region_with (first | (go_at_call 26; refine (itoa_s _ Hoi.out _ (HP.out.up (by first | with_reducible exact (U1.out.trans (Hux.out.trans Hu2.out)).drew | with_reducible exact ((U1.out.trans (Hux.out.trans Hu2.out)).alloc _).drew))).mono ?_; rintro e w6 ⟨rfl, hu6⟩; first | (have hu7 : Up wy w6 := (by with_reducible exact (Up.refl wy).drew.trans hu6)) | (have hu7 : Up wy w6 := (by with_reducible exact ((Up.refl wy).alloc _).drew.trans hu6); have z0 := hu6.cell_some ((Up.refl _).drew.cell_some (cell_of_row _ _ 0 _ _ _ (blk_new wy (.cells #[.string ⟨#[32, 32, 114, 101, 115, 101, 114, 118, 101, 100, 32]⟩, .string ⟨#[44, 32]⟩] 9) rfl))); have z1 := hu6.cell_some ((Up.refl _).drew.cell_some (cell_of_row _ _ 1 _ _ _ (blk_new wy (.cells #[.string ⟨#[32, 32, 114, 101, 115, 101, 114, 118, 101, 100, 32]⟩, .string ⟨#[44, 32]⟩] 9) rfl))))))
               all_goals
                 go_wp2_with fail
                 go_roundw
                 (case rel => exact ⟨j + 1, s2, by omega, by go_num, rfl, by rw [Hs2.out, Hbs.out, ← HP2.out, if_neg H0.out]; simp only [List.append_assoc], by (first | with_reducible exact Hu2.out.trans hu7 | with_reducible exact Hu2.out.trans (hu7.alloc _))⟩); case measure => simp [intOf]; omega
             --]
           · as_aux_lemma =>
             have hfin : m.barred.take j = m.barred := List.take_of_length_le (by omega); rw [hfin] at ht2; have e2 := cell_of_row wr X 2 _ _ _ (Hu2.out.blk Hbx.out)
             go_upto_if 86 with (fail)
             go_cut [3] (fun v wc => ∃ T3 : ByteArray, v = .string T3 ∧ T3.data.toList = Q ++ barW m.barred ∧ Up wx wc)
             case first =>
               by_cases hbe : m.barred = []
               · (have d0 : ¬ (0 : Int) < (m.barred.length : Int) := by rw [hbe]; simp); (have d1 : ¬ 0 < m.barred.length := by rw [hbe]; simp); have Hbe := hid hbe; have Ht2 := hid ht2; clear hbe ht2; go_wp2_with fail
                 go_meet
                 exact ⟨T2, rfl, by rw [Ht2.out]; unfold barW; rw [if_pos Hbe.out, List.append_nil], Hu2.out⟩
               · have d1 : 0 < m.barred.length := List.length_pos_iff.2 hbe; (have d0 : (0 : Int) < (m.barred.length : Int) := by omega); have Hbe := hid hbe; have hle := HLE.out; rw [if_neg hbe] at hle; obtain ⟨P2, hP2⟩ : ∃ P2, Q ++ barF true m.barred = P2 := ⟨_, rfl⟩; (have hpl : P2.length + 2 ≤ 140737488355328 := by rw [← hP2, List.length_append, HLB.out]; have := Hlim2.out; simp [sEnd] at hle; omega); rw [hP2] at ht2; have HP2 := hid hP2; clear hbe hP2 hle; obtain ⟨s1, hs1, cat1⟩ := cat_run T2 ⟨#[59, 10]⟩ P2 (sEnd) ht2 rfl (by simp [sEnum, sOpen, sShut, sTwo, sEq, sEnd, sMessage, sShut2, sOneof, sMany, sBar, sComma]; omega); have Hs1 := hid hs1; clear hs1 hpl ht2; go_wp2_with fail
                 go_meet
                 exact ⟨s1, rfl, by rw [Hs1.out, ← HP2.out]; unfold barW; rw [if_neg Hbe.out, List.append_assoc], Hu2.out⟩
             case rest =>
               obtain ⟨T3, rfl, ht3, huc⟩ := hcut; obtain ⟨Q2, hQ2⟩ : ∃ Q2, Q ++ barW m.barred = Q2 := ⟨_, rfl⟩
               have hq2 : Q2.length + (LF + 2) ≤ 140737488355328 := by
                 rw [← hQ2]; unfold barW; rw [List.length_append, List.length_append, HLB.out, HLE.out]; have := Hlim2.out; omega
               rw [hQ2] at ht3; have HQ2 := hid hQ2; have Ht3 := hid ht3; have Hlim3 := hid hq2; have Huc := hid huc; have e1 := cell_of_row wc X 1 _ _ _ (huc.blk Hbx.out); clear hQ2 ht3 hq2 huc ht2 e2 hfin hlt2; (go_wp2_with fail); clear e1; (go_loopw [92, 3, 12] (fun i v lc wr => ∃ (j : Nat) (T4 : ByteArray), j ≤ m.fields.length ∧ i = .int .i64 j ∧ v = .string T4 ∧ lc = .int .i64 (preR 0 (m.fields.take j)).2 ∧ T4.data.toList = Q2 ++ (preR 0 (m.fields.take j)).1 ∧ Up wx wr) (fun i _ _ _ => m.fields.length - (intOf i).toNat)); case atStart => exact ⟨0, T3, by omega, rfl, rfl, rfl, by rw [Ht3.out]; simp [preR], Huc.out⟩
               case round =>
                 clear Huc Ht3 hj; obtain ⟨j, T4, hj, rfl, rfl, rfl, ht4, hu4⟩ := hrel; have Hu4 := hid hu4; clear hu4
                 by_cases hlt4 : j < m.fields.length
                 · as_aux_lemma =>
                   obtain ⟨b3, o3, cs, rfl, _, _, hcs, hd⟩ := (Hrf2.out.up stable_fld Hu4.out).at hlt4; obtain ⟨hd, hon, _, _, _, _⟩ := hd; subst hd; have n0 := hcs 0 _ rfl; have n1 := hcs 1 _ rfl; have n2 := hcs 2 _ rfl; have n3 := hcs 3 _ rfl; have n4 := hcs 4 _ rfl; have n5 := hcs 5 _ rfl; simp only [Nat.add_zero] at n0; have hps := preR_snoc m.fields[j] (m.fields.take j) 0; rw [← List.take_succ_eq_append_getElem hlt4] at hps; have hle := pre_le m.fields (j + 1); rw [hps, HLF.out, List.length_append] at hle; (have j0 : (0 : Int) ≤ (j : Int) := by omega); (have j1 : (j : Int) < (m.fields.length : Int) := by omega); (have hz0 : j = 0 → (preR 0 (m.fields.take j)).2 = 0 := fun h => by subst h; rfl); generalize m.fields[j] = x at *; obtain ⟨PR, hPR⟩ : ∃ PR, preR 0 (m.fields.take j) = PR := ⟨_, rfl⟩; rw [hPR] at ht4 hle hps hz0 ⊢; obtain ⟨P5, last⟩ := PR; simp only at ht4 hle hps hz0 ⊢; obtain ⟨P6, hP6⟩ : ∃ P6, Q2 ++ P5 = P6 := ⟨_, rfl⟩; (have hpl : P6.length = Q2.length + P5.length := by rw [← hP6, List.length_append]); rw [hP6] at ht4; obtain ⟨A, hA⟩ : ∃ A, (if x.choice ≠ last ∧ 0 < last then sShut2 else []) = A := ⟨_, rfl⟩; obtain ⟨O, hO⟩ : ∃ O, (if 0 < x.choice ∧ x.choice ≠ last then sOneof else []) = O := ⟨_, rfl⟩; obtain ⟨S, hS⟩ : ∃ S, (if 0 < x.choice then sTwo else []) = S := ⟨_, rfl⟩; obtain ⟨M, hM⟩ : ∃ M, (if x.many = true then sMany else []) = M := ⟨_, rfl⟩; have hfr : fldR last x = A ++ (O ++ (S ++ (sTwo ++ (M ++ (kindW x ++ (32 :: (x.name ++ (sEq ++ (Lib.itoa x.number ++ sEnd))))))))) := by unfold fldR lineW; rw [hA, hO, hS, hM]
                   have hfl : (fldR last x).length = A.length + (O.length + (S.length + (2 + (M.length + ((kindW x).length + (1 + (x.name.length + (3 + ((Lib.itoa x.number).length + 2))))))))) := by
                     rw [hfr]; simp only [List.length_append, List.length_cons]; simp only [sTwo, sEq, sEnd, List.length_cons, List.length_nil]; omega
                   (have hlim : P6.length + (A.length + (O.length + (S.length + (2 + (M.length + ((kindW x).length + (1 + (x.name.length + (3 + ((Lib.itoa x.number).length + 2)))))))))) ≤ 140737488355328 := by have := Hlim3.out; omega); have HA := hid hA; have HO := hid hO; have HS := hid hS; have HMm := hid hM; have Hps := hid hps; have Hz0 := hid hz0; have HP6 := hid hP6; have Hfr := hid hfr; have Hon := hid hon; clear hcs hps hle hPR hz0 hA hO hS hM hfl hfr hP6 hpl hon
                   go_upto_region 28 with (fail)
                   have hby := blk_new wr (.cells #[.string ⟨x.name.toArray⟩, .int .i64 x.number, .int .i64 x.kind, .string ⟨x.type.toArray⟩, .bool x.many, .int .i64 x.choice] 58) (g := wr.heap.size) rfl; have huy := (Up.refl wr).alloc (.cells #[.string ⟨x.name.toArray⟩, .int .i64 x.number, .int .i64 x.kind, .string ⟨x.type.toArray⟩, .bool x.many, .int .i64 x.choice] 58); obtain ⟨Y, hY⟩ : ∃ Y, wr.heap.size = Y := ⟨_, rfl⟩; rw [hY] at hby ⊢; generalize wr.alloc (.cells #[.string ⟨x.name.toArray⟩, .int .i64 x.number, .int .i64 x.kind, .string ⟨x.type.toArray⟩, .bool x.many, .int .i64 x.choice] 58) = wy at *; have Huy := hid (Hu4.out.trans huy); have HY := hid (fun W (u : Up wy W) => (⟨cell_of_row W _ 0 _ _ _ (u.blk hby), cell_of_row W _ 1 _ _ _ (u.blk hby), cell_of_row W _ 2 _ _ _ (u.blk hby), cell_of_row W _ 3 _ _ _ (u.blk hby), cell_of_row W _ 4 _ _ _ (u.blk hby), cell_of_row W _ 5 _ _ _ (u.blk hby)⟩ : W.cell? ⟨Y, 0, none⟩ = some (.string ⟨x.name.toArray⟩) ∧ W.cell? ⟨Y, 1, none⟩ = some (.int .i64 x.number) ∧ W.cell? ⟨Y, 2, none⟩ = some (.int .i64 x.kind) ∧ W.cell? ⟨Y, 3, none⟩ = some (.string ⟨x.type.toArray⟩) ∧ W.cell? ⟨Y, 4, none⟩ = some (.bool x.many) ∧ W.cell? ⟨Y, 5, none⟩ = some (.int .i64 x.choice))); clear hby huy hY n0 n1 n2 n3 n4 n5; obtain ⟨y0, y1, y2, y3, y4, y5⟩ := HY.out wy (Up.refl _)
                   go_cut [108] (fun v w2 => v = .bool (decide (x.choice ≠ last ∧ 0 < last)) ∧ Up wy w2)
                   case first =>
                     by_cases hj0 : j = 0
                     · (have d0 : ¬ (0 : Int) < (j : Int) := by omega); (have d1 : ¬ 0 < j := by omega); have E := hid (decide_eq_false (show ¬ (x.choice ≠ last ∧ 0 < last) by have := Hz0.out hj0; omega)); clear hj0; go_wp2_with fail
                       go_meet
                       exact ⟨by rw [E.out], Up.refl _⟩
                     · (have d0 : (0 : Int) < (j : Int) := by omega); (have d1 : 0 < j := by omega); clear hj0
                       by_cases hc : x.choice = last
                       · (have e1 : (x.choice != last) = false := by rw [hc]; simp); have E := hid (decide_eq_false (show ¬ (x.choice ≠ last ∧ 0 < last) from fun h => h.1 hc)); clear hc; go_wp2_with fail
                         go_meet
                         exact ⟨by rw [E.out], Up.refl _⟩
                       · have e1 : (x.choice != last) = true := by rw [bne_iff_ne]; exact hc
                         by_cases hl : 0 < last
                         · have E := hid (decide_eq_true (show x.choice ≠ last ∧ 0 < last from ⟨hc, hl⟩)); clear hc; go_wp2_with fail
                           go_meet
                           exact ⟨by rw [E.out], Up.refl _⟩
                         · have E := hid (decide_eq_false (show ¬ (x.choice ≠ last ∧ 0 < last) from fun h => hl h.2)); clear hc; go_wp2_with fail
                           go_meet
                           exact ⟨by rw [E.out], Up.refl _⟩
                   case rest =>
                     obtain ⟨rfl, hu5⟩ := hcut; clear y0 y1 y2 y3 y4 y5
                     go_upto_if 108 with (fail)
                     go_cut [3] (fun v w2 => ∃ T' : ByteArray, v = .string T' ∧ T'.data.toList = P6 ++ A ∧ Up wy w2)
                     case first =>
                       by_cases hc : x.choice ≠ last ∧ 0 < last
                       · have ha := HA.out; rw [if_pos hc] at ha; (have hal : A.length = (sShut2).length := by rw [← ha]); have Ha := hid ha; rw [decide_eq_true hc]; clear ha; obtain ⟨s1, hs1, cat1⟩ := cat_run T4 ⟨#[32, 32, 125, 10]⟩ P6 (sShut2) ht4 rfl (by simp [sEnum, sOpen, sShut, sTwo, sEq, sEnd, sMessage, sShut2, sOneof, sMany, sBar, sComma]; simp only [sEnum, sOpen, sShut, sTwo, sEq, sEnd, sMessage, sShut2, sOneof, sMany, sBar, sComma, List.length_cons, List.length_nil] at hal; omega); have Hs1 := hid hs1; clear hs1 hc hal; go_wp2_with fail
                         go_meet
                         exact ⟨s1, rfl, by rw [Hs1.out, Ha.out], hu5⟩
                       · have ha := HA.out; rw [if_neg hc] at ha; have Ha := hid ha; have Ht := hid ht4; rw [decide_eq_false hc]; clear ha hc; go_wp2_with fail
                         go_meet
                         exact ⟨T4, rfl, by rw [Ht.out, ← Ha.out, List.append_nil], hu5⟩
                     case rest =>
                       obtain ⟨T5, rfl, ht5, hu6⟩ := hcut; obtain ⟨P7, hP7⟩ : ∃ P7, P6 ++ A = P7 := ⟨_, rfl⟩; (have hpl7 : P7.length = P6.length + A.length := by rw [← hP7, List.length_append]); rw [hP7] at ht5; have HP7 := hid hP7; clear hP7 ht4 hu5; obtain ⟨y0, y1, y2, y3, y4, y5⟩ := HY.out wc hu6
                       go_upto_region 30 with (fail)
                       go_cut [123] (fun v w2 => v = .bool (decide (0 < x.choice ∧ x.choice ≠ last)) ∧ Up wy w2)
                       case first =>
                         by_cases hp : 0 < x.choice
                         · by_cases hj0 : j = 0
                           · (have e9 : ((j : Int) == 0) = true := by rw [hj0]; rfl); have E := hid (decide_eq_true (show 0 < x.choice ∧ x.choice ≠ last by have := Hz0.out hj0; omega)); clear hj0; go_wp2_with fail
                             go_meet
                             exact ⟨by rw [E.out], hu6⟩
                           · (have e9 : ((j : Int) == 0) = false := by rw [beq_eq_false_iff_ne]; omega); clear hj0
                             by_cases hc : x.choice = last
                             · (have e1 : (x.choice != last) = false := by rw [hc]; simp); have E := hid (decide_eq_false (show ¬ (0 < x.choice ∧ x.choice ≠ last) from fun h => h.2 hc)); clear hc; go_wp2_with fail
                               go_meet
                               exact ⟨by rw [E.out], hu6⟩
                             · (have e1 : (x.choice != last) = true := by rw [bne_iff_ne]; exact hc); have E := hid (decide_eq_true (show 0 < x.choice ∧ x.choice ≠ last from ⟨hp, hc⟩)); clear hc; go_wp2_with fail
                               go_meet
                               exact ⟨by rw [E.out], hu6⟩
                         · have E := hid (decide_eq_false (show ¬ (0 < x.choice ∧ x.choice ≠ last) from fun h => hp h.1)); go_wp2_with fail
                           go_meet
                           exact ⟨by rw [E.out], hu6⟩
                       case rest =>
                         obtain ⟨rfl, hu7⟩ := hcut; clear y0 y1 y2 y3 y4 y5 hu6
                         go_upto_if 123 with (fail)
                         go_cut [3] (fun v w2 => ∃ T' : ByteArray, v = .string T' ∧ T'.data.toList = P7 ++ O ∧ Up wy w2)
                         case first =>
                           by_cases hc : 0 < x.choice ∧ x.choice ≠ last
                           · have ha := HO.out; rw [if_pos hc] at ha; (have hal : O.length = (sOneof).length := by rw [← ha]); have Ha := hid ha; rw [decide_eq_true hc]; clear ha; obtain ⟨s1, hs1, cat1⟩ := cat_run T5 ⟨#[32, 32, 111, 110, 101, 111, 102, 32, 123, 10]⟩ P7 (sOneof) ht5 rfl (by simp [sEnum, sOpen, sShut, sTwo, sEq, sEnd, sMessage, sShut2, sOneof, sMany, sBar, sComma]; simp only [sEnum, sOpen, sShut, sTwo, sEq, sEnd, sMessage, sShut2, sOneof, sMany, sBar, sComma, List.length_cons, List.length_nil] at hal; omega); have Hs1 := hid hs1; clear hs1 hc hal; go_wp2_with fail
                             go_meet
                             exact ⟨s1, rfl, by rw [Hs1.out, Ha.out], hu7⟩
                           · have ha := HO.out; rw [if_neg hc] at ha; have Ha := hid ha; have Ht := hid ht5; rw [decide_eq_false hc]; clear ha hc; go_wp2_with fail
                             go_meet
                             exact ⟨T5, rfl, by rw [Ht.out, ← Ha.out, List.append_nil], hu7⟩
                         case rest =>
                           obtain ⟨T6, rfl, ht6, hu8⟩ := hcut; obtain ⟨P8, hP8⟩ : ∃ P8, P7 ++ O = P8 := ⟨_, rfl⟩; (have hpl8 : P8.length = P7.length + O.length := by rw [← hP8, List.length_append]); rw [hP8] at ht6; have HP8 := hid hP8; clear hP8 ht5 hu7; obtain ⟨y0, y1, y2, y3, y4, y5⟩ := HY.out wc hu8
                           go_upto_if 129 with (fail)
                           go_cut [3] (fun v w2 => ∃ T' : ByteArray, v = .string T' ∧ T'.data.toList = P8 ++ S ∧ Up wy w2)
                           case first =>
                             by_cases hc : 0 < x.choice
                             · have ha := HS.out; rw [if_pos hc] at ha; (have hal : S.length = (sTwo).length := by rw [← ha]); have Ha := hid ha; have Hc := hid hc; clear ha; obtain ⟨s1, hs1, cat1⟩ := cat_run T6 ⟨#[32, 32]⟩ P8 (sTwo) ht6 rfl (by simp [sEnum, sOpen, sShut, sTwo, sEq, sEnd, sMessage, sShut2, sOneof, sMany, sBar, sComma]; simp only [sEnum, sOpen, sShut, sTwo, sEq, sEnd, sMessage, sShut2, sOneof, sMany, sBar, sComma, List.length_cons, List.length_nil] at hal; omega); have Hs1 := hid hs1; clear hs1 hal; go_wp2_with fail
                               go_meet
                               exact ⟨s1, rfl, by rw [Hs1.out, Ha.out], hu8⟩
                             · have ha := HS.out; rw [if_neg hc] at ha; have Ha := hid ha; have Ht := hid ht6; have Hc := hid hc; clear ha; go_wp2_with fail
                               go_meet
                               exact ⟨T6, rfl, by rw [Ht.out, ← Ha.out, List.append_nil], hu8⟩
                           case rest =>
                             obtain ⟨T7, rfl, ht7, hu9⟩ := hcut; obtain ⟨P9, hP9⟩ : ∃ P9, P8 ++ S = P9 := ⟨_, rfl⟩; (have hpl9 : P9.length = P8.length + S.length := by rw [← hP9, List.length_append]); rw [hP9] at ht7; have HP9 := hid hP9; clear hP9 ht6 hu8; clear y0 y1 y2 y3 y4 y5; obtain ⟨y0, y1, y2, y3, y4, y5⟩ := HY.out wc hu9; obtain ⟨t8, ht8, cat8⟩ := cat_run T7 ⟨#[32, 32]⟩ P9 sTwo ht7 rfl (by simp [sTwo]; omega); obtain ⟨P10, hP10⟩ : ∃ P10, P9 ++ sTwo = P10 := ⟨_, rfl⟩; (have hpl10 : P10.length = P9.length + 2 := by rw [← hP10, List.length_append]; rfl); rw [hP10] at ht8; have HP10 := hid hP10; clear hP10 ht7
                             go_upto_if 135 with (fail)
                             go_cut [3] (fun v w2 => ∃ T' : ByteArray, v = .string T' ∧ T'.data.toList = P10 ++ M ∧ Up wy w2)
                             case first =>
                               by_cases hc : x.many = true
                               · have ha := HMm.out; rw [if_pos hc] at ha; (have hal : M.length = (sMany).length := by rw [← ha]); have Ha := hid ha; rw [hc]; clear ha; obtain ⟨s1, hs1, cat1⟩ := cat_run t8 ⟨#[114, 101, 112, 101, 97, 116, 101, 100, 32]⟩ P10 (sMany) ht8 rfl (by simp [sEnum, sOpen, sShut, sTwo, sEq, sEnd, sMessage, sShut2, sOneof, sMany, sBar, sComma]; simp only [sEnum, sOpen, sShut, sTwo, sEq, sEnd, sMessage, sShut2, sOneof, sMany, sBar, sComma, List.length_cons, List.length_nil] at hal; omega); have Hs1 := hid hs1; clear hs1 hc hal; go_wp2_with fail
                                 go_meet
                                 exact ⟨s1, rfl, by rw [Hs1.out, Ha.out], hu9⟩
                               · have ha := HMm.out; rw [if_neg hc] at ha; have Ha := hid ha; have Ht := hid ht8; (have hcf : x.many = false := by simpa using hc); rw [hcf]; clear ha hc; go_wp2_with fail
                                 go_meet
                                 exact ⟨t8, rfl, by rw [Ht.out, ← Ha.out, List.append_nil], hu9⟩
                             case rest =>
                               obtain ⟨T9, rfl, ht9, hu10⟩ := hcut; obtain ⟨P11, hP11⟩ : ∃ P11, P10 ++ M = P11 := ⟨_, rfl⟩; (have hpl11 : P11.length = P10.length + M.length := by rw [← hP11, List.length_append]); rw [hP11] at ht9; have HP11 := hid hP11; clear hP11 ht8 hu9 cat8; clear y0 y1 y2 y3 y4 y5; obtain ⟨y0, y1, y2, y3, y4, y5⟩ := HY.out wc hu10
                               go_upto_region 39 with (fail)
                               go_cut [152] (fun v w2 => v = .bool (decide (1 ≤ x.kind ∧ x.kind ≤ 9 ∧ x.kind ≠ 5)) ∧ Up wy w2)
                               case first =>
                                 (have hk : x.kind < 1 ∨ (1 ≤ x.kind ∧ 9 < x.kind) ∨ x.kind = 5 ∨ (1 ≤ x.kind ∧ x.kind ≤ 9 ∧ x.kind ≠ 5) := by omega); rcases hk with k | ⟨k, k'⟩ | k | ⟨k1, k2, k3⟩; case inr.inr.inl => rw [k] at y2; go_wp2_with fail; go_meet; exact ⟨by rw [k]; rfl, hu10⟩
                                 case inr.inr.inr =>
                                   (have k4 : (x.kind != 5) = true := by rw [bne_iff_ne]; exact k3); have K3 := hid k3; clear k3; go_wp2_with fail; go_meet; exact ⟨by rw [decide_eq_true ⟨k1, k2, K3.out⟩], hu10⟩
                                 all_goals
                                   go_wp2_with fail
                                   go_meet
                                   exact ⟨by rw [decide_eq_false (by omega)], hu10⟩
                               case rest =>
                                 obtain ⟨rfl, hu11⟩ := hcut; clear y0 y1 y2 y3 y4 y5 hu10; obtain ⟨y0, y1, y2, y3, y4, y5⟩ := HY.out wc hu11
                                 go_upto_if 152 with (fail)
                                 go_cut [15] (fun v w2 => v = .string ⟨(kindW x).toArray⟩ ∧ Up wy w2)
                                 case first =>
                                   by_cases hk : 1 ≤ x.kind ∧ x.kind ≤ 9 ∧ x.kind ≠ 5
                                   case neg =>
                                     rw [decide_eq_false hk]; go_wp2_with fail
                                     go_meet
                                     exact ⟨by unfold kindW; rw [if_neg hk], hu11⟩
                                   case pos =>
                                     rw [decide_eq_true hk]; obtain ⟨i, hi⟩ : ∃ i : Nat, x.kind = (i : Int) + 1 := ⟨(x.kind - 1).toNat, by omega⟩; rw [hi] at y2; (have hi9 : (i : Int) < 9 := by omega); (have hi0 : (0 : Int) ≤ (i : Int) := by omega); (have hiw : IntKind.i64.wrap ((i : Int) + 1 - 1) = (i : Int) := by rw [IntKind.wrap_i64]; omega); have hiw2 : IntKind.i64.wrap (i : Int) = (i : Int) := by rw [IntKind.wrap_i64]; omega
                                     have hgw : ∀ (W : World) (g : Nat), (words_at : g = W.heap.size) → (W.alloc (.cells wordsV.toArray 9)).cell? ⟨g, i, none⟩ = some (.string ⟨(kindW x).toArray⟩) := by
                                       rintro W g rfl; (have hk2 : kindW x = words.getD i [] := by unfold kindW; rw [if_pos hk, hi]; congr 1; omega); rw [cell_of_row _ _ _ _ _ _ (blk_new W _ rfl), hk2]; (have : i < 9 := by omega); rcases (by omega : i = 0 ∨ i = 1 ∨ i = 2 ∨ i = 3 ∨ i = 4 ∨ i = 5 ∨ i = 6 ∨ i = 7 ∨ i = 8) with rfl | rfl | rfl | rfl | rfl | rfl | rfl | rfl | rfl <;> rfl
                                     have Hgw := hid hgw; clear hgw hk; go_wp2_with fail
                                     go_region_with (first | (go_at_call 12; refine (words_r _).mono ?_; rintro e w2 ⟨rfl, hw2⟩; have hx2 := ((Up.refl wc).drew).alloc (.cells wordsV.toArray 9); have cW := Hgw.out wc.drew wc.heap.size rfl; rw [← hw2] at cW hx2; clear hw2; have d2' := hx2.cell_some y2))
                                     all_goals
                                       go_wp2_with fail
                                       go_meet
                                       exact ⟨rfl, hu11.trans hx2⟩
                                 case rest =>
                                   obtain ⟨rfl, hu12⟩ := hcut; clear y0 y1 y2 y3 y4 y5 hu11; obtain ⟨y0, y1, y2, y3, y4, y5⟩ := HY.out wc hu12; obtain ⟨s1, hs1, cat1⟩ := cat_run T9 ⟨(kindW x).toArray⟩ P11 (kindW x) ht9 rfl (by (try simp); omega); obtain ⟨s2, hs2, cat2⟩ := cat_run s1 ⟨#[32]⟩ _ [32] hs1 rfl (by simp; omega); obtain ⟨s3, hs3, cat3⟩ := cat_run s2 ⟨x.name.toArray⟩ _ x.name hs2 rfl (by simp; omega); obtain ⟨s4, hs4, cat4⟩ := cat_run s3 ⟨#[32, 61, 32]⟩ _ sEq hs3 rfl (by simp [sEq]; omega); obtain ⟨s5, hs5, cat5⟩ := cat_run s4 ⟨(Lib.itoa x.number).toArray⟩ _ (Lib.itoa x.number) hs4 rfl (by simp [sEq]; omega); obtain ⟨s6, hs6, cat6⟩ := cat_run s5 ⟨#[59, 10]⟩ _ sEnd hs5 rfl (by simp [sEq, sEnd]; omega); have Hs6 := hid hs6; clear hs1 hs2 hs3 hs4 hs5 hs6 ht9; clear y2 y3 y4 y5; have dd : wc.drew.cell? ⟨Y, 0, none⟩ = some (.string ⟨x.name.toArray⟩) ∧ wc.drew.cell? ⟨Y, 1, none⟩ = some (.int .i64 x.number) := ⟨y0, y1⟩
                                   go_upto_region 41 with (fail)
                                   go_region_held3 (fun w' => w'.cell? ⟨Y, 0, none⟩ = some (.string ⟨x.name.toArray⟩) ∧ w'.cell? ⟨Y, 1, none⟩ = some (.int .i64 x.number))
                                     (first | with_reducible exact dd | exact ⟨(HY.out _ hu13).1, (HY.out _ hu13).2.1⟩)
                                     (first | (go_at_call 26; refine (itoa_s _ Hon.out _ (HP.out.up (U1.out.trans (Hux.out.trans (Huy.out.trans hu12.drew))))).mono ?_; rintro e w6 ⟨rfl, hu6⟩; have hu13 := hu12.trans ((Up.refl wc).drew.trans hu6)))
                                   all_goals
                                     go_wp2_with fail
                                     go_roundw
                                     (case rel => exact ⟨j + 1, s6, by omega, by go_num, rfl, by rw [Hps.out], by rw [Hs6.out, Hps.out, Hfr.out, ← HP11.out, ← HP10.out, ← HP9.out, ← HP8.out, ← HP7.out, ← HP6.out]; simp only [List.append_assoc, List.cons_append, List.nil_append], Huy.out.trans hu13⟩); case measure => simp [intOf]; omega
                 · as_aux_lemma =>
                   have hfin : m.fields.take j = m.fields := List.take_of_length_le (by omega); rw [hfin] at ht4 ⊢; have hz := preR_zero m.fields; obtain ⟨PR, hPR⟩ : ∃ PR, preR 0 m.fields = PR := ⟨_, rfl⟩; rw [hPR] at ht4 hz ⊢; obtain ⟨P5, last⟩ := PR; simp only at ht4 hz ⊢; have hlf := HLF.out; rw [← hz, List.length_append] at hlf; have Hz := hid hz; clear hz hPR hfin; obtain ⟨P6, hP6⟩ : ∃ P6, Q2 ++ P5 = P6 := ⟨_, rfl⟩; (have hpl : P6.length = Q2.length + P5.length := by rw [← hP6, List.length_append]); rw [hP6] at ht4; have HP6 := hid hP6; clear hP6
                   go_upto_if 174 with (fail)
                   go_cut [3] (fun v wc => ∃ T5 : ByteArray, v = .string T5 ∧ T5.data.toList = Q2 ++ fieldsF 0 m.fields ∧ Up wx wc)
                   case first =>
                     by_cases hls : 0 < last
                     · rw [if_pos hls] at hlf; (have hlim : P6.length + 4 ≤ 140737488355328 := by have := Hlim3.out; simp [sShut2] at hlf; omega); have Hls := hid hls; clear hlf hpl; obtain ⟨s1, hs1, cat1⟩ := cat_run T4 ⟨#[32, 32, 125, 10]⟩ P6 (sShut2) ht4 rfl (by simp [sEnum, sOpen, sShut, sTwo, sEq, sEnd, sMessage, sShut2, sOneof, sMany, sBar, sComma]; omega); have Hs1 := hid hs1; clear hs1 hlim ht4; go_wp2_with fail
                       go_meet
                       exact ⟨s1, rfl, by rw [Hs1.out, ← Hz.out, if_pos (by have := Hls.out; omega), ← HP6.out, List.append_assoc], Hu4.out⟩
                     · have Hls := hid hls; have Ht4 := hid ht4; clear hlf hpl ht4; go_wp2_with fail
                       go_meet
                       exact ⟨T4, rfl, by rw [Ht4.out, ← Hz.out, if_neg (by have := Hls.out; omega), ← HP6.out, List.append_nil], Hu4.out⟩
                   case rest =>
                     obtain ⟨T5, rfl, ht5, huc⟩ := hcut; obtain ⟨P7, hP7⟩ : ∃ P7, Q2 ++ fieldsF 0 m.fields = P7 := ⟨_, rfl⟩; (have hpl7 : P7.length + 2 ≤ 140737488355328 := by rw [← hP7, List.length_append, HLF.out]; have := Hlim3.out; omega); rw [hP7] at ht5; have HP7 := hid hP7; have Huc := hid huc; clear hP7 huc hlf hpl ht4; obtain ⟨s1, hs1, cat1⟩ := cat_run T5 ⟨#[125, 10]⟩ P7 (sShut) ht5 rfl (by simp [sEnum, sOpen, sShut, sTwo, sEq, sEnd, sMessage, sShut2, sOneof, sMany, sBar, sComma]; omega); have Hs1 := hid hs1; clear hs1 hpl7 ht5; go_wp2_with fail
                     go_roundw
                     (case rel => exact ⟨k + 1, s1, by omega, by go_num, rfl, by rw [Hs1.out, Htk.out, ← HP7.out, ← HQ2.out, ← HQ.out, ← HPm.out, messW]; simp only [List.append_assoc], Hux.out.trans Huc.out⟩); case measure => simp [intOf]; omega
                   --]
             --]
       · have hfin : F.msgs.take k = F.msgs := List.take_of_length_le (by omega); rw [hfin] at ht; go_wp2_with fail
         go_ret
         exact ⟨by rw [ba_eqR ht, ← HPE.out]; rfl, U1.out.trans Hu.out⟩
end Go.Proofs.YtbceapeoknngnaaDoor
