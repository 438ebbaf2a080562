/-
  The law LinkTells.
-/
import Derived.Test.YtplgegffapikoaaLinkL
import Derived.Test.YtplgegffapikoaaSameFile
set_option linter.unusedVariables false
namespace Go.Proofs.Ytplgegffapikoaa
open Go.RowKit
/-- A box of a file is as it was. -/
def KS (wx : World) (B : Nat) (vm ve : Value) (w' : World) : Prop := Up wx w' ∧ w'.cell? ⟨B, 0, none⟩ = some vm ∧ w'.cell? ⟨B, 1, none⟩ = some ve
theorem KS.up {wx : World} {B : Nat} {vm ve : Value} {w1 w2 : World} (h : KS wx B vm ve w1) (u : Up w1 w2) : KS wx B vm ve w2 := ⟨h.1.trans u, u.cell_some h.2.1, u.cell_some h.2.2⟩

set_option maxRecDepth 100000 in
set_option maxHeartbeats 3200000 in
theorem linkTells_any (v : Value) (f : Fil) (s : List UInt8) (w : World) (hf : FilV All w v f) (hsz : FilSz f) :
    Calls Try.prog 6 #[v, .string ⟨s.toArray⟩] w fun e w' => e = .returned (.bool true) ∧ Up w w' := by
  have Hf := Lib.hid hf
  obtain ⟨vm, ve, rfl, hm, he⟩ := hf
  obtain ⟨mo, mc, rfl, _, _⟩ := hm.val
  obtain ⟨eo, ec, rfl, _, _⟩ := he.val
  have Hs := Lib.hid hsz
  have hle : f.msgs.length + f.enums.length ≤ 9223372036854775807 := by have h1 := hsz.1; have h2 := hsz.2.1; omega
  clear hm he hsz
  go_enter Try.func6, Try.ntmps6
  go_upto_region 1 with (fail)
  have hb0 := blk_new w (.cells #[.slice mo f.msgs.length mc, .slice eo f.enums.length ec] 45) rfl
  have hu0 := (Up.refl w).alloc (.cells #[.slice mo f.msgs.length mc, .slice eo f.enums.length ec] 45)
  generalize hw1 : w.alloc (.cells #[.slice mo f.msgs.length mc, .slice eo f.enums.length ec] 45) = w1 at *
  clear hw1
  have hks : KS w1 w.heap.size (.slice mo f.msgs.length mc) (.slice eo f.enums.length ec) w1 := ⟨Up.refl _, cell_of_row w1 _ 0 _ _ _ hb0, cell_of_row w1 _ 1 _ _ _ hb0⟩
  have Hks := Lib.hid hks; have Hu0 := Lib.hid hu0; clear hb0 hks hu0
  have Hwl := Lib.hid (fun wx (u : Up w1 wx) => wrong_l _ f wx (Hf.out.up (Hu0.out.trans u)))
  have Hwr := Lib.hid (fun wx (u : Up w1 wx) => wrong_r _ f wx (Hf.out.up (Hu0.out.trans u)) hle)
  have Hml := Lib.hid (fun wx (u : Up w1 wx) => find_msg_l _ f s wx (Hf.out.up (Hu0.out.trans u)))
  have Hmr := Lib.hid (fun wx (u : Up w1 wx) => find_msg_r _ f s wx (Hf.out.up (Hu0.out.trans u)))
  have Hel := Lib.hid (fun wx (u : Up w1 wx) => find_enu_l _ f s wx (Hf.out.up (Hu0.out.trans u)))
  have Her := Lib.hid (fun wx (u : Up w1 wx) => find_enu_r _ f s wx (Hf.out.up (Hu0.out.trans u)))
  have Hll := Lib.hid (fun wx (u : Up w1 wx) => link_l _ f wx (Hf.out.up (Hu0.out.trans u)) Hs.out)
  have Hlr := Lib.hid (fun wx (u : Up w1 wx) => link_r _ f wx (Hf.out.up (Hu0.out.trans u)) Hs.out)
  generalize wrongN f = wn at *
  generalize idxP (fun x => x.name == s) f.msgs = im at *
  generalize idxP (fun x => x.name == s) f.enums = ie at *
  generalize linkN f = ln at *
  obtain ⟨fl, er, at_⟩ := ln
  obtain ⟨wn1, wn2⟩ := wn
  clear hle
  simp only at Hwl Hwr Hll Hlr
  go_region_held3 (fun w' => Up w1 w' ∧ w'.cell? ⟨w.heap.size, 0, none⟩ = some (.slice mo f.msgs.length mc) ∧ w'.cell? ⟨w.heap.size, 1, none⟩ = some (.slice eo f.enums.length ec))
    (first | (exact KS.up Hks.out ((Up.refl w1).drew)) | (exact hkn))
    (first
      | (go_at_call 18; refine (Hwl.out _ (And.left (by assumption : KS w1 w.heap.size (.slice mo f.msgs.length mc) (.slice eo f.enums.length ec) _))).mono ?_; rintro e wn ⟨rfl, hun⟩; have hkn : KS w1 w.heap.size (.slice mo f.msgs.length mc) (.slice eo f.enums.length ec) wn := KS.up (by assumption) hun; have Hkn := Lib.hid hkn)
      | (go_at_call 19; refine (Hwr.out _ (And.left (by assumption : KS w1 w.heap.size (.slice mo f.msgs.length mc) (.slice eo f.enums.length ec) _))).mono ?_; rintro e wn ⟨rfl, hun⟩; have hkn : KS w1 w.heap.size (.slice mo f.msgs.length mc) (.slice eo f.enums.length ec) wn := KS.up (by assumption) hun; have Hkn := Lib.hid hkn)
      | (go_at_call 20; refine (Hml.out _ (And.left (by assumption : KS w1 w.heap.size (.slice mo f.msgs.length mc) (.slice eo f.enums.length ec) _))).mono ?_; rintro e wn ⟨rfl, hun⟩; have hkn : KS w1 w.heap.size (.slice mo f.msgs.length mc) (.slice eo f.enums.length ec) wn := KS.up (by assumption) hun; have Hkn := Lib.hid hkn)
      | (go_at_call 21; refine (Hmr.out _ (And.left (by assumption : KS w1 w.heap.size (.slice mo f.msgs.length mc) (.slice eo f.enums.length ec) _))).mono ?_; rintro e wn ⟨rfl, hun⟩; have hkn : KS w1 w.heap.size (.slice mo f.msgs.length mc) (.slice eo f.enums.length ec) wn := KS.up (by assumption) hun; have Hkn := Lib.hid hkn)
      | (go_at_call 22; refine (Hel.out _ (And.left (by assumption : KS w1 w.heap.size (.slice mo f.msgs.length mc) (.slice eo f.enums.length ec) _))).mono ?_; rintro e wn ⟨rfl, hun⟩; have hkn : KS w1 w.heap.size (.slice mo f.msgs.length mc) (.slice eo f.enums.length ec) wn := KS.up (by assumption) hun; have Hkn := Lib.hid hkn)
      | (go_at_call 23; refine (Her.out _ (And.left (by assumption : KS w1 w.heap.size (.slice mo f.msgs.length mc) (.slice eo f.enums.length ec) _))).mono ?_; rintro e wn ⟨rfl, hun⟩; have hkn : KS w1 w.heap.size (.slice mo f.msgs.length mc) (.slice eo f.enums.length ec) wn := KS.up (by assumption) hun; have Hkn := Lib.hid hkn))
  all_goals
    obtain ⟨hu1, k0, k1⟩ := Hkn.out
    clear Hwl Hwr Hml Hmr Hel Her
    go_wp2_with fail
    refine (Hll.out _ hu1).mono ?_
    rintro e w2 ⟨v2, rfl, hf2, hu2⟩
    have Hf2 := Lib.hid hf2
    obtain ⟨vm2, ve2, rfl, hm2, he2⟩ := hf2
    obtain ⟨mo2, mc2, rfl, _, _⟩ := hm2.val
    obtain ⟨eo2, ec2, rfl, _, _⟩ := he2.val
    have k0 := hu2.cell_some k0; have k1 := hu2.cell_some k1
    have Hu2 := Lib.hid (hu1.trans hu2)
    clear hm2 he2 hu2 hu1
    go_upto_region 4 with (fail)
    have hb5 : ((w2.alloc (.cells #[.slice mo2 fl.msgs.length mc2, .slice eo2 fl.enums.length ec2] 45)).alloc (.cells #[.int .i64 er, .int .i64 (at_ : Int)] 34)).heap[w2.heap.size]? = some (.cells #[.slice mo2 fl.msgs.length mc2, .slice eo2 fl.enums.length ec2] 45 (0, 0)) := blk_old _ (blk_new w2 _ rfl)
    have hb6 : ((w2.alloc (.cells #[.slice mo2 fl.msgs.length mc2, .slice eo2 fl.enums.length ec2] 45)).alloc (.cells #[.int .i64 er, .int .i64 (at_ : Int)] 34)).heap[w2.heap.size + 1]? = some (.cells #[.int .i64 er, .int .i64 (at_ : Int)] 34 (0, 0)) := blk_new (w2.alloc _) _ (by simp)
    have hua : Up w2 ((w2.alloc (.cells #[.slice mo2 fl.msgs.length mc2, .slice eo2 fl.enums.length ec2] 45)).alloc (.cells #[.int .i64 er, .int .i64 (at_ : Int)] 34)) := ((Up.refl w2).alloc _).alloc _
    generalize hwa : (w2.alloc (.cells #[.slice mo2 fl.msgs.length mc2, .slice eo2 fl.enums.length ec2] 45)).alloc (.cells #[.int .i64 er, .int .i64 (at_ : Int)] 34) = wa at *
    clear hwa
    have k0 := hua.cell_some k0; have k1 := hua.cell_some k1
    have Hb5 := Lib.hid hb5; have Hb6 := Lib.hid hb6; have Hua := Lib.hid hua; clear hb5 hb6 hua
    go_wp2_with fail
    refine (Hlr.out _ (Hu2.out.trans Hua.out)).mono ?_
    rintro e w3 ⟨v3, rfl, hf3, hu3⟩
    have Hf3 := Lib.hid hf3
    obtain ⟨vm3, ve3, rfl, hm3, he3⟩ := hf3
    obtain ⟨mo3, mc3, rfl, _, _⟩ := hm3.val
    obtain ⟨eo3, ec3, rfl, _, _⟩ := he3.val
    have a0 : w3.cell? ⟨w2.heap.size, 0, none⟩ = some (.slice mo2 fl.msgs.length mc2) := cell_of_row w3 _ 0 _ _ _ (hu3.blk Hb5.out)
    have a1 : w3.cell? ⟨w2.heap.size, 1, none⟩ = some (.slice eo2 fl.enums.length ec2) := cell_of_row w3 _ 1 _ _ _ (hu3.blk Hb5.out)
    have b0 : w3.cell? ⟨w2.heap.size + 1, 0, none⟩ = some (.int .i64 er) := cell_of_row w3 _ 0 _ _ _ (hu3.blk Hb6.out)
    have b1 : w3.cell? ⟨w2.heap.size + 1, 1, none⟩ = some (.int .i64 (at_ : Int)) := cell_of_row w3 _ 1 _ _ _ (hu3.blk Hb6.out)
    have Hu3 := Lib.hid hu3
    have zs : w2.heap.size + 1 < w3.heap.size := lt_of_block (hu3.blk Hb6.out)
    have zs2 : w2.heap.size < w3.heap.size := by omega
    clear hm3 he3 hu3 k0 k1
    go_wp2_with fail
    (with_reducible refine (samefile_r _ _ fl _ ?_ ?_).mono ?_)
    · exact Hf2.out.up (Hua.out.trans (((Hu3.out).alloc _).alloc _))
    · exact Hf3.out.up (((Up.refl w3).alloc _).alloc _)
    · rintro e w4 ⟨rfl, hu4⟩
      go_wp2_with fail
      go_ret
      exact ⟨rfl, Hu0.out.trans (Hu2.out.trans (Hua.out.trans ((((Hu3.out).alloc _).alloc _).trans hu4)))⟩
end Go.Proofs.Ytplgegffapikoaa
