/-
  presslaw1.WireNumbers.
-/
import Derived.Test.YtplgegffapikoaaWireLaw
import Derived.Test.YtplgegffapikoaaPlainWire2
set_option linter.unusedVariables false
namespace Go.Proofs.Ytplgegffapikoaa
open Go.RowKit

theorem owns_cell {base e : Nat} {w : World} {ao : Option Addr} {n cap : Nat} {l : List UInt8} (h : w.ownsRow base e 1 (.slice ao n cap) l.length (B8 l)) {i : Nat} (hi : i < l.length) : ∃ g, ao = some ⟨g, 0, none⟩ ∧ w.cell? ⟨g, i, none⟩ = some (.int .u8 (l[i].toNat : Int)) := by
  obtain ⟨b, o, ha, hc⟩ := RdB.cell (rdB_of_owns (S := All) h (fun _ _ => trivial)) hi
  rcases h.2 with ⟨h0, _⟩ | ⟨g, cap', cur, h0, _⟩
  · simp at h0; rw [h0.1] at ha; cases ha
  · simp only [Value.slice.injEq] at h0
    rw [h0.1] at ha
    simp only [Option.some.injEq, Addr.mk.injEq, and_true] at ha
    obtain ⟨rfl, rfl⟩ := ha
    exact ⟨g, h0.1, by simpa using hc⟩

set_option maxRecDepth 100000 in
set_option maxHeartbeats 1600000 in
theorem numbers_any (n : Nat) (vm : Value) (m : List UInt8) (w : World) (hn : n < 2 ^ 64) (hm : RdB All w vm m) (hml : m.length ≤ 140737488351232) :
    Calls Try.prog 3 #[.int .u64 n, vm] w fun e w' => e = .returned (.bool true) ∧ Up w w' := by
  obtain ⟨ao, cap, rfl, hc1, hc2⟩ := hm.val
  have Hm := Lib.hid hm; clear hm
  have Hn := Lib.hid hn; clear hn
  have hl10 := Lib.uvarint_length64 Hn.out
  have hlast := uvarint_last (n + 1) n (by omega)
  have hget := get_put n m Hn.out
  have hpos := Lib.uvarint_pos n
  have Hlast := Lib.hid hlast; clear hlast
  have Hget := Lib.hid hget; clear hget
  go_enter Try.func3, Try.ntmps3
  go_wp2_with fail
  refine (alive_any _).mono ?_
  rintro e w1 ⟨rfl, hu1⟩
  go_wp2_with fail
  refine (put_own w1.heap.size _ [] n w1 Hn.out (by simp) (World.ownsRow_nil _ _ _ _) (Nat.le_refl _)).mono ?_
  rintro e w2 ⟨vb, rfl, how, hev⟩
  simp only [List.nil_append] at how
  have hu2 : Up w1 w2 := (Up.refl w1).evo hev (fun j hj => by simp [Value.ownBlock] at hj)
  obtain ⟨a2, c2, rfl, hc21, hc22⟩ := (rdB_of_owns (S := All) how (fun _ _ => trivial)).val
  have How := Lib.hid how; clear how hev
  have Hu12 := Lib.hid hu1; have Hu2 := Lib.hid hu2; clear hu1 hu2
  generalize hl : Lib.uvarint n = l at *
  have Hl := Lib.hid hl; clear hl
  have hrb := RdB.news (rdB_of_owns (S := All) How.out (fun _ _ => trivial))
  have Hrb := Lib.hid hrb; clear hrb
  have tok1 : True := trivial
  go_wp2_with (first
    | (at_builtin; clear tok1; go_must (refine wpList_app eU8 _ (by rfl) _ _ (by rfl) w2.heap.size _ 0 [] (by rfl) (World.ownsRow_lit w2 #[] 0 (Nat.le_refl _) (by unfold maxLen; omega) (by simp)) a2 l.length c2 (by rfl) (B8 l) (by simp [B8]) Hrb.out.2.1 (fun ad' h j u hu => (Up.alloc (Up.refl w2) _).cell_some (Hrb.out.2.2 ad' h j u hu)) (B8_one _) (by omega) (by unfold maxLen; omega) (by simp) ?_; intro v3 w3 how3 hev3; have hu3 := Lib.hid (((Up.refl w2).alloc _).evo hev3 (fun j hj => by simp [Value.ownBlock] at hj; omega)); have how3' : w3.ownsRow w2.heap.size 5 1 v3 l.length (B8 l) := (by simpa using how3); have How3 := Lib.hid how3'; clear how3 how3' hev3; have hz3 : w2.heap.size ≤ w3.heap.size := hu3.out.size; have Hnw := Lib.hid (RdB.news (Hm.out.up stable_u8 ((Hu12.out.trans Hu2.out).trans hu3.out)))))
    | (at_builtin; go_must (refine wpList_app eU8 _ (by rfl) _ _ (by rfl) w2.heap.size _ _ _ (by rfl) How3.out ao m.length cap (by rfl) (B8 m) (by simp [B8]) Hnw.out.2.1 Hnw.out.2.2 (B8_one _) (by omega) (by unfold maxLen; omega) (by omega) ?_; intro v4 w4 how4 (hev4 : Evo w3 w4 v3 v4); have hu4 := Lib.hid ((Up.refl w2).trans (Up.evo hu3.out hev4 (fun j hj => (How3.out.lt j hj).1))); rw [← B8_append] at how4; have How4 := Lib.hid how4; clear how4 hev4)))
  refine (get_eq v4 (l ++ m) w4 n l.length 0 Hget.out (rdB_of_owns (by rw [List.length_append]; exact How4.out) (fun _ _ => trivial))).mono ?_
  rintro e w5 ⟨rfl, rfl⟩
  obtain ⟨s, hS⟩ : ∃ s, wrap64 (n : Int) = s := ⟨_, rfl⟩
  have hs : -9223372036854775808 ≤ s ∧ s ≤ 9223372036854775807 := by rw [← hS]; unfold wrap64; omega
  have HS := Lib.hid hS; clear hS
  have Hz := Lib.hid (unzig_range Hn.out)
  have Hzl := Lib.hid (show Lib.zigzag s < 2 ^ 64 from Lib.zigzag_lt hs.1 hs.2)
  have Hs := Lib.hid hs; clear hs
  have z1 := unzig_zigzag s
  have z2 := zigzag_unzig n
  have hcell : 1 < l.length → ∃ g c, a2 = some ⟨g, 0, none⟩ ∧ w5.cell? ⟨g, l.length - 1, none⟩ = some (.int .u8 c) ∧ (c == 0) = false := fun h1 => by
    obtain ⟨g, ha, hc⟩ := owns_cell How.out (i := l.length - 1) (by omega)
    refine ⟨g, _, ha, hu4.out.cell_some hc, ?_⟩
    rw [beq_eq_false_iff_ne]
    intro e
    refine Hlast.out h1 ?_
    rw [List.getLast?_eq_getElem?, List.getElem?_eq_getElem (by omega), Option.some.injEq]
    apply UInt8.toNat_inj.1
    have : (0 : UInt8).toNat = 0 := rfl
    omega
  have Hcell := Lib.hid hcell; clear hcell
  have hsm : (-64 ≤ s ∧ s < 64 ∧ (Lib.uvarint (Lib.zigzag s)).length = 1) ∨ s < -64 ∨ (-64 ≤ s ∧ 64 ≤ s) := by
    by_cases h : -64 ≤ s ∧ s < 64
    · exact .inl ⟨h.1, h.2, zigzag_small h.1 h.2⟩
    · omega
  have hone : l.length ≤ 1 ∨ 1 < l.length := by omega
  rcases hone with h1 | h1
  · rcases hsm with ⟨s1, s2, z3⟩ | s1 | ⟨s1, s2⟩
    all_goals
      go_wp2_with fail
      rw [HS.out]
      go_wp2_with (first
        | (go_at_call 14; go_must (refine (fold_any _ _ (by first | exact Hs.out.1 | exact Hz.out.1) (by first | exact Hs.out.2 | exact Hz.out.2)).mono ?_; rintro e w6 ⟨rfl, rfl⟩))
        | (go_at_call 13; go_must (refine (open_any _ _ (by first | exact Hzl.out | exact Hn.out)).mono ?_; rintro e w6 ⟨rfl, rfl⟩))
        | (go_at_call 11; go_must (refine (put_own 0 _ [] _ _ Hzl.out (by simp) (World.ownsRow_nil _ _ _ _) (Nat.zero_le _)).mono ?_; rintro e w7 ⟨v7, rfl, how7, hev7⟩; simp only [List.nil_append] at how7; obtain ⟨a7, c7, rfl, _, _⟩ := (rdB_of_owns (S := All) how7 (fun _ _ => trivial)).val; have hu7 := Lib.hid (hu4.out.evo hev7 (fun j hj => by simp [Value.ownBlock] at hj)); clear how7 hev7)))
      go_ret
      first
        | exact ⟨ret_bool (by simp), (Hu12.out.trans Hu2.out).trans hu7.out⟩
        | exact ⟨ret_bool (by simp), (Hu12.out.trans Hu2.out).trans hu4.out⟩
  · obtain ⟨g, c, rfl, hc, hc0⟩ := Hcell.out h1
    rcases hsm with ⟨s1, s2, z3⟩ | s1 | ⟨s1, s2⟩
    all_goals
      go_wp2_with fail
      rw [HS.out]
      go_wp2_with (first
        | (go_at_call 14; go_must (refine (fold_any _ _ (by first | exact Hs.out.1 | exact Hz.out.1) (by first | exact Hs.out.2 | exact Hz.out.2)).mono ?_; rintro e w6 ⟨rfl, rfl⟩))
        | (go_at_call 13; go_must (refine (open_any _ _ (by first | exact Hzl.out | exact Hn.out)).mono ?_; rintro e w6 ⟨rfl, rfl⟩))
        | (go_at_call 11; go_must (refine (put_own 0 _ [] _ _ Hzl.out (by simp) (World.ownsRow_nil _ _ _ _) (Nat.zero_le _)).mono ?_; rintro e w7 ⟨v7, rfl, how7, hev7⟩; simp only [List.nil_append] at how7; obtain ⟨a7, c7, rfl, _, _⟩ := (rdB_of_owns (S := All) how7 (fun _ _ => trivial)).val; have hu7 := Lib.hid (hu4.out.evo hev7 (fun j hj => by simp [Value.ownBlock] at hj)); clear how7 hev7)))
      go_ret
      first
        | exact ⟨ret_bool (by simp), (Hu12.out.trans Hu2.out).trans hu7.out⟩
        | exact ⟨ret_bool (by simp), (Hu12.out.trans Hu2.out).trans hu4.out⟩
end Go.Proofs.Ytplgegffapikoaa
