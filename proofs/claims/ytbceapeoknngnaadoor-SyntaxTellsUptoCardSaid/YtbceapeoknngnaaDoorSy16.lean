/-
  What strconv.Atoi makes of digits.
-/
import Derived.Test.YtbceapeoknngnaaDoorSy14
import Derived.Test.YtbceapeoknngnaaDoorSy15
set_option linter.unusedVariables false
namespace Go.Proofs.YtbceapeoknngnaaDoor
open Go.RowKit
def decF (n : Nat) (c : UInt8) : Nat := 10 * n + (c.toNat - 48)
theorem decV_eq (l : List UInt8) : decV l = l.foldl decF 0 := rfl
theorem dec_ge : ∀ (l : List UInt8) (n : Nat), n ≤ l.foldl decF n
 | [], n => Nat.le_refl _
 | c :: l, n => by
   rw [List.foldl_cons]; have := dec_ge l (decF n c); unfold decF at this ⊢; omega
theorem pu_dig : ∀ (l : List UInt8) (n : Nat), (∀ c ∈ l, digitB c = true) → n < 18446744073709551616 → Lib.parseUint10 n l = if l.foldl decF n < 18446744073709551616 then .ok (l.foldl decF n) else .range
 | [], n, _, h => by rw [List.foldl_nil, if_pos h]; rfl
 | c :: l, n, hd, h => by
   have hc := hd c (List.mem_cons_self ..); unfold digitB at hc; rw [decide_eq_true_eq] at hc; have hge := dec_ge l (decF n c); rw [Lib.parseUint10, if_pos hc, List.foldl_cons]; unfold decF at hge
   by_cases h1 : 1844674407370955162 ≤ n
   · rw [if_pos h1, if_neg (by unfold decF; omega)]
   · rw [if_neg h1]
     by_cases h2 : 18446744073709551616 ≤ n * 10 + (c.toNat - 48)
     · rw [if_pos h2, if_neg (by unfold decF; omega)]
     · rw [if_neg h2, pu_dig l _ (fun x hx => hd x (List.mem_cons_of_mem _ hx)) (by omega)]; unfold decF; rw [show n * 10 = 10 * n by omega]
theorem atoi_dig {d : List UInt8} (hd : ∀ c ∈ d, digitB c = true) (hn : d ≠ []) : Lib.atoiAll d = if decV d < 9223372036854775808 then .ok (decV d : Int) else .range := by
 cases d with
 | nil => exact absurd rfl hn
 | cons c r =>
   have hc := hd c (List.mem_cons_self ..); unfold digitB at hc; rw [decide_eq_true_eq] at hc; rw [Lib.atoiAll_plain c r (by omega) (by omega), Lib.parseMag, if_neg (by simp), pu_dig _ 0 hd (by omega), ← decV_eq]
   by_cases h : decV (c :: r) < 18446744073709551616
   · rw [if_pos h]
     by_cases h2 : decV (c :: r) < 9223372036854775808
     · rw [if_pos h2]; simp only [Lib.signless]; rw [if_neg (by omega)]
     · rw [if_neg h2]; simp only [Lib.signless]; rw [if_pos (by omega)]
   · rw [if_neg h, if_neg (by omega)]; rfl
def EvR (w : World) : Prop := ∃ tp p, w.cell? ⟨2, 0, none⟩ = some (.iface tp p)
theorem EvR.up {w w' : World} (h : EvR w) (hu : Up w w') : EvR w' := let ⟨t, p, hc⟩ := h; ⟨t, p, hu.cell_some hc⟩
theorem EvR.gr {g : Nat} {w w' : World} (h : EvR w) (hg : Gr g w w') (hne : 2 < g) : EvR w' := by
 obtain ⟨t, p, hc⟩ := h; exact ⟨t, p, World.grownBy.cell hg hc (fun e => by injection e with e; simp only at e; omega)⟩
theorem atoi_p (s : ByteArray) (hs : s.size ≤ 4611686018427) (hd : ∀ c ∈ s.data.toList, digitB c = true) (hn : s.data.toList ≠ []) (w : World) (hev : EvR w) :
   Calls Tryd.prog 45 #[.string s] w fun e w' => (∃ n er, e = .returned (.tuple #[.int .i64 n, er]) ∧ ((decV s.data.toList < 9223372036854775808 ∧ n = (decV s.data.toList : Int) ∧ er = .nilIface) ∨ (9223372036854775808 ≤ decV s.data.toList ∧ ∃ t p, er = .iface t p))) ∧ Up w w' := by
 have ha := atoi_dig hd hn
 by_cases h : decV s.data.toList < 9223372036854775808
 · rw [if_pos h] at ha; refine (Any.strconv_Atoi_ok Tryd.atoiL s (by omega) _ ha w).mono ?_; rintro e w' ⟨rfl, hw⟩; refine ⟨⟨_, _, rfl, .inl ⟨h, rfl, rfl⟩⟩, ?_⟩; rcases hw with rfl | ⟨t, rfl⟩
   · exact Up.refl _
   · exact Lib.bytesWorld_below _ _ _
 · rw [if_neg h] at ha; obtain ⟨tp, p, hc⟩ := hev; refine (Any.strconv_Atoi_range Tryd.atoiL s (by omega) ha _ w hc (.inr ⟨_, _, rfl⟩)).mono ?_; rintro e w' ⟨N, rfl, _, _, hu⟩; exact ⟨⟨_, _, rfl, .inr ⟨by omega, _, _, rfl⟩⟩, hu⟩
end Go.Proofs.YtbceapeoknngnaaDoor
