/-
  (*reader).add: a value comes to a body.
-/
import Derived.Test.YtbceapeoknngnaaGreatDoorTx33
import Derived.Test.YtbceapeoknngnaaGreatDoorTx34
set_option linter.unusedVariables false
namespace Go.Proofs.YtbceapeoknngnaaGreatDoor
open Go.RowKit
theorem radd_n (k A B : Nat) (d : Nat) (S : Nat → Prop) (f : Fil) (fs : List Fld) (b : Bod) (x : Fld) (v : Val) (sm : ByteArray) (fa ba va ua e1 e2 e3 : Option Addr) (nf fc nb bc vc uc h1 h2 h3 cb fb bf fo : Nat) (w : World) (ih : RJoinC k f)
   (chk : ChkAt w cb fb f) (flds : RdS DFld 6 All w (.slice fa nf fc) fs) (vals : RdS (DValD d) 4 S w (.slice va b.values.length vc) b.values) (bsz : BodSz b) (fld : FldAt w bf fo x)
   (val : DValD d S w v [.int .i64 v.1, .slice e1 v.2.1.length h1, .slice e2 v.2.2.1.length h2, .slice e3 v.2.2.2.length h3]) (num : v.1 = x.number) (vlen : v.2.1.length ≤ 5000 ∧ v.2.2.1.length ≤ 5000 ∧ v.2.2.2.length ≤ 5000) (b16 : b.values.length ≤ 16)
   (hall : AllV (wrongB f k) f fs b.values) (hx : fldN fs x.number = some x) (ht : typedN f x = 0) (hv : FitV (wrongB f k) f x v) (uo : ∀ o, findV b.values x.number = some o → ∀ s ∈ o.2.2.2, UnkLe A k s) (uv : ∀ s ∈ v.2.2.2, UnkLe B k s) (hAB : A + B ≤ 100000) :
   Calls Tryz.prog 71 #[.pointer (some ⟨cb, 0, none⟩), .agg #[.string sm, .slice fa nf fc, .slice ba nb bc], .agg #[.slice va b.values.length vc, .slice ua b.unknown.length uc], .pointer (some ⟨bf, fo, none⟩), .agg #[.int .i64 v.1, .slice e1 v.2.1.length h1, .slice e2 v.2.2.1.length h2, .slice e3 v.2.2.2.length h3]] w fun e w' => ∃ vv vu, e = .returned (.tuple #[.agg #[vv, vu], .int .i64 (addC (joinK f 12) f fs b x v).2]) ∧ ((addC (joinK f 12) f fs b x v).2 = 0 → vu = .slice ua b.unknown.length uc) ∧ RdS (DValD d) 4 (Sx S w) w' vv (addC (joinK f 12) f fs b x v).1.values ∧ ((addC (joinK f 12) f fs b x v).2 ≠ 0 → vu = .slice none 0 0) ∧ Up w w' := by
 have hfit : ∀ o, findV b.values x.number = some o → wrongVF (wrongB f k) f x o = 0 := fun o ho => by
   obtain ⟨hom, hon⟩ := findV_mem ho; obtain ⟨y, hy, hwo⟩ := hall.fld o hom; rw [hon, hx] at hy; obtain rfl := Option.some.inj hy; exact hwo
 have H : AddH d S f fs b x v sm fa ba va ua e1 e2 e3 nf fc nb bc vc uc h1 h2 h3 cb fb bf fo w := ⟨chk, flds, vals, bsz, fld, val, num, vlen, fun o ho => by
   obtain ⟨g1, g2, g3⟩ := wrongVF_iff.1 (hfit o ho); have := count_sum g1.cnt; omega, hall.ris, b16⟩
 unfold addC
 cases ho : findV b.values x.number with
 | none => exact radd_plain d S f fs b x v sm fa ba va ua e1 e2 e3 nf fc nb bc vc uc h1 h2 h3 cb fb bf fo w H (.inl ho)
 | some o =>
   simp only
   cases hm : x.many with
   | true =>
     rw [if_pos rfl]; exact radd_many d S f fs b x v sm fa ba va ua e1 e2 e3 nf fc nb bc vc uc h1 h2 h3 cb fb bf fo w H o ho hm
   | false =>
     rw [if_neg (by decide)]
     by_cases hk : x.kind = 10
     · rw [if_pos hk]; exact radd_sub k A B d S f fs b x v sm fa ba va ua e1 e2 e3 nf fc nb bc vc uc h1 h2 h3 cb fb bf fo w ih H o ho hm hk (wrongVF_iff.1 (hfit o ho)).1 hv (uo o ho) uv hAB ((typed_facts ht).2.2.1 hk)
     · rw [if_neg hk]; exact radd_plain d S f fs b x v sm fa ba va ua e1 e2 e3 nf fc nb bc vc uc h1 h2 h3 cb fb bf fo w H (.inr ⟨hm, hk⟩)
theorem radd_c (k A B : Nat) (d : Nat) (S : Nat → Prop) (f : Fil) (fs : List Fld) (b : Bod) (x : Fld) (v : Val) (sm : ByteArray) (fa ba va ua e1 e2 e3 : Option Addr) (nf fc nb bc vc uc h1 h2 h3 cb fb bf fo : Nat) (w : World) (ih : RJoinC k f) (hjn : JnOk (wrongB f k) (joinB f k) (joinK f 12))
   (chk : ChkAt w cb fb f) (flds : RdS DFld 6 All w (.slice fa nf fc) fs) (vals : RdS (DValD d) 4 S w (.slice va b.values.length vc) b.values) (unks : RdS DRecZ 4 S w (.slice ua b.unknown.length uc) b.unknown) (bsz : BodSz b) (fld : FldAt w bf fo x)
   (val : DValD d S w v [.int .i64 v.1, .slice e1 v.2.1.length h1, .slice e2 v.2.2.1.length h2, .slice e3 v.2.2.2.length h3]) (num : v.1 = x.number) (vlen : v.2.1.length ≤ 5000 ∧ v.2.2.1.length ≤ 5000 ∧ v.2.2.2.length ≤ 5000) (b16 : b.values.length ≤ 16)
   (hall : AllV (wrongB f k) f fs b.values) (hx : fldN fs x.number = some x) (ht : typedN f x = 0) (hv : FitV (wrongB f k) f x v) (uo : ∀ o, findV b.values x.number = some o → ∀ s ∈ o.2.2.2, UnkLe A k s) (uv : ∀ s ∈ v.2.2.2, UnkLe B k s) (hAB : A + B ≤ 100000) :
   Calls Tryz.prog 71 #[.pointer (some ⟨cb, 0, none⟩), .agg #[.string sm, .slice fa nf fc, .slice ba nb bc], .agg #[.slice va b.values.length vc, .slice ua b.unknown.length uc], .pointer (some ⟨bf, fo, none⟩), .agg #[.int .i64 v.1, .slice e1 v.2.1.length h1, .slice e2 v.2.2.1.length h2, .slice e3 v.2.2.2.length h3]] w fun e w' => ∃ vv vu, e = .returned (.tuple #[.agg #[vv, vu], .int .i64 (addC (joinK f 12) f fs b x v).2]) ∧ ((addC (joinK f 12) f fs b x v).2 = 0 → vu = .slice ua b.unknown.length uc) ∧ DBodF (d + 1) (Sx S w) w' (addC (joinK f 12) f fs b x v).1 [vv, vu] ∧ Up w w' := by
 refine (radd_n k A B d S f fs b x v sm fa ba va ua e1 e2 e3 nf fc nb bc vc uc h1 h2 h3 cb fb bf fo w ih chk flds vals bsz fld val num vlen b16 hall hx ht hv uo uv hAB).mono ?_; rintro e w' ⟨vv, vu, rfl, g1, g2, g3, hu⟩; (have hx2 : fldN fs v.1 = some x := by rw [num]; exact hx); refine ⟨vv, vu, rfl, g1, ?_, hu⟩; rcases add_ok hjn hall hx2 hv with ⟨k1, k2, k3⟩ | ⟨k1, k2⟩
 · rw [k3] at g1 g2 ⊢; obtain rfl := g1 rfl; refine ⟨_, _, rfl, g2, unks.keep stable_recz (fun q hs hq => ⟨hu.block q hq, .inl hs⟩), ?_, bsz.2⟩; have := set_len fs b.values (bothV (joinB f k) f x (findV b.values v.1) v); show (setV fs b.values _).length * 80 ≤ _; omega
 · rw [k2] at g2 g3 ⊢; obtain rfl := g3 (by simp); exact ⟨_, _, rfl, g2, rdS_nil _ _ _ _, by simp [bod0, Bod.values], by simp [bod0, Bod.unknown]⟩
theorem joinK_loop {f : Fil} (hright : (wrongN f).1 = 0) {k : Nat} (hk : k + 1 ≤ 12) {msg : Int} {m : Msg} (hm : f.msgs[msg.toNat]? = some m) {a b : Bod} (ha : wrongB f (k + 1) msg a = 0) (hb : wrongB f (k + 1) msg b = 0) :
   joinK f 12 msg a b = (if (joinL (addC (joinK f 12) f m.fields) m.fields b.values a).2 ≠ 0 then (bod0, (joinL (addC (joinK f 12) f m.fields) m.fields b.values a).2) else (.mk (joinL (addC (joinK f 12) f m.fields) m.fields b.values a).1.values ((joinL (addC (joinK f 12) f m.fields) m.fields b.values a).1.unknown ++ b.unknown), 0)) := by
 have hmr := right_msg hright m (List.mem_of_getElem? hm); have hch : ∀ z ∈ m.fields, 0 ≤ z.choice := fun z hz => (choice_16 hmr hz).1; obtain ⟨hA, uA⟩ := (wrongB_is (k := k) hm hch a).1 ha; obtain ⟨hB, uB⟩ := (wrongB_is (k := k) hm hch b).1 hb
 have e : joinK f 12 msg a b = (if (joinL (addC (joinK f 11) f m.fields) m.fields b.values a).2 ≠ 0 then (bod0, (joinL (addC (joinK f 11) f m.fields) m.fields b.values a).2) else (.mk (joinL (addC (joinK f 11) f m.fields) m.fields b.values a).1.values ((joinL (addC (joinK f 11) f m.fields) m.fields b.values a).1.unknown ++ b.unknown), 0)) := by
   rw [show (12 : Nat) = 11 + 1 from rfl, joinK, hm]
 have h1 := joinL_ok hch (joinK_ok hright k 11 (by omega)) b.values a hA hB; have h2 := joinL_ok hch (joinK_ok hright k 12 (by omega)) b.values a hA hB
 have h3 : joinL (addC (joinK f 11) f m.fields) m.fields b.values a = joinL (addC (joinK f 12) f m.fields) m.fields b.values a := by
   rcases h1 with ⟨g1, g2⟩ | ⟨g1, g2⟩
   · rcases h2 with ⟨k1, k2⟩ | ⟨k1, k2⟩
     · rw [g2, k2]
     · exact absurd g1 k1
   · rcases h2 with ⟨k1, k2⟩ | ⟨k1, k2⟩
     · exact absurd k1 g1
     · rw [g2, k2]
 rw [e, h3]
theorem all_len {wb : Int → Bod → Int} {f : Fil} {fs : List Fld} {l : List Val} (hch : ∀ z ∈ fs, 0 ≤ z.choice) (h : AllV wb f fs l) : l.length ≤ fs.length := vals_le ((allV_iff hch).2 h)
end Go.Proofs.YtbceapeoknngnaaGreatDoor
