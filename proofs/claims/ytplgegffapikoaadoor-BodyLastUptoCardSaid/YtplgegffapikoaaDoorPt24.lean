/-
  A region that draws its order, and whose last operation waits for all the others: the last one by itself.
-/
import Derived.Test.YtplgegffapikoaaDoorProg
import Derived.StillTail
import Derived.OrdersHeld
set_option linter.unusedVariables false
namespace Go.Proofs.YtplgegffapikoaaDoor
section
variable {P : Program} {ops : Array Oper} {md : Region.Mode} {Q : Exit → Act → World → Prop}
/-- What is asked behind all operations but number m. -/
def AskLast (P : Program) (ops : Array Oper) (m : Nat) (Q : Exit → Act → World → Prop) : Exit → Act → World → Prop := fun e a w => match e with
  | .normal => wpOp P ops Q m (Q .normal) a w
  | e => Q e a w
theorem AskLast.normal {m : Nat} {a : Act} {w : World} (h : wpOp P ops Q m (Q .normal) a w) : AskLast P ops m Q .normal a w := h
theorem wpOp_ask {m i : Nat} {K : Act → World → Prop} {a : Act} {w : World} (h : wpOp P ops (AskLast P ops m Q) i K a w) : wpOp P ops Q i K a w := by
  unfold wpOp at *
  split
  · rename_i hn; simp only [hn] at h; exact h
  · rename_i o ho
    simp only [ho] at h
    split
    · rename_i hw
      simp only [hw, if_true] at h
      rcases h with h | h
      · refine .inl ?_
        unfold Oper.wp at h ⊢
        generalize (execOp a.eval o).run P w = r at *
        cases r with
        | ok n w' => cases n <;> exact h
        | halt x w' => cases x <;> exact h
      · exact .inr h
    · rename_i hw
      rw [if_neg hw] at h
      exact h
theorem unlisted_low {m : Nat} {listed : Array Bool} (hdep : ∀ (j : Nat) (oj : Oper), ops[j]? = some oj → ∀ e ∈ oj.after, Region.binds md e = true → e.on < j) (hsz : listed.size = ops.size)
    (hr : ∀ i, i ≠ m → i ∉ Region.ready md ops listed) (hno : ∀ (j : Nat) (oj : Oper), ops[j]? = some oj → ∀ e ∈ oj.after, Region.binds md e = true → e.on ≠ m) :
    ∀ i, i < ops.size → i ≠ m → listed.getD i false = true := by
  intro i
  induction i using Nat.strongRecOn with
  | _ i ih =>
    intro hi him
    cases hl : listed.getD i false with
    | true => rfl
    | false =>
      refine absurd (mem_ready.2 ⟨getD_in (by omega) hl, ops[i], by simp [hi], fun e he hb => ?_⟩) (hr i him)
      have h1 := hdep i ops[i] (by simp [hi]) e he hb
      exact ih e.on h1 (by omega) (hno i ops[i] (by simp [hi]) e he hb)
/-- The last one by itself. -/
theorem wpAny_last {m : Nat} (hm : m + 1 = ops.size) (hs : Region.sinkB md ops m = true) (hc : Region.chainB md ops m = true) (hdep : ∀ (j : Nat) (oj : Oper), ops[j]? = some oj → ∀ e ∈ oj.after, Region.binds md e = true → e.on < j) :
    ∀ (f : Nat) (listed : Array Bool) (a : Act) (w : World), HeadInv md ops m listed → wpAny P md ops (AskLast P ops m Q) f (listed.setIfInBounds m true) a w → wpAny P md ops Q (f + 1) listed a w := by
  have hno : ∀ (j : Nat) (oj : Oper), ops[j]? = some oj → ∀ e ∈ oj.after, Region.binds md e = true → e.on ≠ m := fun j oj hj e he hb => by
    have h1 := hdep j oj hj e he hb
    have h2 := (Array.getElem?_eq_some_iff.1 hj).1
    omega
  have hback : ∀ (listed : Array Bool) (i : Nat), i ≠ m → i ∈ Region.ready md ops (listed.setIfInBounds m true) → i ∈ Region.ready md ops listed := fun listed i him h => by
    obtain ⟨h0, o, ho, hall⟩ := mem_ready.1 h
    refine mem_ready.2 ⟨by rw [getD_set_ne true (Ne.symm him)] at h0; exact h0, o, ho, fun e he hb => ?_⟩
    have := hall e he hb
    rw [getD_set_ne false (Ne.symm (hno i o ho e he hb))] at this
    exact this
  have hself : ∀ (listed : Array Bool), listed.size = ops.size → m ∉ Region.ready md ops (listed.setIfInBounds m true) := fun listed hsz h => by
    have h0 := (mem_ready.1 h).1
    simp [show m < listed.size by omega] at h0
  have hdone : ∀ (listed : Array Bool), HeadInv md ops m listed → m ∈ Region.ready md ops listed → Region.ready md ops (listed.setIfInBounds m true) = [] := fun listed inv hmr => by
    refine List.eq_nil_iff_forall_not_mem.2 fun i hi => ?_
    have him : i ≠ m := fun e => hself listed inv.size (e ▸ hi)
    obtain ⟨hun, o, ho, _⟩ := mem_ready.1 (hback listed i him hi)
    have hlt := (Array.getElem?_eq_some_iff.1 ho).1
    exact tail_waits hs hc (by omega) inv _ i rfl (by omega) hun m (Nat.le_refl _) hmr
  have hall : ∀ (listed : Array Bool), HeadInv md ops m listed → Region.ready md ops (listed.setIfInBounds m true) = [] → m ∈ Region.ready md ops listed := fun listed inv hr => by
    have hlow := unlisted_low (listed := listed) hdep inv.size (fun i him hi => by
      have := ready_mono hi him
      rw [hr] at this; cases this) hno
    refine mem_ready.2 ⟨inv.tail m (Nat.le_refl _) (by omega), ops[m], by simp [show m < ops.size by omega], fun e he hb => ?_⟩
    have h1 := hdep m ops[m] (by simp [show m < ops.size by omega]) e he hb
    exact hlow e.on (by omega) (by omega)
  have hend : ∀ (f : Nat) (listed : Array Bool) (a : Act) (w : World), HeadInv md ops m listed → m ∈ Region.ready md ops listed → wpAny P md ops (AskLast P ops m Q) f (listed.setIfInBounds m true) a w → wpOp P ops Q m (wpAny P md ops Q f (listed.setIfInBounds m true)) a w := fun f listed a w inv hmr h => by
    have hr := hdone listed inv hmr
    have hq : AskLast P ops m Q .normal a w := by
      cases f with
      | zero => exact h.2
      | succ f => exact h.1 hr
    refine wpOp_mono (fun a' w' h' => ?_) (show wpOp P ops Q m (Q .normal) a w from hq)
    cases f with
    | zero => exact ⟨hr, h'⟩
    | succ f => exact ⟨fun _ => h', fun i hi => by rw [hr] at hi; cases hi⟩
  intro f
  induction f with
  | zero =>
    intro listed a w inv h
    have hmr := hall listed inv h.1
    refine ⟨fun h0 => (by rw [h0] at hmr; cases hmr), fun i hi => ?_⟩
    by_cases him : i = m
    · subst him; exact hend 0 listed a w inv hmr h
    · have := ready_mono hi him
      rw [h.1] at this; cases this
  | succ f ih =>
    intro listed a w inv h
    refine ⟨fun h0 => ?_, fun i hi => ?_⟩
    · have : Region.ready md ops (listed.setIfInBounds m true) = [] := List.eq_nil_iff_forall_not_mem.2 fun i hi => by
        have him : i ≠ m := fun e => hself listed inv.size (e ▸ hi)
        have := hback listed i him hi
        rw [h0] at this; cases this
      have := hall listed inv this
      rw [h0] at this; cases this
    · by_cases him : i = m
      · subst him; exact hend (f + 1) listed a w inv hi h
      · have hi2 := ready_mono hi him
        have hlt : i < ops.size := by obtain ⟨_, o, ho, _⟩ := mem_ready.1 hi; exact (Array.getElem?_eq_some_iff.1 ho).1
        refine wpOp_ask (m := m) (wpOp_mono (fun a' w' h' => ih _ a' w' (inv.set hi (by omega)) ?_) (h.2 i hi2))
        rw [Array.setIfInBounds_comm _ _ him]
        exact h'
/-- A region, but for its last operation under S. -/
theorem wp_region_last {S : World → Prop} {id m : Nat} {a : Act} {w : World} (hf : P.follows .mixedOrders = true) (hm : m + 1 = ops.size) (hs : Region.sinkB .any ops m = true) (hc : Region.chainB .any ops m = true)
    (hdep : (List.range ops.size).all (fun j => match ops[j]? with | some oj => oj.after.all (fun e => !Region.binds .any e || decide (e.on < j)) | none => true) = true)
    (h : wpAnyH P .any ops (AskLast P ops m Q) S m ((Array.replicate ops.size false).setIfInBounds m true) a { w with drawn := w.drawn + 1 }) : (Code.region id ops true).wp P Q a w := by
  have hd : ∀ (j : Nat) (oj : Oper), ops[j]? = some oj → ∀ e ∈ oj.after, Region.binds .any e = true → e.on < j := fun j oj hj e he hb => by
    have h1 := List.all_eq_true.1 hdep j (List.mem_range.2 (Array.getElem?_eq_some_iff.1 hj).1)
    rw [hj] at h1
    have h2 := (Array.all_eq_true_iff_forall_mem.1 h1) e he
    simp only [hb, Bool.not_true, Bool.false_or, decide_eq_true_eq] at h2
    exact h2
  refine wp_region_any hf ?_
  rw [← hm]
  rw [← hm] at h
  exact wpAny_last hm hs hc hd m _ a _ ⟨by simp [hm], fun j oj _ hl => (by rw [getD_replicate_false] at hl; cases hl), fun t _ ht => getD_in (by simp; omega) (getD_replicate_false _ _)⟩ (wpAny_of_held _ _ _ _ h)
end
end Go.Proofs.YtplgegffapikoaaDoor
