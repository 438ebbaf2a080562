/-
  A file in a box of Parse's own.
-/
import Derived.Test.YtbceapeoknngnaaDoorSy24
set_option linter.unusedVariables false
namespace Go.Proofs.YtbceapeoknngnaaDoor
open Go.RowKit
structure PF (s : ByteArray) (w : World) (F : Nat) (vm ve : Value) (ms : List Msg) (es : List Enu) (k : Nat) (wi : World) : Prop where
 pw : PW (F + 2) s k wi
 up : Up w wi
 om : OwnS DMsg (F + 3) 46 3 (fun b => F + 3 ≤ b ∧ ve.ownBlock ≠ some b) wi vm ms
 oe : OwnS DEnu (F + 3) 50 2 (fun b => F + 3 ≤ b ∧ vm.ownBlock ≠ some b) wi ve es
 dis : ∀ j, vm.ownBlock = some j → ve.ownBlock ≠ some j
 f : wi.heap[F]? = some (.cells #[vm, ve] 25 (0, 0))
 z : wi.heap[F + 1]? = some (.cells #[.int .i64 0, .int .i64 0] 28 (0, 0))
theorem own_evoS {α : Type} {D : Lay α} (hD : Stable D) {base : Nat} {e : TypeId} {size : Nat} {S S' : Nat → Prop} {wi wj : World} {v v' u : Value} {l : List α} (h : OwnS D base e size S wi u l) (hev : Evo wi wj v v') (hne : ∀ j, u.ownBlock = some j → v.ownBlock ≠ some j) (hS : ∀ k, S k → k < wi.heap.size → v.ownBlock ≠ some k ∧ S' k) : OwnS D base e size S' wj u l := by
 obtain ⟨css, h1, h2, h3⟩ := h; refine ⟨css, h1, h2.kept hev.grown ?_, fun i hi => ?_⟩
 · cases hu : u.ownBlock with
   | none => exact .inl rfl
   | some j => exact .inr (fun e => hne j hu e.symm)
 · obtain ⟨cs, h4, h5, h6⟩ := h3 i hi; exact ⟨cs, h4, h5, hD _ _ _ _ _ _ (fun k hs hk => ⟨hev.grown.block k hk (fun e => (hS k hs.1 hk).1 e.symm), (hS k hs.1 hk).2, hs.2⟩) h6⟩
section
variable {s : ByteArray} {w : World} {F : Nat} {vm ve : Value} {ms : List Msg} {es : List Enu} {k : Nat} {wi : World}
theorem PF.step (h : PF s w F vm ve ms es k wi) {wj : World} {k' : Nat} (hg : Gr (F + 2) wi wj) (hp : PW (F + 2) s k' wj) (hF : w.heap.size = F) : PF s w F vm ve ms es k' wj :=
 ⟨hp, hg.upv h.up (by omega), h.om.gr stable_msg hg (by omega) (fun h => by omega), h.oe.gr stable_enu hg (by omega) (fun h => by omega), h.dis, hg.blk h.f (by omega), hg.blk h.z (by omega)⟩
theorem PF.upto (h : PF s w F vm ve ms es k wi) {wj : World} (hu : Up wi wj) : PF s w F vm ve ms es k wj := ⟨h.pw.up hu, h.up.trans hu, h.om.up stable_msg hu, h.oe.up stable_enu hu, h.dis, hu.blk h.f, hu.blk h.z⟩
theorem PF.setAt (h : PF s w F vm ve ms es k wi) (n : Nat) (hF : w.heap.size = F) : PF s w F vm ve ms es n (wi.setCell ⟨F + 2, 1, none⟩ (.int .i64 n)) := h.step ((Gr.refl _ _).set _ _) (h.pw.set n) hF
theorem PF.lo (h : PF s w F vm ve ms es k wi) : (∀ j, vm.ownBlock = some j → F + 3 ≤ j ∧ j < wi.heap.size) ∧ ∀ j, ve.ownBlock = some j → F + 3 ≤ j ∧ j < wi.heap.size := ⟨h.om.lo, h.oe.lo⟩
theorem PF.snocM (h : PF s w F vm ve ms es k wi) {wj : World} {v' vf vb : Value} {x : Msg} {xs : List Value} (hxs : wi.ownsRow (F + 3) 46 3 vm ms.length xs) (how : wj.ownsRow (F + 3) 46 3 v' (ms.length + 1) (xs ++ [.string ⟨x.name.toArray⟩, vf, vb])) (hev : Evo wi wj vm v') {n : Nat} (hn : F + 3 ≤ n) (h1 : ∀ j, vm.ownBlock = some j → j < n) (h2 : ∀ j, ve.ownBlock = some j → j < n)
   (hf : RdS DFld 6 (fun b => n ≤ b) wi vf x.fields) (hb : RdS DInt 1 (fun b => n ≤ b) wi vb x.barred) (hx : x.name.length ≤ 16) (hF : w.heap.size = F) : PF s w F v' ve (ms ++ [x]) es k (wj.setCell ⟨F, 0, none⟩ v') := by
 have hlo := h.om.lo; (have hne : ∀ b, b ≤ F + 2 → vm.ownBlock ≠ some b := fun b hb e => by have := (hlo b e).1; omega); have hv' : ∀ j, v'.ownBlock = some j → vm.ownBlock = some j ∨ wi.heap.size ≤ j := hev.place
 have hn' : v'.ownBlock ≠ some F := fun e => by
   rcases hev.place _ e with h1 | h1
   · exact hne F (by omega) h1
   · have := lt_of_block h.f; omega
 (have hem : ve.ownBlock ≠ some F := fun e => by have := (h.oe.lo _ e).1; omega); have hup : Up w wj := h.up.evo hev (fun j e => by have := (hlo j e).1; omega); have hz : ((wj.setCell ⟨F, 0, none⟩ v')).heap[F + 1]? = some (.cells #[.int .i64 0, .int .i64 0] 28 (0, 0)) := (Below.heap_setCell wj ⟨F, 0, none⟩ v' (F + 1) (show F + 1 ≠ F by omega)).trans (hev.blk h.z (hne _ (by omega)))
 have hsn : OwnS DMsg (F + 3) 46 3 (fun b => F + 3 ≤ b ∧ ve.ownBlock ≠ some b) wj v' (ms ++ [x]) := by
   refine OwnS.snoc stable_msg h.om hxs how hev rfl ⟨vf, vb, rfl, hf.keep stable_fld (Keep.weak ?_), hb.keep stable_int (Keep.weak ?_), ?_⟩
   · exact fun b hb => ⟨⟨by omega, fun e => by have := h2 b e; omega⟩, fun e => by have := h1 b e; omega⟩
   · exact fun b hb => ⟨⟨by omega, fun e => by have := h2 b e; omega⟩, fun e => by have := h1 b e; omega⟩
   · show x.name.length ≤ _; omega
 refine ⟨PW.other (hev.blk h.pw (hne _ (by omega))) (show F ≠ F + 2 by omega) v', Up.setCell hup (p := ⟨F, 0, none⟩) (show w.heap.size ≤ F by omega) v', ?_, ?_, ?_, heap_setCell_same wj F 0 _ _ v' (hev.blk h.f (hne _ (by omega))), hz⟩
 · exact OwnS.setCell stable_msg (p := ⟨F, 0, none⟩) hsn hn' (fun h => by have := h.1; simp only at this; omega) v'
 · refine OwnS.setCell stable_enu (p := ⟨F, 0, none⟩) (own_evoS stable_enu h.oe hev (fun j e e2 => h.dis j e2 e) (fun j hs hj => ⟨hs.2, hs.1, fun e => ?_⟩)) hem (fun h => by have := h.1; simp only at this; omega) v'; rcases hv' j e with h3 | h3
   · exact hs.2 h3
   · omega
 · intro j e e2; rcases hv' j e with h3 | h3
   · exact h.dis j h3 e2
   · have := (h.oe.lo j e2).2; omega
theorem PF.snocE (h : PF s w F vm ve ms es k wi) {wj : World} {v' vi : Value} {x : Enu} {xs : List Value} (hxs : wi.ownsRow (F + 3) 50 2 ve es.length xs) (how : wj.ownsRow (F + 3) 50 2 v' (es.length + 1) (xs ++ [.string ⟨x.name.toArray⟩, vi])) (hev : Evo wi wj ve v') {n : Nat} (hn : F + 3 ≤ n) (h1 : ∀ j, vm.ownBlock = some j → j < n) (h2 : ∀ j, ve.ownBlock = some j → j < n)
   (hi : RdS DItm 2 (fun b => n ≤ b) wi vi x.items) (hx : x.name.length ≤ 16) (hF : w.heap.size = F) : PF s w F vm v' ms (es ++ [x]) k (wj.setCell ⟨F, 1, none⟩ v') := by
 have hlo := h.oe.lo; (have hne : ∀ b, b ≤ F + 2 → ve.ownBlock ≠ some b := fun b hb e => by have := (hlo b e).1; omega); have hv' : ∀ j, v'.ownBlock = some j → ve.ownBlock = some j ∨ wi.heap.size ≤ j := hev.place
 have hn' : v'.ownBlock ≠ some F := fun e => by
   rcases hev.place _ e with h1 | h1
   · exact hne F (by omega) h1
   · have := lt_of_block h.f; omega
 (have hem : vm.ownBlock ≠ some F := fun e => by have := (h.om.lo _ e).1; omega); have hup : Up w wj := h.up.evo hev (fun j e => by have := (hlo j e).1; omega); have hz : ((wj.setCell ⟨F, 1, none⟩ v')).heap[F + 1]? = some (.cells #[.int .i64 0, .int .i64 0] 28 (0, 0)) := (Below.heap_setCell wj ⟨F, 1, none⟩ v' (F + 1) (show F + 1 ≠ F by omega)).trans (hev.blk h.z (hne _ (by omega)))
 have hsn : OwnS DEnu (F + 3) 50 2 (fun b => F + 3 ≤ b ∧ vm.ownBlock ≠ some b) wj v' (es ++ [x]) := by
   refine OwnS.snoc stable_enu h.oe hxs how hev rfl ⟨vi, rfl, hi.keep stable_itm (Keep.weak ?_), ?_⟩
   · exact fun b hb => ⟨⟨by omega, fun e => by have := h1 b e; omega⟩, fun e => by have := h2 b e; omega⟩
   · show x.name.length ≤ _; omega
 refine ⟨PW.other (hev.blk h.pw (hne _ (by omega))) (show F ≠ F + 2 by omega) v', Up.setCell hup (p := ⟨F, 1, none⟩) (show w.heap.size ≤ F by omega) v', ?_, ?_, ?_, heap_setCell_same wj F 1 _ _ v' (hev.blk h.f (hne _ (by omega))), hz⟩
 · refine OwnS.setCell stable_msg (p := ⟨F, 1, none⟩) (own_evoS stable_msg h.om hev (fun j e e2 => h.dis j e e2) (fun j hs hj => ⟨hs.2, hs.1, fun e => ?_⟩)) hem (fun h => by have := h.1; simp only at this; omega) v'; rcases hv' j e with h3 | h3
   · exact hs.2 h3
   · omega
 · exact OwnS.setCell stable_enu (p := ⟨F, 1, none⟩) hsn hn' (fun h => by have := h.1; simp only at this; omega) v'
 · intro j e e2; rcases hv' j e2 with h3 | h3
   · exact h.dis j e h3
   · have := (h.om.lo j e).2; omega
theorem PF.self (h : PF s w F vm ve ms es k wi) {b i : Nat} {u : Value} (hb : b = F ∧ (#[vm, ve].setIfInBounds i u = #[vm, ve]) ∨ b = F + 1 ∧ (#[Value.int .i64 0, .int .i64 0].setIfInBounds i u = #[.int .i64 0, .int .i64 0])) (hF : w.heap.size = F) : PF s w F vm ve ms es k (wi.setCell ⟨b, i, none⟩ u) := by
 have hbF : b = F ∨ b = F + 1 := hb.imp (·.1) (·.1); (have h1 : vm.ownBlock ≠ some b := fun e => by have := (h.om.lo _ e).1; omega); (have h2 : ve.ownBlock ≠ some b := fun e => by have := (h.oe.lo _ e).1; omega); refine ⟨h.pw.other (show b ≠ F + 2 by omega) u, Up.setCell h.up (p := ⟨b, i, none⟩) (show w.heap.size ≤ b by omega) u, h.om.setCell stable_msg (p := ⟨b, i, none⟩) h1 (fun h => by have := h.1; simp only at this; omega) u, h.oe.setCell stable_enu (p := ⟨b, i, none⟩) h2 (fun h => by have := h.1; simp only at this; omega) u, h.dis, ?_, ?_⟩
 · rcases hb with ⟨rfl, e⟩ | ⟨rfl, e⟩
   · have := heap_setCell_same wi b i _ _ u h.f; rw [e] at this; exact this
   · exact (Below.heap_setCell wi ⟨F + 1, i, none⟩ u F (show F ≠ F + 1 by omega)).trans h.f
 · rcases hb with ⟨rfl, e⟩ | ⟨rfl, e⟩
   · exact (Below.heap_setCell wi ⟨b, i, none⟩ u (b + 1) (show b + 1 ≠ b by omega)).trans h.z
   · have := heap_setCell_same wi (F + 1) i _ _ u h.z; rw [e] at this; exact this
theorem PF.fil (h : PF s w F vm ve ms es k wi) (hF : w.heap.size = F) : FilV (fun b => w.heap.size ≤ b) wi (.agg #[vm, ve]) ⟨ms, es⟩ :=
 ⟨vm, ve, rfl, h.om.rd stable_msg (fun k hk => by have := hk.1; omega) (fun j hj => by have := (h.om.lo j hj).1; omega), h.oe.rd stable_enu (fun k hk => by have := hk.1; omega) (fun j hj => by have := (h.oe.lo j hj).1; omega)⟩
end
theorem parse_bad {l l' : List UInt8} {er : Int} (hl : l.length ≤ 3000) (h : fileP (l.length + 1) ⟨[], []⟩ l = .bad er l') : parseS l = (⟨[], []⟩, er, l.length - l'.length) := by unfold parseS; rw [if_neg (by omega), h]
theorem parse_ok {l l' : List UInt8} {f : Fil} (hl : l.length ≤ 3000) (h : fileP (l.length + 1) ⟨[], []⟩ l = .ok f l') : parseS l = (f, 0, 0) := by unfold parseS; rw [if_neg (by omega), h]
theorem nums_len : ∀ (f : Nat) (acc : List Int) (l : List UInt8) (r : List Int) (l' : List UInt8), numsP f acc l = .ok r l' → l'.length ≤ l.length
 | 0, _, _, _, _, h => by cases h
 | f + 1, acc, l, r, l', h => by
   have he := eat_len 44 l; rw [numsP] at h; split at h
   · obtain ⟨n, l2, h1, h2⟩ := bind_ok_of h; have := num_lenP h1; have := nums_len f _ _ _ _ h2; omega
   · injection h with _ h2; subst h2; exact he
theorem choice_len : ∀ (f c : Nat) (acc : List Fld) (l : List UInt8) (r : List Fld) (l' : List UInt8), choiceP f c acc l = .ok r l' → l'.length ≤ l.length
 | 0, _, _, _, _, _, h => by cases h
 | f + 1, c, acc, l, r, l', h => by
   have he := eat_len 125 l; rw [choiceP] at h; split at h
   · injection h with _ h2; subst h2; exact he
   · obtain ⟨n, l2, h1, h2⟩ := bind_ok_of h; have := field_len h1; have := choice_len f c _ _ _ _ h2; omega
theorem part_len {c : Nat} {fs : List Fld} {bs : List Int} {l l' : List UInt8} {t : Nat × List Fld × List Int} (h : partP c fs bs l = .ok t l') : l'.length < l.length := by
 unfold partP at h; obtain ⟨w, l2, h1, h⟩ := bind_ok_of h; have g1 := word_len h1; split at h
 · obtain ⟨n, l3, h2, h⟩ := bind_ok_of h; obtain ⟨b, l4, h3, h⟩ := bind_ok_of h; obtain ⟨u, l5, h4, h⟩ := bind_ok_of h; have g2 := num_lenP h2; have g3 := nums_len _ _ _ _ _ h3; have g4 := must_len h4; injection h with _ h5; subst h5; omega
 · split at h
   · obtain ⟨u, l3, h2, h⟩ := bind_ok_of h; obtain ⟨b, l4, h3, h⟩ := bind_ok_of h; have g2 := must_len h2; have g3 := choice_len _ _ _ _ _ _ h3; injection h with _ h5; subst h5; omega
   · obtain ⟨x, l3, h2, h⟩ := bind_ok_of h; have g2 := field_len h2; injection h with _ h5; subst h5; omega
theorem mess_len : ∀ (f : Nat) (nm : List UInt8) (c : Nat) (fs : List Fld) (bs : List Int) (l : List UInt8) (m : Msg) (l' : List UInt8), messP f nm c fs bs l = .ok m l' → l'.length ≤ l.length
 | 0, _, _, _, _, _, _, _, h => by cases h
 | f + 1, nm, c, fs, bs, l, m, l', h => by
   have he := eat_len 125 l; rw [messP] at h; split at h
   · injection h with _ h2; subst h2; exact he
   · obtain ⟨t, l2, h1, h2⟩ := bind_ok_of h; have := part_len h1; split at h2
     · cases h2
     · have := mess_len f _ _ _ _ _ _ _ h2; omega
theorem items_len : ∀ (f : Nat) (acc : List Itm) (l : List UInt8) (r : List Itm) (l' : List UInt8), itemsP f acc l = .ok r l' → l'.length ≤ l.length
 | 0, _, _, _, _, h => by cases h
 | f + 1, acc, l, r, l', h => by
   have he := eat_len 125 l; rw [itemsP] at h; split at h
   · injection h with _ h2; subst h2; exact he
   · obtain ⟨x, l2, h1, h2⟩ := bind_ok_of h; have := item_len h1; split at h2
     · cases h2
     · have := items_len f _ _ _ _ h2; omega
theorem top_len {F F' : Fil} {l l' : List UInt8} (h : topP F l = .ok F' l') : l'.length < l.length ∧ F'.msgs.length + F'.enums.length = F.msgs.length + F.enums.length + 1 := by
 unfold topP at h; obtain ⟨w, l2, h1, h⟩ := bind_ok_of h; have g1 := word_len h1; split at h
 · obtain ⟨m, l3, h2, h⟩ := bind_ok_of h; unfold messageP at h2; obtain ⟨nm, l4, h3, h2⟩ := bind_ok_of h2; obtain ⟨u, l5, h4, h2⟩ := bind_ok_of h2; have g3 := word_len h3; have g4 := must_len h4; have g5 := mess_len _ _ _ _ _ _ _ _ h2; injection h with h5 h6; subst h5; subst h6; refine ⟨by omega, ?_⟩; simp only [List.length_append, List.length_singleton]; omega
 · split at h
   · obtain ⟨m, l3, h2, h⟩ := bind_ok_of h; unfold enumP at h2; obtain ⟨nm, l4, h3, h2⟩ := bind_ok_of h2; obtain ⟨u, l5, h4, h2⟩ := bind_ok_of h2; obtain ⟨is, l7, h7, h2⟩ := bind_ok_of h2; have g3 := word_len h3; have g4 := must_len h4; have g5 := items_len _ _ _ _ _ h7; injection h2 with h8 h9; injection h with h5 h6; subst h5; subst h6; subst h9; refine ⟨by omega, ?_⟩; simp only [List.length_append, List.length_singleton]; omega
   · cases h
end Go.Proofs.YtbceapeoknngnaaDoor
