/-
  A message in a box of the parser's own.
-/
import Derived.Test.YtbceapeoknngnaaDoorSy21
set_option linter.unusedVariables false
namespace Go.Proofs.YtbceapeoknngnaaDoor
open Go.RowKit
structure MW (g : Nat) (s : ByteArray) (w : World) (R M : Nat) (nm : List UInt8) (fs : List Fld) (bs : List Int) (vf vb : Value) (k : Nat) (wi : World) : Prop where
 pw : PW g s k wi
 gr : Gr g w wi
 of : OwnS DFld (M + 1) 58 6 No wi vf fs
 ob : OwnS DInt (M + 1) 3 1 No wi vb bs
 dis : ∀ j, vf.ownBlock = some j → vb.ownBlock ≠ some j
 m : wi.heap[M]? = some (.cells #[.string ⟨nm.toArray⟩, vf, vb] 46 (0, 0))
 r : wi.heap[R]? = some (.cells #[.string ⟨#[]⟩, .slice none 0 0, .slice none 0 0] 46 (0, 0))
section
variable {g : Nat} {s : ByteArray} {w : World} {R M : Nat} {nm : List UInt8} {fs : List Fld} {bs : List Int} {vf vb : Value} {k : Nat} {wi : World}
theorem MW.step (h : MW g s w R M nm fs bs vf vb k wi) {wj : World} {k' : Nat} (hg : Gr g wi wj) (hp : PW g s k' wj) (hR : g < R) (hM : R < M) : MW g s w R M nm fs bs vf vb k' wj :=
 ⟨hp, h.gr.trans hg, h.of.gr stable_fld hg (by omega) id, h.ob.gr stable_int hg (by omega) id, h.dis, hg.blk h.m (by omega), hg.blk h.r (by omega)⟩
theorem MW.up (h : MW g s w R M nm fs bs vf vb k wi) {wj : World} (hu : Up wi wj) : MW g s w R M nm fs bs vf vb k wj := ⟨h.pw.up hu, h.gr.up hu, h.of.up stable_fld hu, h.ob.up stable_int hu, h.dis, hu.blk h.m, hu.blk h.r⟩
theorem gr_evo {wj : World} {v v' : Value} (h : Gr g w wi) (hev : Evo wi wj v v') (hlo : ∀ j, v.ownBlock = some j → w.heap.size ≤ j) : Gr g w wj :=
 ⟨hev.grown.os.trans h.os, hev.grown.tape.trans h.tape, hev.grown.output.trans h.output, Nat.le_trans h.size hev.grown.size, fun j hj hne => (hev.grown.block j (Nat.lt_of_lt_of_le hj h.size) (fun e => by have := hlo j e.symm; omega)).trans (h.block j hj hne)⟩
theorem own_evo {α : Type} {D : Lay α} (hD : ∀ S S' w w' a cs, D S w a cs → D S' w' a cs) {base : Nat} {e : TypeId} {size : Nat} {wj : World} {v v' u : Value} {l : List α} (h : OwnS D base e size No wi u l) (hev : Evo wi wj v v') (hne : ∀ j, u.ownBlock = some j → v.ownBlock ≠ some j) : OwnS D base e size No wj u l := by
 obtain ⟨css, h1, h2, h3⟩ := h; refine ⟨css, h1, h2.kept hev.grown ?_, fun i hi => ?_⟩
 · cases hu : u.ownBlock with
   | none => exact .inl rfl
   | some j => exact .inr (fun e => hne j hu e.symm)
 · obtain ⟨cs, h4, h5, h6⟩ := h3 i hi; exact ⟨cs, h4, h5, hD _ _ _ _ _ _ h6⟩
theorem MW.snocF (h : MW g s w R M nm fs bs vf vb k wi) {wj : World} {v' : Value} {x : Fld} {xs : List Value} (hxs : wi.ownsRow (M + 1) 58 6 vf fs.length xs) (how : wj.ownsRow (M + 1) 58 6 v' (fs.length + 1) (xs ++ [.string ⟨x.name.toArray⟩, .int .i64 x.number, .int .i64 x.kind, .string ⟨x.type.toArray⟩, .bool x.many, .int .i64 x.choice])) (hev : Evo wi wj vf v') (hx : okI x.number ∧ okI x.kind ∧ okI x.choice ∧ okS x.name ∧ okS x.type) (hR : g < R) (hM : R < M) (hw : w.heap.size ≤ R) :
   MW g s w R M nm (fs ++ [x]) bs v' vb k (wj.setCell ⟨M, 1, none⟩ v') := by
 have hlo := h.of.lo; have hn : ∀ b, b ≤ M → vf.ownBlock ≠ some b := fun b hb e => by have := (hlo b e).1; omega
 have hn' : v'.ownBlock ≠ some M := fun e => by
   rcases hev.place _ e with h1 | h1
   · exact hn M (Nat.le_refl _) h1
   · have := lt_of_block h.m; omega
 (have hb' : vb.ownBlock ≠ some M := fun e => by have := (h.ob.lo _ e).1; omega); have he := hev.blk h.m (hn M (Nat.le_refl _)); have hgr := gr_evo h.gr hev (fun j e => by have := (hlo j e).1; omega); have hob := own_evo pure_int h.ob hev (fun j e e2 => h.dis j e2 e); refine ⟨PW.other (hev.blk h.pw (hn g (by omega))) (show M ≠ g by omega) v', hgr.setNew (show w.heap.size ≤ M by omega) v', ?_, OwnS.setCell stable_int (p := ⟨M, 1, none⟩) hob hb' id v', ?_, heap_setCell_same wj M 1 _ _ v' he, (Below.heap_setCell wj ⟨M, 1, none⟩ v' R (show R ≠ M by omega)).trans (hev.blk h.r (hn R (by omega)))⟩
 · exact OwnS.setCell stable_fld (p := ⟨M, 1, none⟩) (OwnS.snoc stable_fld h.of hxs how hev rfl ⟨rfl, hx⟩) hn' id v'
 · intro j e e2; rcases hev.place j e with h1 | h1
   · exact h.dis j h1 e2
   · have := (h.ob.lo j e2).2; omega
theorem MW.snocB (h : MW g s w R M nm fs bs vf vb k wi) {wj : World} {v' : Value} {n : Int} {xs : List Value} (hxs : wi.ownsRow (M + 1) 3 1 vb bs.length xs) (how : wj.ownsRow (M + 1) 3 1 v' (bs.length + 1) (xs ++ [.int .i64 n])) (hev : Evo wi wj vb v') (hx : okI n) (hR : g < R) (hM : R < M) (hw : w.heap.size ≤ R) :
   MW g s w R M nm fs (bs ++ [n]) vf v' k (wj.setCell ⟨M, 2, none⟩ v') := by
 have hlo := h.ob.lo; have hn : ∀ b, b ≤ M → vb.ownBlock ≠ some b := fun b hb e => by have := (hlo b e).1; omega
 have hn' : v'.ownBlock ≠ some M := fun e => by
   rcases hev.place _ e with h1 | h1
   · exact hn M (Nat.le_refl _) h1
   · have := lt_of_block h.m; omega
 (have hf' : vf.ownBlock ≠ some M := fun e => by have := (h.of.lo _ e).1; omega); have he := hev.blk h.m (hn M (Nat.le_refl _)); have hgr := gr_evo h.gr hev (fun j e => by have := (hlo j e).1; omega); have hof := own_evo pure_fld h.of hev (fun j e e2 => h.dis j e e2); refine ⟨PW.other (hev.blk h.pw (hn g (by omega))) (show M ≠ g by omega) v', hgr.setNew (show w.heap.size ≤ M by omega) v', OwnS.setCell stable_fld (p := ⟨M, 2, none⟩) hof hf' id v', ?_, ?_, heap_setCell_same wj M 2 _ _ v' he, (Below.heap_setCell wj ⟨M, 2, none⟩ v' R (show R ≠ M by omega)).trans (hev.blk h.r (hn R (by omega)))⟩
 · exact OwnS.setCell stable_int (p := ⟨M, 2, none⟩) (OwnS.snoc stable_int h.ob hxs how hev rfl ⟨rfl, hx⟩) hn' id v'
 · intro j e e2; rcases hev.place j e2 with h1 | h1
   · exact h.dis j e h1
   · have := (h.of.lo j e).2; omega
theorem MW.fin (h : MW g s w R M nm fs bs vf vb k wi) (hw : w.heap.size = R) (hR : g < R) (hM : R < M) :
   RdS DFld 6 (fun b => w.heap.size ≤ b) (((wi.setCell ⟨R, 0, none⟩ (.string ⟨nm.toArray⟩)).setCell ⟨R, 1, none⟩ vf).setCell ⟨R, 2, none⟩ vb) vf fs ∧ RdS DInt 1 (fun b => w.heap.size ≤ b) (((wi.setCell ⟨R, 0, none⟩ (.string ⟨nm.toArray⟩)).setCell ⟨R, 1, none⟩ vf).setCell ⟨R, 2, none⟩ vb) vb bs ∧
     PW g s k (((wi.setCell ⟨R, 0, none⟩ (.string ⟨nm.toArray⟩)).setCell ⟨R, 1, none⟩ vf).setCell ⟨R, 2, none⟩ vb) ∧ Gr g w (((wi.setCell ⟨R, 0, none⟩ (.string ⟨nm.toArray⟩)).setCell ⟨R, 1, none⟩ vf).setCell ⟨R, 2, none⟩ vb) := by
 (have hf : ∀ o, vf.ownBlock ≠ some (Addr.block ⟨R, o, none⟩) := fun o e => by have := (h.of.lo _ e).1; simp only at this; omega); (have hb : ∀ o, vb.ownBlock ≠ some (Addr.block ⟨R, o, none⟩) := fun o e => by have := (h.ob.lo _ e).1; simp only at this; omega); have h1 := OwnS.setCell stable_fld (p := ⟨R, 2, none⟩) (OwnS.setCell stable_fld (p := ⟨R, 1, none⟩) (OwnS.setCell stable_fld (p := ⟨R, 0, none⟩) h.of (hf 0) id (.string ⟨nm.toArray⟩)) (hf 1) id vf) (hf 2) id vb; have h2 := OwnS.setCell stable_int (p := ⟨R, 2, none⟩) (OwnS.setCell stable_int (p := ⟨R, 1, none⟩) (OwnS.setCell stable_int (p := ⟨R, 0, none⟩) h.ob (hb 0) id (.string ⟨nm.toArray⟩)) (hb 1) id vf) (hb 2) id vb
 exact ⟨h1.rd stable_fld (fun _ h => h.elim) (fun j hj => by have := (h1.lo j hj).1; omega), h2.rd stable_int (fun _ h => h.elim) (fun j hj => by have := (h2.lo j hj).1; omega),
   ((h.pw.other (show R ≠ g by omega) _).other (show R ≠ g by omega) _).other (show R ≠ g by omega) _,
   ((h.gr.setNew (show w.heap.size ≤ R by omega) _).setNew (show w.heap.size ≤ R by omega) _).setNew (show w.heap.size ≤ R by omega) _⟩
end
def MsgV (w : World) (w' : World) (x : Msg) (v : Value) : Prop := ∃ vf vb, v = .agg #[.string ⟨x.name.toArray⟩, vf, vb] ∧ RdS DFld 6 (fun b => w.heap.size ≤ b) w' vf x.fields ∧ RdS DInt 1 (fun b => w.heap.size ≤ b) w' vb x.barred ∧ x.name.length ≤ 16
end Go.Proofs.YtbceapeoknngnaaDoor
