/-
  The parser's enum.
  A message in a box of the parser's own.
-/
import Derived.Test.YtbceapeoknngnaaGreatDoorTx43
set_option linter.unusedVariables false
namespace Go.Proofs.YtbceapeoknngnaaGreatDoor
open Go.RowKit
set_option maxRecDepth 100000
theorem OwnS.gr {α : Type} {D : Lay α} (hD : Stable D) {base : Nat} {e : TypeId} {size : Nat} {S : Nat → Prop} {w w' : World} {v : Value} {l : List α} {g : Nat} (h : OwnS D base e size S w v l) (hg : Gr g w w') (hb : g < base) (hS : ¬ S g) : OwnS D base e size S w' v l := by
 have hlo := h.lo; obtain ⟨css, h1, h2, h3⟩ := h; refine ⟨css, h1, h2.kept hg (.inr (fun e => by have := (hlo g e).1; omega)), fun i hi => ?_⟩; obtain ⟨cs, h4, h5, h6⟩ := h3 i hi; exact ⟨cs, h4, h5, hD _ _ _ _ _ _ (fun k hs hk => ⟨hg.block k hk (fun e => hS (by injection e with e; exact e ▸ hs.1)), hs⟩) h6⟩
structure EW (g : Nat) (s : ByteArray) (w : World) (R E : Nat) (nm : List UInt8) (acc : List Itm) (v : Value) (k : Nat) (wi : World) : Prop where
 pw : PW g s k wi
 gr : Gr g w wi
 ow : OwnS DItm (E + 1) 164 2 No wi v acc
 e : wi.heap[E]? = some (.cells #[.string ⟨nm.toArray⟩, v] 140 (0, 0))
 r : wi.heap[R]? = some (.cells #[.string ⟨#[]⟩, .slice none 0 0] 140 (0, 0))
section
variable {g : Nat} {s : ByteArray} {w : World} {R E : Nat} {nm : List UInt8} {acc : List Itm} {v : Value} {k : Nat} {wi : World}
theorem EW.step (h : EW g s w R E nm acc v k wi) {wj : World} {k' : Nat} (hg : Gr g wi wj) (hp : PW g s k' wj) (hR : g < R) (hE : R < E) : EW g s w R E nm acc v k' wj :=
 ⟨hp, h.gr.trans hg, h.ow.gr stable_itm hg (by omega) id, hg.blk h.e (by omega), hg.blk h.r (by omega)⟩
theorem EW.up (h : EW g s w R E nm acc v k wi) {wj : World} (hu : Up wi wj) : EW g s w R E nm acc v k wj := ⟨h.pw.up hu, h.gr.up hu, h.ow.up stable_itm hu, hu.blk h.e, hu.blk h.r⟩
theorem EW.other (h : EW g s w R E nm acc v k wi) {X : Nat} (i : Nat) (u : Value) (hX : v.ownBlock ≠ some X) (hE : E < X) (hR : R < E) (hg : g < R) (hw : w.heap.size ≤ R) : EW g s w R E nm acc v k (wi.setCell ⟨X, i, none⟩ u) :=
 ⟨h.pw.other (show X ≠ g by omega) u, h.gr.setNew (show w.heap.size ≤ X by omega) u, h.ow.setCell stable_itm (p := ⟨X, i, none⟩) hX id u, (Below.heap_setCell wi ⟨X, i, none⟩ u E (show E ≠ X by omega)).trans h.e, (Below.heap_setCell wi ⟨X, i, none⟩ u R (show R ≠ X by omega)).trans h.r⟩
theorem EW.snoc (h : EW g s w R E nm acc v k wi) {wj : World} {v' : Value} {x : Itm} {xs : List Value} (hxs : wi.ownsRow (E + 1) 164 2 v acc.length xs) (how : wj.ownsRow (E + 1) 164 2 v' (acc.length + 1) (xs ++ [.string ⟨x.name.toArray⟩, .int .i64 x.value])) (hev : Evo wi wj v v') (hx : okI x.value ∧ okS x.name) (hR : g < R) (hE : R < E) (hw : w.heap.size ≤ R) :
   EW g s w R E nm (acc ++ [x]) v' k (wj.setCell ⟨E, 1, none⟩ v') := by
 have hlo := h.ow.lo; have hn : ∀ b, b ≤ E → v.ownBlock ≠ some b := fun b hb e => by have := (hlo b e).1; omega
 have hn' : v'.ownBlock ≠ some E := fun e => by
   rcases hev.place _ e with h1 | h1
   · exact hn E (Nat.le_refl _) h1
   · have := lt_of_block h.e; omega
 have he := hev.blk h.e (hn E (Nat.le_refl _)); have hgr : Gr g w wj := ⟨hev.grown.os.trans h.gr.os, hev.grown.tape.trans h.gr.tape, hev.grown.output.trans h.gr.output, Nat.le_trans h.gr.size hev.grown.size, fun j hj hne => (hev.grown.block j (Nat.lt_of_lt_of_le hj h.gr.size) (fun e => by have := (hlo j e.symm).1; omega)).trans (h.gr.block j hj hne)⟩; refine ⟨PW.other (hev.blk h.pw (hn g (by omega))) (show E ≠ g by omega) v', hgr.setNew (show w.heap.size ≤ E by omega) v', ?_, heap_setCell_same wj E 1 _ _ v' he, (Below.heap_setCell wj ⟨E, 1, none⟩ v' R (show R ≠ E by omega)).trans (hev.blk h.r (hn R (by omega)))⟩; exact OwnS.setCell stable_itm (p := ⟨E, 1, none⟩) (OwnS.snoc stable_itm h.ow hxs how hev rfl ⟨rfl, hx.1, hx.2⟩) hn' id v'
end
def EnuV (w : World) (w' : World) (x : Enu) (v : Value) : Prop := ∃ vi, v = .agg #[.string ⟨x.name.toArray⟩, vi] ∧ RdS DItm 2 (fun b => w.heap.size ≤ b) w' vi x.items ∧ x.name.length ≤ 16
set_option maxHeartbeats 3200000 in
theorem enum_p (g : Nat) (s : ByteArray) (k0 : Nat) (w : World) (hk0 : k0 ≤ s.size) (hz0 : s.size ≤ 4611686018427) (hgr : 3 < g) (hev : EvR w) (hp : PW g s k0 w) :
   Calls Tryz.prog 77 #[.pointer (some ⟨g, 0, none⟩)] w (PEnd g s w (enumP (dr s k0)) (fun w' x v => EnuV w w' x v)) := by
 have hgw := hp.lt; have Hp := Lib.hid hp; have Hev := Lib.hid hev; clear hp hev
 go_enter Tryz.func77, Tryz.ntmps77
 (go_wp2_with fail); have hb0 := blk_new w (.cells #[.string ⟨#[]⟩, .slice none 0 0] 140) (g := w.heap.size) rfl; have hu0 := (Up.refl w).alloc (.cells #[.string ⟨#[]⟩, .slice none 0 0] 140); generalize w.alloc (.cells #[.string ⟨#[]⟩, .slice none 0 0] 140) = w0 at *; obtain ⟨R, hR⟩ : ∃ R, w.heap.size = R := ⟨_, rfl⟩; rw [hR] at hb0 hgw ⊢; have HR := Lib.hid hR; have Hb0 := Lib.hid hb0; have Hu0 := Lib.hid hu0; clear hR hb0 hu0; refine (word_p g s k0 w0 hk0 (by omega) (Hp.out.up Hu0.out)).mono ?_; intro e w1 he; rcases h1 : wordP (dr s k0) with ⟨nm, l1⟩ | ⟨er, l⟩
 rotate_left
 · obtain ⟨rfl, hg⟩ := he.bad h1; (go_wp2_with fail); exact ⟨rfl, PEnd.of_bad (by rw [enumP, h1]; rfl) rfl ((Gr.of_up Hu0.out).trans hg)⟩
 obtain ⟨v, rfl, rfl, ⟨k1, hk1, hd1, hp1⟩, hg1⟩ := he.ok h1; have hR1 := hg1.blk Hb0.out (by omega); have Hg1 := Lib.hid ((Gr.of_up Hu0.out).trans hg1); have Hp1 := Lib.hid hp1; have Hd1 := Lib.hid hd1; have HR1 := Lib.hid hR1; have hRw := lt_of_block hR1; have Hl1 := Lib.hid (word_len h1); have H1 := Lib.hid h1; clear hd1 hp1 hg1 he Hb0 Hu0 Hp hR1 h1; (go_wp2_with fail); have HE : Hid (EW g s w R w1.heap.size nm [] (.slice none 0 0) k1 _) := Lib.hid ⟨Hp1.out.alloc _, Hg1.out.alloc _, OwnS.nil _ _ _ _ _ _, blk_new w1 (.cells #[.string ⟨nm.toArray⟩, .slice none 0 0] 140) rfl, blk_old _ HR1.out⟩; generalize w1.alloc (.cells #[.string ⟨nm.toArray⟩, .slice none 0 0] 140) = w2 at *; obtain ⟨E, hE⟩ : ∃ E, w1.heap.size = E := ⟨_, rfl⟩; rw [hE] at HE hRw ⊢; clear hE Hp1 Hg1 HR1; refine (must_p g s k1 123 _ hk1 (by omega) HE.out.pw).mono ?_; intro e w3 he; rw [Hd1.out] at he; rcases h3 : mustP 123 l1 with ⟨u3, l3⟩ | ⟨er, l⟩
 rotate_left
 · obtain ⟨rfl, hg⟩ := he.bad h3; (go_wp2_with fail); exact ⟨rfl, PEnd.of_bad (by rw [enumP, H1.out, PR.bind_ok, h3]; rfl) rfl (HE.out.gr.trans hg)⟩
 obtain ⟨v, rfl, rfl, ⟨k3, hk3, hd3, hp3⟩, hg3⟩ := he.ok h3; have HE3 := Lib.hid (HE.out.step hg3 hp3 (by omega) (by omega)); have Hd3 := Lib.hid hd3; (have hT : enumP (dr s k0) = (itemsP (l3.length + 1) [] l3).bind fun is l => .ok ⟨nm, is⟩ l := by rw [enumP, H1.out, PR.bind_ok, h3]; rfl); have HT := Lib.hid hT; clear hd3 hp3 hg3 he HE Hd1 H1 h3 hT; (go_wp2_with fail); (go_loopw [] (fun wr => ∃ (acc : List Itm) (l : List UInt8) (v : Value) (f k : Nat), l.length < f ∧ itemsP f acc l = itemsP (l3.length + 1) [] l3 ∧ acc.length ≤ 16 ∧ k ≤ s.size ∧ dr s k = l ∧ EW g s w R E nm acc v k wr) (fun wr => s.size - pwAt g wr)); case atStart => exact ⟨[], l3, .slice none 0 0, l3.length + 1, k3, by omega, rfl, by simp, hk3, Hd3.out, HE3.out⟩
 case round =>
   obtain ⟨acc, l, v, f, k, hlf, hT2, hacc, hk, hd, he⟩ := hrel; have HE := Lib.hid he; have Hd := Lib.hid hd; have HT2 := Lib.hid hT2; have Hlf := Lib.hid hlf; obtain ⟨f, rfl⟩ : ∃ f', f = f' + 1 := ⟨f - 1, by omega⟩; clear he hd hT2 hlf HE3 Hd3; have hea := eat_p g s k 125 wr hk (by omega) HE.out.pw; rw [Hd.out] at hea; (have hit : itemsP (f + 1) acc l = if (eatP 125 l).1 then .ok acc (eatP 125 l).2 else (itemP (eatP 125 l).2).bind fun x l6 => if 16 < (acc ++ [x]).length then .bad 5 l6 else itemsP f (acc ++ [x]) l6 := by rw [itemsP]); have Hel := Lib.hid (eat_len 125 l); have Hat := Lib.hid HE.out.pw.is; generalize eatP 125 l = ea at *; obtain ⟨eb, l4⟩ := ea; simp only at hea hit Hel; rw [HT2.out] at hit; have Hit := Lib.hid hit; have Hea := Lib.hid hea; clear hea hit HT2
   cases eb with
   | true =>
     (go_wp2_with fail); refine Hea.out.mono ?_; rintro e w5 ⟨rfl, ⟨k5, hk5, hd5, hp5⟩, hg5⟩; have HE5 := Lib.hid (HE.out.step hg5 hp5 (by omega) (by omega)); have c0 := cell_of_row w5 E 0 _ _ _ HE5.out.e; have c1 := cell_of_row w5 E 1 _ _ _ HE5.out.e; have z0 := cell_of_row w5 R 0 _ _ _ HE5.out.r; have z1 := cell_of_row w5 R 1 _ _ _ HE5.out.r; have zf := fun o => frozen_of_row w5 R o _ _ HE5.out.r; have zz := lt_of_block HE5.out.r; have hT3 := HT.out; rw [Hit.out] at hT3; have HT3 := Lib.hid (show enumP (dr s k0) = .ok ⟨nm, acc⟩ l4 from hT3); obtain ⟨av, cv, rfl⟩ := own_val HE5.out.ow.own.choose_spec; clear hT3 Hea HE hp5 hg5; (go_wp2_with fail); refine bodyPost_ret (v := .agg #[.string ⟨nm.toArray⟩, .slice av acc.length cv]) (by simp [results, Tryz.results77, go_sem, z0, z1]) rfl ?_; refine PEnd.of_ok HT3.out ⟨_, rfl, ?_, Hl1.out.2.1⟩ ⟨k5, hk5, hd5, ?_⟩ ?_
     · have h9 : OwnS DItm (E + 1) 164 2 No ((w5.setCell ⟨R, 0, none⟩ (.string ⟨nm.toArray⟩)).setCell ⟨R, 1, none⟩ (.slice av acc.length cv)) (.slice av acc.length cv) acc := by
         (have hne : ∀ o, (Value.slice av acc.length cv).ownBlock ≠ some (Addr.block ⟨R, o, none⟩) := fun o e => by have := (HE5.out.ow.lo _ e).1; simp only at this; omega); exact OwnS.setCell stable_itm (p := ⟨R, 1, none⟩) (OwnS.setCell stable_itm (p := ⟨R, 0, none⟩) HE5.out.ow (hne 0) id _) (hne 1) id _
       exact h9.rd stable_itm (fun _ h => h.elim) (fun j hj => by have := (h9.lo j hj).1; have := HR.out; omega)
     · exact (HE5.out.pw.other (show R ≠ g by omega) _).other (show R ≠ g by omega) _
     · exact (HE5.out.gr.setNew (show w.heap.size ≤ R by rw [HR.out]; omega) _).setNew (show w.heap.size ≤ R by rw [HR.out]; omega) _
   | false =>
     (go_wp2_with fail); refine Hea.out.mono ?_; rintro e w5 ⟨rfl, ⟨k5, hk5, hd5, hp5⟩, hg5⟩; have HE5 := Lib.hid (HE.out.step hg5 hp5 (by omega) (by omega)); have Hd5 := Lib.hid hd5; clear Hea HE hp5 hg5 hd5; (go_wp2_with fail); refine (word_p g s k5 _ hk5 (by omega) HE5.out.pw).mono ?_; intro e w6 he; rw [Hd5.out] at he; rcases p6 : wordP l4 with ⟨nm2, l6⟩ | ⟨er, l⟩
     rotate_left
     · obtain ⟨rfl, hg⟩ := he.bad p6; (go_wp2_with fail); exact ⟨rfl, PEnd.of_bad (by rw [HT.out, Hit.out, if_neg Bool.false_ne_true, itemP]; simp only [p6, PR.bind_bad]) rfl (HE5.out.gr.trans hg)⟩
     obtain ⟨v6, rfl, rfl, ⟨k6, hk6, hd6, hp6⟩, hg6⟩ := he.ok p6; have Hd6 := Lib.hid hd6; have P6 := Lib.hid p6; have HE6 := Lib.hid (HE5.out.step hg6 hp6 (by omega) (by omega)); have Hl6 := Lib.hid (word_len p6); clear hd6 hp6 hg6 he HE5 Hd5 p6; (go_wp2_with fail); have hz6 : E < w6.heap.size := lt_of_block HE6.out.e; have Hlo := Lib.hid (show ∀ j, v.ownBlock = some j → j < w6.heap.size from fun j hj => (HE6.out.ow.lo j hj).2); have HX := Lib.hid (blk_new w6 (.cells #[.string ⟨nm2.toArray⟩, .int .i64 0] 164) (g := w6.heap.size) rfl); have HE6 := Lib.hid (HE6.out.up ((Up.refl w6).alloc (.cells #[.string ⟨nm2.toArray⟩, .int .i64 0] 164))); generalize w6.alloc (.cells #[.string ⟨nm2.toArray⟩, .int .i64 0] 164) = w66 at *; obtain ⟨X, hX⟩ : ∃ X, w6.heap.size = X := ⟨_, rfl⟩; rw [hX] at HX Hlo hz6 ⊢; clear hX; refine (must_p g s k6 61 _ hk6 (by omega) HE6.out.pw).mono ?_; intro e w7 he; rw [Hd6.out] at he; rcases p7 : mustP 61 l6 with ⟨u7, l7⟩ | ⟨er, l⟩
     rotate_left
     · obtain ⟨rfl, hg⟩ := he.bad p7; (go_wp2_with fail); exact ⟨rfl, PEnd.of_bad (by rw [HT.out, Hit.out, if_neg Bool.false_ne_true, itemP]; simp only [P6.out, p7, PR.bind_ok, PR.bind_bad]) rfl (HE6.out.gr.trans hg)⟩
     obtain ⟨v7, rfl, rfl, ⟨k7, hk7, hd7, hp7⟩, hg7⟩ := he.ok p7; have Hd7 := Lib.hid hd7; have P7 := Lib.hid p7; have HX7 := Lib.hid (hg7.blk HX.out (by omega)); have HE7 := Lib.hid (HE6.out.step hg7 hp7 (by omega) (by omega)); clear hd7 hp7 hg7 he HE6 Hd6 p7 HX; (go_wp2_with fail); have heb := eat_p g s k7 45 w7 hk7 (by omega) HE7.out.pw; rw [Hd7.out] at heb; have Hel8 := Lib.hid (eat_len 45 l7); obtain ⟨mb, l8, hmb⟩ : ∃ mb l8, eatP 45 l7 = (mb, l8) := ⟨_, _, rfl⟩; rw [hmb] at heb Hel8; simp only at heb Hel8; have Heb := Lib.hid heb; have Hmb := Lib.hid hmb; clear heb hmb Hd7
     have hitem : itemP l4 = (if mb then (numP 2147483648 l8).bind fun n l4 => .ok (-(n : Int)) l4 else (numP 2147483647 l8).bind fun n l4 => .ok (n : Int) l4).bind fun v l5 => (mustP 59 l5).bind fun _ l6 => .ok ⟨nm2, v⟩ l6 := by
       rw [itemP]; simp only [P6.out, P7.out, PR.bind_ok, Hmb.out]
     have Hitem := Lib.hid hitem; clear hitem; cases mb
     case' false =>
       have hitem : itemP l4 = ((numP 2147483647 l8).bind fun n l4 => .ok (n : Int) l4).bind fun v l5 => (mustP 59 l5).bind fun _ l6 => .ok ⟨nm2, v⟩ l6 := Hitem.out; have Hitem := Lib.hid hitem; clear hitem; refine Heb.out.mono ?_; rintro e w8 ⟨rfl, ⟨k8, hk8, hd8, hp8⟩, hg8⟩; have HX8 := Lib.hid (hg8.blk HX7.out (by omega)); have HE8 := Lib.hid (HE7.out.step hg8 hp8 (by omega) (by omega)); have Hd8 := Lib.hid hd8; clear hd8 hp8 hg8 HE7 HX7 Heb; (go_wp2_with fail); refine (num_p g s k8 2147483647 _ hk8 (by omega) (by omega) hgr (Hev.out.gr HE8.out.gr hgr) HE8.out.pw).mono ?_; intro e w9 he; rw [Hd8.out] at he; rcases p9 : numP 2147483647 l8 with ⟨n, l9⟩ | ⟨er, l⟩
       rotate_left
       · obtain ⟨rfl, hg⟩ := he.bad p9; (go_wp2_with fail); exact ⟨rfl, PEnd.of_bad (by rw [HT.out, Hit.out, if_neg Bool.false_ne_true, Hitem.out, p9]; rfl) rfl (HE8.out.gr.trans hg)⟩
       obtain ⟨v9, rfl, rfl, ⟨k9, hk9, hd9, hp9⟩, hg9⟩ := he.ok p9; have HX9 := Lib.hid (hg9.blk HX8.out (by omega)); have HE9 := Lib.hid (HE8.out.step hg9 hp9 (by omega) (by omega)); have Hd9 := Lib.hid hd9; (have hitem : itemP l4 = (mustP 59 l9).bind fun _ l6 => .ok ⟨nm2, (n : Int)⟩ l6 := by rw [Hitem.out, p9]; rfl); have Hl9 := Lib.hid (num_lenP p9); have x0 := cell_of_row w9 X 0 _ _ _ HX9.out; have x1 := cell_of_row w9 X 1 _ _ _ HX9.out; have xf := fun o => frozen_of_row w9 X o _ _ HX9.out; have xz := lt_of_block HX9.out; clear hd9 hp9 hg9 he HE8 HX8 Hd8 p9; (go_wp2_with fail); have HE10 := Lib.hid (HE9.out.other (X := X) 1 (.int .i64 (n : Int)) (fun e => by have := Hlo.out _ e; omega) hz6 (by omega) (by omega) (by rw [HR.out]; omega)); have HX10 := Lib.hid (heap_setCell_same w9 X 1 _ _ (.int .i64 (n : Int)) HX9.out); obtain ⟨val, hval⟩ : ∃ val : Int, val = (n : Int) := ⟨_, rfl⟩; have Hvb := Lib.hid (show -2147483648 ≤ val ∧ val ≤ 2147483648 by have := Hl9.out.2; omega); rw [← hval] at hitem; have Hitem := Lib.hid hitem; clear hitem x0 x1 xf xz; simp only [← hval] at HE10 HX10 ⊢; clear hval; generalize w9.setCell ⟨X, 1, none⟩ (.int .i64 val) = w10 at *; have HX10 : Hid (w10.heap[X]? = some (.cells #[.string ⟨nm2.toArray⟩, .int .i64 val] 164 (0, 0))) := Lib.hid HX10.out; clear HE9 HX9
     case' true =>
       have hitem : itemP l4 = ((numP 2147483648 l8).bind fun n l4 => .ok (-(n : Int)) l4).bind fun v l5 => (mustP 59 l5).bind fun _ l6 => .ok ⟨nm2, v⟩ l6 := Hitem.out; have Hitem := Lib.hid hitem; clear hitem; refine Heb.out.mono ?_; rintro e w8 ⟨rfl, ⟨k8, hk8, hd8, hp8⟩, hg8⟩; have HX8 := Lib.hid (hg8.blk HX7.out (by omega)); have HE8 := Lib.hid (HE7.out.step hg8 hp8 (by omega) (by omega)); have Hd8 := Lib.hid hd8; clear hd8 hp8 hg8 HE7 HX7 Heb; (go_wp2_with fail); refine (num_p g s k8 2147483648 _ hk8 (by omega) (by omega) hgr (Hev.out.gr HE8.out.gr hgr) HE8.out.pw).mono ?_; intro e w9 he; rw [Hd8.out] at he; rcases p9 : numP 2147483648 l8 with ⟨n, l9⟩ | ⟨er, l⟩
       rotate_left
       · obtain ⟨rfl, hg⟩ := he.bad p9; (go_wp2_with fail); exact ⟨rfl, PEnd.of_bad (by rw [HT.out, Hit.out, if_neg Bool.false_ne_true, Hitem.out, p9]; rfl) rfl (HE8.out.gr.trans hg)⟩
       obtain ⟨v9, rfl, rfl, ⟨k9, hk9, hd9, hp9⟩, hg9⟩ := he.ok p9; have HX9 := Lib.hid (hg9.blk HX8.out (by omega)); have HE9 := Lib.hid (HE8.out.step hg9 hp9 (by omega) (by omega)); have Hd9 := Lib.hid hd9; (have hitem : itemP l4 = (mustP 59 l9).bind fun _ l6 => .ok ⟨nm2, (-(n : Int))⟩ l6 := by rw [Hitem.out, p9]; rfl); have Hl9 := Lib.hid (num_lenP p9); have x0 := cell_of_row w9 X 0 _ _ _ HX9.out; have x1 := cell_of_row w9 X 1 _ _ _ HX9.out; have xf := fun o => frozen_of_row w9 X o _ _ HX9.out; have xz := lt_of_block HX9.out; clear hd9 hp9 hg9 he HE8 HX8 Hd8 p9; (have ew : wrap64 (-(n : Int)) = -(n : Int) := by have := Hl9.out.2; unfold wrap64; omega); (go_wp2_with fail); have HE10 := Lib.hid (HE9.out.other (X := X) 1 (.int .i64 (-(n : Int))) (fun e => by have := Hlo.out _ e; omega) hz6 (by omega) (by omega) (by rw [HR.out]; omega)); have HX10 := Lib.hid (heap_setCell_same w9 X 1 _ _ (.int .i64 (-(n : Int))) HX9.out); obtain ⟨val, hval⟩ : ∃ val : Int, val = (-(n : Int)) := ⟨_, rfl⟩; have Hvb := Lib.hid (show -2147483648 ≤ val ∧ val ≤ 2147483648 by have := Hl9.out.2; omega); rw [← hval] at hitem; have Hitem := Lib.hid hitem; clear hitem x0 x1 xf xz; simp only [← hval] at HE10 HX10 ⊢; clear hval; generalize w9.setCell ⟨X, 1, none⟩ (.int .i64 val) = w10 at *; have HX10 : Hid (w10.heap[X]? = some (.cells #[.string ⟨nm2.toArray⟩, .int .i64 val] 164 (0, 0))) := Lib.hid HX10.out; clear HE9 HX9
     all_goals
     refine (must_p g s k9 59 _ hk9 (by omega) HE10.out.pw).mono ?_; intro e w11 he; rw [Hd9.out] at he; rcases p11 : mustP 59 l9 with ⟨u11, l11⟩ | ⟨er, l⟩
     rotate_left
     · obtain ⟨rfl, hg⟩ := he.bad p11; (go_wp2_with fail); exact ⟨rfl, PEnd.of_bad (by rw [HT.out, Hit.out, if_neg Bool.false_ne_true, Hitem.out]; simp only [p11, PR.bind_bad]) rfl (HE10.out.gr.trans hg)⟩
     obtain ⟨v11, rfl, rfl, ⟨k11, hk11, hd11, hp11⟩, hg11⟩ := he.ok p11; have Hd11 := Lib.hid hd11; have P11 := Lib.hid p11; have HX11 := Lib.hid (hg11.blk HX10.out (by omega)); have HE11 := Lib.hid (HE10.out.step hg11 hp11 (by omega) (by omega)); (have hitem : itemP l4 = .ok ⟨nm2, val⟩ l11 := by rw [Hitem.out, p11]; rfl); have hli := item_len hitem
     have hit : itemsP (l3.length + 1) [] l3 = if 16 < (acc ++ [Itm.mk nm2 val]).length then .bad 5 l11 else itemsP f (acc ++ [Itm.mk nm2 val]) l11 := by
       rw [Hit.out, if_neg Bool.false_ne_true, hitem]; rfl
     rw [List.length_append, List.length_singleton] at hit; have Hit := Lib.hid hit; have Hli := Lib.hid hli; have HOK : Hid (okI (Itm.mk nm2 val).value ∧ okS (Itm.mk nm2 val).name) := Lib.hid ⟨⟨by have := hli.2.2.1; simp only at this ⊢; omega, by have := hli.2.2.2; simp only at this ⊢; omega⟩, by have := hli.2.1; unfold okS; simp only at this ⊢; omega⟩; clear hd11 hp11 hg11 he HE10 HX10 Hd9 hit hitem hli p11; have x0 := cell_of_row w11 X 0 _ _ _ HX11.out; have x1 := cell_of_row w11 X 1 _ _ _ HX11.out; have e1 := cell_of_row w11 E 1 _ _ _ HE11.out.e; have ez := lt_of_block HE11.out.e; have xz := lt_of_block HX11.out; obtain ⟨xs, hxs⟩ := HE11.out.ow.own; have Hxs := Lib.hid hxs; clear hxs
     by_cases hfull : acc.length = 16
     · have Hfull := Lib.hid hfull; (have hgt : (16 : Int) < (acc.length : Int) + 1 := by omega); clear hfull
       go_wp2_with (first
         | (at_builtin; go_must (refine wpList_app1 eItm _ (by rfl) _ _ (by rfl) (E + 1) _ _ _ (by rfl) Hxs.out _ (by rfl) (by first | rfl | simp) (by rfl) (oc (by rfl)) (by omega) (by unfold maxLen; omega) (by first | omega | (simp; omega)) ?_; intro v12 w12 how12 hev12; obtain ⟨a12, c12, rfl⟩ := own_val how12; have hb12 := hev12.blk HE11.out.e (fun e => by have := (HE11.out.ow.lo _ e).1; omega); have e1 := cell_of_row w12 E 1 _ _ _ hb12; have ef := fun o => frozen_of_row w12 E o _ _ hb12; have ez := lt_of_block hb12; have HE12 := Lib.hid (EW.snoc HE11.out Hxs.out (x := (Itm.mk nm2 val)) how12 hev12 HOK.out hgw hRw (by rw [HR.out]; omega)); clear hb12 how12 hev12)))
       refine (fail_p g s k11 5 _ HE12.out.pw).mono ?_; rintro e w14 ⟨rfl, hu14⟩; (go_wp2_with fail); refine ⟨rfl, PEnd.of_bad (er := 5) (l := l11) (by rw [HT.out, Hit.out, if_pos (by have := Hfull.out; omega)]; rfl) (by rw [← Hd11.out, dr_len]; omega) (HE12.out.gr.up hu14)⟩
     · (have hle : (acc.length : Int) + 1 ≤ 16 := by omega); have Hfull := Lib.hid hfull; clear hfull
       go_wp2_with (first
         | (at_builtin; go_must (refine wpList_app1 eItm _ (by rfl) _ _ (by rfl) (E + 1) _ _ _ (by rfl) Hxs.out _ (by rfl) (by first | rfl | simp) (by rfl) (oc (by rfl)) (by omega) (by unfold maxLen; omega) (by first | omega | (simp; omega)) ?_; intro v12 w12 how12 hev12; obtain ⟨a12, c12, rfl⟩ := own_val how12; have hb12 := hev12.blk HE11.out.e (fun e => by have := (HE11.out.ow.lo _ e).1; omega); have e1 := cell_of_row w12 E 1 _ _ _ hb12; have ef := fun o => frozen_of_row w12 E o _ _ hb12; have ez := lt_of_block hb12; have HE12 := Lib.hid (EW.snoc HE11.out Hxs.out (x := (Itm.mk nm2 val)) how12 hev12 HOK.out hgw hRw (by rw [HR.out]; omega)); clear hb12 how12 hev12)))
       have hp12 := HE12.out.pw.is; refine ⟨⟨acc ++ [⟨nm2, val⟩], l11, _, f, k11, by have := Hli.out.1; have := Hel.out; have := Hlf.out; omega, by rw [Hit.out, if_neg (by have := Hfull.out; omega)], by rw [List.length_append, List.length_singleton]; omega, hk11, Hd11.out, HE12.out⟩, ?_⟩; rw [HE12.out.pw.is, Hat.out]; have h1 := dr_len s k11; have h2 := dr_len s k; rw [Hd11.out] at h1; rw [Hd.out] at h2; have := Hli.out.1; have := Hel.out; omega
end Go.Proofs.YtbceapeoknngnaaGreatDoor
namespace Go.Proofs.YtbceapeoknngnaaGreatDoor
open Go.RowKit
structure MW (g : Nat) (s : ByteArray) (w : World) (R M : Nat) (nm : List UInt8) (fs : List Fld) (bs : List Int) (vf vb : Value) (k : Nat) (wi : World) : Prop where
 pw : PW g s k wi
 gr : Gr g w wi
 of : OwnS DFld (M + 1) 40 6 No wi vf fs
 ob : OwnS DInt (M + 1) 3 1 No wi vb bs
 dis : ∀ j, vf.ownBlock = some j → vb.ownBlock ≠ some j
 m : wi.heap[M]? = some (.cells #[.string ⟨nm.toArray⟩, vf, vb] 38 (0, 0))
 r : wi.heap[R]? = some (.cells #[.string ⟨#[]⟩, .slice none 0 0, .slice none 0 0] 38 (0, 0))
section
variable {g : Nat} {s : ByteArray} {w : World} {R M : Nat} {nm : List UInt8} {fs : List Fld} {bs : List Int} {vf vb : Value} {k : Nat} {wi : World}
theorem MW.step (h : MW g s w R M nm fs bs vf vb k wi) {wj : World} {k' : Nat} (hg : Gr g wi wj) (hp : PW g s k' wj) (hR : g < R) (hM : R < M) : MW g s w R M nm fs bs vf vb k' wj :=
 ⟨hp, h.gr.trans hg, h.of.gr stable_fld hg (by omega) id, h.ob.gr stable_int hg (by omega) id, h.dis, hg.blk h.m (by omega), hg.blk h.r (by omega)⟩
theorem MW.up (h : MW g s w R M nm fs bs vf vb k wi) {wj : World} (hu : Up wi wj) : MW g s w R M nm fs bs vf vb k wj := ⟨h.pw.up hu, h.gr.up hu, h.of.up stable_fld hu, h.ob.up stable_int hu, h.dis, hu.blk h.m, hu.blk h.r⟩
theorem gr_evo {wj : World} {v v' : Value} (h : Gr g w wi) (hev : Evo wi wj v v') (hlo : ∀ j, v.ownBlock = some j → w.heap.size ≤ j) : Gr g w wj :=
 ⟨hev.grown.os.trans h.os, hev.grown.tape.trans h.tape, hev.grown.output.trans h.output, Nat.le_trans h.size hev.grown.size, fun j hj hne => (hev.grown.block j (Nat.lt_of_lt_of_le hj h.size) (fun e => by have := hlo j e.symm; omega)).trans (h.block j hj hne)⟩
theorem own_evo {α : Type} {D : Lay α} (hD : ∀ S S' w w' a cs, D S w a cs → D S' w' a cs) {base : Nat} {e : TypeId} {size : Nat} {wj : World} {v v' u : Value} {l : List α} (h : OwnS D base e size No wi u l) (hev : Evo wi wj v v') (hne : ∀ j, u.ownBlock = some j → v.ownBlock ≠ some j) : OwnS D base e size No wj u l := by
 obtain ⟨css, h1, h2, h3⟩ := h; refine ⟨css, h1, h2.kept hev.grown ?_, fun i hi => ?_⟩
 · cases hu : u.ownBlock with
   | none => exact .inl rfl
   | some j => exact .inr (fun e => hne j hu e.symm)
 · obtain ⟨cs, h4, h5, h6⟩ := h3 i hi; exact ⟨cs, h4, h5, hD _ _ _ _ _ _ h6⟩
theorem MW.snocF (h : MW g s w R M nm fs bs vf vb k wi) {wj : World} {v' : Value} {x : Fld} {xs : List Value} (hxs : wi.ownsRow (M + 1) 40 6 vf fs.length xs) (how : wj.ownsRow (M + 1) 40 6 v' (fs.length + 1) (xs ++ [.string ⟨x.name.toArray⟩, .int .i64 x.number, .int .i64 x.kind, .string ⟨x.type.toArray⟩, .bool x.many, .int .i64 x.choice])) (hev : Evo wi wj vf v') (hx : okI x.number ∧ okI x.kind ∧ okI x.choice ∧ okS x.name ∧ okS x.type) (hR : g < R) (hM : R < M) (hw : w.heap.size ≤ R) :
   MW g s w R M nm (fs ++ [x]) bs v' vb k (wj.setCell ⟨M, 1, none⟩ v') := by
 have hlo := h.of.lo; have hn : ∀ b, b ≤ M → vf.ownBlock ≠ some b := fun b hb e => by have := (hlo b e).1; omega
 have hn' : v'.ownBlock ≠ some M := fun e => by
   rcases hev.place _ e with h1 | h1
   · exact hn M (Nat.le_refl _) h1
   · have := lt_of_block h.m; omega
 (have hb' : vb.ownBlock ≠ some M := fun e => by have := (h.ob.lo _ e).1; omega); have he := hev.blk h.m (hn M (Nat.le_refl _)); have hgr := gr_evo h.gr hev (fun j e => by have := (hlo j e).1; omega); have hob := own_evo pure_int h.ob hev (fun j e e2 => h.dis j e2 e); refine ⟨PW.other (hev.blk h.pw (hn g (by omega))) (show M ≠ g by omega) v', hgr.setNew (show w.heap.size ≤ M by omega) v', ?_, OwnS.setCell stable_int (p := ⟨M, 1, none⟩) hob hb' id v', ?_, heap_setCell_same wj M 1 _ _ v' he, (Below.heap_setCell wj ⟨M, 1, none⟩ v' R (show R ≠ M by omega)).trans (hev.blk h.r (hn R (by omega)))⟩
 · exact OwnS.setCell stable_fld (p := ⟨M, 1, none⟩) (OwnS.snoc stable_fld h.of hxs how hev rfl ⟨rfl, hx⟩) hn' id v'
 · intro j e e2; rcases hev.place j e with h1 | h1
   · exact h.dis j h1 e2
   · have := (h.ob.lo j e2).2; omega
theorem MW.snocB (h : MW g s w R M nm fs bs vf vb k wi) {wj : World} {v' : Value} {n : Int} {xs : List Value} (hxs : wi.ownsRow (M + 1) 3 1 vb bs.length xs) (how : wj.ownsRow (M + 1) 3 1 v' (bs.length + 1) (xs ++ [.int .i64 n])) (hev : Evo wi wj vb v') (hx : okI n) (hR : g < R) (hM : R < M) (hw : w.heap.size ≤ R) :
   MW g s w R M nm fs (bs ++ [n]) vf v' k (wj.setCell ⟨M, 2, none⟩ v') := by
 have hlo := h.ob.lo; have hn : ∀ b, b ≤ M → vb.ownBlock ≠ some b := fun b hb e => by have := (hlo b e).1; omega
 have hn' : v'.ownBlock ≠ some M := fun e => by
   rcases hev.place _ e with h1 | h1
   · exact hn M (Nat.le_refl _) h1
   · have := lt_of_block h.m; omega
 (have hf' : vf.ownBlock ≠ some M := fun e => by have := (h.of.lo _ e).1; omega); have he := hev.blk h.m (hn M (Nat.le_refl _)); have hgr := gr_evo h.gr hev (fun j e => by have := (hlo j e).1; omega); have hof := own_evo pure_fld h.of hev (fun j e e2 => h.dis j e e2); refine ⟨PW.other (hev.blk h.pw (hn g (by omega))) (show M ≠ g by omega) v', hgr.setNew (show w.heap.size ≤ M by omega) v', OwnS.setCell stable_fld (p := ⟨M, 2, none⟩) hof hf' id v', ?_, ?_, heap_setCell_same wj M 2 _ _ v' he, (Below.heap_setCell wj ⟨M, 2, none⟩ v' R (show R ≠ M by omega)).trans (hev.blk h.r (hn R (by omega)))⟩
 · exact OwnS.setCell stable_int (p := ⟨M, 2, none⟩) (OwnS.snoc stable_int h.ob hxs how hev rfl ⟨rfl, hx⟩) hn' id v'
 · intro j e e2; rcases hev.place j e2 with h1 | h1
   · exact h.dis j e h1
   · have := (h.of.lo j e).2; omega
theorem MW.fin (h : MW g s w R M nm fs bs vf vb k wi) (hw : w.heap.size = R) (hR : g < R) (hM : R < M) :
   RdS DFld 6 (fun b => w.heap.size ≤ b) (((wi.setCell ⟨R, 0, none⟩ (.string ⟨nm.toArray⟩)).setCell ⟨R, 1, none⟩ vf).setCell ⟨R, 2, none⟩ vb) vf fs ∧ RdS DInt 1 (fun b => w.heap.size ≤ b) (((wi.setCell ⟨R, 0, none⟩ (.string ⟨nm.toArray⟩)).setCell ⟨R, 1, none⟩ vf).setCell ⟨R, 2, none⟩ vb) vb bs ∧
     PW g s k (((wi.setCell ⟨R, 0, none⟩ (.string ⟨nm.toArray⟩)).setCell ⟨R, 1, none⟩ vf).setCell ⟨R, 2, none⟩ vb) ∧ Gr g w (((wi.setCell ⟨R, 0, none⟩ (.string ⟨nm.toArray⟩)).setCell ⟨R, 1, none⟩ vf).setCell ⟨R, 2, none⟩ vb) := by
 (have hf : ∀ o, vf.ownBlock ≠ some (Addr.block ⟨R, o, none⟩) := fun o e => by have := (h.of.lo _ e).1; simp only at this; omega); (have hb : ∀ o, vb.ownBlock ≠ some (Addr.block ⟨R, o, none⟩) := fun o e => by have := (h.ob.lo _ e).1; simp only at this; omega); have h1 := OwnS.setCell stable_fld (p := ⟨R, 2, none⟩) (OwnS.setCell stable_fld (p := ⟨R, 1, none⟩) (OwnS.setCell stable_fld (p := ⟨R, 0, none⟩) h.of (hf 0) id (.string ⟨nm.toArray⟩)) (hf 1) id vf) (hf 2) id vb; have h2 := OwnS.setCell stable_int (p := ⟨R, 2, none⟩) (OwnS.setCell stable_int (p := ⟨R, 1, none⟩) (OwnS.setCell stable_int (p := ⟨R, 0, none⟩) h.ob (hb 0) id (.string ⟨nm.toArray⟩)) (hb 1) id vf) (hb 2) id vb
 exact ⟨h1.rd stable_fld (fun _ h => h.elim) (fun j hj => by have := (h1.lo j hj).1; omega), h2.rd stable_int (fun _ h => h.elim) (fun j hj => by have := (h2.lo j hj).1; omega),
   ((h.pw.other (show R ≠ g by omega) _).other (show R ≠ g by omega) _).other (show R ≠ g by omega) _,
   ((h.gr.setNew (show w.heap.size ≤ R by omega) _).setNew (show w.heap.size ≤ R by omega) _).setNew (show w.heap.size ≤ R by omega) _⟩
end
def MsgV (w : World) (w' : World) (x : Msg) (v : Value) : Prop := ∃ vf vb, v = .agg #[.string ⟨x.name.toArray⟩, vf, vb] ∧ RdS DFld 6 (fun b => w.heap.size ≤ b) w' vf x.fields ∧ RdS DInt 1 (fun b => w.heap.size ≤ b) w' vb x.barred ∧ x.name.length ≤ 16
end Go.Proofs.YtbceapeoknngnaaGreatDoor
