/-
  body.join.
-/
import Derived.Test.YtbceapeoknngnaaGreatDoorCp21
import Derived.Deep.DeepCutAuto
import Derived.Deep.CutBlock
import Derived.Laws.Rows
set_option linter.unusedVariables false
namespace Go.Proofs.YtbceapeoknngnaaGreatDoor
open Go.RowKit
abbrev JoinC (N k : Nat) (f : Fil) : Prop := ∀ (d : Nat) (S : Nat → Prop) (msg : Int) (a b : Bod) (va ua vb ub : Value) (fb : Nat) (w : World), 0 ≤ msg → msg < f.msgs.length → FilAt w fb f →
  DBodF d S w a [va, ua] → DBodF d S w b [vb, ub] → wrongB f k msg a = 0 → wrongB f k msg b = 0 → UnkLe N k a → UnkLe N k b →
  Calls Tryz.prog 60 #[.pointer (some ⟨fb, 0, none⟩), .int .i64 msg, .agg #[va, ua], .agg #[vb, ub]] w fun e w' => ∃ vv vu, e = .returned (.agg #[vv, vu]) ∧ DBodF d (Sx S w) w' (joinB f k msg a b) [vv, vu] ∧ Up w w'
def SA (S : Nat → Prop) (B : Nat) : Nat → Prop := fun b => (S b ∧ b < B) ∨ B + 4 ≤ b
def SB (S : Nat → Prop) (B T : Nat) : Nat → Prop := fun b => (S b ∧ b < B) ∨ (B + 4 ≤ b ∧ b < T)
theorem SB.a {S : Nat → Prop} {B T b : Nat} (h : SB S B T b) : SA S B b := h.imp id (fun h => h.1)
theorem SB.no {S : Nat → Prop} {B T : Nat} (h : B + 3 < T) : ¬ SB S B T T := fun g => by rcases g with ⟨_, h1⟩ | ⟨_, h1⟩ <;> omega
theorem SA.sx {S : Nat → Prop} {B : Nat} {w : World} (h : B + 3 < w.heap.size) : ∀ b, Sx (SA S B) w b → SA S B b := fun b g => by
  rcases g with g | g
  · exact g
  · exact .inr (by omega)
theorem SB.sx {S : Nat → Prop} {B T : Nat} {w : World} (h : B + 3 < w.heap.size) : ∀ b, Sx (SB S B T) w b → SA S B b := fun b g => by
  rcases g with g | g
  · exact g.a
  · exact .inr (by omega)
def SN (S : Nat → Prop) (B T : Nat) : Nat → Prop := fun b => SA S B b ∧ b ≠ T
theorem SN.no {S : Nat → Prop} {B T : Nat} : ¬ SN S B T T := fun g => g.2 rfl
theorem SBx.n {S : Nat → Prop} {B T : Nat} {w : World} (h : B + 3 < T) (hw : T < w.heap.size) : ∀ b, Sx (SB S B T) w b → SN S B T b := fun b g => ⟨SB.sx (by omega) b g, by
  rintro rfl
  rcases g with g | g
  · exact SB.no h g
  · omega⟩
theorem cell_set_ne {w : World} {b o T : Nat} (h : b ≠ T) (i : Nat) (z : Value) : (w.setCell ⟨T, i, none⟩ z).cell? ⟨b, o, none⟩ = w.cell? ⟨b, o, none⟩ := by
  have h2 := heap_setCell_other w ⟨T, i, none⟩ b z h
  simp only [World.cell?, h2]
theorem rd_one {d : Nat} {S : Nat → Prop} {W : World} {g : Nat} {vv vu : Value} {x : Bod} {t : TypeId} (hb : W.heap[g]? = some (.cells #[vv, vu] t (0, 0))) (hS : S g) (hx : DBodF d S W x [vv, vu]) : RdS (DBodF d) 2 S W (.slice (some ⟨g, 0, none⟩) 1 1) [x] := by
  refine ⟨some ⟨g, 0, none⟩, 1, rfl, by simp, by unfold maxLen; omega, (fun h => by cases h), fun i hi => ?_⟩
  have h0 : i = 0 := by simpa using hi
  subst h0
  refine ⟨g, 0, [vv, vu], rfl, hS, lt_of_block hb, rfl, fun j u hu => ?_, hx⟩
  have hj : j < 2 := by
    have := (List.getElem?_eq_some_iff.1 hu).1
    simpa using this
  rcases j with _ | _ | j
  · simp at hu; subst hu; exact cell_of_row W g 0 _ _ _ hb
  · simp at hu; subst hu; exact cell_of_row W g 1 _ _ _ hb
  · omega
theorem box2_set {w : World} {g : Nat} {x y : Value} {t : TypeId} (h : w.heap[g]? = some (.cells #[x, y] t (0, 0))) (u v : Value) : ((w.setCell ⟨g, 0, none⟩ u).setCell ⟨g, 1, none⟩ v).heap[g]? = some (.cells #[u, v] t (0, 0)) :=
  heap_setCell_same _ g 1 _ t v (heap_setCell_same w g 0 _ t u h)
theorem box4_1 {w : World} {g : Nat} {a b c d : Value} {t : TypeId} (h : w.heap[g]? = some (.cells #[a, b, c, d] t (0, 0))) (u : Value) : (w.setCell ⟨g, 1, none⟩ u).heap[g]? = some (.cells #[a, u, c, d] t (0, 0)) := heap_setCell_same w g 1 _ t u h
theorem box4_2 {w : World} {g : Nat} {a b c d : Value} {t : TypeId} (h : w.heap[g]? = some (.cells #[a, b, c, d] t (0, 0))) (u : Value) : (w.setCell ⟨g, 2, none⟩ u).heap[g]? = some (.cells #[a, b, u, d] t (0, 0)) := heap_setCell_same w g 2 _ t u h
theorem box4_3 {w : World} {g : Nat} {a b c d : Value} {t : TypeId} (h : w.heap[g]? = some (.cells #[a, b, c, d] t (0, 0))) (u : Value) : (w.setCell ⟨g, 3, none⟩ u).heap[g]? = some (.cells #[a, b, c, u] t (0, 0)) := heap_setCell_same w g 3 _ t u h
theorem SBx.no {S : Nat → Prop} {B T : Nat} {w : World} (h : B + 3 < T) (hw : T < w.heap.size) : ¬ Sx (SB S B T) w T := fun g => by
  rcases g with g | g
  · exact SB.no h g
  · omega
theorem box2_other {w : World} {g k : Nat} (hk : k ≠ g) (u v : Value) : ((w.setCell ⟨g, 0, none⟩ u).setCell ⟨g, 1, none⟩ v).heap[k]? = w.heap[k]? :=
  (heap_setCell_other _ _ k v hk).trans (heap_setCell_other w _ k u hk)
theorem right_vals {f : Fil} {k : Nat} {m : Msg} {b : Bod} (h : wrongBF (wrongVF (wrongB f k) f) m b = 0) :
    RisingV b.values ∧ b.values.length ≤ m.fields.length ∧ (∀ v ∈ b.values, ∃ F, fldN m.fields v.1 = some F ∧ wrongVF (wrongB f k) f F v = 0) := by
  have h1 := (wrongBF_zero h).1
  obtain ⟨g1, g2, _, _⟩ := valsN_zero h1
  exact ⟨g2, vals_le h1, fun v hv => by obtain ⟨x, e1, e2, _⟩ := g1 v hv; exact ⟨x, e1, e2⟩⟩
theorem take_snoc_fold {α β : Type} (g : β → α → β) (l : List α) (z : β) {k : Nat} (h : k < l.length) : (l.take (k + 1)).foldl g z = g ((l.take k).foldl g z) l[k] := by
  rw [List.take_succ_eq_append_getElem h, List.foldl_append]; rfl
theorem bothV_num (jb : Int → Bod → Bod → Bod) (f : Fil) (x : Fld) (o : Option Val) (v : Val) : (bothV jb f x o v).1 = v.1 := by
  unfold bothV
  split
  · rfl
  · split
    · rfl
    · split <;> rfl
set_option maxRecDepth 100000 in
set_option maxHeartbeats 12800000 in
theorem join_step (N k : Nat) (hN : N * 2 * 48 ≤ 140737488355328) (f : Fil) (ih : JoinC N k f) (hright : (wrongN f).1 = 0) : JoinC N (k + 1) f := by
  intro d S msg a b va ua vb ub fb w hm0 hm1 hfa hda hdb hwa hwb hna hnb
  cases d with
  | zero => exact hda.elim
  | succ d =>
  have hrgt := hright
  obtain ⟨av1, ac1, au1, ac2, rfl, rfl, hav, hau, haz⟩ := bod_cells hda
  obtain ⟨bv1, bc1, bu1, bc2, rfl, rfl, hbv, hbu, hbz⟩ := bod_cells hdb
  obtain ⟨mi, rfl⟩ : ∃ mi : Nat, msg = mi := ⟨msg.toNat, by omega⟩
  have hmi : mi < f.msgs.length := by omega
  have hj : joinB f (k + 1) (mi : Int) a b = .mk (b.values.foldl (joinV (joinB f k) f f.msgs[mi].fields) a.values) (a.unknown ++ b.unknown) := by
    rw [joinB, Int.toNat_natCast, List.getElem?_eq_getElem hmi]
  rw [hj]
  have hga : ∀ x : Bod, wrongB f (k + 1) (mi : Int) x = 0 → wrongBF (wrongVF (wrongB f k) f) f.msgs[mi] x = 0 := fun x h => by
    rw [wrongB, Int.toNat_natCast, List.getElem?_eq_getElem hmi] at h; exact h
  obtain ⟨ra1, ra2, ra3⟩ := right_vals (hga a hwa)
  obtain ⟨rb1, rb2, rb3⟩ := right_vals (hga b hwb)
  have hmr := right_msg hright f.msgs[mi] (List.getElem_mem hmi)
  have h16 := (msg_field hmr).1
  obtain ⟨vm, ve, hcm, hce, hfv⟩ := id hfa
  obtain ⟨vm', ve', he', hm', he''⟩ := id hfv
  simp only [Value.agg.injEq, Array.mk.injEq, List.cons.injEq, and_true] at he'
  obtain ⟨rfl, rfl⟩ := he'
  obtain ⟨ma, mc, rfl, _, _⟩ := hm'.val
  obtain ⟨ea, ec, rfl, _, _⟩ := he''.val
  obtain ⟨mb, mo, cs, rfl, _, _, hcs, hd⟩ := hm'.at hmi
  obtain ⟨vf, vb, hd, hfs, hbs, hnm⟩ := hd
  subst hd
  obtain ⟨fa, fc, rfl, _, _⟩ := hfs.val
  obtain ⟨ba, bc, rfl, _, _⟩ := hbs.val
  have s0 := hcs 0 _ rfl; have s1 := hcs 1 _ rfl; have s2 := hcs 2 _ rfl
  simp only [Nat.add_zero] at s0
  have Hav := Lib.hid hav; have Hau := Lib.hid hau; have Hbv := Lib.hid hbv; have Hbu := Lib.hid hbu; have Hfs := Lib.hid hfs; have Hfa := Lib.hid hfa; have Hih := Lib.hid ih
  have Hna := Lib.hid hna; have Hnb := Lib.hid hnb
  have Hra1 := Lib.hid ra1; have Hra3 := Lib.hid ra3; have Hrb1 := Lib.hid rb1; have Hrb3 := Lib.hid rb3
  have Haz := Lib.hid haz
  have hal : a.values.length ≤ 16 := by omega
  have hbl : b.values.length ≤ 16 := by omega
  have hau' := hna.top; have hbu' := hnb.top
  have Hftp := Lib.hid (fun (F : Fld) (n : Int) (h : fldN f.msgs[mi].fields n = some F) => show typedN f F = 0 from by
    obtain ⟨h1, _⟩ := fldN_mem h
    obtain ⟨i, hi, rfl⟩ := List.getElem_of_mem h1
    exact (field_facts ((msg_field hmr).2.2 i hi)).2.2.2.1)
  clear hcs hm' he'' hfv hda hdb hj hga hright ih hav hau hbv hbu hfs hfa hwa hwb hna hnb ra1 ra3 rb1 rb3 ra2 rb2 hrgt haz hbz hmr h16
  generalize f.msgs[mi] = m at *
  have hm2 : (mi : Int) < (f.msgs.length : Int) := by omega
  have Hbu' := Lib.hid hbu'; have Hau' := Lib.hid hau'
  clear hbu' hau'
  go_enter Tryz.func60, Tryz.ntmps60
  go_upto_region 1 with (fail)
  generalize hW : ((w.alloc (.cells #[.slice av1 a.values.length ac1, .slice au1 a.unknown.length ac2] 29)).alloc (.cells #[.slice bv1 b.values.length bc1, .slice bu1 b.unknown.length bc2] 29)).alloc (.cells #[.slice none 0 0, .slice none 0 0] 29) = w1
  have hb0 : w1.heap[w.heap.size]? = some (.cells #[.slice av1 a.values.length ac1, .slice au1 a.unknown.length ac2] 29 (0, 0)) := by rw [← hW]; exact blk_old _ (blk_old _ (blk_new w _ rfl))
  have hb1 : w1.heap[w.heap.size + 1]? = some (.cells #[.slice bv1 b.values.length bc1, .slice bu1 b.unknown.length bc2] 29 (0, 0)) := by rw [← hW]; exact blk_old _ (blk_new (w.alloc _) _ (by simp))
  have hb2 : w1.heap[w.heap.size + 2]? = some (.cells #[.slice none 0 0, .slice none 0 0] 29 (0, 0)) := by rw [← hW]; exact blk_new ((w.alloc _).alloc _) _ (by simp)
  have hu1 : Up w w1 := by rw [← hW]; exact (((Up.refl w).alloc _).alloc _).alloc _
  have hz1 : w1.heap.size = w.heap.size + 3 := by rw [← hW]; simp
  clear hW
  have s0 := hu1.cell_some s0; have s1 := hu1.cell_some s1; have s2 := hu1.cell_some s2; have hcm := hu1.cell_some hcm; have hce := hu1.cell_some hce
  go_upto_region 2 with (fail)
  have hb3 : (w1.alloc (.cells #[.string ⟨m.name.toArray⟩, .slice fa m.fields.length fc, .slice ba m.barred.length bc] 38)).heap[w.heap.size + 3]? = some (.cells #[.string ⟨m.name.toArray⟩, .slice fa m.fields.length fc, .slice ba m.barred.length bc] 38 (0, 0)) := blk_new w1 _ (by omega)
  have hb0 := blk_old (.cells #[.string ⟨m.name.toArray⟩, .slice fa m.fields.length fc, .slice ba m.barred.length bc] 38) hb0
  have hb1 := blk_old (.cells #[.string ⟨m.name.toArray⟩, .slice fa m.fields.length fc, .slice ba m.barred.length bc] 38) hb1
  have hb2 := blk_old (.cells #[.string ⟨m.name.toArray⟩, .slice fa m.fields.length fc, .slice ba m.barred.length bc] 38) hb2
  have hu2 := hu1.alloc (.cells #[.string ⟨m.name.toArray⟩, .slice fa m.fields.length fc, .slice ba m.barred.length bc] 38)
  have hz2 : (w1.alloc (.cells #[.string ⟨m.name.toArray⟩, .slice fa m.fields.length fc, .slice ba m.barred.length bc] 38)).heap.size = w.heap.size + 4 := by simp [hz1]
  generalize hw2 : w1.alloc (.cells #[.string ⟨m.name.toArray⟩, .slice fa m.fields.length fc, .slice ba m.barred.length bc] 38) = w2 at *
  clear hw2 s0 s1 s2 hcm hce hz1 hu1
  have Hb0 := Lib.hid hb0; have Hb1 := Lib.hid hb1; have Hb2 := Lib.hid hb2; have Hb3 := Lib.hid hb3; have Hu2 := Lib.hid hu2; have Hz2 := Lib.hid hz2
  have l0 : w2.cell? ⟨w.heap.size + 1, 0, none⟩ = some (.slice bv1 b.values.length bc1) := cell_of_row w2 _ 0 _ _ _ hb1
  clear hb0 hb1 hb2 hb3 hu2 hz2
  go_wp2_with fail
  clear l0
  have Hfc := Lib.hid (fun n W (u : Up w W) => field_any (.string ⟨m.name.toArray⟩) (.slice fa m.fields.length fc) (.slice ba m.barred.length bc) m.fields n W ⟨_, rfl⟩ ⟨_, _, _, rfl⟩ (Hfs.out.up stable_fld u))
  go_loopw [25] (fun i wr => ∃ (k2 : Nat) (l : List Val) (vv : Value), k2 ≤ b.values.length ∧ i = .int .i64 k2 ∧ (b.values.take k2).foldl (joinV (joinB f k) f m.fields) a.values = l ∧ RisingV l ∧ l.length ≤ 16 + k2 ∧ (∀ n, (∀ x ∈ b.values.take k2, x.1 ≠ n) → ∀ o, findV l n = some o → findV a.values n = some o) ∧
    wr.heap[w.heap.size]? = some (.cells #[vv, .slice au1 a.unknown.length ac2] 29 (0, 0)) ∧ wr.heap[w.heap.size + 1]? = some (.cells #[.slice bv1 b.values.length bc1, .slice bu1 b.unknown.length bc2] 29 (0, 0)) ∧
    wr.heap[w.heap.size + 2]? = some (.cells #[.slice none 0 0, .slice none 0 0] 29 (0, 0)) ∧ wr.heap[w.heap.size + 3]? = some (.cells #[.string ⟨m.name.toArray⟩, .slice fa m.fields.length fc, .slice ba m.barred.length bc] 38 (0, 0)) ∧
    RdS (DValD d) 4 (SA S w.heap.size) wr vv l ∧ Up w wr) (fun i _ => b.values.length - (intOf i).toNat)
  case atStart => exact ⟨0, a.values, _, by omega, rfl, rfl, Hra1.out, by omega, fun n _ o h => h, Hb0.out, Hb1.out, Hb2.out, Hb3.out, (Hav.out.keep (stable_val d) (S' := SA S w.heap.size) (w' := w2) (fun k hs hk => ⟨Hu2.out.block k hk, .inl ⟨hs, hk⟩⟩)), Hu2.out⟩
  case round =>
    clear Hb0 Hb1 Hb2 Hb3 Hu2 Hz2
    obtain ⟨k2, l, vv, hk2, rfl, hl, hris, hll, hfind, hb0, hb1, hb2, hb3, hrd, hu⟩ := hrel
    obtain ⟨vva, vvc, rfl, _, _⟩ := hrd.val
    have Hl := Lib.hid hl; have Hris := Lib.hid hris; have Hfind := Lib.hid hfind; have Hb0 := Lib.hid hb0; have Hb1 := Lib.hid hb1; have Hb2 := Lib.hid hb2; have Hb3 := Lib.hid hb3; have Hrd := Lib.hid hrd; have Hu := Lib.hid hu
    have hbz : w.heap.size + 3 < wr.heap.size := lt_of_block hb3
    by_cases hlt : k2 < b.values.length
    · obtain ⟨b1, o1, cs, rfl, hsb, hb1lt, hl4, hcs, hd⟩ : ∃ b1 o1 cs, bv1 = some ⟨b1, o1, none⟩ ∧ S b1 ∧ b1 < w.heap.size ∧ cs.length = 4 ∧ CellsAt w b1 (o1 + k2 * 4) cs ∧ DValD d S w b.values[k2] cs := by
        obtain ⟨ao, cap, e, _, _, _, g4⟩ := Hbv.out
        obtain ⟨b1, o1, cs, e1, e2, e3, e4, e5, e6⟩ := g4 k2 hlt
        simp only [Value.slice.injEq] at e
        exact ⟨b1, o1, cs, by rw [e.1]; exact e1, e2, e3, e4, e5, e6⟩
      obtain ⟨p1, g1, p2, g2, p3, g3, rfl, hn, hx1, hx2, hx3, zx⟩ := val_cells hd
      have q0 := hu.cell_some (hcs 0 _ rfl); have q1 := hu.cell_some (hcs 1 _ rfl); have q2 := hu.cell_some (hcs 2 _ rfl); have q3 := hu.cell_some (hcs 3 _ rfl)
      simp only [Nat.add_zero] at q0
      obtain ⟨F, hF, hwF⟩ := Hrb3.out _ (List.getElem_mem hlt)
      have hnew : ∀ x ∈ b.values.take k2, x.1 ≠ b.values[k2].1 := by
        intro x hx
        obtain ⟨i, hi, rfl⟩ := List.getElem_of_mem hx
        rw [List.length_take] at hi
        rw [List.getElem_take]
        have := List.pairwise_iff_getElem.1 Hrb1.out i k2 (by omega) hlt (by omega)
        omega
      have Hfo := Lib.hid (Hfind.out _ hnew)
      have Htk := Lib.hid (take_snoc_fold (joinV (joinB f k) f m.fields) b.values a.values hlt)
      have Hmk := Lib.hid (show ∀ x ∈ b.values.take (k2 + 1), x ∈ b.values.take k2 ∨ x = b.values[k2] from fun x hx => by
        rw [List.take_succ_eq_append_getElem hlt] at hx
        rcases List.mem_append.1 hx with h | h
        · exact .inl h
        · exact .inr (by simpa using h))
      have Hsub := Lib.hid (show ∀ x ∈ b.values[k2].2.2.2, UnkLe N k x from Hnb.out.2 _ (List.getElem_mem hlt))
      have i0 : (0 : Int) ≤ (k2 : Int) := by omega
      have i1 : (k2 : Int) < (b.values.length : Int) := by omega
      have Hd := Lib.hid hd; have HF := Lib.hid hF; have HwF := Lib.hid hwF
      clear hl hris hfind hb0 hb1 hb2 hb3 hrd hu hcs hd hF hwF hnew hx1 hx2 hx3
      generalize hq : b.values[k2] = q at *
      obtain ⟨qn, qb, qy, qs⟩ := q
      simp only at q0 q1 q2 q3 Hd hn HF HwF Hfo zx Hsub
      obtain ⟨wq, rfl⟩ : ∃ wq : World, wq = wr := ⟨_, rfl⟩
      go_upto_region 5 with (fail)
      obtain ⟨T, hT⟩ : ∃ T, wq.heap.size = T := ⟨_, rfl⟩
      have hbx := blk_new wq (.cells #[.int .i64 qn, .slice p1 qb.length g1, .slice p2 qy.length g2, .slice p3 qs.length g3] 53) (g := wq.heap.size) rfl
      have hux := (Up.refl wq).alloc (.cells #[.int .i64 qn, .slice p1 qb.length g1, .slice p2 qy.length g2, .slice p3 qs.length g3] 53)
      generalize hwx : wq.alloc (.cells #[.int .i64 qn, .slice p1 qb.length g1, .slice p2 qy.length g2, .slice p3 qs.length g3] 53) = wx at *
      clear hwx q0 q1 q2 q3
      rw [hT] at hbx ⊢
      have hbm := hux.blk Hb3.out
      have v0 : wx.cell? ⟨T, 0, none⟩ = some (.int .i64 qn) := cell_of_row wx _ 0 _ _ _ hbx
      have m0 : wx.cell? ⟨w.heap.size + 3, 0, none⟩ = some (.string ⟨m.name.toArray⟩) := cell_of_row wx _ 0 _ _ _ hbm
      have m1 : wx.cell? ⟨w.heap.size + 3, 1, none⟩ = some (.slice fa m.fields.length fc) := cell_of_row wx _ 1 _ _ _ hbm
      have m2 : wx.cell? ⟨w.heap.size + 3, 2, none⟩ = some (.slice ba m.barred.length bc) := cell_of_row wx _ 2 _ _ _ hbm
      have Hbx := Lib.hid hbx; have Hux := Lib.hid hux
      have hTx : T < wx.heap.size := lt_of_block hbx
      clear hbx hux hbm
      obtain ⟨hi, hfd⟩ | ⟨j, hj, hi, hfd⟩ := idxP_cases (fun z : Fld => z.number == qn) m.fields
      · have := HF.out; rw [show fldN m.fields qn = none from hfd] at this; cases this
      obtain rfl : m.fields[j] = F := by have := HF.out; rw [show fldN m.fields qn = some m.fields[j] from hfd] at this; exact Option.some.inj this
      obtain ⟨xb, xo, rfl, hxa⟩ := fld_at Hfs.out hj
      have Hxa := Lib.hid hxa
      have j0 : (0 : Int) ≤ (j : Int) := by omega
      have j1 : (j : Int) < (m.fields.length : Int) := by omega
      have hfc := Hfc.out qn wx.drew (Hu.out.trans (Hux.out.trans (Up.refl wx).drew))
      rw [hi] at hfc
      have Hfc5 := Lib.hid hfc
      clear hfc hxa hfd hi
      generalize m.fields[j] = F at *
      have dd : wx.drew.cell? ⟨w.heap.size + 3, 0, none⟩ = some (.string ⟨m.name.toArray⟩) ∧ wx.drew.cell? ⟨w.heap.size + 3, 1, none⟩ = some (.slice (some ⟨xb, xo, none⟩) m.fields.length fc) ∧ wx.drew.cell? ⟨w.heap.size + 3, 2, none⟩ = some (.slice ba m.barred.length bc) ∧ wx.drew.cell? ⟨T, 0, none⟩ = some (.int .i64 qn) := ⟨m0, m1, m2, v0⟩
      go_cut [12] (fun p wc => p = .pointer (some ⟨xb, xo + j * 6, none⟩) ∧ Up wx wc)
      case first =>
        go_region_held3 (fun w' => w'.cell? ⟨w.heap.size + 3, 0, none⟩ = some (.string ⟨m.name.toArray⟩) ∧ w'.cell? ⟨w.heap.size + 3, 1, none⟩ = some (.slice (some ⟨xb, xo, none⟩) m.fields.length fc) ∧ w'.cell? ⟨w.heap.size + 3, 2, none⟩ = some (.slice ba m.barred.length bc) ∧ w'.cell? ⟨T, 0, none⟩ = some (.int .i64 qn))
          (first | with_reducible exact dd | with_reducible exact ⟨hu5.cell_some m0, hu5.cell_some m1, hu5.cell_some m2, hu5.cell_some v0⟩)
          (first | (go_at_call 43; refine Hfc5.out.mono ?_; rintro e w5 ⟨rfl, hu5'⟩; have hu5 := ((Up.refl wx).drew).trans hu5'))
        all_goals
          go_wp2_with fail
          go_meet
          exact ⟨rfl, hu5⟩
      case rest =>
      clear dd v0 m0 m1 m2
      obtain ⟨rfl, hu5⟩ := hcut
      have Hbx5 := Lib.hid (hu5.blk Hbx.out)
      have Hu5 := Lib.hid (Hux.out.trans hu5)
      have hT5 : T < wc.heap.size := lt_of_block Hbx5.out
      clear hu5 Hbx Hfc5
      have a0 : wc.cell? ⟨w.heap.size, 0, none⟩ = some (.slice vva l.length vvc) := cell_of_row wc _ 0 _ _ _ (Hu5.out.blk Hb0.out)
      have a1 : wc.cell? ⟨w.heap.size, 1, none⟩ = some (.slice au1 a.unknown.length ac2) := cell_of_row wc _ 1 _ _ _ (Hu5.out.blk Hb0.out)
      have v0 : wc.cell? ⟨T, 0, none⟩ = some (.int .i64 qn) := cell_of_row wc _ 0 _ _ _ Hbx5.out
      go_wp2_with fail
      have Hrdb := Lib.hid (Hrd.out.keep (stable_val d) (S' := SB S w.heap.size T) (w' := wq) (fun k hs hk => ⟨rfl, by rcases hs with h | h; exact .inl h; exact .inr ⟨h, by omega⟩⟩))
      have hget := get_v d (.slice vva l.length vvc) (.slice au1 a.unknown.length ac2) l qn wc (Hrdb.out.up (stable_val d) Hu5.out) ⟨_, _, _, rfl⟩
      obtain ⟨wv, rfl⟩ : ∃ wv : World, wv = wc := ⟨_, rfl⟩
      refine hget.mono ?_
      rintro e w6 ⟨y1, z1, y2, z2, y3, z3, rfl, hod, hu6⟩
      clear a0 a1 v0 hget Hrdb
      have Hbx6 := Lib.hid (hu6.blk Hbx5.out)
      have Hu6 := Lib.hid (Hu5.out.trans hu6)
      have Hod := Lib.hid hod
      have hT6 : T < w6.heap.size := lt_of_block Hbx6.out
      clear hod hu6 Hbx5 Hu5
      obtain ⟨OV, hOV⟩ : ∃ OV, (findV l qn).getD val0 = OV := ⟨_, rfl⟩
      obtain ⟨ok, hok⟩ : ∃ ok, (findV l qn).isSome = ok := ⟨_, rfl⟩
      rw [hOV] at Hod ⊢
      rw [hok]
      have HOV := Lib.hid hOV; have Hok := Lib.hid hok
      clear hOV hok
      obtain ⟨on, ob, oy, os⟩ := OV
      simp only at Hod ⊢
      go_upto_block 2 with (fail)
      have hbo := blk_new w6 (.cells #[.int .i64 on, .slice y1 ob.length z1, .slice y2 oy.length z2, .slice y3 os.length z3] 53) (g := w6.heap.size) rfl
      have hu7 := (Up.refl w6).alloc (.cells #[.int .i64 on, .slice y1 ob.length z1, .slice y2 oy.length z2, .slice y3 os.length z3] 53)
      generalize hw7 : w6.alloc (.cells #[.int .i64 on, .slice y1 ob.length z1, .slice y2 oy.length z2, .slice y3 os.length z3] 53) = w7 at *
      clear hw7
      have Hbo := Lib.hid hbo
      have Hbx7 := Lib.hid (hu7.blk Hbx6.out)
      have Hu7 := Lib.hid (Hu6.out.trans hu7)
      have Hod7 := Lib.hid (stable_val d _ _ _ _ _ _ (Keep.upS hu7) Hod.out)
      have Hd7 := Lib.hid (stable_val d _ _ _ _ _ _ ((show Keep S w (SB S w.heap.size T) w from fun k hs hk => ⟨rfl, .inl ⟨hs, hk⟩⟩).trans (Keep.upS (Hu.out.trans (Hu6.out.trans hu7)))) Hd.out)
      obtain ⟨O, hO⟩ : ∃ O, w6.heap.size = O := ⟨_, rfl⟩
      have hO7 : O < w7.heap.size := by rw [← hO]; exact lt_of_block hbo
      have hTO : T < O := by omega
      rw [hO] at Hbo ⊢
      clear hbo hu7 Hbx6 Hu6 Hod hO
      have mn := (Hu.out.trans Hu7.out).cell_some Hxa.out.2.1.2.2.2.2.1
      have kd := (Hu.out.trans Hu7.out).cell_some Hxa.out.2.1.2.2.1
      go_cut [] (fun wc => ∃ (x : Val) (e1 e2 e3 : Option Addr) (h1 h2 h3 : Nat), bothV (joinB f k) f F (findV l qn) (qn, qb, qy, qs) = x ∧ wc.heap[T]? = some (.cells #[.int .i64 qn, .slice e1 x.2.1.length h1, .slice e2 x.2.2.1.length h2, .slice e3 x.2.2.2.length h3] 53 (0, 0)) ∧ DValD d (SA S w.heap.size) wc x [.int .i64 qn, .slice e1 x.2.1.length h1, .slice e2 x.2.2.1.length h2, .slice e3 x.2.2.2.length h3] ∧ Up wq wc)
      case first =>
        have Hsame := Lib.hid (show bothV (joinB f k) f F (findV l qn) (qn, qb, qy, qs) = (qn, qb, qy, qs) → ∃ (x : Val) (e1 e2 e3 : Option Addr) (h1 h2 h3 : Nat), bothV (joinB f k) f F (findV l qn) (qn, qb, qy, qs) = x ∧ w7.heap[T]? = some (.cells #[.int .i64 qn, .slice e1 x.2.1.length h1, .slice e2 x.2.2.1.length h2, .slice e3 x.2.2.2.length h3] 53 (0, 0)) ∧ DValD d (SA S w.heap.size) w7 x [.int .i64 qn, .slice e1 x.2.1.length h1, .slice e2 x.2.2.1.length h2, .slice e3 x.2.2.2.length h3] ∧ Up wq w7 from
          fun h => ⟨_, p1, p2, p3, g1, g2, g3, h, Hbx7.out, DVal.weak Hd7.out (fun _ h => h.a), Hu7.out⟩)
        cases ok with
        | false =>
          have hnone : findV l qn = none := by have := Hok.out; simpa using this
          have Hb := Lib.hid (show bothV (joinB f k) f F (findV l qn) (qn, qb, qy, qs) = (qn, qb, qy, qs) by rw [hnone]; rfl)
          clear hnone
          go_wp2_with fail
          go_meet
          exact Hsame.out Hb.out
        | true =>
        have hsome : findV l qn = some (on, ob, oy, os) := by
          have h1 := Hok.out; have h2 := HOV.out
          cases hf : findV l qn with
          | none => rw [hf] at h1; cases h1
          | some o => rw [hf] at h2; exact congrArg some h2
        have Hsome := Lib.hid hsome
        obtain rfl : on = qn := (findV_mem hsome).2
        have hmemA : (on, ob, oy, os) ∈ a.values := (findV_mem (Hfo.out _ hsome)).1
        have hov : wrongVF (wrongB f k) f F (on, ob, oy, os) = 0 := by
          obtain ⟨F', e1, e2⟩ := Hra3.out _ hmemA
          rw [show fldN m.fields (on, ob, oy, os).1 = some F from HF.out] at e1
          rw [Option.some.inj e1]; exact e2
        have hoz := wrongVF_zero hov
        have hvz := wrongVF_zero HwF.out
        have ho60 : ob.length ≤ 60 ∧ oy.length ≤ 60 ∧ os.length ≤ 60 := by have := count_sum hoz.1; simp only at this; omega
        have hv60 : qb.length ≤ 60 ∧ qy.length ≤ 60 ∧ qs.length ≤ 60 := by have := count_sum hvz.1; simp only at this; omega
        have Hoz := Lib.hid hoz; have Hvz := Lib.hid hvz; have HmA := Lib.hid hmemA
        clear hsome hov hoz hvz hmemA
        cases hmany : F.many with
        | true =>
          rw [hmany] at mn
          obtain ⟨_, _, _, _, _, _, he, hon, ox1, ox2, ox3, ozx⟩ := val_cells Hod7.out
          simp only [List.cons.injEq, Value.slice.injEq, true_and, and_true] at he
          obtain ⟨⟨rfl, rfl⟩, ⟨rfl, rfl⟩, rfl, rfl⟩ := he
          obtain ⟨_, _, _, _, _, _, he, hvn, vx1, vx2, vx3, vzx⟩ := val_cells Hd7.out
          simp only [List.cons.injEq, Value.slice.injEq, true_and, and_true] at he
          obtain ⟨⟨rfl, rfl⟩, ⟨rfl, rfl⟩, rfl, rfl⟩ := he
          have hB := Lib.hid (show bothV (joinB f k) f F (findV l on) (on, qb, qy, qs) = (on, ob ++ qb, oy ++ qy, os ++ qs) by rw [Hsome.out]; unfold bothV; simp only; rw [if_pos hmany])
          have hBT : w.heap.size + 3 < T := by omega
          have Hox1 := Lib.hid ox1; have Hox2 := Lib.hid ox2; have Hox3 := Lib.hid ox3
          have Hvx1 := Lib.hid vx1; have Hvx2 := Lib.hid vx2; have Hvx3 := Lib.hid vx3
          have Ho60 := Lib.hid ho60; have Hv60 := Lib.hid hv60
          clear ox1 ox2 ox3 vx1 vx2 vx3 hmany ozx vzx ho60 hv60
          have o1 : w7.cell? ⟨O, 1, none⟩ = some (.slice y1 ob.length z1) := cell_of_row w7 _ 1 _ _ _ Hbo.out
          have t1 : w7.cell? ⟨T, 1, none⟩ = some (.slice p1 qb.length g1) := cell_of_row w7 _ 1 _ _ _ Hbx7.out
          go_wp2_with fail
          refine (concat_u64 _ _ ob qb w7.heap.size _ _ (Hox1.out.up stable_u64 ((Up.refl w7).alloc _)) (Hvx1.out.up stable_u64 ((Up.refl w7).alloc _)) (blk_new w7 _ rfl) (by have := Ho60.out; have := Hv60.out; omega)).mono ?_
          rintro e w8 ⟨v8, rfl, hc1, hu8⟩
          obtain ⟨s1, n1, rfl, _, _⟩ := hc1.val
          have hu78 := ((Up.refl w7).alloc _).trans hu8
          have Hu78 := Lib.hid hu78
          have Hbo8 := Lib.hid (hu78.blk Hbo.out); have Hbx8 := Lib.hid (hu78.blk Hbx7.out)
          have Hc1 := Lib.hid hc1
          clear o1 t1 hc1 hu8 hu78 mn kd
          have r1 : w8.cell? ⟨T, 1, none⟩ = some (.slice p1 qb.length g1) := cell_of_row w8 _ 1 _ _ _ Hbx8.out
          have rf' : ∀ o, w8.frozen? ⟨T, o, none⟩ = false := fun o => frozen_of_row w8 _ o _ _ Hbx8.out
          have hT8 : T < w8.heap.size := lt_of_block Hbx8.out
          go_upto_region 9 with (fail)
          have hbx9 := box4_1 Hbx8.out (.slice s1 (ob.length + qb.length) n1)
          have hbo9 := (heap_setCell_other w8 ⟨T, 1, none⟩ O (.slice s1 (ob.length + qb.length) n1) (show O ≠ T by omega)).trans Hbo8.out
          have hu9 := Up.setCell (Hu7.out.trans Hu78.out) (p := ⟨T, 1, none⟩) (Nat.le_of_eq hT) (.slice s1 (ob.length + qb.length) n1)
          have kp : Keep (SB S w.heap.size T) w7 (SB S w.heap.size T) (w8.setCell ⟨T, 1, none⟩ (.slice s1 (ob.length + qb.length) n1)) := (Keep.upS Hu78.out).trans (Keep.setCell (p := ⟨T, 1, none⟩) (SB.no hBT) _)
          have Hc1 := Lib.hid ((Hc1.out.keep stable_u64 (Keep.weak (SBx.n hBT (by simp; omega)))).keep stable_u64 (Keep.setCell (p := ⟨T, 1, none⟩) SN.no (.slice s1 (ob.length + qb.length) n1)))
          have Hox2 := Lib.hid (Hox2.out.keep stable_bytes kp); have Hvx2 := Lib.hid (Hvx2.out.keep stable_bytes kp)
          have Hox3 := Lib.hid (Hox3.out.keep (stable_bod d) kp); have Hvx3 := Lib.hid (Hvx3.out.keep (stable_bod d) kp)
          generalize w8.setCell ⟨T, 1, none⟩ (.slice s1 (ob.length + qb.length) n1) = w9 at *
          have Hbx9 := Lib.hid hbx9; have Hbo9 := Lib.hid hbo9; have Hu9 := Lib.hid hu9
          have o2 : w9.cell? ⟨O, 2, none⟩ = some (.slice y2 oy.length z2) := cell_of_row w9 _ 2 _ _ _ hbo9
          have t2 : w9.cell? ⟨T, 2, none⟩ = some (.slice p2 qy.length g2) := cell_of_row w9 _ 2 _ _ _ hbx9
          have hO9 : O < w9.heap.size := lt_of_block hbo9
          clear hbx9 hbo9 hu9 kp r1 rf' hT8 Hbx8 Hbo8 Hu78
          go_wp2_with fail
          refine (concat_byt _ _ oy qy w9.heap.size _ _ (Hox2.out.up stable_bytes ((Up.refl w9).alloc _)) (Hvx2.out.up stable_bytes ((Up.refl w9).alloc _)) (blk_new w9 _ rfl) (by have := Ho60.out; have := Hv60.out; omega)).mono ?_
          rintro e w10 ⟨v10, rfl, hc2, hu10⟩
          obtain ⟨s2, n2, rfl, _, _⟩ := hc2.val
          have hu910 := ((Up.refl w9).alloc _).trans hu10
          have Hu910 := Lib.hid hu910
          have Hbo10 := Lib.hid (hu910.blk Hbo9.out); have Hbx10 := Lib.hid (hu910.blk Hbx9.out)
          have Hc2 := Lib.hid hc2
          clear o2 t2 hc2 hu10 hu910
          have r1 : w10.cell? ⟨T, 2, none⟩ = some (.slice p2 qy.length g2) := cell_of_row w10 _ 2 _ _ _ Hbx10.out
          have rf' : ∀ o, w10.frozen? ⟨T, o, none⟩ = false := fun o => frozen_of_row w10 _ o _ _ Hbx10.out
          have hT10 : T < w10.heap.size := lt_of_block Hbx10.out
          go_upto_region 10 with (fail)
          have hbx11 := box4_2 Hbx10.out (.slice s2 (oy.length + qy.length) n2)
          have hbo11 := (heap_setCell_other w10 ⟨T, 2, none⟩ O (.slice s2 (oy.length + qy.length) n2) (show O ≠ T by omega)).trans Hbo10.out
          have hu11 := Up.setCell (Hu9.out.trans Hu910.out) (p := ⟨T, 2, none⟩) (Nat.le_of_eq hT) (.slice s2 (oy.length + qy.length) n2)
          have kp : Keep (SB S w.heap.size T) w9 (SB S w.heap.size T) (w10.setCell ⟨T, 2, none⟩ (.slice s2 (oy.length + qy.length) n2)) := (Keep.upS Hu910.out).trans (Keep.setCell (p := ⟨T, 2, none⟩) (SB.no hBT) _)
          have kn : Keep (SN S w.heap.size T) w9 (SN S w.heap.size T) (w10.setCell ⟨T, 2, none⟩ (.slice s2 (oy.length + qy.length) n2)) := (Keep.upS Hu910.out).trans (Keep.setCell (p := ⟨T, 2, none⟩) SN.no _)
          have Hc2 := Lib.hid ((Hc2.out.keep stable_bytes (Keep.weak (SBx.n hBT (by simp; omega)))).keep stable_bytes (Keep.setCell (p := ⟨T, 2, none⟩) SN.no (.slice s2 (oy.length + qy.length) n2)))
          have Hc1 := Lib.hid (Hc1.out.keep stable_u64 kn)
          have Hox3 := Lib.hid (Hox3.out.keep (stable_bod d) kp); have Hvx3 := Lib.hid (Hvx3.out.keep (stable_bod d) kp)
          generalize w10.setCell ⟨T, 2, none⟩ (.slice s2 (oy.length + qy.length) n2) = w11 at *
          have Hbx11 := Lib.hid hbx11; have Hbo11 := Lib.hid hbo11; have Hu11 := Lib.hid hu11
          have o3 : w11.cell? ⟨O, 3, none⟩ = some (.slice y3 os.length z3) := cell_of_row w11 _ 3 _ _ _ hbo11
          have t3 : w11.cell? ⟨T, 3, none⟩ = some (.slice p3 qs.length g3) := cell_of_row w11 _ 3 _ _ _ hbx11
          have hO11 : O < w11.heap.size := lt_of_block hbo11
          clear hbx11 hbo11 hu11 kp kn r1 rf' hT10 Hbx10 Hbo10 Hu910
          go_wp2_with fail
          refine (concat_bod d _ _ os qs w11.heap.size _ _ (Hox3.out.up (stable_bod d) ((Up.refl w11).alloc _)) (Hvx3.out.up (stable_bod d) ((Up.refl w11).alloc _)) (blk_new w11 _ rfl) (by have := Ho60.out; have := Hv60.out; omega)).mono ?_
          rintro e w12 ⟨v12, rfl, hc3, hu12⟩
          obtain ⟨s3, n3, rfl, _, _⟩ := hc3.val
          have hu1112 := ((Up.refl w11).alloc _).trans hu12
          have Hu1112 := Lib.hid hu1112
          have Hbx12 := Lib.hid (hu1112.blk Hbx11.out)
          have Hc3 := Lib.hid hc3
          clear o3 t3 hc3 hu12 hu1112
          have r1 : w12.cell? ⟨T, 3, none⟩ = some (.slice p3 qs.length g3) := cell_of_row w12 _ 3 _ _ _ Hbx12.out
          have rf' : ∀ o, w12.frozen? ⟨T, o, none⟩ = false := fun o => frozen_of_row w12 _ o _ _ Hbx12.out
          have hT12 : T < w12.heap.size := lt_of_block Hbx12.out
          go_wp2_with fail
          go_meet
          have kn : Keep (SN S w.heap.size T) w11 (SN S w.heap.size T) (w12.setCell ⟨T, 3, none⟩ (.slice s3 (os.length + qs.length) n3)) := (Keep.upS Hu1112.out).trans (Keep.setCell (p := ⟨T, 3, none⟩) SN.no _)
          have hsa : ∀ b, SN S w.heap.size T b → SA S w.heap.size b := fun _ h => h.1
          have h60 := Ho60.out
          have g60 := Hv60.out
          refine ⟨(on, ob ++ qb, oy ++ qy, os ++ qs), s1, s2, s3, n1, n2, n3, hB.out, ?_, ⟨_, _, _, rfl, hon, ?_, ?_, ?_, ?_⟩, ?_⟩
          · simp only [List.length_append]
            exact box4_3 Hbx12.out _
          · exact (Hc1.out.keep stable_u64 kn).keep stable_u64 (Keep.weak hsa)
          · exact (Hc2.out.keep stable_bytes kn).keep stable_bytes (Keep.weak hsa)
          · exact (((Hc3.out.keep (stable_bod d) (Keep.weak (SBx.n hBT (by simp; omega)))).keep (stable_bod d) (Keep.setCell (p := ⟨T, 3, none⟩) SN.no (.slice s3 (os.length + qs.length) n3)))).keep (stable_bod d) (Keep.weak hsa)
          · unfold ValSz
            simp only [List.length_append]
            omega
          · exact Up.setCell (Hu11.out.trans Hu1112.out) (p := ⟨T, 3, none⟩) (Nat.le_of_eq hT) _
        | false =>
          rw [hmany] at mn
          by_cases hk10 : F.kind = 10
          · rw [hk10] at kd
            have hoc : os.length = 1 := by have := Hoz.out.2.2.2.1 hmany; rw [hk10] at this; exact this
            have hvc : qs.length = 1 := by have := Hvz.out.2.2.2.1 hmany; rw [hk10] at this; exact this
            have hmi0 := (typed_facts (Hftp.out F on HF.out)).2.2.1 hk10
            have hmib := msgI_bd f F.type
            have hB := Lib.hid (show bothV (joinB f k) f F (findV l on) (on, qb, qy, qs) = (on, qb, qy, [joinB f k (msgI f F.type) (os.headD bod0) (qs.headD bod0)]) by rw [Hsome.out]; unfold bothV; simp only; rw [if_neg (by rw [hmany]; decide), if_pos hk10])
            have hko : ((10 : Int) == 10) = true := rfl
            have HmA2 := Lib.hid (Hna.out.2 _ HmA.out)
            obtain ⟨_, _, _, _, _, _, he, hon, ox1, ox2, ox3, ozx⟩ := val_cells Hod7.out
            simp only [List.cons.injEq, Value.slice.injEq, true_and, and_true] at he
            obtain ⟨⟨rfl, rfl⟩, ⟨rfl, rfl⟩, rfl, rfl⟩ := he
            obtain ⟨_, _, _, _, _, _, he, hvn, vx1, vx2, vx3, vzx⟩ := val_cells Hd7.out
            simp only [List.cons.injEq, Value.slice.injEq, true_and, and_true] at he
            obtain ⟨⟨rfl, rfl⟩, ⟨rfl, rfl⟩, rfl, rfl⟩ := he
            obtain ⟨os0, rfl⟩ : ∃ x, os = [x] := by
              rcases os with _ | ⟨x, _ | ⟨y, r⟩⟩
              · simp at hoc
              · exact ⟨x, rfl⟩
              · simp at hoc
            obtain ⟨qs0, rfl⟩ : ∃ x, qs = [x] := by
              rcases qs with _ | ⟨x, _ | ⟨y, r⟩⟩
              · simp at hvc
              · exact ⟨x, rfl⟩
              · simp at hvc
            obtain ⟨sb, so, cs1, rfl, hsS, hsl, hsc4, hcs1, hd1⟩ : ∃ b1 o1 cs, y3 = some ⟨b1, o1, none⟩ ∧ SB S w.heap.size T b1 ∧ b1 < w7.heap.size ∧ cs.length = 2 ∧ CellsAt w7 b1 o1 cs ∧ DBodF d (SB S w.heap.size T) w7 os0 cs := by
              obtain ⟨ao, cap, e, _, _, _, g4⟩ := ox3
              obtain ⟨b1, o1, cs, e1, e2, e3, e4, e5, e6⟩ := g4 0 (by simp)
              simp only [Value.slice.injEq] at e
              exact ⟨b1, o1, cs, by rw [e.1]; exact e1, e2, e3, e4, by simpa using e5, e6⟩
            obtain ⟨m1, r1, z1', m2, r2, z2', rfl⟩ := bod_two hd1
            obtain ⟨tb, to', cs2, rfl, htS, htl, htc4, hcs2, hd2⟩ : ∃ b1 o1 cs, p3 = some ⟨b1, o1, none⟩ ∧ SB S w.heap.size T b1 ∧ b1 < w7.heap.size ∧ cs.length = 2 ∧ CellsAt w7 b1 o1 cs ∧ DBodF d (SB S w.heap.size T) w7 qs0 cs := by
              obtain ⟨ao, cap, e, _, _, _, g4⟩ := vx3
              obtain ⟨b1, o1, cs, e1, e2, e3, e4, e5, e6⟩ := g4 0 (by simp)
              simp only [Value.slice.injEq] at e
              exact ⟨b1, o1, cs, by rw [e.1]; exact e1, e2, e3, e4, by simpa using e5, e6⟩
            obtain ⟨m3, r3, z3', m4, r4, z4', rfl⟩ := bod_two hd2
            have c0 := hcs1 0 _ rfl; have c1 := hcs1 1 _ rfl; have c2 := hcs2 0 _ rfl; have c3 := hcs2 1 _ rfl
            simp only [Nat.add_zero] at c0 c2
            have o3 : w7.cell? ⟨O, 3, none⟩ = some (.slice (some ⟨sb, so, none⟩) 1 z3) := cell_of_row w7 _ 3 _ _ _ Hbo.out
            have t3 : w7.cell? ⟨T, 3, none⟩ = some (.slice (some ⟨tb, to', none⟩) 1 g3) := cell_of_row w7 _ 3 _ _ _ Hbx7.out
            have f0 := (Hu.out.trans Hu7.out).cell_some hcm
            have f1 := (Hu.out.trans Hu7.out).cell_some hce
            have ty := (Hu.out.trans Hu7.out).cell_some Hxa.out.2.1.2.2.2.1
            have Hmsg := Lib.hid (fun W (u : Up w7 W) => by
              obtain ⟨vm2, ve2, g1', g2', g3'⟩ := Hfa.out.up (Hu.out.trans (Hu7.out.trans u))
              have e1 := (u.cell_some f0).symm.trans g1'
              have e2 := (u.cell_some f1).symm.trans g2'
              simp only [Option.some.injEq] at e1 e2
              subst e1 e2
              exact find_msg_l _ f F.type W g3')
            have Hjn := Lib.hid (fun W (u : Up w7 W) => Hih.out d (SB S w.heap.size T) (msgI f F.type) os0 qs0 (.slice m1 r1 z1') (.slice m2 r2 z2') (.slice m3 r3 z3') (.slice m4 r4 z4') fb W hmi0 (by omega) (Hfa.out.up (Hu.out.trans (Hu7.out.trans u))) (stable_bod d _ _ _ _ _ _ (Keep.upS u) hd1) (stable_bod d _ _ _ _ _ _ (Keep.upS u) hd2) (Hoz.out.2.2.2.2.2.2.2 _ (by simp)) (Hvz.out.2.2.2.2.2.2.2 _ (by simp)) (HmA2.out _ (by simp)) (Hsub.out _ (by simp)))
            have Hvx1 := Lib.hid vx1; have Hvx2 := Lib.hid vx2
            clear hoc hvc hcs1 hcs2 hd1 hd2 ox1 ox2 ox3 vx1 vx2 vx3 ozx hmany hk10 HmA2 hsc4 htc4
            simp only [List.headD_cons] at hB
            change Hid (∀ W, Up w7 W → Calls _ _ _ _ fun e w' => e = Ending.returned (.int .i64 (msgI f F.type)) ∧ Up W w') at Hmsg
            generalize msgI f F.type = mj at *
            generalize joinB f k mj os0 qs0 = JB at *
            go_upto_region 12 with (fail)
            have dd : w7.drew.cell? ⟨fb, 0, none⟩ = some (.slice (some ⟨mb, mo, none⟩) f.msgs.length mc) ∧ w7.drew.cell? ⟨fb, 1, none⟩ = some (.slice ea f.enums.length ec) ∧ w7.drew.cell? ⟨xb, xo + j * 6 + 3, none⟩ = some (.string ⟨F.type.toArray⟩) ∧ w7.drew.cell? ⟨O, 3, none⟩ = some (.slice (some ⟨sb, so, none⟩) 1 z3) ∧ w7.drew.cell? ⟨T, 3, none⟩ = some (.slice (some ⟨tb, to', none⟩) 1 g3) ∧ w7.drew.cell? ⟨sb, so, none⟩ = some (.slice m1 r1 z1') ∧ w7.drew.cell? ⟨sb, so + 1, none⟩ = some (.slice m2 r2 z2') ∧ w7.drew.cell? ⟨tb, to', none⟩ = some (.slice m3 r3 z3') ∧ w7.drew.cell? ⟨tb, to' + 1, none⟩ = some (.slice m4 r4 z4') := ⟨f0, f1, ty, o3, t3, c0, c1, c2, c3⟩
            have DD := Lib.hid (fun W (u : Up w7 W) => (⟨u.cell_some f0, u.cell_some f1, u.cell_some ty, u.cell_some o3, u.cell_some t3, u.cell_some c0, u.cell_some c1, u.cell_some c2, u.cell_some c3⟩ : W.cell? ⟨fb, 0, none⟩ = some (.slice (some ⟨mb, mo, none⟩) f.msgs.length mc) ∧ W.cell? ⟨fb, 1, none⟩ = some (.slice ea f.enums.length ec) ∧ W.cell? ⟨xb, xo + j * 6 + 3, none⟩ = some (.string ⟨F.type.toArray⟩) ∧ W.cell? ⟨O, 3, none⟩ = some (.slice (some ⟨sb, so, none⟩) 1 z3) ∧ W.cell? ⟨T, 3, none⟩ = some (.slice (some ⟨tb, to', none⟩) 1 g3) ∧ W.cell? ⟨sb, so, none⟩ = some (.slice m1 r1 z1') ∧ W.cell? ⟨sb, so + 1, none⟩ = some (.slice m2 r2 z2') ∧ W.cell? ⟨tb, to', none⟩ = some (.slice m3 r3 z3') ∧ W.cell? ⟨tb, to' + 1, none⟩ = some (.slice m4 r4 z4')))
            refine wp_region_last (m := 20) (by kernel_rfl) (by rfl) (by kernel_rfl) (by kernel_rfl) (by kernel_rfl) (S := fun w' => w'.cell? ⟨fb, 0, none⟩ = some (.slice (some ⟨mb, mo, none⟩) f.msgs.length mc) ∧ w'.cell? ⟨fb, 1, none⟩ = some (.slice ea f.enums.length ec) ∧ w'.cell? ⟨xb, xo + j * 6 + 3, none⟩ = some (.string ⟨F.type.toArray⟩) ∧ w'.cell? ⟨O, 3, none⟩ = some (.slice (some ⟨sb, so, none⟩) 1 z3) ∧ w'.cell? ⟨T, 3, none⟩ = some (.slice (some ⟨tb, to', none⟩) 1 g3) ∧ w'.cell? ⟨sb, so, none⟩ = some (.slice m1 r1 z1') ∧ w'.cell? ⟨sb, so + 1, none⟩ = some (.slice m2 r2 z2') ∧ w'.cell? ⟨tb, to', none⟩ = some (.slice m3 r3 z3') ∧ w'.cell? ⟨tb, to' + 1, none⟩ = some (.slice m4 r4 z4')) ?_
            have hHeld : (fun w' : World => w'.cell? ⟨fb, 0, none⟩ = some (.slice (some ⟨mb, mo, none⟩) f.msgs.length mc) ∧ w'.cell? ⟨fb, 1, none⟩ = some (.slice ea f.enums.length ec) ∧ w'.cell? ⟨xb, xo + j * 6 + 3, none⟩ = some (.string ⟨F.type.toArray⟩) ∧ w'.cell? ⟨O, 3, none⟩ = some (.slice (some ⟨sb, so, none⟩) 1 z3) ∧ w'.cell? ⟨T, 3, none⟩ = some (.slice (some ⟨tb, to', none⟩) 1 g3) ∧ w'.cell? ⟨sb, so, none⟩ = some (.slice m1 r1 z1') ∧ w'.cell? ⟨sb, so + 1, none⟩ = some (.slice m2 r2 z2') ∧ w'.cell? ⟨tb, to', none⟩ = some (.slice m3 r3 z3') ∧ w'.cell? ⟨tb, to' + 1, none⟩ = some (.slice m4 r4 z4')) w7.drew := dd
            change wpAnyH _ _ _ _ _ _ _ _ w7.drew
            refine wpAnyH_take (i := 0) (v := ?_) rfl (by kernel_rfl) (by kernel_rfl) (by kernel_rfl) (fun _ _ _ h => h) (Or.inl ⟨by rfl, ?_⟩) (by assumption) ?_
            rotate_left
            · (intro w hSw; (try dsimp only at hSw); go_simp)
              try with_reducible rfl
            rotate_left
            try simp only [Act.put, List.setIfInBounds_toArray]
            refine wpAnyH_take (i := 1) (v := ?_) rfl (by kernel_rfl) (by kernel_rfl) (by kernel_rfl) (fun _ _ _ h => h) (Or.inl ⟨by rfl, ?_⟩) (by assumption) ?_
            rotate_left
            · (intro w hSw; (try dsimp only at hSw); go_simp)
              try with_reducible rfl
            rotate_left
            try simp only [Act.put]
            refine wpAnyH_take (i := 2) (v := ?_) rfl (by kernel_rfl) (by kernel_rfl) (by kernel_rfl) (fun _ _ _ h => h) (Or.inl ⟨by rfl, ?_⟩) (by assumption) ?_
            rotate_left
            · (intro w hSw; (try dsimp only at hSw); go_simp)
              try with_reducible rfl
            rotate_left
            try simp only [Act.put]
            refine wpAnyH_take (i := 3) (v := ?_) rfl (by kernel_rfl) (by kernel_rfl) (by kernel_rfl) (fun _ _ _ h => h) (Or.inl ⟨by rfl, ?_⟩) (by assumption) ?_
            rotate_left
            · (intro w hSw; (try dsimp only at hSw); go_simp)
              try with_reducible rfl
            rotate_left
            try simp only [Act.put]
            refine wpAnyH_take (i := 4) (v := ?_) rfl (by kernel_rfl) (by kernel_rfl) (by kernel_rfl) (fun _ _ _ h => h) (Or.inl ⟨by rfl, ?_⟩) (by assumption) ?_
            rotate_left
            · (intro w hSw; (try dsimp only at hSw); go_simp)
              try with_reducible rfl
            rotate_left
            try simp only [Act.put]
            refine wpAnyH_take (i := 5) (v := ?_) rfl (by kernel_rfl) (by kernel_rfl) (by kernel_rfl) (fun _ _ _ h => h) (Or.inl ⟨by rfl, ?_⟩) (by assumption) ?_
            rotate_left
            · (intro w hSw; (try dsimp only at hSw); go_simp)
              try with_reducible rfl
            rotate_left
            try simp only [Act.put]
            refine wpAnyH_take (i := 6) (v := ?_) rfl (by kernel_rfl) (by kernel_rfl) (by kernel_rfl) (fun _ _ _ h => h) (Or.inl ⟨by rfl, ?_⟩) (by assumption) ?_
            rotate_left
            · (intro w hSw; (try dsimp only at hSw); go_simp)
              try with_reducible rfl
            rotate_left
            try simp only [Act.put]
            refine wpAnyH_take (i := 7) (v := ?_) rfl (by kernel_rfl) (by kernel_rfl) (by kernel_rfl) (fun _ _ _ h => h) (Or.inl ⟨by rfl, ?_⟩) (by assumption) ?_
            rotate_left
            · (intro w hSw; (try dsimp only at hSw); go_simp)
              try with_reducible rfl
            rotate_left
            try simp only [Act.put]
            refine wpAnyH_take (i := 9) (v := ?_) rfl (by kernel_rfl) (by kernel_rfl) (by kernel_rfl) (fun _ _ _ h => h) (Or.inl ⟨by rfl, ?_⟩) (by assumption) ?_
            rotate_left
            · (intro w hSw; (try dsimp only at hSw); go_simp)
              try with_reducible rfl
            rotate_left
            try simp only [Act.put]
            refine wpAnyH_take (i := 10) (v := ?_) rfl (by kernel_rfl) (by kernel_rfl) (by kernel_rfl) (fun _ _ _ h => h) (Or.inl ⟨by rfl, ?_⟩) (by assumption) ?_
            rotate_left
            · (intro w hSw; (try dsimp only at hSw); go_simp)
              try with_reducible rfl
            rotate_left
            try simp only [Act.put]
            refine wpAnyH_take (i := 11) (v := ?_) rfl (by kernel_rfl) (by kernel_rfl) (by kernel_rfl) (fun _ _ _ h => h) (Or.inl ⟨by rfl, ?_⟩) (by assumption) ?_
            rotate_left
            · (intro w hSw; (try dsimp only at hSw); go_simp)
              try with_reducible rfl
            rotate_left
            try simp only [Act.put]
            refine wpAnyH_take (i := 12) (v := ?_) rfl (by kernel_rfl) (by kernel_rfl) (by kernel_rfl) (fun _ _ _ h => h) (Or.inl ⟨by rfl, ?_⟩) (by assumption) ?_
            rotate_left
            · (intro w hSw; (try dsimp only at hSw); go_simp)
              try with_reducible rfl
            rotate_left
            try simp only [Act.put]
            refine wpAnyH_take (i := 13) (v := ?_) rfl (by kernel_rfl) (by kernel_rfl) (by kernel_rfl) (fun _ _ _ h => h) (Or.inl ⟨by rfl, ?_⟩) (by assumption) ?_
            rotate_left
            · (intro w hSw; (try dsimp only at hSw); go_simp)
              try with_reducible rfl
            rotate_left
            try simp only [Act.put]
            refine wpAnyH_take (i := 14) (v := ?_) rfl (by kernel_rfl) (by kernel_rfl) (by kernel_rfl) (fun _ _ _ h => h) (Or.inl ⟨by rfl, ?_⟩) (by assumption) ?_
            rotate_left
            · (intro w hSw; (try dsimp only at hSw); go_simp)
              try with_reducible rfl
            rotate_left
            try simp only [Act.put]
            refine wpAnyH_take (i := 15) (v := ?_) rfl (by kernel_rfl) (by kernel_rfl) (by kernel_rfl) (fun _ _ _ h => h) (Or.inl ⟨by rfl, ?_⟩) (by assumption) ?_
            rotate_left
            · (intro w hSw; (try dsimp only at hSw); go_simp)
              try with_reducible rfl
            rotate_left
            try simp only [Act.put]
            refine wpAnyH_take (i := 16) (v := ?_) rfl (by kernel_rfl) (by kernel_rfl) (by kernel_rfl) (fun _ _ _ h => h) (Or.inl ⟨by rfl, ?_⟩) (by assumption) ?_
            rotate_left
            · (intro w hSw; (try dsimp only at hSw); go_simp)
              try with_reducible rfl
            rotate_left
            try simp only [Act.put]
            refine wpAnyH_ready (rs := [8]) (by kernel_rfl) (by simp) ?_
            refine AllReadyH.cons rfl (fun K hK => ?_) AllReadyH.nil
            go_simp
            refine (Hmsg.out _ (Up.refl w7).drew).mono ?_
            rintro e w8 ⟨rfl, hu8'⟩
            have hu8 := ((Up.refl w7).drew).trans hu8'
            refine hK.out _ _ (DD.out _ hu8) (fun hHeld => ?_)
            clear hK K hHeld
            have hHeld := DD.out _ hu8
            try simp only [Act.put, List.setIfInBounds_toArray, List.set_cons_zero, List.set_cons_succ]
            refine wpAnyH_ready (rs := [17]) (by kernel_rfl) (by simp) ?_
            refine AllReadyH.cons rfl (fun K hK => ?_) AllReadyH.nil
            go_simp
            refine (Hjn.out _ hu8).mono ?_
            rintro e w9 ⟨vv9, vu9, rfl, hjd, hu9'⟩
            have hu9 := hu8.trans hu9'
            have Hjd := Lib.hid hjd
            refine hK.out _ _ (DD.out _ hu9) (fun hHeld => ?_)
            clear hK K hHeld hjd
            try simp only [Act.put, List.setIfInBounds_toArray, List.set_cons_zero, List.set_cons_succ]
            refine wpAnyH_ready (rs := [18]) (by kernel_rfl) (by simp) ?_
            refine AllReadyH.cons rfl (fun K hK => ?_) AllReadyH.nil
            go_simp
            refine hK.out _ _ (DD.out _ (hu9.alloc _)) (fun hHeld => ?_)
            clear hK K
            try simp only [Act.put, List.setIfInBounds_toArray, List.set_cons_zero, List.set_cons_succ]
            refine wpAnyH_take (i := 19) (v := ?_) rfl (by kernel_rfl) (by kernel_rfl) (by kernel_rfl) (fun _ _ _ h => h) (Or.inl ⟨by rfl, ?_⟩) (by assumption) ?_
            rotate_left
            · (intro w hSw; (try dsimp only at hSw); go_simp)
              try with_reducible rfl
            rotate_left
            try simp only [Act.put, List.setIfInBounds_toArray]
            refine wpAnyH_done (by kernel_rfl) ?_ _
            have hug := hu9.alloc (.cells #[vv9, vu9] 29)
            have hgb := blk_new w9 (.cells #[vv9, vu9] 29) (g := w9.heap.size) rfl
            have hkj : Keep (Sx (SB S w.heap.size T) w8) w9 (SN S w.heap.size T) (w9.alloc (.cells #[vv9, vu9] 29)) := (Keep.weak (SBx.n (by omega) (lt_of_block (hu8.blk Hbx7.out)))).trans (Keep.alloc _)
            have hjn := stable_bod d _ _ _ _ _ _ hkj Hjd.out
            have hTg : T < w9.heap.size := lt_of_block (hu9.blk Hbx7.out)
            obtain ⟨w10, hw10⟩ : ∃ w10, w9.alloc (.cells #[vv9, vu9] 29) = w10 := ⟨_, rfl⟩
            rw [hw10] at hug hgb hjn hHeld ⊢
            have t310 := hug.cell_some t3
            have tf10 := frozen_of_row w10 T 3 _ _ (hug.blk Hbx7.out)
            have tz10 : T < w10.heap.size := lt_of_block (hug.blk Hbx7.out)
            have Hjn' := Lib.hid hjn; have Hgb := Lib.hid hgb; have Hug := Lib.hid hug
            clear hjn hgb hug hu9 hu9' hu8 hu8' hHeld hkj hw10 dd DD
            refine AskLast.normal (wpOp_step rfl (fun K' hK' => ?_))
            go_simp
            refine hK' _ _ ?_
            clear hK'
            go_wp2_with fail
            go_meet
            have hnoT : ¬ SB S w.heap.size T T := SB.no (by omega)
            have hun1 := Hvx1.out.keep stable_u64 (((Keep.upS Hug.out).trans (Keep.setCell (p := ⟨T, 3, none⟩) hnoT (.slice (some ⟨w9.heap.size, 0, none⟩) 1 1))).trans (Keep.weak fun _ h => h.a))
            have hun2 := Hvx2.out.keep stable_bytes (((Keep.upS Hug.out).trans (Keep.setCell (p := ⟨T, 3, none⟩) hnoT (.slice (some ⟨w9.heap.size, 0, none⟩) 1 1))).trans (Keep.weak fun _ h => h.a))
            refine ⟨(on, qb, qy, [JB]), p1, p2, some ⟨w9.heap.size, 0, none⟩, g1, g2, 1, hB.out, box4_3 (Hug.out.blk Hbx7.out) _, ⟨_, _, _, rfl, hon, hun1, hun2, ?_, ?_⟩, ?_⟩
            · refine rd_one (t := 29) ((heap_setCell_other _ ⟨T, 3, none⟩ _ _ (show w9.heap.size ≠ T by omega)).trans Hgb.out) (.inr (by omega)) ?_
              exact stable_bod d _ _ _ _ _ _ ((Keep.setCell (p := ⟨T, 3, none⟩) SN.no _).trans (Keep.weak fun _ h => h.1)) Hjn'.out
            · unfold ValSz at vzx ⊢
              simp only [List.length_cons, List.length_nil] at vzx ⊢
              omega
            · exact Up.setCell (Hu7.out.trans Hug.out) (p := ⟨T, 3, none⟩) (Nat.le_of_eq hT) _
          · have hkb : (F.kind == 10) = false := by simpa using hk10
            have Hb := Lib.hid (show bothV (joinB f k) f F (findV l on) (on, qb, qy, qs) = (on, qb, qy, qs) by rw [Hsome.out]; unfold bothV; simp only; rw [if_neg (by rw [hmany]; decide), if_neg hk10])
            clear hk10 hmany
            go_wp2_with fail
            go_meet
            exact Hsame.out Hb.out
      case rest =>
      obtain ⟨x, e1, e2, e3, h1, h2, h3, hbv, hbT, hdx, hux2⟩ := hcut
      have hx1 : x.1 = qn := by rw [← hbv]; exact bothV_num _ _ _ _ _
      obtain ⟨xn, xb2, xy2, xs2⟩ := x
      simp only at hx1 hbT hdx
      subst hx1
      have hb0 := hux2.blk Hb0.out
      have hb3 := hux2.blk Hb3.out
      have m0 : wc.cell? ⟨w.heap.size + 3, 0, none⟩ = some (.string ⟨m.name.toArray⟩) := cell_of_row wc _ 0 _ _ _ hb3
      have m1 : wc.cell? ⟨w.heap.size + 3, 1, none⟩ = some (.slice (some ⟨xb, xo, none⟩) m.fields.length fc) := cell_of_row wc _ 1 _ _ _ hb3
      have m2 : wc.cell? ⟨w.heap.size + 3, 2, none⟩ = some (.slice ba m.barred.length bc) := cell_of_row wc _ 2 _ _ _ hb3
      have a0 : wc.cell? ⟨w.heap.size, 0, none⟩ = some (.slice vva l.length vvc) := cell_of_row wc _ 0 _ _ _ hb0
      have a1 : wc.cell? ⟨w.heap.size, 1, none⟩ = some (.slice au1 a.unknown.length ac2) := cell_of_row wc _ 1 _ _ _ hb0
      have t0 : wc.cell? ⟨T, 0, none⟩ = some (.int .i64 xn) := cell_of_row wc _ 0 _ _ _ hbT
      have t1 : wc.cell? ⟨T, 1, none⟩ = some (.slice e1 xb2.length h1) := cell_of_row wc _ 1 _ _ _ hbT
      have t2 : wc.cell? ⟨T, 2, none⟩ = some (.slice e2 xy2.length h2) := cell_of_row wc _ 2 _ _ _ hbT
      have t3 : wc.cell? ⟨T, 3, none⟩ = some (.slice e3 xs2.length h3) := cell_of_row wc _ 3 _ _ _ hbT
      have hset := set_v d (.string ⟨m.name.toArray⟩) (.slice (some ⟨xb, xo, none⟩) m.fields.length fc) (.slice ba m.barred.length bc) (.slice vva l.length vvc) (.slice au1 a.unknown.length ac2) m.fields l (xn, xb2, xy2, xs2) e1 e2 e3 h1 h2 h3 wc ⟨_, rfl⟩ ⟨_, _, _, rfl⟩ ⟨_, _, _, rfl⟩ (Hfs.out.up stable_fld (Hu.out.trans hux2)) (Hrd.out.up (stable_val d) hux2) Hris.out (by omega) hdx
      have Hset := Lib.hid hset
      have Hb0c := Lib.hid hb0; have Hux2 := Lib.hid hux2; have Hbv' := Lib.hid hbv
      have hTc : T < wc.heap.size := lt_of_block hbT
      clear hset hb0 hb3 hux2 hbT hdx hbv mn kd
      go_wp2_with fail
      refine Hset.out.mono ?_
      rintro e w8 ⟨vv', rfl, hrd8, hu8⟩
      obtain ⟨v8a, v8c, rfl, _, _⟩ := hrd8.val
      have Hrd8 := Lib.hid hrd8; have Hu8 := Lib.hid (Hux2.out.trans hu8)
      have Hb08 := Lib.hid (hu8.blk Hb0c.out)
      have r0 : w8.cell? ⟨w.heap.size, 0, none⟩ = some (.slice vva l.length vvc) := cell_of_row w8 _ 0 _ _ _ Hb08.out
      have r1 : w8.cell? ⟨w.heap.size, 1, none⟩ = some (.slice au1 a.unknown.length ac2) := cell_of_row w8 _ 1 _ _ _ Hb08.out
      have rf' : ∀ o, w8.frozen? ⟨w.heap.size, o, none⟩ = false := fun o => frozen_of_row w8 _ o _ _ Hb08.out
      have hw8 := hu8.size
      clear m0 m1 m2 a0 a1 t0 t1 t2 t3 hrd8 hu8 Hset
      go_wp2_with fail
      have hcall : setV m.fields l (xn, xb2, xy2, xs2) = joinV (joinB f k) f m.fields l (xn, qb, qy, qs) := by
        unfold joinV
        rw [show fldN m.fields (xn, qb, qy, qs).1 = some F from HF.out]
        simp only
        rw [Hbv'.out]
      have hsz : w.heap.size < w8.heap.size := by omega
      have hxf : fldN m.fields (xn, xb2, xy2, xs2).1 = some F := HF.out
      have hnS : ¬ Sx (SA S w.heap.size) wc w.heap.size := by
        rintro (h | h)
        · rcases h with ⟨_, h⟩ | h <;> omega
        · omega
      go_roundw
      case rel =>
        refine ⟨k2 + 1, setV m.fields l (xn, xb2, xy2, xs2), _, by omega, by go_num, ?_, rising_set Hris.out _, ?_, ?_, box2_set Hb08.out _ _, ?_, ?_, ?_, ?_, ?_⟩
        · rw [Htk.out, Hl.out, hcall]
        · have := set_len m.fields l (xn, xb2, xy2, xs2); omega
        · intro n hn o ho
          have hn1 : n ≠ (xn, xb2, xy2, xs2).1 := fun e => hn (xn, qb, qy, qs) (by rw [List.take_succ_eq_append_getElem hlt, hq]; simp) e.symm
          rw [find_set Hris.out hxf, if_neg hn1] at ho
          split at ho
          · exact Hfind.out n (fun y hy => hn y (by rw [List.take_succ_eq_append_getElem hlt]; exact List.mem_append_left _ hy)) o ho
          · cases ho
        · rw [box2_other (by omega)]; exact Hu8.out.blk Hb1.out
        · rw [box2_other (by omega)]; exact Hu8.out.blk Hb2.out
        · rw [box2_other (by omega)]; exact Hu8.out.blk Hb3.out
        · exact ((Hrd8.out.keep (stable_val d) (Keep.setCell (p := ⟨w.heap.size, 0, none⟩) hnS _)).keep (stable_val d) (Keep.setCell (p := ⟨w.heap.size, 1, none⟩) hnS _)).keep (stable_val d) (Keep.weak (SA.sx (by omega)))
        · exact Up.setCell (Up.setCell (Hu.out.trans Hu8.out) (by simp) _) (by simp) _
      case measure => simp [intOf]; omega
    · have hk2' : k2 = b.values.length := by omega
      have hfl : b.values.foldl (joinV (joinB f k) f m.fields) a.values = l := by rw [← hl, hk2', List.take_length]
      have Hfl := Lib.hid hfl
      have a1 : wr.cell? ⟨w.heap.size, 1, none⟩ = some (.slice au1 a.unknown.length ac2) := cell_of_row wr _ 1 _ _ _ hb0
      have b1 : wr.cell? ⟨w.heap.size + 1, 1, none⟩ = some (.slice bu1 b.unknown.length bc2) := cell_of_row wr _ 1 _ _ _ hb1
      have hkw : Keep S w (SA S w.heap.size) wr := fun k hs hk => ⟨Hu.out.block k hk, .inl ⟨hs, hk⟩⟩
      have hua := Hau.out.keep stable_recz hkw
      have hub := Hbu.out.keep stable_recz hkw
      have Hcon := Lib.hid (fun (g : Nat) (t : TypeId) (W : World) (u : Up wr W) (hg : W.heap[g]? = some (.cells #[.slice au1 a.unknown.length ac2, .slice bu1 b.unknown.length bc2] t (0, 0))) => concat_rec (.slice au1 a.unknown.length ac2) (.slice bu1 b.unknown.length bc2) a.unknown b.unknown g t W (hua.up stable_recz u) (hub.up stable_recz u) hg (by have := Hau'.out; have := Hbu'.out; omega))
      have hnS0 : ¬ SA S w.heap.size w.heap.size := by rintro (⟨_, h⟩ | h) <;> omega
      have hnS2 : ¬ SA S w.heap.size (w.heap.size + 1 + 1) := by rintro (⟨_, h⟩ | h) <;> omega
      obtain ⟨wo, rfl⟩ : ∃ wo : World, wo = wr := ⟨_, rfl⟩
      clear hl hris hfind hb0 hb1 hb2 hb3 hrd hu hua hub hkw hfl
      go_wp2_with fail
      refine (Hcon.out wo.heap.size _ _ ((Up.refl wo).alloc _) (blk_new wo _ rfl)).mono ?_
      rintro e w5 ⟨v5, rfl, hc5, hu5⟩
      obtain ⟨s5, n5, rfl, _, _⟩ := hc5.val
      have hu05 := ((Up.refl wo).alloc _).trans hu5
      have Hu05 := Lib.hid hu05
      have hb05 := hu05.blk Hb0.out
      have hb25 := hu05.blk Hb2.out
      have Hb05 := Lib.hid hb05; have Hb25 := Lib.hid hb25; have Hc5 := Lib.hid hc5
      clear a1 b1 hc5 hu5 hu05 Hcon
      have r0 : w5.cell? ⟨w.heap.size, 0, none⟩ = some (.slice vva l.length vvc) := cell_of_row w5 _ 0 _ _ _ hb05
      have r1 : w5.cell? ⟨w.heap.size, 1, none⟩ = some (.slice au1 a.unknown.length ac2) := cell_of_row w5 _ 1 _ _ _ hb05
      have rf0 : ∀ o, w5.frozen? ⟨w.heap.size, o, none⟩ = false := fun o => frozen_of_row w5 _ o _ _ hb05
      have z0 : w.heap.size < w5.heap.size := lt_of_block hb05
      have q0 : w5.cell? ⟨w.heap.size + 1 + 1, 0, none⟩ = some (.slice none 0 0) := cell_of_row w5 _ 0 _ _ _ hb25
      have q1 : w5.cell? ⟨w.heap.size + 1 + 1, 1, none⟩ = some (.slice none 0 0) := cell_of_row w5 _ 1 _ _ _ hb25
      have rf2 : ∀ o, w5.frozen? ⟨w.heap.size + 1 + 1, o, none⟩ = false := fun o => frozen_of_row w5 _ o _ _ hb25
      have z2 : w.heap.size + 1 + 1 < w5.heap.size := lt_of_block hb25
      clear hb05 hb25
      go_wp2_with fail
      refine bodyPost_ret (v := .agg #[.slice vva l.length vvc, .slice s5 (a.unknown.length + b.unknown.length) n5]) (by simp [results, Tryz.results60, go_sem, q0, q1]) rfl ?_
      have huf := Up.setCell (Up.setCell (Up.setCell (Hu.out.trans Hu05.out) (p := ⟨w.heap.size, 1, none⟩) (Nat.le_refl _) (.slice s5 (a.unknown.length + b.unknown.length) n5)) (p := ⟨w.heap.size + 1 + 1, 0, none⟩) (show w.heap.size ≤ w.heap.size + 1 + 1 by omega) (.slice vva l.length vvc)) (p := ⟨w.heap.size + 1 + 1, 1, none⟩) (show w.heap.size ≤ w.heap.size + 1 + 1 by omega) (.slice s5 (a.unknown.length + b.unknown.length) n5)
      have hzo : w.heap.size + 3 < wo.heap.size := lt_of_block Hb3.out
      have hsx : ∀ b, SA S w.heap.size b → Sx S w b := fun b h => by
        rcases h with ⟨h, _⟩ | h
        · exact .inl h
        · exact .inr (by omega)
      have ks : ∀ (W : World) (i : Nat) (u : Value), Keep (SA S w.heap.size) W (SA S w.heap.size) (W.setCell ⟨w.heap.size, i, none⟩ u) := fun W i u => Keep.setCell (p := ⟨w.heap.size, i, none⟩) hnS0 u
      have ks2 : ∀ (W : World) (i : Nat) (u : Value), Keep (SA S w.heap.size) W (SA S w.heap.size) (W.setCell ⟨w.heap.size + 1 + 1, i, none⟩ u) := fun W i u => Keep.setCell (p := ⟨w.heap.size + 1 + 1, i, none⟩) hnS2 u
      have k3 := ((ks w5 1 (.slice s5 (a.unknown.length + b.unknown.length) n5)).trans (ks2 _ 0 (.slice vva l.length vvc))).trans (ks2 _ 1 (.slice s5 (a.unknown.length + b.unknown.length) n5))
      refine ⟨_, _, rfl, ⟨_, _, rfl, ?_, ?_, ?_⟩, huf⟩
      · show RdS (DValD d) 4 _ _ _ (b.values.foldl (joinV (joinB f k) f m.fields) a.values)
        rw [Hfl.out]
        exact ((Hrd.out.up (stable_val d) Hu05.out).keep (stable_val d) k3).keep (stable_val d) (Keep.weak hsx)
      · show RdS DRecZ 4 _ _ _ (a.unknown ++ b.unknown)
        have hr := (((Hc5.out.keep stable_recz (Keep.weak (SA.sx (by simp; omega)))).keep stable_recz k3)).keep stable_recz (Keep.weak hsx)
        rw [List.length_append] at hr
        exact hr
      · unfold BodSz
        show (b.values.foldl (joinV (joinB f k) f m.fields) a.values).length * 80 ≤ _ ∧ (a.unknown ++ b.unknown).length * 48 ≤ _
        rw [Hfl.out, List.length_append]
        have := Hau'.out; have := Hbu'.out
        omega
theorem join_c (N : Nat) (hN : N * 2 * 48 ≤ 140737488355328) (f : Fil) (hright : (wrongN f).1 = 0) : ∀ k, JoinC N k f := by
  intro k
  induction k with
  | zero => exact fun d S msg a b va ua vb ub fb w _ _ _ _ _ hwa => by cases hwa
  | succ k ih => exact join_step N k hN f ih hright
end Go.Proofs.YtbceapeoknngnaaGreatDoor
