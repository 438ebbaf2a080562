/-
  Files, as they come in: how long their text is is bounded by their bulk.
-/
import Derived.Test.YtbceapeoknngnaaDoorRows
import Derived.Test.YtbceapeoknngnaaDoorSy48
set_option linter.unusedVariables false
namespace Go.Proofs.YtbceapeoknngnaaDoor
open Go.RowKit
theorem kbulk_one {H : Type} (d : DataW H) : 1 ≤ Rows.uptoBulk d := by
 cases d with
 | lit l => cases l <;> simp [Rows.uptoBulk]
 | nil => simp [Rows.uptoBulk]
 | ptr d => simp [Rows.uptoBulk]
 | slice elems spare => simp [Rows.uptoBulk]
 | agg parts => simp [Rows.uptoBulk]
 | iface t d => simp [Rows.uptoBulk]
 | map entries => simp [Rows.uptoBulk]
 | held h => simp [Rows.uptoBulk]
theorem kbulk_part {H : Type} {d : DataW H} {l : List (DataW H)} (h : d ∈ l) : Rows.uptoBulk d ≤ Rows.uptoBulkAll l := by
 induction l with
 | nil => cases h
 | cons x r ih =>
   simp only [Rows.uptoBulkAll]
   cases List.mem_cons.1 h with
   | inl e => subst e; omega
   | inr e => have := ih e; omega
def ReadsK {α : Type} (P : Program) (t : TypeId) (D : Lay α) (g : α → Nat) : Prop :=
 ∀ {H : Type} (enc : TypeId × Value → H) (w : World) (base : Nat) (spare : Nat → Bool) (held : Bool) (fuel : Nat) (cs : List Value) (x : DataW H × List MemPlace), DataW.trod enc P w base spare held fuel t cs = some x → Rows.uptoBulk x.1 ≤ 1048576 → ∃ a : α, D All w a cs ∧ g a + 64 ≤ 64 * Rows.uptoBulk x.1
theorem Reads.k {α : Type} {P : Program} {t : TypeId} {D : Lay α} (h : Reads P t D) : ReadsK P t D (fun _ => 0) := fun enc w base spare held fuel cs x hx _ => by
 obtain ⟨a, ha⟩ := h enc w base spare held fuel cs x hx; have := kbulk_one x.1; exact ⟨a, ha, by show 0 + 64 ≤ _; omega⟩
theorem readsK_str {P : Program} {t : TypeId} (ht : P.underlying t = some .string) : ReadsK P t DStr (fun s => s.length) := fun enc w base spare held fuel cs x h hw => by
 obtain ⟨s, rfl, rfl, _⟩ := DataW.trod_string ht h; simp only [Rows.uptoBulk] at hw ⊢; refine ⟨s.data.toList, ⟨by simp, by omega⟩, ?_⟩; show s.data.toList.length + 64 ≤ _; omega
theorem kbulk_sum {H : Type} (Dt : Nat → DataW H) (g : Nat → Nat) : ∀ n, (∀ i, i < n → g i ≤ 64 * Rows.uptoBulk (Dt i)) → ((List.range n).map g).sum ≤ 64 * Rows.uptoBulkAll ((List.range n).map Dt) := by
 have happ : ∀ (l r : List (DataW H)), Rows.uptoBulkAll (l ++ r) = Rows.uptoBulkAll l + Rows.uptoBulkAll r := by
   intro l r
   induction l with
   | nil => simp [Rows.uptoBulkAll]
   | cons a l ih => simp only [List.cons_append, Rows.uptoBulkAll, ih]; omega
 have sapp : ∀ (l r : List Nat), (l ++ r).sum = l.sum + r.sum := by
   intro l r
   induction l with
   | nil => simp
   | cons a l ih => simp only [List.cons_append, List.sum_cons, ih]; omega
 intro n
 induction n with
 | zero => intro _; simp [Rows.uptoBulkAll]
 | succ n ih =>
   intro h; have h1 := ih (fun i hi => h i (by omega)); have h2 := h n (by omega); rw [List.range_succ, List.map_append, List.map_append, happ, sapp]; simp only [List.map_cons, List.map_nil, List.sum_cons, List.sum_nil, Rows.uptoBulkAll]; omega
theorem readsK_slice {α : Type} [Inhabited α] {D : Lay α} {P : Program} {t e : TypeId} {size : Nat} {g : α → Nat} (ht : P.underlying t = some (.slice e)) (hs : P.cellsOf e = size) (hp : 0 < size) (he : ReadsK P e D g) : ReadsK P t (fun S w l cs => ∃ v, cs = [v] ∧ RdS D size S w v l) (fun l => (l.map fun a => g a + 64).sum) := fun enc w base spare held fuel cs x h hw => by
 rcases Go.Deep.open_slice ht h with ⟨rfl, _⟩ | ⟨a, len, cap, m, n, Dt, Pl, rfl, hb, hl, hm, hmm, rfl, hel⟩
 · have := kbulk_one x.1; exact ⟨[], ⟨_, rfl, ⟨none, 0, rfl, by simp, by unfold maxLen; omega, fun _ => rfl, fun i hi => by simp at hi⟩⟩, by simp; omega⟩
 · (have hlm : len ≤ m := by rw [hmm]; split <;> omega); simp only [Rows.uptoBulk] at hw
   have hz : ∀ i, i < len → Rows.uptoBulk (Dt i) ≤ 1048576 := fun i hi => by
     have := kbulk_part (d := Dt i) (l := (List.range len).map Dt) (List.mem_map.2 ⟨i, List.mem_range.2 hi, rfl⟩); omega
   obtain ⟨f, hf⟩ := Go.Deep.choose_lt (α := α × List Value) (n := len) (p := fun i ac => ac.2.length = size ∧ (∀ j u, ac.2[j]? = some u → w.cell? ((a.add (i * size)).add j) = some u) ∧ D All w ac.1 ac.2 ∧ g ac.1 + 64 ≤ 64 * Rows.uptoBulk (Dt i)) (fun i hi => by
     obtain ⟨cs', h1, h2⟩ := hel i (by omega); rw [hs] at h1; obtain ⟨h3, h4⟩ := cells?_at h1; obtain ⟨y, hy, hyw⟩ := he enc w base spare held n cs' _ h2 (hz i hi); exact ⟨(y, cs'), h3, h4, hy, hyw⟩)
   refine ⟨(List.range len).map fun i => (f i).1, ⟨_, rfl, ⟨some a, cap, by simp, by simpa using hl, hm, (fun e => nomatch e), fun i hi => ?_⟩⟩, ?_⟩
   · have hi' : i < len := by simpa using hi
     have hspot : a.spot = none := by
       have h0 := hf 0 (by omega); obtain ⟨u, hu⟩ : ∃ u, (f 0).2[0]? = some u := ⟨_, List.getElem?_eq_getElem (by omega)⟩; have := h0.2.1 0 u hu; (have e : (a.add (0 * size)).add 0 = a := by simp [Addr.add]); rw [e] at this; exact World.cell?_spot this
     obtain ⟨b, o, spot⟩ := a; simp only at hspot; subst hspot; have hfi := hf i hi'
     have hcell : ∀ j u, (f i).2[j]? = some u → w.cell? ⟨b, o + i * size + j, none⟩ = some u := fun j u hu => by
       have := hfi.2.1 j u hu
       rwa [Go.WideShapes.add_plain, Go.WideShapes.add_plain] at this
     obtain ⟨u, hu⟩ : ∃ u, (f i).2[0]? = some u := ⟨_, List.getElem?_eq_getElem (by omega)⟩; exact ⟨b, o, (f i).2, rfl, trivial, World.block_lt_of_cell? w _ (hcell 0 u hu), hfi.1, hcell, by simpa using hfi.2.2.1⟩
   · have := kbulk_sum Dt (fun i => g (f i).1 + 64) len (fun i hi => (hf i hi).2.2.2); simp only [Rows.uptoBulk, List.map_map]; show ((List.range len).map (fun i => g (f i).1 + 64)).sum + 64 ≤ _; omega
theorem structK {H : Type} {enc : TypeId × Value → H} {P : Program} {w : World} {base : Nat} {spare : Nat → Bool} {held : Bool} {t : TypeId} {fs : Array Field} {fuel : Nat} {cs : List Value} {x : DataW H × List MemPlace} (ht : P.underlying t = some (.struct fs)) (h : DataW.trod enc P w base spare held fuel t cs = some x) :
   ∃ (n : Nat) (xs : List (DataW H × List MemPlace)), cs.length = P.cellsOf t ∧ xs.length = fs.size ∧ Rows.uptoBulk x.1 = Rows.uptoBulkAll (xs.map (·.1)) + 1 ∧ ∀ (i : Nat) (f : Field) (y : DataW H × List MemPlace), fs[i]? = some f → xs[i]? = some y → DataW.trod enc P w base spare held n f.type ((cs.drop f.offset).take (P.cellsOf f.type)) = some y := by
 obtain ⟨xs, n, _, rfl, hl, hlen, hf⟩ := DataW.trod_struct ht h; refine ⟨n, xs, hl, hlen, by simp only [Rows.uptoBulk], fun i f y hi hy => ?_⟩; have h1 := hf i f hi; rw [hy] at h1; exact h1
theorem fieldK {α : Type} {D : Lay α} {g : α → Nat} {H : Type} {enc : TypeId × Value → H} {P : Program} {w : World} {base : Nat} {spare : Nat → Bool} {held : Bool} {t : TypeId} {n : Nat} {cs : List Value} {y : DataW H × List MemPlace} (o : Nat) (hr : ReadsK P t D g) (hc : P.cellsOf t = 1)
   (h : DataW.trod enc P w base spare held n t ((cs.drop o).take (P.cellsOf t)) = some y) (hM : Rows.uptoBulk y.1 ≤ 1048576) : ∃ a : α, D All w a ((cs.drop o).take 1) ∧ g a + 64 ≤ 64 * Rows.uptoBulk y.1 := by
 rw [hc] at h; exact hr _ _ _ _ _ _ _ _ h hM
theorem list2k {α : Type} {l : List α} (h : l.length = 2) : ∃ a b, l = [a, b] := list2 h
theorem list3k {α : Type} {l : List α} (h : l.length = 3) : ∃ a b c, l = [a, b, c] := list3 h
theorem list6k {α : Type} {l : List α} (h : l.length = 6) : ∃ a b c d e f, l = [a, b, c, d, e, f] := list6 h
theorem rdS_all {α : Type} {D : Lay α} {size : Nat} {S : Nat → Prop} {w : World} {v : Value} {l : List α} {Z : α → Prop} (h : RdS D size S w v l) (k : ∀ S w a cs, D S w a cs → Z a) : ∀ a ∈ l, Z a := fun a ha => by
 obtain ⟨ao, cap, hv, h1, h2, h3, h4⟩ := h; obtain ⟨i, hi, rfl⟩ := List.getElem_of_mem ha; obtain ⟨b, o, cs, e1, e2, e3, e4, e5, e6⟩ := h4 i hi; exact k _ _ _ _ e6
theorem sum_k {α : Type} (g h : α → Nat) : ∀ l : List α, (∀ a, g a ≤ h a) → (l.map g).sum ≤ (l.map h).sum
 | [], _ => Nat.le_refl _
 | a :: l, k => by
   have := sum_k g h l k; have := k a; simp only [List.map_cons, List.sum_cons]; omega
theorem sum_c {α : Type} (c : Nat) : ∀ l : List α, (l.map fun _ => c).sum = c * l.length
 | [] => rfl
 | a :: l => by simp only [List.map_cons, List.sum_cons, List.length_cons, sum_c c l, Nat.mul_succ]; omega
def KFlds : Lay (List Fld) := fun S w l cs => ∃ v, cs = [v] ∧ RdS DFld 6 S w v l
def gKFlds : List Fld → Nat := fun l => (l.map fun a => wFld a + 64).sum
def KItms : Lay (List Itm) := fun S w l cs => ∃ v, cs = [v] ∧ RdS DItm 2 S w v l
def gKItms : List Itm → Nat := fun l => (l.map fun a => wItm a + 64).sum
def KMsgs : Lay (List Msg) := fun S w l cs => ∃ v, cs = [v] ∧ RdS (fun S w m cs => DMsg S w m cs ∧ okMsg m) 3 S w v l
def gKMsgs : List Msg → Nat := fun l => (l.map fun a => wMsg a + 64).sum
def KEnus : Lay (List Enu) := fun S w l cs => ∃ v, cs = [v] ∧ RdS (fun S w m cs => DEnu S w m cs ∧ ∀ x ∈ m.items, okI x.value) 2 S w v l
def gKEnus : List Enu → Nat := fun l => (l.map fun a => wEnu a + 64).sum
def KInts : Lay (List Int) := fun S w l cs => ∃ v, cs = [v] ∧ RdS DInt 1 S w v l
def gKInts : List Int → Nat := fun l => (l.map fun _ => 0 + 64).sum
theorem rk_int : ReadsK Tryd.prog 3 DInt (fun _ => 0) := Reads.k (reads_int Tryd.underlying3)
theorem rk_bool : ReadsK Tryd.prog 4 LBool (fun _ => 0) := Reads.k (reads_bool Tryd.underlying4)
theorem rk_string : ReadsK Tryd.prog 9 DStr (fun s => s.length) := readsK_str Tryd.underlying9
theorem rk_fld : ReadsK Tryd.prog 58 DFld wFld := fun enc w base spare held fuel cs x h hw => by
 obtain ⟨n, xs, hl, hxs, hb, hf⟩ := structK Tryd.underlying58 h; rw [show Tryd.prog.cellsOf 58 = 6 by kernel_rfl] at hl; obtain ⟨c0, c1, c2, c3, c4, c5, rfl⟩ := list6k hl; obtain ⟨x0, x1, x2, x3, x4, x5, rfl⟩ := list6k (hxs.trans (by rfl)); simp only [List.map_cons, List.map_nil, Rows.uptoBulkAll] at hb; obtain ⟨a0, ⟨e0, f0⟩, g0⟩ := fieldK (D := DStr) 0 rk_string cz_string (hf 0 _ _ rfl rfl) (by omega); obtain ⟨a1, ⟨e1, f1⟩, g1⟩ := fieldK (D := DInt) 1 rk_int cz_int (hf 1 _ _ rfl rfl) (by omega); obtain ⟨a2, ⟨e2, f2⟩, g2⟩ := fieldK (D := DInt) 2 rk_int cz_int (hf 2 _ _ rfl rfl) (by omega); obtain ⟨a3, ⟨e3, f3⟩, g3⟩ := fieldK (D := DStr) 3 rk_string cz_string (hf 3 _ _ rfl rfl) (by omega); obtain ⟨a4, e4, g4⟩ := fieldK (D := LBool) 4 rk_bool cz_bool (hf 4 _ _ rfl rfl) (by omega); obtain ⟨a5, ⟨e5, f5⟩, g5⟩ := fieldK (D := DInt) 5 rk_int cz_int (hf 5 _ _ rfl rfl) (by omega); unfold LBool at e4; simp at e0 e1 e2 e3 e4 e5; subst e0 e1 e2 e3 e4 e5; refine ⟨⟨a0, a1, a2, a3, a4, a5⟩, ⟨rfl, f1, f2, f5, f0, f3⟩, ?_⟩; show 64 + a0.length + a3.length + 64 ≤ _; omega
theorem rk_flds : ReadsK Tryd.prog 43 KFlds gKFlds := readsK_slice Tryd.underlying43 (by kernel_rfl) (by decide) rk_fld
theorem rk_ints : ReadsK Tryd.prog 44 KInts gKInts := readsK_slice Tryd.underlying44 (by kernel_rfl) (by decide) rk_int
theorem rk_msg : ReadsK Tryd.prog 46 (fun S w m cs => DMsg S w m cs ∧ okMsg m) wMsg := fun enc w base spare held fuel cs x h hw => by
 obtain ⟨n, xs, hl, hxs, hb, hf⟩ := structK Tryd.underlying46 h; rw [show Tryd.prog.cellsOf 46 = 3 by kernel_rfl] at hl; obtain ⟨c0, c1, c2, rfl⟩ := list3k hl; obtain ⟨x0, x1, x2, rfl⟩ := list3k (hxs.trans (by rfl)); simp only [List.map_cons, List.map_nil, Rows.uptoBulkAll] at hb; obtain ⟨a0, ⟨e0, f0⟩, g0⟩ := fieldK (D := DStr) 0 rk_string cz_string (hf 0 _ _ rfl rfl) (by omega); obtain ⟨a1, ⟨v1, e1, f1⟩, g1⟩ := fieldK (D := KFlds) (g := gKFlds) 1 rk_flds cz_flds (hf 1 _ _ rfl rfl) (by omega); obtain ⟨a2, ⟨v2, e2, f2⟩, g2⟩ := fieldK (D := KInts) (g := gKInts) 2 rk_ints cz_ints (hf 2 _ _ rfl rfl) (by omega); simp at e0 e1 e2; subst e0 e1 e2; unfold gKFlds at g1; unfold gKInts at g2; have k1 := sum_k wFld (fun a => wFld a + 64) a1 (fun a => by omega); have k2 := sum_c (α := Int) (0 + 64) a2; refine ⟨⟨a0, a1, a2⟩, ⟨⟨_, _, rfl, f1, f2, f0⟩, ⟨rdS_all f1 fun S w a cs h => h.2.1, rdS_all f2 fun S w a cs h => h.2⟩⟩, ?_⟩; show 32 + a0.length + 32 * a2.length + (a1.map wFld).sum + 64 ≤ _; omega
theorem rk_itm : ReadsK Tryd.prog 60 DItm wItm := fun enc w base spare held fuel cs x h hw => by
 obtain ⟨n, xs, hl, hxs, hb, hf⟩ := structK Tryd.underlying60 h; rw [show Tryd.prog.cellsOf 60 = 2 by kernel_rfl] at hl; obtain ⟨c0, c1, rfl⟩ := list2k hl; obtain ⟨x0, x1, rfl⟩ := list2k (hxs.trans (by rfl)); simp only [List.map_cons, List.map_nil, Rows.uptoBulkAll] at hb; obtain ⟨a0, ⟨e0, f0⟩, g0⟩ := fieldK (D := DStr) 0 rk_string cz_string (hf 0 _ _ rfl rfl) (by omega); obtain ⟨a1, ⟨e1, f1⟩, g1⟩ := fieldK (D := DInt) 1 rk_int cz_int (hf 1 _ _ rfl rfl) (by omega); simp at e0 e1; subst e0 e1; refine ⟨⟨a0, a1⟩, ⟨rfl, f1, f0⟩, ?_⟩; show 32 + a0.length + 64 ≤ _; omega
theorem rk_itms : ReadsK Tryd.prog 48 KItms gKItms := readsK_slice Tryd.underlying48 (by kernel_rfl) (by decide) rk_itm
theorem rk_enu : ReadsK Tryd.prog 50 (fun S w m cs => DEnu S w m cs ∧ ∀ x ∈ m.items, okI x.value) wEnu := fun enc w base spare held fuel cs x h hw => by
 obtain ⟨n, xs, hl, hxs, hb, hf⟩ := structK Tryd.underlying50 h; rw [show Tryd.prog.cellsOf 50 = 2 by kernel_rfl] at hl; obtain ⟨c0, c1, rfl⟩ := list2k hl; obtain ⟨x0, x1, rfl⟩ := list2k (hxs.trans (by rfl)); simp only [List.map_cons, List.map_nil, Rows.uptoBulkAll] at hb; obtain ⟨a0, ⟨e0, f0⟩, g0⟩ := fieldK (D := DStr) 0 rk_string cz_string (hf 0 _ _ rfl rfl) (by omega); obtain ⟨a1, ⟨v1, e1, f1⟩, g1⟩ := fieldK (D := KItms) (g := gKItms) 1 rk_itms cz_itms (hf 1 _ _ rfl rfl) (by omega); simp at e0 e1; subst e0 e1; unfold gKItms at g1; have k1 := sum_k wItm (fun a => wItm a + 64) a1 (fun a => by omega); refine ⟨⟨a0, a1⟩, ⟨⟨_, rfl, f1, f0⟩, rdS_all f1 fun S w a cs h => h.2.1⟩, ?_⟩; show 16 + a0.length + (a1.map wItm).sum + 64 ≤ _; omega
theorem rk_msgs : ReadsK Tryd.prog 22 KMsgs gKMsgs := readsK_slice Tryd.underlying22 (by kernel_rfl) (by decide) rk_msg
theorem rk_enus : ReadsK Tryd.prog 23 KEnus gKEnus := readsK_slice Tryd.underlying23 (by kernel_rfl) (by decide) rk_enu
theorem rk_file : ReadsK Tryd.prog 25 (fun S w f cs => ∃ vm ve, cs = [vm, ve] ∧ FilV S w (.agg #[vm, ve]) f ∧ (printP f).length ≤ wFil f) wFil := fun enc w base spare held fuel cs x h hw => by
 obtain ⟨n, xs, hl, hxs, hb, hf⟩ := structK Tryd.underlying25 h; rw [show Tryd.prog.cellsOf 25 = 2 by kernel_rfl] at hl; obtain ⟨c0, c1, rfl⟩ := list2k hl; obtain ⟨x0, x1, rfl⟩ := list2k (hxs.trans (by rfl)); simp only [List.map_cons, List.map_nil, Rows.uptoBulkAll] at hb; obtain ⟨a0, ⟨v0, e0, f0⟩, g0⟩ := fieldK (D := KMsgs) (g := gKMsgs) 0 rk_msgs cz_msgs (hf 0 _ _ rfl rfl) (by omega); obtain ⟨a1, ⟨v1, e1, f1⟩, g1⟩ := fieldK (D := KEnus) (g := gKEnus) 1 rk_enus cz_enus (hf 1 _ _ rfl rfl) (by omega); simp at e0 e1; subst e0 e1; unfold gKMsgs at g0; unfold gKEnus at g1; have k0 := sum_k wMsg (fun a => wMsg a + 64) a0 (fun a => by omega); have k1 := sum_k wEnu (fun a => wEnu a + 64) a1 (fun a => by omega); obtain ⟨r0, o0⟩ := RdS.both f0; obtain ⟨r1, o1⟩ := RdS.both f1; refine ⟨⟨a0, a1⟩, ⟨_, _, rfl, ⟨_, _, rfl, r0, r1⟩, print_le ⟨o0, o1⟩⟩, ?_⟩; show (a1.map wEnu).sum + (a0.map wMsg).sum + 64 ≤ _; omega
end Go.Proofs.YtbceapeoknngnaaDoor
