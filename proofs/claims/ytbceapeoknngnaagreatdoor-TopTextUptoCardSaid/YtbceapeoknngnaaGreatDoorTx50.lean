/-
  The law TopText.
  How Go's data, as they come in, read as lists and records.
  How Go's data, as they come in, read as lists and records, none larger than the form's own reach.
  Records, as they come in.
  Bodies, as they come in: what a reading of so little bulk gives.
  Bodies, as they come in: their weight is bounded by their bulk.
-/
import Derived.Test.YtbceapeoknngnaaGreatDoorTx28
import Derived.Test.YtbceapeoknngnaaGreatDoorTx49
import Derived.Deep.Slices
import Derived.ChangeArms
import Derived.ChangeSame
import Derived.DataReads
import Derived.SizedLaws
import Derived.Test.YtbceapeoknngnaaGreatDoorRows
set_option linter.unusedVariables false
namespace Go.Proofs.YtbceapeoknngnaaGreatDoor
open Go.RowKit
set_option maxRecDepth 100000
open Lib (hid)
theorem items_16 {l : List Itm} (h : itemsN l = 0) : l.length ≤ 16 := by
 unfold itemsN at h; split at h
 · cases h
 · omega
theorem filSz_right {f : Fil} (h : (wrongN f).1 = 0) : FilSz f := by
 obtain ⟨_, h1, _, h2, h3⟩ := wrongN_ok h; refine ⟨by omega, by omega, fun m hm => ?_, fun e he => ?_⟩
 · have := msgN_ok (h2 m hm); omega
 · have := items_16 (h3 e he); omega
set_option maxHeartbeats 6400000 in
theorem text_any (d : Nat) (h13 : 13 ≤ d) (s : ByteArray) (msg : Int) (va ua : Value) (x : Bod) (w : World) (hx : DBodF d All w x [va, ua]) (hev : EvR w) (hT : Tabs w) (hwg : wgt 12 x ≤ 1000000000) :
   Calls Tryz.prog 11 #[.string s, .int .i64 msg, .agg #[va, ua]] w fun e w' => e = .returned (.bool true) ∧ Up w w' := by
 obtain ⟨av, al, ac, au, am, an, e1⟩ := bod_two hx; simp only [List.cons.injEq, and_true] at e1; obtain ⟨rfl, rfl⟩ := e1; have h64 := b64_of d hx 12
 have hlen : ∀ f, wrongA f msg x = 0 → (rawB f 12 msg x).length ≤ 1099511627776 - 8200 := fun f h => by
   obtain ⟨g1, _, _, g4⟩ := wrongA_four h; have := raw_wgt g1 12 msg x g4 h64 (by omega); omega
 have HT := hid hT; have Hev := hid hev; have Hx := hid hx; have H64 := hid h64; have Hlen := hid hlen; have H13 := hid h13; clear hT hev hx hwg h64 hlen h13
 go_enter Tryz.func11, Tryz.ntmps11
 go_upto_region 1 with (fail)
 have hb0 := blk_new w (.cells #[.slice av al ac, .slice au am an] 29) (g := w.heap.size) rfl; have hu0 := (Up.refl w).alloc (.cells #[.slice av al ac, .slice au am an] 29); obtain ⟨B0, hB0⟩ : ∃ B, w.heap.size = B := ⟨_, rfl⟩; rw [hB0] at hb0 ⊢; generalize w.alloc (.cells #[.slice av al ac, .slice au am an] 29) = w1 at *; have Hb0 := hid hb0; have U1 := hid hu0; clear hb0 hu0 hB0
 go_upto_region 3 with (go_at_call 12; go_must (refine (alive_top w1 (Hev.out.up U1.out) (HT.out.up U1.out)).mono ?_; rintro e w2 ⟨rfl, hu⟩))
 have U2 := hid (U1.out.trans hu); have Hb2 := hid (hu.blk Hb0.out); clear hu; have hfi := file_t s w2 (Hev.out.up U2.out); obtain ⟨TF, hTF⟩ : ∃ TF, topF s.data.toList = TF := ⟨_, rfl⟩; rw [hTF] at hfi; obtain ⟨f, ok⟩ := TF; simp only at hfi; have Hfi := hid hfi; clear hfi hTF
 go_upto_region 4 with (go_at_call 16; go_must (refine Hfi.out.mono ?_; rintro e w3 ⟨v, rfl, hf, hu⟩; obtain ⟨vm, ve, rfl, hm, he⟩ := id hf; obtain ⟨mo, mc, rfl, _, _⟩ := hm.val; obtain ⟨eo, ec, rfl, _, _⟩ := he.val; clear hm he))
 have hb1 := blk_new w3 (.cells #[.slice mo f.msgs.length mc, .slice eo f.enums.length ec] 25) (g := w3.heap.size) rfl; have hu1 := (Up.refl w3).alloc (.cells #[.slice mo f.msgs.length mc, .slice eo f.enums.length ec] 25); obtain ⟨B1, hB1⟩ : ∃ B, w3.heap.size = B := ⟨_, rfl⟩; rw [hB1] at hb1 ⊢; generalize w3.alloc (.cells #[.slice mo f.msgs.length mc, .slice eo f.enums.length ec] 25) = w4 at *; have U4 := hid (U2.out.trans (hu.trans hu1)); have Hf4 := hid (hf.up hu1); have Hb1 := hid hb1; have Hb4 := hid ((hu.trans hu1).blk Hb2.out); clear hu hf hb1 hu1 hB1 Hfi
 cases ok with
 | false =>
   go_wp2_with fail
   go_ret
   exact ⟨rfl, U4.out⟩
 | true =>
 have f0 : w4.cell? ⟨B1, 0, none⟩ = some (.slice mo f.msgs.length mc) := cell_of_row _ _ 0 _ _ _ Hb1.out; have f1 : w4.cell? ⟨B1, 1, none⟩ = some (.slice eo f.enums.length ec) := cell_of_row _ _ 1 _ _ _ Hb1.out; have x0 : w4.cell? ⟨B0, 0, none⟩ = some (.slice av al ac) := cell_of_row _ _ 0 _ _ _ Hb4.out; have x1 : w4.cell? ⟨B0, 1, none⟩ = some (.slice au am an) := cell_of_row _ _ 1 _ _ _ Hb4.out; have Hwb := hid (wrong_bod d (.agg #[.slice mo f.msgs.length mc, .slice eo f.enums.length ec]) (.slice av al ac) (.slice au am an) f msg x w4 Hf4.out (stable_bod d _ _ _ _ _ _ (Keep.upS U4.out) Hx.out) (HT.out.up U4.out)); obtain ⟨we, hwe⟩ : ∃ we, wrongA f msg x = we := ⟨_, rfl⟩; rw [hwe] at Hwb; have Hwe := hid hwe; clear hwe
 by_cases hw0 : we = 0
 rotate_left
 · (have hne : (we != 0) = true := by rw [bne_iff_ne]; exact hw0); go_wp2_with (go_at_call 28; go_must (refine Hwb.out.mono ?_; rintro e w5 ⟨rfl, hu⟩))
   go_ret
   exact ⟨rfl, U4.out.trans hu⟩
 subst hw0
 go_upto_region 6 with (go_at_call 28; go_must (refine Hwb.out.mono ?_; rintro e w5 ⟨rfl, hu⟩))
 have U5 := hid hu; clear hu f0 f1 x0 x1 Hwb; have f0 : w5.cell? ⟨B1, 0, none⟩ = some (.slice mo f.msgs.length mc) := cell_of_row _ _ 0 _ _ _ (U5.out.blk Hb1.out); have f1 : w5.cell? ⟨B1, 1, none⟩ = some (.slice eo f.enums.length ec) := cell_of_row _ _ 1 _ _ _ (U5.out.blk Hb1.out); have hright := (wrongA_parts Hwe.out).1; have hmk := make_any (.agg #[.slice mo f.msgs.length mc, .slice eo f.enums.length ec]) f w5 (Hf4.out.up U5.out) (filSz_right hright); rw [(wrongN_ok hright).1, if_pos rfl] at hmk; have Hmk := hid hmk; clear hmk hright
 go_upto_region 7 with (go_at_call 35; go_must (refine Hmk.out.mono ?_; rintro e w6 ⟨vl, rfl, hl, hu⟩; obtain ⟨lo, lc, rfl, _, _⟩ := hl.val))
 have hb6 := blk_new w6 (.cells #[.int .i64 0, .int .i64 0] 67) (g := w6.heap.size) rfl; have hu6 := hu.alloc (.cells #[.int .i64 0, .int .i64 0] 67); obtain ⟨B6, hB6⟩ : ∃ B, w6.heap.size = B := ⟨_, rfl⟩; have Hl := hid (hl.up stable_prg ((Up.refl w6).alloc (.cells #[.int .i64 0, .int .i64 0] 67))); rw [hB6] at hb6 ⊢; generalize w6.alloc (.cells #[.int .i64 0, .int .i64 0] 67) = w7 at *; have U7 := hid (U5.out.trans hu6); have Hb6 := hid hb6; clear hu hl hb6 hu6 hB6 f0 f1 Hmk; have x0 : w7.cell? ⟨B0, 0, none⟩ = some (.slice av al ac) := cell_of_row _ _ 0 _ _ _ (U7.out.blk Hb4.out); have x1 : w7.cell? ⟨B0, 1, none⟩ = some (.slice au am an) := cell_of_row _ _ 1 _ _ _ (U7.out.blk Hb4.out); have hrun := prun_c d _ (.slice av al ac) (.slice au am an) f msg x w7 Hl.out (stable_bod d _ _ _ _ _ _ (Keep.upS (U4.out.trans U7.out)) Hx.out) Hwe.out (Hlen.out f Hwe.out); obtain ⟨CB, hCB⟩ : ∃ CB, bytesC f msg x = CB := ⟨_, rfl⟩; have h04 := bytesC_04 (f := f) (msg := msg) (x := x) Hwe.out; have hturn := fun h => parse_written (f := f) (msg := msg) (x := x) h H64.out; have hc4 := fun h => bytesC_ok (f := f) (msg := msg) (x := x) h; rw [hCB] at hrun h04 hturn hc4; obtain ⟨CB, ce⟩ := CB; simp only at hrun h04 hturn hc4; have Hrun := hid hrun; have Hturn := hid hturn; have Hc4 := hid hc4; clear hrun hturn hCB hc4
 go_upto_region 8 with (go_at_call 36; go_must (refine Hrun.out.mono ?_; rintro e w8 ⟨v8, rfl, hr, hu⟩; obtain ⟨ra, rc, rfl, _, _⟩ := hr.val))
 have U8 := hid (U7.out.trans hu); have Hr := hid hr; have e0 : w8.cell? ⟨B6, 0, none⟩ = some (.int .i64 0) := cell_of_row _ _ 0 _ _ _ (hu.blk Hb6.out); clear hr hu x0 x1 Hrun; rcases h04 with h0 | h4
 rotate_left
 · subst h4; go_wp2_with fail
   go_ret
   exact ⟨rfl, U4.out.trans U8.out⟩
 subst h0; (have hl4 : CB.length ≤ 4000 := by have h := Hc4.out rfl; rw [h.2.1]; exact h.2.2); have hpa := parse_c (.agg #[.slice mo f.msgs.length mc, .slice eo f.enums.length ec]) f msg (.slice ra CB.length rc) CB w8 (Hf4.out.up U8.out) Hr.out (by omega) (HT.out.up (U4.out.trans U8.out)); rw [Hturn.out rfl] at hpa; have Hpa := hid hpa; clear hpa hl4
 go_upto_region 10 with (fail)
 clear e0; have f0 : w8.cell? ⟨B1, 0, none⟩ = some (.slice mo f.msgs.length mc) := cell_of_row _ _ 0 _ _ _ (U8.out.blk Hb1.out); have f1 : w8.cell? ⟨B1, 1, none⟩ = some (.slice eo f.enums.length ec) := cell_of_row _ _ 1 _ _ _ (U8.out.blk Hb1.out)
 go_upto_region 11 with (go_at_call 14; go_must (refine Hpa.out.mono ?_; rintro e w9 ⟨vv, vu, rfl, hd, hu⟩; obtain ⟨y1, yn, yc, y2, ym, yd, hbt⟩ := bod_two hd; simp only [List.cons.injEq, and_true] at hbt; obtain ⟨rfl, rfl⟩ := hbt))
 have U9 := hid (U8.out.trans hu); have hd9 := bod_all hd; clear hu hd f0 f1 Hpa; obtain ⟨BY, hBY⟩ : ∃ G, w9.heap.size = G := ⟨_, rfl⟩; have hblk := blk_new w9 (.cells #[.slice y1 yn yc, .slice y2 ym yd] 29) (g := BY) hBY.symm; have hua := (Up.refl w9).alloc (.cells #[.slice y1 yn yc, .slice y2 ym yd] 29); rw [hBY]; generalize hwn : w9.alloc (.cells #[.slice y1 yn yc, .slice y2 ym yd] 29) = w10 at *; have U10 := hid (U9.out.trans hua); have HD := hid (stable_bod 13 _ _ All _ _ _ (Keep.upS hua) hd9); have yf0 : w10.cell? ⟨BY, 0, none⟩ = some (.slice y1 yn yc) := cell_of_row _ _ 0 _ _ _ hblk; have yf1 : w10.cell? ⟨BY, 1, none⟩ = some (.slice y2 ym yd) := cell_of_row _ _ 1 _ _ _ hblk; have xf0 : w10.cell? ⟨B0, 0, none⟩ = some (.slice av al ac) := cell_of_row _ _ 0 _ _ _ (U10.out.blk Hb4.out); have xf1 : w10.cell? ⟨B0, 1, none⟩ = some (.slice au am an) := cell_of_row _ _ 1 _ _ _ (U10.out.blk Hb4.out); clear hwn hblk hua hBY hd9; have Hsm := hid (same_b d x _ _ _ _ w10 (stable_bod d _ _ All _ _ _ (Keep.upS (U4.out.trans U10.out)) Hx.out) (bod_le H13.out HD.out)); go_wp2_with (go_at_call 20; go_must (refine Hsm.out.mono ?_; rintro e w11 ⟨rfl, hu⟩))
 go_ret
 exact ⟨rfl, U4.out.trans (U10.out.trans hu)⟩
end Go.Proofs.YtbceapeoknngnaaGreatDoor
namespace Go.Proofs.YtbceapeoknngnaaGreatDoor
open Go.RowKit
def Reads {α : Type} (P : Program) (t : TypeId) (D : Lay α) : Prop :=
 ∀ {H : Type} (enc : TypeId × Value → H) (w : World) (base : Nat) (spare : Nat → Bool) (held : Bool) (fuel : Nat) (cs : List Value) (x : DataW H × List MemPlace), DataW.trod enc P w base spare held fuel t cs = some x → ∃ a : α, D All w a cs
theorem reads_u8 {P : Program} {t : TypeId} (ht : P.underlying t = some (.int .u8)) : Reads P t DU8 := fun enc w base spare held fuel cs x h => by
 obtain ⟨n, rfl, _, hwf⟩ := DataW.trod_int ht h; (have hx : 0 ≤ n ∧ n ≤ 255 := by simpa [Lit.wf, IntKind.min, IntKind.max, IntKind.signed, IntKind.bits] using hwf); refine ⟨UInt8.ofNat n.toNat, ?_⟩; unfold DU8; (have : (UInt8.ofNat n.toNat).toNat = n.toNat := by simp; omega); rw [this]
 congr 2; omega
theorem reads_int {P : Program} {t : TypeId} (ht : P.underlying t = some (.int .i64)) : Reads P t DInt := fun enc w base spare held fuel cs x h => by
 obtain ⟨n, rfl, _, hwf⟩ := DataW.trod_int ht h; (have hx : -9223372036854775808 ≤ n ∧ n ≤ 9223372036854775807 := by simpa [Lit.wf, IntKind.min, IntKind.max, IntKind.signed, IntKind.bits] using hwf); exact ⟨n, rfl, hx.1, hx.2⟩
theorem reads_u64 {P : Program} {t : TypeId} (ht : P.underlying t = some (.int .u64)) : Reads P t DU64 := fun enc w base spare held fuel cs x h => by
 obtain ⟨n, rfl, _, hwf⟩ := DataW.trod_int ht h; (have hx : 0 ≤ n ∧ n ≤ 18446744073709551615 := by simpa [Lit.wf, IntKind.min, IntKind.max, IntKind.signed, IntKind.bits] using hwf); refine ⟨n.toNat, ?_, by omega⟩
 congr 2; omega
theorem cells?_at {w : World} {base : Nat} {a : Addr} {n : Nat} {cs : List Value} (h : w.cells? base a n = some cs) : cs.length = n ∧ ∀ j u, cs[j]? = some u → w.cell? (a.add j) = some u := by
 obtain ⟨_, hl, hc⟩ := World.cells?_some h; refine ⟨hl, fun j u hu => ?_⟩; (have hj : j < n := by rw [← hl]; exact (List.getElem?_eq_some_iff.1 hu).1); rw [hc j hj]; exact hu
def ReadsZ {α : Type} (P : Program) (t : TypeId) (D : Lay α) : Prop :=
 ∀ {H : Type} (enc : TypeId × Value → H) (w : World) (base : Nat) (spare : Nat → Bool) (held : Bool) (fuel : Nat) (cs : List Value) (x : DataW H × List MemPlace), DataW.trod enc P w base spare held fuel t cs = some x → (∀ n ∈ x.1.weights P t, n ≤ reachBytes) → ∃ a : α, D All w a cs
theorem Reads.z {α : Type} {P : Program} {t : TypeId} {D : Lay α} (h : Reads P t D) : ReadsZ P t D := fun enc w base spare held fuel cs x hx _ => h enc w base spare held fuel cs x hx
theorem list2 {α : Type} {l : List α} (h : l.length = 2) : ∃ a b, l = [a, b] := by
 match l, h with
 | [a, b], _ => exact ⟨a, b, rfl⟩
theorem RdS.both {α : Type} {D : Lay α} {Z : α → Prop} {size : Nat} {S : Nat → Prop} {w : World} {v : Value} {l : List α} (h : RdS (fun S w a cs => D S w a cs ∧ Z a) size S w v l) : RdS D size S w v l ∧ ∀ a ∈ l, Z a := by
 obtain ⟨ao, cap, hv, h1, h2, h3, h4⟩ := h; refine ⟨⟨ao, cap, hv, h1, h2, h3, fun i hi => ?_⟩, fun a ha => ?_⟩
 · obtain ⟨b, o, cs, e1, e2, e3, e4, e5, e6⟩ := h4 i hi; exact ⟨b, o, cs, e1, e2, e3, e4, e5, e6.1⟩
 · obtain ⟨i, hi, rfl⟩ := List.getElem_of_mem ha; obtain ⟨b, o, cs, e1, e2, e3, e4, e5, e6⟩ := h4 i hi; exact e6.2
instance : Inhabited Rec := ⟨rec0⟩
theorem list4 {α : Type} {l : List α} (h : l.length = 4) : ∃ a b c d, l = [a, b, c, d] := by
 match l, h with
 | [a, b, c, d], _ => exact ⟨a, b, c, d, rfl⟩
theorem cells_rec : Tryz.prog.cellsOf 71 = 4 := by kernel_rfl
theorem cells_int : Tryz.prog.cellsOf 3 = 1 := by kernel_rfl
theorem cells_u64 : Tryz.prog.cellsOf 54 = 1 := by kernel_rfl
theorem cells_bytes : Tryz.prog.cellsOf 32 = 1 := by kernel_rfl
theorem bulk_one {H : Type} (d : DataW H) : 1 ≤ Rows.uptoBulk d := by
 cases d with
 | lit l => cases l <;> simp [Rows.uptoBulk]
 | nil => simp [Rows.uptoBulk]
 | ptr d => simp [Rows.uptoBulk]
 | slice elems spare => simp [Rows.uptoBulk]
 | agg parts => simp [Rows.uptoBulk]
 | iface t d => simp [Rows.uptoBulk]
 | map entries => simp [Rows.uptoBulk]
 | held h => simp [Rows.uptoBulk]
theorem bulk_part {H : Type} {d : DataW H} {l : List (DataW H)} (h : d ∈ l) : Rows.uptoBulk d ≤ Rows.uptoBulkAll l := by
 induction l with
 | nil => cases h
 | cons x r ih =>
   simp only [Rows.uptoBulkAll]
   cases List.mem_cons.1 h with
   | inl e => subst e; omega
   | inr e => have := ih e; omega
theorem bulk_length {H : Type} (l : List (DataW H)) : l.length ≤ Rows.uptoBulkAll l := by
 induction l with
 | nil => simp [Rows.uptoBulkAll]
 | cons x r ih => have := bulk_one x; simp only [Rows.uptoBulkAll, List.length_cons]; omega
def ReadsU {α : Type} (M : Nat) (P : Program) (t : TypeId) (D : Lay α) : Prop :=
 ∀ {H : Type} (enc : TypeId × Value → H) (w : World) (base : Nat) (spare : Nat → Bool) (held : Bool) (fuel : Nat) (cs : List Value) (x : DataW H × List MemPlace), DataW.trod enc P w base spare held fuel t cs = some x → Rows.uptoBulk x.1 ≤ M → ∃ a : α, D All w a cs
theorem Reads.u {α : Type} {M : Nat} {P : Program} {t : TypeId} {D : Lay α} (h : Reads P t D) : ReadsU M P t D := fun enc w base spare held fuel cs x hx _ => h enc w base spare held fuel cs x hx
theorem ReadsU.le {α : Type} {M N : Nat} {P : Program} {t : TypeId} {D : Lay α} (h : ReadsU M P t D) (k : N ≤ M) : ReadsU N P t D := fun enc w base spare held fuel cs x hx hw => h enc w base spare held fuel cs x hx (Nat.le_trans hw k)
def LU64s (M : Nat) : Lay (List Nat) := fun S w l cs => ∃ v, cs = [v] ∧ RdS DU64 1 S w v l ∧ l.length ≤ M
def LByts (M : Nat) : Lay (List (List UInt8)) := fun S w l cs => ∃ v, cs = [v] ∧ RdS DBytes 1 S w v l ∧ l.length ≤ M
def LRecs (M : Nat) : Lay (List Rec) := fun S w l cs => ∃ v, cs = [v] ∧ RdS DRecZ 4 S w v l ∧ l.length ≤ M
theorem cu_u64s : Tryz.prog.cellsOf 50 = 1 := by kernel_rfl
theorem cu_byts : Tryz.prog.cellsOf 49 = 1 := by kernel_rfl
theorem cu_bods : Tryz.prog.cellsOf 51 = 1 := by kernel_rfl
theorem cu_vals : Tryz.prog.cellsOf 26 = 1 := by kernel_rfl
theorem cu_recs : Tryz.prog.cellsOf 27 = 1 := by kernel_rfl
theorem ru_int {M : Nat} : ReadsU M Tryz.prog 3 DInt := Reads.u (reads_int Tryz.underlying3)
theorem ru_u64 {M : Nat} : ReadsU M Tryz.prog 54 DU64 := Reads.u (reads_u64 Tryz.underlying54)
def UBod (M : Nat) : Lay Bod := fun S w b cs => DBodF M S w b cs ∧ ∀ k, UnkLe 1048576 k b
def UVal (M : Nat) : Lay Val := fun S w x cs => DValD M S w x cs ∧ ∀ b ∈ x.2.2.2, ∀ k, UnkLe 1048576 k b
def LBods (M : Nat) : Lay (List Bod) := fun S w l cs => ∃ v, cs = [v] ∧ RdS (UBod M) 2 S w v l ∧ l.length ≤ M
def LVals (M : Nat) : Lay (List Val) := fun S w l cs => ∃ v, cs = [v] ∧ RdS (UVal M) 4 S w v l ∧ l.length ≤ M
instance : Inhabited Val := ⟨val0⟩
def ReadsQ {α : Type} (M : Nat) (P : Program) (t : TypeId) (D : Lay α) (g : Nat → α → Nat) : Prop :=
 ∀ {H : Type} (enc : TypeId × Value → H) (w : World) (base : Nat) (spare : Nat → Bool) (held : Bool) (fuel : Nat) (cs : List Value) (x : DataW H × List MemPlace), DataW.trod enc P w base spare held fuel t cs = some x → Rows.uptoBulk x.1 ≤ M → ∃ a : α, D All w a cs ∧ ∀ k, g k a + 25 ≤ 25 * Rows.uptoBulk x.1
theorem ReadsU.q {α : Type} {M : Nat} {P : Program} {t : TypeId} {D : Lay α} (h : ReadsU M P t D) : ReadsQ M P t D (fun _ _ => 0) := fun enc w base spare held fuel cs x hx hw => by
 obtain ⟨a, ha⟩ := h enc w base spare held fuel cs x hx hw; have := bulk_one x.1; exact ⟨a, ha, fun k => by show 0 + 25 ≤ _; omega⟩
theorem ReadsQ.le {α : Type} {M N : Nat} {P : Program} {t : TypeId} {D : Lay α} {g : Nat → α → Nat} (h : ReadsQ M P t D g) (k : N ≤ M) : ReadsQ N P t D g := fun enc w base spare held fuel cs x hx hw => h enc w base spare held fuel cs x hx (Nat.le_trans hw k)
theorem bulk_sum {H : Type} (Dt : Nat → DataW H) (g : Nat → Nat) : ∀ n, (∀ i, i < n → g i ≤ 25 * Rows.uptoBulk (Dt i)) → ((List.range n).map g).sum ≤ 25 * Rows.uptoBulkAll ((List.range n).map Dt) := by
 have happ : ∀ (l r : List (DataW H)), Rows.uptoBulkAll (l ++ r) = Rows.uptoBulkAll l + Rows.uptoBulkAll r := by
   intro l r
   induction l with
   | nil => simp [Rows.uptoBulkAll]
   | cons a l ih => simp only [List.cons_append, Rows.uptoBulkAll, ih]; omega
 intro n
 induction n with
 | zero => intro _; simp [Rows.uptoBulkAll]
 | succ n ih =>
   intro h; have h1 := ih (fun i hi => h i (by omega)); have h2 := h n (by omega); rw [List.range_succ, List.map_append, List.map_append, happ, sum_append]; simp only [List.map_cons, List.map_nil, List.sum_cons, List.sum_nil, Rows.uptoBulkAll]; omega
theorem readsQ_slice {α : Type} [Inhabited α] {D : Lay α} {P : Program} {t e : TypeId} {size M : Nat} {g : Nat → α → Nat} (ht : P.underlying t = some (.slice e)) (hs : P.cellsOf e = size) (hp : 0 < size) (he : ReadsQ M P e D g) : ReadsQ M P t (fun S w l cs => ∃ v, cs = [v] ∧ RdS D size S w v l ∧ l.length ≤ M) (fun k l => (l.map fun a => g k a + 25).sum) := fun enc w base spare held fuel cs x h hw => by
 rcases Go.Deep.open_slice ht h with ⟨rfl, _⟩ | ⟨a, len, cap, m, n, Dt, Pl, rfl, hb, hl, hm, hmm, rfl, hel⟩
 · have := bulk_one x.1; exact ⟨[], ⟨_, rfl, ⟨none, 0, rfl, by simp, by unfold maxLen; omega, fun _ => rfl, fun i hi => by simp at hi⟩, by simp⟩, fun k => by simp; omega⟩
 · (have hlm : len ≤ m := by rw [hmm]; split <;> omega); simp only [Rows.uptoBulk] at hw
   have hz : ∀ i, i < len → Rows.uptoBulk (Dt i) ≤ M := fun i hi => by
     have := bulk_part (d := Dt i) (l := (List.range len).map Dt) (List.mem_map.2 ⟨i, List.mem_range.2 hi, rfl⟩); omega
   have hlen : len ≤ M := by
     have := bulk_length ((List.range len).map Dt); simp only [List.length_map, List.length_range] at this; omega
   obtain ⟨f, hf⟩ := Go.Deep.choose_lt (α := α × List Value) (n := len) (p := fun i ac => ac.2.length = size ∧ (∀ j u, ac.2[j]? = some u → w.cell? ((a.add (i * size)).add j) = some u) ∧ D All w ac.1 ac.2 ∧ ∀ k, g k ac.1 + 25 ≤ 25 * Rows.uptoBulk (Dt i)) (fun i hi => by
     obtain ⟨cs', h1, h2⟩ := hel i (by omega); rw [hs] at h1; obtain ⟨h3, h4⟩ := cells?_at h1; obtain ⟨y, hy, hyw⟩ := he enc w base spare held n cs' _ h2 (hz i hi); exact ⟨(y, cs'), h3, h4, hy, hyw⟩)
   refine ⟨(List.range len).map fun i => (f i).1, ⟨_, rfl, ⟨some a, cap, by simp, by simpa using hl, hm, (fun e => nomatch e), fun i hi => ?_⟩, by simpa using hlen⟩, fun k => ?_⟩
   · have hi' : i < len := by simpa using hi
     have hspot : a.spot = none := by
       have h0 := hf 0 (by omega); obtain ⟨u, hu⟩ : ∃ u, (f 0).2[0]? = some u := ⟨_, List.getElem?_eq_getElem (by omega)⟩; have := h0.2.1 0 u hu; (have e : (a.add (0 * size)).add 0 = a := by simp [Addr.add]); rw [e] at this; exact World.cell?_spot this
     obtain ⟨b, o, spot⟩ := a; simp only at hspot; subst hspot; have hfi := hf i hi'
     have hcell : ∀ j u, (f i).2[j]? = some u → w.cell? ⟨b, o + i * size + j, none⟩ = some u := fun j u hu => by
       have := hfi.2.1 j u hu
       rwa [Go.WideShapes.add_plain, Go.WideShapes.add_plain] at this
     obtain ⟨u, hu⟩ : ∃ u, (f i).2[0]? = some u := ⟨_, List.getElem?_eq_getElem (by omega)⟩; exact ⟨b, o, (f i).2, rfl, trivial, World.block_lt_of_cell? w _ (hcell 0 u hu), hfi.1, hcell, by simpa using hfi.2.2.1⟩
   · have := bulk_sum Dt (fun i => g k (f i).1 + 25) len (fun i hi => (hf i hi).2.2.2 k); simp only [Rows.uptoBulk, List.map_map]; show ((List.range len).map (fun i => g k (f i).1 + 25)).sum + 25 ≤ _; omega
theorem structQ {H : Type} {enc : TypeId × Value → H} {P : Program} {w : World} {base : Nat} {spare : Nat → Bool} {held : Bool} {t : TypeId} {fs : Array Field} {fuel : Nat} {cs : List Value} {x : DataW H × List MemPlace} (ht : P.underlying t = some (.struct fs)) (h : DataW.trod enc P w base spare held fuel t cs = some x) :
   ∃ (n : Nat) (xs : List (DataW H × List MemPlace)), cs.length = P.cellsOf t ∧ xs.length = fs.size ∧ Rows.uptoBulk x.1 = Rows.uptoBulkAll (xs.map (·.1)) + 1 ∧ ∀ (i : Nat) (f : Field) (y : DataW H × List MemPlace), fs[i]? = some f → xs[i]? = some y → DataW.trod enc P w base spare held n f.type ((cs.drop f.offset).take (P.cellsOf f.type)) = some y := by
 obtain ⟨xs, n, _, rfl, hl, hlen, hf⟩ := DataW.trod_struct ht h; refine ⟨n, xs, hl, hlen, by simp only [Rows.uptoBulk], fun i f y hi hy => ?_⟩; have h1 := hf i f hi; rw [hy] at h1; exact h1
theorem fieldQ {α : Type} {D : Lay α} {g : Nat → α → Nat} {H : Type} {enc : TypeId × Value → H} {P : Program} {w : World} {base : Nat} {spare : Nat → Bool} {held : Bool} {t : TypeId} {n M : Nat} {cs : List Value} {y : DataW H × List MemPlace} (o : Nat) (hr : ReadsQ M P t D g) (hc : P.cellsOf t = 1)
   (h : DataW.trod enc P w base spare held n t ((cs.drop o).take (P.cellsOf t)) = some y) (hM : Rows.uptoBulk y.1 ≤ M) : ∃ a : α, D All w a ((cs.drop o).take 1) ∧ ∀ k, g k a + 25 ≤ 25 * Rows.uptoBulk y.1 := by
 rw [hc] at h; exact hr _ _ _ _ _ _ _ _ h hM
theorem list2' {α : Type} {l : List α} (h : l.length = 2) : ∃ a b, l = [a, b] := list2 h
theorem rq_u64s {M : Nat} : ReadsQ M Tryz.prog 50 (LU64s M) (fun _ l => 25 * l.length) := fun enc w base spare held fuel cs x h hw => by
 obtain ⟨l, h1, h2⟩ := readsQ_slice (size := 1) (M := M) Tryz.underlying50 (by kernel_rfl) (by decide) ru_u64.q enc w base spare held fuel cs x h hw; refine ⟨l, h1, fun k => ?_⟩; have := h2 k; simp only [Nat.zero_add] at this; rw [sum_25] at this; exact this
theorem sum_le {α : Type} (g h : α → Nat) : ∀ l : List α, (∀ a ∈ l, g a ≤ h a) → (l.map g).sum ≤ (l.map h).sum
 | [], _ => Nat.le_refl _
 | a :: l, k => by
   have := sum_le g h l (fun b hb => k b (List.mem_cons_of_mem _ hb)); have := k a List.mem_cons_self; simp only [List.map_cons, List.sum_cons]; omega
theorem rq_byt {M : Nat} (hM : M ≤ 1048576) : ReadsQ M Tryz.prog 32 DBytes (fun _ l => l.length) := fun enc w base spare held fuel cs x h hw => by
 obtain ⟨l, ⟨v, h1, h2, h3⟩, h4⟩ := readsQ_slice (size := 1) (M := M) Tryz.underlying32 (by kernel_rfl) (by decide) (ReadsU.q (Reads.u (reads_u8 Tryz.underlying5))) enc w base spare held fuel cs x h hw; refine ⟨l, ⟨v, h1, h2, by omega⟩, fun k => ?_⟩; have := h4 k; simp only [Nat.zero_add] at this
 have e : ∀ l : List UInt8, (l.map fun _ => 25).sum = 25 * l.length := by
   intro l
   induction l with
   | nil => rfl
   | cons a l ih => simp only [List.map_cons, List.sum_cons, List.length_cons, ih]; omega
 rw [e] at this; show l.length + 25 ≤ _; omega
theorem rq_byts {M : Nat} (hM : M ≤ 1048576) : ReadsQ M Tryz.prog 49 (LByts M) (fun _ l => (l.map fun t => t.length + 25).sum) := readsQ_slice Tryz.underlying49 (by kernel_rfl) (by decide) (rq_byt hM)
theorem rq_rec {M : Nat} (hM : M ≤ 1048576) : ReadsQ M Tryz.prog 71 DRecZ (fun _ r => r.bytes.length) := fun enc w base spare held fuel cs x h hw => by
 obtain ⟨n, xs, hl, hxs, hb, hf⟩ := structQ Tryz.underlying71 h; rw [cells_rec] at hl; obtain ⟨c0, c1, c2, c3, rfl⟩ := list4 hl; obtain ⟨x0, x1, x2, x3, rfl⟩ := list4 (hxs.trans (by rfl)); simp only [List.map_cons, List.map_nil, Rows.uptoBulkAll] at hb; obtain ⟨a0, e0, f0⟩ := fieldQ (M := M) (D := DInt) 0 ru_int.q cells_int (hf 0 _ _ rfl rfl) (by omega); obtain ⟨a1, e1, f1⟩ := fieldQ (M := M) (D := DInt) 1 ru_int.q cells_int (hf 1 _ _ rfl rfl) (by omega); obtain ⟨a2, ⟨e2, e2'⟩, f2⟩ := fieldQ (M := M) (D := DU64) 2 ru_u64.q cells_u64 (hf 2 _ _ rfl rfl) (by omega); obtain ⟨a3, ⟨v, e3, f3, g3⟩, h3⟩ := fieldQ (M := M) (D := DBytes) 3 (rq_byt hM) cells_bytes (hf 3 _ _ rfl rfl) (by omega); obtain ⟨e0, e0'⟩ := e0; obtain ⟨e1, e1'⟩ := e1; simp at e0 e1 e2 e3; subst e0 e1 e2 e3; exact ⟨⟨a0, a1, a2, a3⟩, ⟨⟨_, rfl, f3, e2'⟩, g3⟩, fun k => by have := h3 k; show a3.length + 25 ≤ _; omega⟩
theorem rq_recs {M : Nat} (hM : M ≤ 1048576) : ReadsQ M Tryz.prog 27 (LRecs M) (fun _ l => wgtU l) := readsQ_slice Tryz.underlying27 cells_rec (by decide) (rq_rec hM)
theorem rq_bods {M : Nat} (ih : ReadsQ M Tryz.prog 29 (UBod M) wgt) : ReadsQ M Tryz.prog 51 (LBods M) (fun k l => (l.map fun s => wgt k s + 25).sum) := readsQ_slice Tryz.underlying51 (by kernel_rfl) (by decide) ih
theorem rq_val {M : Nat} (hM : M ≤ 1048576) (ih : ReadsQ M Tryz.prog 29 (UBod M) wgt) : ReadsQ M Tryz.prog 53 (UVal M) (fun k v => wgtV (wgt k) v) := fun enc w base spare held fuel cs x h hw => by
 obtain ⟨n, xs, hl, hxs, hb, hf⟩ := structQ Tryz.underlying53 h; rw [show Tryz.prog.cellsOf 53 = 4 by kernel_rfl] at hl; obtain ⟨c0, c1, c2, c3, rfl⟩ := list4 hl; obtain ⟨x0, x1, x2, x3, rfl⟩ := list4 (hxs.trans (by rfl)); simp only [List.map_cons, List.map_nil, Rows.uptoBulkAll] at hb; obtain ⟨a0, ⟨e0, e0'⟩, f0⟩ := fieldQ (M := M) (D := DInt) 0 ru_int.q cells_int (hf 0 _ _ rfl rfl) (by omega); obtain ⟨a1, ⟨v1, e1, f1, g1⟩, q1⟩ := fieldQ (M := M) (D := LU64s M) 1 rq_u64s cu_u64s (hf 1 _ _ rfl rfl) (by omega); obtain ⟨a2, ⟨v2, e2, f2, g2⟩, q2⟩ := fieldQ (M := M) (D := LByts M) 2 (rq_byts hM) cu_byts (hf 2 _ _ rfl rfl) (by omega); obtain ⟨a3, ⟨v3, e3, f3, g3⟩, q3⟩ := fieldQ (M := M) (D := LBods M) 3 (rq_bods ih) cu_bods (hf 3 _ _ rfl rfl) (by omega); simp at e0 e1 e2 e3; subst e0 e1 e2 e3; have h3 := RdS.both f3; refine ⟨(a0, a1, a2, a3), ⟨⟨_, _, _, rfl, e0', f1, f2, h3.1, by show a1.length * 8 ≤ _ ∧ a2.length * 24 ≤ _ ∧ a3.length * 48 ≤ _; omega⟩, h3.2⟩, fun k => ?_⟩; have := q1 k; have := q2 k; have := q3 k; show 25 * a1.length + ((a2.map fun t => t.length + 25).sum + (a3.map fun s => wgt k s + 25).sum) + 25 ≤ _; omega
theorem rq_vals {M : Nat} (ih : ReadsQ M Tryz.prog 53 (UVal M) (fun k v => wgtV (wgt k) v)) : ReadsQ M Tryz.prog 26 (LVals M) (fun k l => (l.map fun v => wgtV (wgt k) v + 25).sum) := readsQ_slice Tryz.underlying26 (by kernel_rfl) (by decide) ih
theorem rq_bod : ∀ {M : Nat}, M ≤ 1048576 → ReadsQ M Tryz.prog 29 (UBod M) wgt
 | 0, _ => fun enc w base spare held fuel cs x h hw => by have := bulk_one x.1; omega
 | M + 1, hM => fun enc w base spare held fuel cs x h hw => by
   obtain ⟨n, xs, hl, hxs, hb, hf⟩ := structQ Tryz.underlying29 h; rw [show Tryz.prog.cellsOf 29 = 2 by kernel_rfl] at hl; obtain ⟨c0, c1, rfl⟩ := list2 hl; obtain ⟨x0, x1, rfl⟩ := list2' (hxs.trans (by rfl)); simp only [List.map_cons, List.map_nil, Rows.uptoBulkAll] at hb; obtain ⟨a0, ⟨v0, e0, f0, g0⟩, q0⟩ := fieldQ (M := M) (D := LVals M) 0 (rq_vals (rq_val (by omega) (rq_bod (M := M) (by omega)))) cu_vals (hf 0 _ _ rfl rfl) (by omega); obtain ⟨a1, ⟨v1, e1, f1, g1⟩, q1⟩ := fieldQ (M := M) (D := LRecs M) 1 (rq_recs (by omega)) cu_recs (hf 1 _ _ rfl rfl) (by omega); simp at e0 e1; subst e0 e1; have h0 := RdS.both f0; refine ⟨.mk a0 a1, ⟨⟨_, _, rfl, h0.1, f1, by unfold BodSz Bod.values Bod.unknown; simp only; omega⟩, fun k => ?_⟩, fun k => ?_⟩
   · cases k with
     | zero => exact (show a1.length ≤ _ by omega)
     | succ k => exact ⟨show a1.length ≤ _ by omega, fun v hv s hs => h0.2 v hv s hs k⟩
   · cases k with
     | zero =>
       show 0 + 25 ≤ _; omega
     | succ k =>
       have h1 := q0 k; have h2 := q1 k; have h3 := sum_le (wgtV (wgt k)) (fun v => wgtV (wgt k) v + 25) a0 (fun a _ => Nat.le_add_right _ _); show (a0.map (wgtV (wgt k))).sum + wgtU a1 + 25 ≤ _; omega
end Go.Proofs.YtbceapeoknngnaaGreatDoor
