/-
  More of the plain words.
  Slices that lie in a block that is known whole.
  Files in plain Lean, and how they lie.
  Bodies: what they are, and how they lie.
  Names: pressref1.Letter, More, Named; syntax.Named.
-/
import Derived.Test.YtbceapeoknngnaaGreatDoorTx02
import Derived.Laws.BytesArg
import Derived.Test.YtbceapeoknngnaaGreatDoorProg
import Derived.Outline
import Derived.Deep.DeepMust
import Derived.Deep.QuietTactic
import Derived.BigQuiet
namespace Go.Proofs.YtbceapeoknngnaaGreatDoor
open Go.RowKit
abbrev bs (l : List UInt8) : ByteArray := ⟨l.toArray⟩
theorem leq_true {l m : List UInt8} (h : l = m) : (l == m) = true := by simp [h]
theorem leq_false {l m : List UInt8} (h : l ≠ m) : (l == m) = false := by rw [beq_eq_false_iff_ne]; exact h
theorem run_conv {P : Program} {S : Nat → Prop} {w : World} {v : Value} {l : List UInt8} (h : RdB S w v l) (src e dst : TypeId) (hs : P.underlying src = some (.slice e)) (he : P.underlying e = some (.int .u8)) (hd : P.underlying dst = some .string) :
   (convert src dst v).run P w = .ok (.string ⟨l.toArray⟩) w := by
 obtain ⟨ao, cap, rfl, hc1, hc2⟩ := h.val
 cases ao with
 | none =>
   have h0 := (RdB.news h).2.1 rfl; have : l = [] := List.eq_nil_of_length_eq_zero h0.1; subst this; exact run_convert_bytes_nil w src e hs he _ _ dst hd
 | some ad =>
   by_cases hl : l = []
   · subst hl; rw [run_convert_bytes_string w src dst e _ _ _ hs he hd, run_bytesToString w ad _ cap [] (by simp [loadCells, loadCellsFrom])]; rfl
   · have hp : 0 < l.length := List.length_pos_iff.2 hl; obtain ⟨b, o, ha, _⟩ := RdB.cell h hp; simp only [Option.some.injEq] at ha; subst ha
     rw [run_convert_bytes_arg w src e hs he b o l.length cap (l.map fun c => (c.toNat : Int)) (by simp) (fun i hi => by
       obtain ⟨b', o', ha', hc⟩ := RdB.cell h hi; simp only [Option.some.injEq, Addr.mk.injEq, and_true] at ha'; obtain ⟨rfl, rfl⟩ := ha'; rw [hc]; simp [List.getD, List.getElem?_eq_getElem hi]) dst hd]
     congr 2
     unfold strOfNums
     congr 1
     congr 1
     rw [List.map_map]
     conv => rhs; rw [← List.map_id l]
     apply List.map_congr_left; intro c _; simp
def Lt (w : World) (k : Nat) : Prop := k < w.heap.size
theorem Keep.lt {S : Nat → Prop} {w : World} : Keep S w (Lt w) w := fun _ _ h => ⟨rfl, h⟩
theorem rdRec_cell {S : Nat → Prop} {w : World} {ao : Option Addr} {n cap : Nat} {l : List Rec} (h : RdS DRec 4 S w (.slice ao n cap) l) {i : Nat} (hi : i < l.length) : ∃ b o a3 c3, ao = some ⟨b, o, none⟩ ∧ RdB S w (.slice a3 l[i].bytes.length c3) l[i].bytes ∧ l[i].bits < 2 ^ 64 ∧
   w.cell? ⟨b, o + i * 4, none⟩ = some (.int .i64 l[i].number) ∧ w.cell? ⟨b, o + i * 4 + 1, none⟩ = some (.int .i64 l[i].how) ∧ w.cell? ⟨b, o + i * 4 + 2, none⟩ = some (.int .u64 (l[i].bits : Int)) ∧ w.cell? ⟨b, o + i * 4 + 3, none⟩ = some (.slice a3 l[i].bytes.length c3) := by
 obtain ⟨ao', cap', hv, hc, hm, hn, hf⟩ := h; obtain ⟨b, o, cs, ha, hS, hb, hl, hcs, vb, rfl, hrb, h64⟩ := hf i hi; simp only [Value.slice.injEq] at hv; obtain ⟨rfl, rfl, rfl⟩ := hv; obtain ⟨a3, c3, rfl, _, _⟩ := hrb.val; exact ⟨b, o, a3, c3, ha, hrb, h64, by simpa using hcs 0 _ rfl, by simpa using hcs 1 _ rfl, by simpa using hcs 2 _ rfl, by simpa using hcs 3 _ rfl⟩
theorem parseG_err : ∀ (f : Nat) (l : List UInt8), (parseG f l).2.1 ≠ 0 → (parseG f l).1 = []
 | 0, _, h => by simp [parseG] at h
 | f + 1, l, h => by
   rw [parseG] at h ⊢
   by_cases h1 : l = []
   · rw [if_pos h1]
   · rw [if_neg h1] at h ⊢
     by_cases h2 : (oneP l).1 ≠ 0
     · rw [if_pos h2]
     · rw [if_neg h2] at h ⊢; simp only at h ⊢
       by_cases h3 : (parseG f (l.drop (oneP l).2.2)).2.1 ≠ 0
       · rw [if_pos h3]
       · rw [if_neg h3] at h; simp at h
theorem parseG_ok : ∀ (f : Nat) (l : List UInt8), (parseG f l).2.1 = 0 → (parseG f l).2.2 = 0
 | 0, _, h => by simp [parseG]
 | f + 1, l, h => by
   rw [parseG] at h ⊢
   by_cases h1 : l = []
   · rw [if_pos h1]
   · rw [if_neg h1] at h ⊢
     by_cases h2 : (oneP l).1 ≠ 0
     · rw [if_pos h2]
     · rw [if_neg h2] at h ⊢; simp only at h ⊢
       by_cases h3 : (parseG f (l.drop (oneP l).2.2)).2.1 ≠ 0
       · rw [if_pos h3] at h; exact absurd h h3
       · rw [if_neg h3]
theorem parseC_start {f : Nat} (l : List UInt8) : parseC 0 [] (parseG f l) = parseG f l := by
 by_cases h : (parseG f l).2.1 = 0
 · have h2 := parseG_ok f l h; unfold parseC; rw [if_neg (by simpa using h)]; generalize parseG f l = p at *; obtain ⟨a, b, c⟩ := p
   simp_all
 · have h2 := parseG_err f l h; unfold parseC; rw [if_pos h]; generalize parseG f l = p at *; obtain ⟨a, b, c⟩ := p
   simp_all
theorem oc {cs : Array Value} (h : cs.toList.all (·.oneCell') = true) : ∀ u ∈ cs.toList, u.oneCell' = true := List.all_eq_true.mp h
section
variable {P : Program} {t e : TypeId} {size bytes : Nat} {z : Value} (E : Elem P t e size bytes z) (w : World)
include E
theorem wpList_app1 {cs : Array Value} {ops : Array Oper} {rest : List Oper} {o : Oper} {a : Act} {Q : Exit → Act → World → Prop} (hgd : o.guard = none) (s x : Operand)
   (ho : o.op = .call { callee := .builtin .append, args := #[s, x], argTypes := #[t, t] })
   (base : Nat) (v : Value) (n : Nat) (xs : List Value) (hs : a.eval s = v) (hown : w.ownsRow base e size v n xs) (g : Nat) (hx : a.eval x = .slice (some ⟨g, 0, none⟩) 1 1) (hg : g = w.heap.size) (hl : cs.size = size) (h1 : ∀ u ∈ cs.toList, u.oneCell' = true)
   (hbytes : (n + 1) * bytes ≤ 140737488355328) (h63 : n + 1 ≤ maxLen) (hbase : base ≤ w.heap.size)
   (h : ∀ v' w', w'.ownsRow base e size v' (n + 1) (xs ++ cs.toList) → Evo w w' v v' → wpList P ops Q rest (a.put o.dst v') w') : wpList P ops Q (o :: rest) a (w.alloc (.cells cs e)) := by
 subst hg; exact wpList_app_one E w hgd s x ho base v n xs hs hown hx hl h1 hbytes h63 hbase h
theorem step_app1 {cs : Array Value} {ops : Array Oper} {o : Oper} {a : Act} {K : Act → World → Prop} {Q : Exit → Act → World → Prop} {F : Prop} (hgd : o.guard = none) (s x : Operand)
   (ho : o.op = .call { callee := .builtin .append, args := #[s, x], argTypes := #[t, t] })
   (base : Nat) (v : Value) (n : Nat) (xs : List Value) (hs : a.eval s = v) (hown : w.ownsRow base e size v n xs) (g : Nat) (hx : a.eval x = .slice (some ⟨g, 0, none⟩) 1 1) (hg : g = w.heap.size) (hl : cs.size = size) (h1 : ∀ u ∈ cs.toList, u.oneCell' = true)
   (hbytes : (n + 1) * bytes ≤ 140737488355328) (h63 : n + 1 ≤ maxLen) (hbase : base ≤ w.heap.size)
   (h : ∀ v' w', w'.ownsRow base e size v' (n + 1) (xs ++ cs.toList) → Evo w w' v v' → K (a.put o.dst v') w') : if Region.wanted o (yielded ops a.tmps) = true then Oper.wp P o a (w.alloc (.cells cs e)) K Q else F := by
 subst hg; exact step_app_one E w hgd s x ho base v n xs hs hown hx hl h1 hbytes h63 hbase h
end
end Go.Proofs.YtbceapeoknngnaaGreatDoor
namespace Go.Proofs.YtbceapeoknngnaaGreatDoor
open Go.RowKit
theorem rdS_of_block {α : Type} {D : Lay α} {size : Nat} {S : Nat → Prop} {w : World} {g : Nat} {e : TypeId} {f : Nat × Nat} {cells : Array Value} (l : List α) (css : List (List Value)) (hb : w.heap[g]? = some (.cells cells e f)) (hcs : cells = css.flatten.toArray) (hS : S g) (hl : css.length = l.length)
   (hel : ∀ i, (h : i < l.length) → ∃ cs, css[i]? = some cs ∧ cs.length = size ∧ D S w l[i] cs) {n cap : Nat} (hn : n = l.length) (hc : n ≤ cap) (hm : cap ≤ maxLen) : RdS D size S w (.slice (some ⟨g, 0, none⟩) n cap) l := by
 subst hcs; subst hn
 have hall : ∀ c ∈ css, c.length = size := fun c hc => by
   obtain ⟨i, hi, rfl⟩ := List.getElem_of_mem hc; obtain ⟨cs, h4, h5, _⟩ := hel i (by omega); rw [List.getElem?_eq_getElem hi] at h4; rw [Option.some.inj h4]; exact h5
 refine ⟨some ⟨g, 0, none⟩, cap, rfl, hc, hm, (fun e => nomatch e), fun i hi => ?_⟩; obtain ⟨cs, h4, h5, h6⟩ := hel i hi; refine ⟨g, 0, cs, rfl, hS, lt_of_block hb, h5, fun j u hu => ?_, h6⟩; have := getElem?_flatten_block css size i j u cs hall h4 hu; rw [show 0 + i * size + j = i * size + j by omega, cell_of_row w g _ _ e f hb]; simpa using this
theorem rdB_of_block {S : Nat → Prop} {w : World} {g : Nat} {e : TypeId} {f : Nat × Nat} {cells : Array Value} (l : List UInt8) (hb : w.heap[g]? = some (.cells cells e f)) (hcs : cells = (B8 l).toArray) (hS : S g) {n cap : Nat} (hn : n = l.length) (hc : n ≤ cap) (hm : cap ≤ maxLen) : RdB S w (.slice (some ⟨g, 0, none⟩) n cap) l := by
 refine rdS_of_block l (l.map fun c => [.int .u8 (c.toNat : Int)]) hb ?_ hS (by simp) (fun i hi => ⟨[.int .u8 (l[i].toNat : Int)], by simp [hi], rfl, rfl⟩) hn hc hm; rw [hcs]
 congr 1
 unfold B8; clear hn hcs
 induction l with
 | nil => rfl
 | cons c l ih => simp only [List.map_cons, List.flatten_cons, List.cons_append, List.nil_append]; rw [← ih]
theorem blk_new (w : World) (o : Obj) {g : Nat} (h : g = w.heap.size) : (w.alloc o).heap[g]? = some o := by subst h; exact heap_alloc_new w o
theorem blk_old {w : World} (o : Obj) {g : Nat} {o' : Obj} (h : w.heap[g]? = some o') : (w.alloc o).heap[g]? = some o' := (Below.heap_alloc w o g (lt_of_block h)).trans h
end Go.Proofs.YtbceapeoknngnaaGreatDoor
set_option linter.unusedVariables false
namespace Go.Proofs.YtbceapeoknngnaaGreatDoor
open Go.RowKit
structure Fld where
 name : List UInt8
 number : Int
 kind : Int
 type : List UInt8
 many : Bool
 choice : Int
deriving DecidableEq
structure Msg where
 name : List UInt8
 fields : List Fld
 barred : List Int
deriving DecidableEq
structure Itm where
 name : List UInt8
 value : Int
deriving DecidableEq
structure Enu where
 name : List UInt8
 items : List Itm
deriving DecidableEq
structure Fil where
 msgs : List Msg
 enums : List Enu
deriving DecidableEq
def okI (n : Int) : Prop := -9223372036854775808 ≤ n ∧ n ≤ 9223372036854775807
def okS (s : List UInt8) : Prop := s.length ≤ 140737488355328
def DFld : Lay Fld := fun _ _ x cs => cs = [.string ⟨x.name.toArray⟩, .int .i64 x.number, .int .i64 x.kind, .string ⟨x.type.toArray⟩, .bool x.many, .int .i64 x.choice] ∧ okI x.number ∧ okI x.kind ∧ okI x.choice ∧ okS x.name ∧ okS x.type
def DItm : Lay Itm := fun _ _ x cs => cs = [.string ⟨x.name.toArray⟩, .int .i64 x.value] ∧ okI x.value ∧ okS x.name
def DEnu : Lay Enu := fun S w x cs => ∃ v, cs = [.string ⟨x.name.toArray⟩, v] ∧ RdS DItm 2 S w v x.items ∧ okS x.name
def DMsg : Lay Msg := fun S w x cs => ∃ vf vb, cs = [.string ⟨x.name.toArray⟩, vf, vb] ∧ RdS DFld 6 S w vf x.fields ∧ RdS DInt 1 S w vb x.barred ∧ okS x.name
def FilV (S : Nat → Prop) (w : World) (v : Value) (f : Fil) : Prop := ∃ vm ve, v = .agg #[vm, ve] ∧ RdS DMsg 3 S w vm f.msgs ∧ RdS DEnu 2 S w ve f.enums
theorem stable_fld : Stable DFld := fun _ _ _ _ _ _ _ h => h
theorem stable_itm : Stable DItm := fun _ _ _ _ _ _ _ h => h
theorem stable_enu : Stable DEnu := by
 rintro S w S' w' x cs k ⟨v, h, hv, hn⟩; exact ⟨v, h, hv.keep stable_itm k, hn⟩
theorem stable_msg : Stable DMsg := by
 rintro S w S' w' x cs k ⟨vf, vb, h, hf, hb, hn⟩; exact ⟨vf, vb, h, hf.keep stable_fld k, hb.keep stable_int k, hn⟩
theorem FilV.keep {S S' : Nat → Prop} {w w' : World} {v : Value} {f : Fil} (h : FilV S w v f) (k : Keep S w S' w') : FilV S' w' v f := by
 obtain ⟨vm, ve, h1, hm, he⟩ := h; exact ⟨vm, ve, h1, hm.keep stable_msg k, he.keep stable_enu k⟩
theorem FilV.up {S : Nat → Prop} {w w' : World} {v : Value} {f : Fil} (h : FilV S w v f) (u : Up w w') : FilV S w' v f := h.keep (Keep.upS u)
theorem RdS.at {α : Type} {D : Lay α} {size : Nat} {S : Nat → Prop} {w : World} {ao : Option Addr} {n cap : Nat} {l : List α} (h : RdS D size S w (.slice ao n cap) l) {i : Nat} (hi : i < l.length) : ∃ b o cs, ao = some ⟨b, o, none⟩ ∧ b < w.heap.size ∧ cs.length = size ∧ CellsAt w b (o + i * size) cs ∧ D S w l[i] cs := by
 obtain ⟨ao', cap', hv, hc, hm, hn, hf⟩ := h; obtain ⟨b, o, cs, ha, hS, hb, hl, hcs, hd⟩ := hf i hi; simp only [Value.slice.injEq] at hv; obtain ⟨rfl, rfl, rfl⟩ := hv; exact ⟨b, o, cs, ha, hb, hl, hcs, hd⟩
def idxP {α : Type} (p : α → Bool) : List α → Int
 | [] => -1
 | a :: l => if p a then 0 else if idxP p l < 0 then -1 else idxP p l + 1
theorem idxP_at {α : Type} (p : α → Bool) : ∀ (l : List α) (k : Nat) (hk : k < l.length), (∀ j, (hj : j < l.length) → j < k → p l[j] = false) → p l[k] = true → idxP p l = k
 | [], k, hk, _, _ => by simp at hk
 | a :: l, 0, hk, _, h => by
   have h : p a = true := h; rw [idxP, if_pos h]; rfl
 | a :: l, k + 1, hk, hb, h => by
   have h0 : p a = false := hb 0 (by simp) (by omega); have ih := idxP_at p l k (by simpa using hk) (fun j hj hjk => hb (j + 1) (by simpa using hj) (by omega)) h; simp only [idxP, h0, Bool.false_eq_true, if_false]; rw [ih, if_neg (by omega)]; omega
theorem idxP_none {α : Type} (p : α → Bool) : ∀ (l : List α), (∀ j, (hj : j < l.length) → p l[j] = false) → idxP p l = -1
 | [], _ => rfl
 | a :: l, hb => by
   have h0 : p a = false := hb 0 (by simp); have ih := idxP_none p l (fun j hj => hb (j + 1) (by simpa using hj)); simp only [idxP, h0, Bool.false_eq_true, if_false]; rw [ih]; rfl
theorem idxP_any {α : Type} (p : α → Bool) : ∀ (l : List α), decide (0 ≤ idxP p l) = l.any p
 | [] => rfl
 | a :: l => by
   have ih := idxP_any p l; rw [List.any_cons, ← ih, idxP]; cases hp : p a
   · simp only [Bool.false_eq_true, if_false, Bool.false_or]
     by_cases h : idxP p l < 0
     · rw [if_pos h, decide_eq_false (by omega), decide_eq_false (by omega)]
     · rw [if_neg h, decide_eq_true (by omega), decide_eq_true (by omega)]
   · simp
theorem no_more {α : Type} {p : α → Bool} {l : List α} {k : Nat} (hk : k < l.length) (hg : ∀ j, (hj : j < l.length) → j < k → p l[j] = false) (e : p l[k] = false) : ∀ j, (hj : j < l.length) → j < k + 1 → p l[j] = false := fun j hj hjk => by
 by_cases h : j = k
 · subst h; exact e
 · exact hg j hj (by omega)
inductive Bod where
 | mk (values : List (Int × List Nat × List (List UInt8) × List Bod)) (unknown : List Rec) : Bod
abbrev Val : Type := Int × List Nat × List (List UInt8) × List Bod
def Bod.values : Bod → List Val | .mk v _ => v
def Bod.unknown : Bod → List Rec | .mk _ u => u
theorem Bod.ext' {a b : Bod} (h : a.values = b.values) (k : a.unknown = b.unknown) : a = b := by
 (cases a; cases b); simp only [Bod.values, Bod.unknown] at h k; rw [h, k]
def bod0 : Bod := .mk [] []
instance : Inhabited Bod := ⟨bod0⟩
abbrev Val.num (x : Val) : Int := x.1
abbrev Val.bits (x : Val) : List Nat := x.2.1
abbrev Val.bytes (x : Val) : List (List UInt8) := x.2.2.1
abbrev Val.subs (x : Val) : List Bod := x.2.2.2
def val0 : Val := (0, [], [], [])
def DBytes : Lay (List UInt8) := fun S w l cs => ∃ v, cs = [v] ∧ RdB S w v l ∧ l.length ≤ 140737488355328
theorem stable_bytes : Stable DBytes := by
 rintro S w S' w' l cs k ⟨v, rfl, h, hz⟩; exact ⟨v, rfl, h.keep stable_u8 k, hz⟩
def DRecZ : Lay Rec := fun S w r cs => DRec S w r cs ∧ r.bytes.length ≤ 140737488355328
theorem stable_recz : Stable DRecZ := fun S w S' w' r cs k h => ⟨stable_rec S w S' w' r cs k h.1, h.2⟩
def ValSz (x : Val) : Prop := x.2.1.length * 8 ≤ 140737488355328 ∧ x.2.2.1.length * 24 ≤ 140737488355328 ∧ x.2.2.2.length * 48 ≤ 140737488355328
def BodSz (b : Bod) : Prop := b.values.length * 80 ≤ 140737488355328 ∧ b.unknown.length * 48 ≤ 140737488355328
def DValF (DB : Lay Bod) : Lay Val := fun S w x cs => ∃ vb vy vs, cs = [.int .i64 x.1, vb, vy, vs] ∧ okI x.1 ∧ RdS DU64 1 S w vb x.2.1 ∧ RdS DBytes 1 S w vy x.2.2.1 ∧ RdS DB 2 S w vs x.2.2.2 ∧ ValSz x
def DBodF : Nat → Lay Bod
 | 0 => fun _ _ _ _ => False
 | d + 1 => fun S w b cs => ∃ vv vu, cs = [vv, vu] ∧ RdS (DValF (DBodF d)) 4 S w vv b.values ∧ RdS DRecZ 4 S w vu b.unknown ∧ BodSz b
abbrev DValD (d : Nat) : Lay Val := DValF (DBodF d)
theorem stable_valF {DB : Lay Bod} (h : Stable DB) : Stable (DValF DB) := by
 rintro S w S' w' x cs k ⟨vb, vy, vs, rfl, h0, h1, h2, h3, hz⟩; exact ⟨vb, vy, vs, rfl, h0, h1.keep stable_u64 k, h2.keep stable_bytes k, h3.keep h k, hz⟩
theorem stable_bod : ∀ d, Stable (DBodF d)
 | 0 => fun _ _ _ _ _ _ _ h => h
 | d + 1 => by
   rintro S w S' w' b cs k ⟨vv, vu, rfl, h0, h1, hz⟩; exact ⟨vv, vu, rfl, h0.keep (stable_valF (stable_bod d)) k, h1.keep stable_recz k, hz⟩
theorem stable_val (d : Nat) : Stable (DValD d) := stable_valF (stable_bod d)
theorem RdS.imp {α : Type} {D D' : Lay α} {size : Nat} {S : Nat → Prop} {w : World} {v : Value} {l : List α} (h : RdS D size S w v l) (f : ∀ a ∈ l, ∀ cs, D S w a cs → D' S w a cs) : RdS D' size S w v l := by
 obtain ⟨ao, cap, hv, h1, h2, h3, h4⟩ := h; refine ⟨ao, cap, hv, h1, h2, h3, fun i hi => ?_⟩; obtain ⟨b, o, cs, e1, e2, e3, e4, e5, e6⟩ := h4 i hi; exact ⟨b, o, cs, e1, e2, e3, e4, e5, f _ (List.getElem_mem hi) _ e6⟩
theorem bod_up : ∀ d {S : Nat → Prop} {w : World} {b : Bod} {cs : List Value}, DBodF d S w b cs → DBodF (d + 1) S w b cs
 | 0, _, _, _, _, h => h.elim
 | d + 1, S, w, b, cs, ⟨vv, vu, e, h0, h1, hz⟩ =>
   ⟨vv, vu, e, h0.imp (fun x _ cs ⟨vb, vy, vs, e, g0, g1, g2, g3, gz⟩ => ⟨vb, vy, vs, e, g0, g1, g2, g3.imp (fun b _ cs h => bod_up d h), gz⟩), h1, hz⟩
theorem bod_le {d d' : Nat} (h : d ≤ d') {S : Nat → Prop} {w : World} {b : Bod} {cs : List Value} (hb : DBodF d S w b cs) : DBodF d' S w b cs := by
 induction h with
 | refl => exact hb
 | step _ ih => exact bod_up _ ih
theorem val_cells {d : Nat} {S : Nat → Prop} {w : World} {x : Val} {cs : List Value} (h : DValD d S w x cs) : ∃ a1 c1 a2 c2 a3 c3, cs = [.int .i64 x.1, .slice a1 x.2.1.length c1, .slice a2 x.2.2.1.length c2, .slice a3 x.2.2.2.length c3] ∧
   okI x.1 ∧ RdS DU64 1 S w (.slice a1 x.2.1.length c1) x.2.1 ∧ RdS DBytes 1 S w (.slice a2 x.2.2.1.length c2) x.2.2.1 ∧ RdS (DBodF d) 2 S w (.slice a3 x.2.2.2.length c3) x.2.2.2 ∧ ValSz x := by
 obtain ⟨vb, vy, vs, rfl, h0, h1, h2, h3, hz⟩ := h; obtain ⟨a1, c1, rfl, _, _⟩ := h1.val; obtain ⟨a2, c2, rfl, _, _⟩ := h2.val; obtain ⟨a3, c3, rfl, _, _⟩ := h3.val; exact ⟨a1, c1, a2, c2, a3, c3, rfl, h0, h1, h2, h3, hz⟩
def fitsN (kind : Int) (n : Nat) : Int :=
 if kind = 1 ∨ kind = 2 ∨ kind = 3 ∨ kind = 6 then 0
 else if kind = 4 then if 1 < n then 3 else 0
 else if kind = 5 then if n ≤ 2147483647 ∨ 18446744071562067968 ≤ n then 0 else 3
 else if kind = 7 then if 4294967295 < n then 3 else 0
 else 1
def countN (kind : Int) (v : Val) : Nat × Bool :=
 if kind = 8 ∨ kind = 9 then (v.2.2.1.length, v.2.1.length + v.2.2.2.length == 0)
 else if kind = 10 then (v.2.2.2.length, v.2.1.length + v.2.2.1.length == 0)
 else (v.2.1.length, v.2.2.1.length + v.2.2.2.length == 0)
def plainN (x : Fld) (v : Val) : Bool := !(x.many || decide (0 < x.choice) || x.kind == 10) && ((v.2.1 == [0]) || (v.2.2.1 == [[]]))
set_option maxRecDepth 100000
open Lib (hid)
def letterN (c : Nat) : Bool := decide (97 ≤ c ∧ c ≤ 122 ∨ 65 ≤ c ∧ c ≤ 90)
def moreN (c : Nat) : Bool := decide (97 ≤ c ∧ c ≤ 122 ∨ 65 ≤ c ∧ c ≤ 90 ∨ 48 ≤ c ∧ c ≤ 57 ∨ c = 95)
def partN (i c : Nat) : Bool := if i = 0 then letterN c else moreN c
set_option maxHeartbeats 800000 in
theorem letter_any (c : Nat) (w : World) :
   Calls Tryz.prog 166 #[.int .u8 c] w fun e w' => e = .returned (.bool (letterN c)) ∧ w' = w := by
 go_enter Tryz.func166, Tryz.ntmps166
 go_wp2_with fail
 all_goals
   go_ret
   refine ⟨ret_bool ?_, rfl⟩; unfold letterN
   (rw [Bool.eq_iff_iff]; simp only [Bool.or_eq_true, decide_eq_true_eq, true_iff, false_iff, Bool.false_eq_true]; omega)
def named (l : List UInt8) : Bool := decide (0 < l.length ∧ l.length ≤ 16) && (List.range l.length).all fun i => partN i (l.getD i 0).toNat
theorem named_bad {l : List UInt8} {k : Nat} (hk : k < l.length) (h : partN k l[k].toNat = false) : named l = false := by
 have : (List.range l.length).all (fun i => partN i (l.getD i 0).toNat) = false := by
   rw [List.all_eq_false]; exact ⟨k, List.mem_range.2 hk, by simp [List.getD, hk, h]⟩
 unfold named; rw [this, Bool.and_false]
theorem named_good {l : List UInt8} (h : ∀ k, (hk : k < l.length) → partN k l[k].toNat = true) : named l = decide (0 < l.length ∧ l.length ≤ 16) := by
 have : (List.range l.length).all (fun i => partN i (l.getD i 0).toNat) = true := by
   rw [List.all_eq_true]; intro i hi; have hi := List.mem_range.1 hi; simpa [List.getD, hi] using h i hi
 unfold named; rw [this, Bool.and_true]
set_option maxHeartbeats 800000 in
theorem named_s (s : ByteArray) (w : World) :
   Calls Tryz.prog 121 #[.string s] w fun e w' => e = .returned (.bool (named s.data.toList)) ∧ Up w w' := by
 obtain ⟨l, hl⟩ : ∃ l, l = s.data.toList := ⟨_, rfl⟩; (have hsz : s.size = l.length := by rw [hl]; rfl); have Hsz := hid hsz; clear hsz; have Hl := hid hl; clear hl
 by_cases h1 : 0 < s.size ∧ s.size ≤ 16
 · (have i0 : 1 ≤ (s.size : Int) := by omega); (have i1 : (s.size : Int) ≤ 16 := by omega); have H1 := hid h1; clear h1
   go_enter Tryz.func121, Tryz.ntmps121
   (go_wp2_with fail); (go_loopw [16] (fun i wr => ∃ k : Nat, k ≤ s.size ∧ i = .int .i64 k ∧ wr = w ∧ ∀ j, (hj : j < l.length) → j < k → partN j l[j].toNat = true) (fun i _ => s.size - (intOf i).toNat)); case atStart => exact ⟨0, by omega, rfl, rfl, fun j _ h => absurd h (by omega)⟩
   case round =>
     obtain ⟨k, hk, rfl, rfl, hg⟩ := hrel
     by_cases hlt : k < s.size
     · have hp : partN k l[k].toNat = partN k s[k].toNat := by
         have hl := Hl.out; subst hl; rfl
       have Hp := hid hp; clear hp; have Hg := hid hg; clear hg; (have hcs : ((s[k].toNat : Int) < 48) ∨ (48 ≤ (s[k].toNat : Int) ∧ (s[k].toNat : Int) ≤ 57) ∨ (57 < (s[k].toNat : Int) ∧ (s[k].toNat : Int) < 65) ∨ (65 ≤ (s[k].toNat : Int) ∧ (s[k].toNat : Int) ≤ 90) ∨ (90 < (s[k].toNat : Int) ∧ (s[k].toNat : Int) < 95) ∨ (s[k].toNat : Int) = 95 ∨ (s[k].toNat : Int) = 96 ∨ (97 ≤ (s[k].toNat : Int) ∧ (s[k].toNat : Int) ≤ 122) ∨ 122 < (s[k].toNat : Int) := by omega); obtain ⟨c, hc⟩ : ∃ c, c = s[k].toNat := ⟨_, rfl⟩; rw [← hc] at hcs Hp; replace hc := hc.symm; have hkl : k < l.length := by have := Hsz.out; omega
       by_cases hk0 : k = 0
       · (have hk1 : ((k : Int) == 0) = true := by simp [hk0]); have Hk0 := hid hk0; clear hk0; rcases hcs with h | ⟨h, h'⟩ | ⟨h, h'⟩ | ⟨h, h'⟩ | ⟨h, h'⟩ | h | h | ⟨h, h'⟩ | h
         all_goals
           (go_wp2_with fail) <;> first
             | (exfalso; (simp only [Bool.not_eq_true', Bool.not_eq_false', decide_eq_true_eq, decide_eq_false_iff_not] at *) <;> omega)
             | (go_ret; refine ⟨ret_bool ?_, Up.refl _⟩; rw [← Hl.out, named_bad hkl (by rw [Hp.out, partN, if_pos Hk0.out, letterN]; (rw [Bool.eq_iff_iff]; simp only [decide_eq_true_eq, iff_false, Bool.false_eq_true]; omega))])
             | (go_roundw
                case rel =>
                  refine ⟨k + 1, by omega, by go_num, trivial, fun j hj hjk => ?_⟩; (obtain rfl : j = k := by have := Hk0.out; omega); rw [Hp.out, partN, if_pos Hk0.out, letterN]; (rw [Bool.eq_iff_iff]; simp only [decide_eq_true_eq, iff_true]; omega)
                case measure => simp [intOf]; omega)
       · (have hk1 : ((k : Int) == 0) = false := by rw [beq_eq_false_iff_ne]; omega); have Hk0 := hid hk0; clear hk0; rcases hcs with h | ⟨h, h'⟩ | ⟨h, h'⟩ | ⟨h, h'⟩ | ⟨h, h'⟩ | h | h | ⟨h, h'⟩ | h
         all_goals
           (go_wp2_with fail) <;> first
             | (exfalso; (simp only [Bool.not_eq_true', Bool.not_eq_false', bne_iff_ne, bne_eq_false_iff_eq, ne_eq, decide_eq_true_eq, decide_eq_false_iff_not] at *) <;> omega)
             | (go_ret; refine ⟨ret_bool ?_, Up.refl _⟩; rw [← Hl.out, named_bad hkl (by rw [Hp.out, partN, if_neg Hk0.out, moreN]; (rw [Bool.eq_iff_iff]; simp only [decide_eq_true_eq, iff_false, Bool.false_eq_true]; omega))])
             | (go_roundw
                case rel =>
                  refine ⟨k + 1, by omega, by go_num, trivial, fun j hj hjk => ?_⟩
                  by_cases hjk2 : j = k
                  · subst hjk2; rw [Hp.out, partN, if_neg Hk0.out, moreN]; (rw [Bool.eq_iff_iff]; simp only [decide_eq_true_eq, iff_true]; omega)
                  · exact Hg.out j hj (by omega)
                case measure => simp [intOf]; omega)
     · go_wp2_with fail
       go_ret
       refine ⟨ret_bool ?_, Up.refl _⟩; have hsz := Hsz.out; rw [← Hl.out, named_good (fun j hj => hg j hj (by omega))]
       symm; rw [decide_eq_true_iff]; omega
 · have hn : named s.data.toList = false := by
     unfold named; rw [← Hl.out, ← Hsz.out, decide_eq_false h1, Bool.false_and]
   rw [hn]; (have h2 : (s.size : Int) < 1 ∨ (1 ≤ (s.size : Int) ∧ 16 < (s.size : Int)) := by omega); have H1 := hid h1; clear h1; rcases h2 with h2 | ⟨h2, h3⟩
   all_goals
     go_enter Tryz.func121, Tryz.ntmps121
     go_wp2_with fail
     go_ret
     exact ⟨rfl, Up.refl _⟩
end Go.Proofs.YtbceapeoknngnaaGreatDoor
