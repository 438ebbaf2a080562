/-
  A file that lacks some fields, in plain Lean.
  Values that come one by one, in whatever turn, in plain Lean.
  Who knows less loses nothing, in plain Lean.
-/
import Derived.Test.YtbceapeoknngnaaGreatDoorOp47
set_option linter.unusedVariables false
namespace Go.Proofs.YtbceapeoknngnaaGreatDoor
open Go.RowKit
def goneN (lacks : List Int) (y : Fld) : Bool := (decide (0 < y.choice) && decide (0 < lacks.length)) || lacks.any (fun k => k == y.number)
def lessM (lacks : List Int) (m : Msg) : Msg := ⟨m.name, m.fields.filter (fun y => !goneN lacks y), m.barred⟩
def lessN (lacks : List Int) (f : Fil) : Fil := ⟨f.msgs.map (lessM lacks), f.enums⟩
theorem filter_at {α : Type} (p : α → Bool) : ∀ (l : List α) (i : Nat) (hi : i < (l.filter p).length), ∃ j, ∃ hj : j < l.length, l[j] = (l.filter p)[i] ∧ (l.filter p).take i = (l.take j).filter p
 | [], i, hi => by simp at hi
 | a :: l, i, hi => by
   by_cases ha : p a = true
   · have e : (a :: l).filter p = a :: l.filter p := by rw [List.filter_cons, if_pos ha]
     cases i with
     | zero => exact ⟨0, by simp, by simp [e], by simp⟩
     | succ i =>
       obtain ⟨j, hj, h1, h2⟩ := filter_at p l i (by simpa [e] using hi); refine ⟨j + 1, by simpa using hj, by simp [e, h1], ?_⟩; rw [e, List.take_succ_cons, List.take_succ_cons, List.filter_cons, if_pos ha, h2]
   · (have e : (a :: l).filter p = l.filter p := by rw [List.filter_cons, if_neg ha]); obtain ⟨j, hj, h1, h2⟩ := filter_at p l i (by simpa [e] using hi); refine ⟨j + 1, by simpa using hj, by simp [e, h1], ?_⟩; rw [e, List.take_succ_cons, List.filter_cons, if_neg ha, h2]
theorem idxP_map {α β : Type} (g : α → β) (p : β → Bool) : ∀ l : List α, idxP p (l.map g) = idxP (fun a => p (g a)) l
 | [] => rfl
 | a :: l => by rw [List.map_cons, idxP, idxP, idxP_map g p l]
theorem msgI_less (lacks : List Int) (f : Fil) (s : List UInt8) : msgI (lessN lacks f) s = msgI f s := by
 unfold msgI lessN; rw [idxP_map]; rfl
theorem typed_less (lacks : List Int) (f : Fil) (x : Fld) : typedN (lessN lacks f) x = typedN f x := by
 unfold typedN; have h1 : idxP (fun m => m.name == x.type) (lessN lacks f).msgs = idxP (fun m => m.name == x.type) f.msgs := msgI_less lacks f x.type; have h2 : (lessN lacks f).enums = f.enums := rfl; rw [h1, h2]
theorem any_sub {α : Type} {p : α → Bool} {l r : List α} (h : ∀ a ∈ l, a ∈ r) (hr : r.any p = false) : l.any p = false := by
 rw [List.any_eq_false] at hr ⊢; exact fun a ha => hr a (h a ha)
theorem less_field {lacks : List Int} {f : Fil} {m : Msg} (hm : msgN f m = 0) (i : Nat) (hi : i < (lessM lacks m).fields.length) : fieldN (lessN lacks f) (lessM lacks m) i (lessM lacks m).fields[i] = 0 := by
 obtain ⟨j, hj, h1, h2⟩ := filter_at (fun y => !goneN lacks y) m.fields i hi; have hb := (msg_field hm).2.2 j hj; have hx : (lessM lacks m).fields[i] = m.fields[j] := h1.symm; have hmem : m.fields[j] ∈ (lessM lacks m).fields := by rw [← hx]; exact List.getElem_mem hi
 have hsub : ∀ y ∈ (lessM lacks m).fields.take i, y ∈ m.fields.take j := fun y hy => by
   have : (lessM lacks m).fields.take i = (m.fields.take j).filter (fun y => !goneN lacks y) := h2; rw [this] at hy; exact (List.mem_filter.1 hy).1
 have hc := choice_16 hm (List.getElem_mem hj); rw [hx]; unfold fieldN at hb ⊢; split at hb
 · cases hb
 rename_i b1; split at hb
 · cases hb
 rename_i b2; split at hb
 · cases hb
 rename_i b3; split at hb
 · contradiction
 rename_i b4; split at hb
 · cases hb
 rename_i b5
 have b1' : named m.fields[j].name = true ∧ (m.fields.take j).any (fun y => m.fields[j].name == y.name) = false := by
   simpa using b1
 have b3' : m.barred.any (fun n => m.fields[j].number == n) = false ∧ (m.fields.take j).any (fun y => m.fields[j].number == y.number) = false := by
   rw [← Bool.or_eq_false_iff]; simpa only [Bool.not_eq_true] using b3
 rw [if_neg (by rw [b1'.1, any_sub hsub b1'.2]; decide), if_neg b2, if_neg (by rw [any_sub hsub b3'.2]; show ¬ ((m.barred.any (fun n => m.fields[j].number == n) || false) = true); rw [b3'.1]; decide), if_neg (by rw [typed_less]; exact b4)]
 by_cases hl : 0 < lacks.length
 · have h0 : m.fields[j].choice = 0 := by
     have hg := (List.mem_filter.1 (show m.fields[j] ∈ m.fields.filter (fun y => !goneN lacks y) from hmem)).2; unfold goneN at hg; rw [decide_eq_true hl] at hg; (have : ¬ 0 < m.fields[j].choice := fun g => by rw [decide_eq_true g] at hg; simp at hg); omega
   rw [if_neg (fun g => g.1 h0)]
 · have h0 : lacks = [] := List.eq_nil_of_length_eq_zero (by omega)
   have hid : (lessM lacks m).fields = m.fields := by
     show m.fields.filter _ = _; refine List.filter_eq_self.2 fun y hy => ?_; subst h0; simp [goneN]
   have hij : (lessM lacks m).fields.take i = m.fields.take j := by
     have : (lessM lacks m).fields.take i = (m.fields.take j).filter (fun y => !goneN lacks y) := h2; rw [this]; refine List.filter_eq_self.2 fun y hy => ?_; subst h0; simp [goneN]
   rw [hij, if_neg b5]
theorem less_msg {lacks : List Int} {f : Fil} {m : Msg} (hm : msgN f m = 0) : msgN (lessN lacks f) (lessM lacks m) = 0 := by
 have hf := fun i hi => less_field (lacks := lacks) hm i hi; have hl := List.length_filter_le (fun y => !goneN lacks y) m.fields; have hm0 := hm; unfold msgN at hm ⊢; split at hm
 · cases hm
 split at hm
 · cases hm
 rename_i h1 h2
 rw [if_neg (show ¬ (16 < (lessM lacks m).fields.length ∨ 16 < (lessM lacks m).barred.length) from fun g => by
   rcases g with g | g
   · have : (lessM lacks m).fields.length ≤ m.fields.length := hl; omega
   · exact h1 (.inr g)), if_neg (show ¬ ((lessM lacks m).barred.any fun n => decide (n < 0 ∨ 536870912 ≤ n)) = true from h2)]
 exact firstN_idx_none hf
theorem less_right {lacks : List Int} {f : Fil} (h : (wrongN f).1 = 0) : (wrongN (lessN lacks f)).1 = 0 := by
 have hm := right_msg h; unfold wrongN at h; split at h
 · cases h
 rename_i h1; split at h
 · rename_i h2; exact absurd h h2
 rename_i h2; split at h
 · rename_i h3; exact absurd h h3
 rename_i h3; have hl : (lessN lacks f).msgs.length = f.msgs.length := List.length_map _
 have hh : hadN (lessN lacks f) = hadN f := by
   unfold hadN lessN; simp only [List.map_map]; rfl
 unfold wrongN; rw [if_neg (by rw [hl]; exact h1), hh, if_neg h2, if_neg ?_]
 · rw [hl]; exact h
 · rw [firstAt_map_none (fun j hj => ?_)]
   · decide
   · (have hj' : j < f.msgs.length := by rw [← hl]; exact hj); have e : (lessN lacks f).msgs[j] = lessM lacks f.msgs[j] := List.getElem_map _; rw [e]; exact less_msg (hm _ (List.getElem_mem hj'))
theorem readL_unk_app {val : Fld → Rec → Val × Bool × Int} {ad : Bod → Fld → Val → Bod × Int} {fs : List Fld} (rest : List Rec) : ∀ (l : List Rec) (a : Bod), (∀ r ∈ l, fldN fs r.number = none) → readL val ad fs (l ++ rest) a = readL val ad fs rest (.mk a.values (a.unknown ++ l))
 | [], a, _ => by rw [List.nil_append, List.append_nil]; cases a; rfl
 | r :: l, a, h => by
   rw [List.cons_append, readL, h r List.mem_cons_self]; simp only; rw [readL_unk_app rest l _ (fun q hq => h q (List.mem_cons_of_mem _ hq))]; simp [Bod.values, Bod.unknown]
def NoClash (fs : List Fld) (u v : Val) : Prop := u.1 ≠ v.1 ∧ ∀ x y, fldN fs u.1 = some x → fldN fs v.1 = some y → 0 < x.choice → x.choice ≠ y.choice
theorem NoClash.symm {fs : List Fld} {u v : Val} (h : NoClash fs u v) : NoClash fs v u := ⟨Ne.symm h.1, fun x y hx hy h0 e => h.2 y x hy hx (by omega) e.symm⟩
theorem readL_items {α : Type} {wb : Int → Bod → Int} {jb : Int → Bod → Bod → Bod} {jn : Int → Bod → Bod → Bod × Int} {f : Fil} {fs : List Fld} (hch : ∀ z ∈ fs, 0 ≤ z.choice) (hjn : JnOk wb jb jn) {val : Fld → Rec → Val × Bool × Int} (F : α → List Rec) (K : α → Option Val) (rest : List Rec) :
   ∀ (l : List α) (b : Bod), AllV wb f fs b.values →
   (∀ a ∈ l, (K a = none ∧ ∀ r ∈ F a, fldN fs r.number = none) ∨ ∃ v x, K a = some v ∧ fldN fs v.1 = some x ∧ wrongVF wb f x v = 0 ∧ ∀ (rest : List Rec) (b : Bod), AllV wb f fs b.values → readL val (addC jn f fs) fs (F a ++ rest) b = stepL val (addC jn f fs) fs x v rest b) →
   (∀ v ∈ l.filterMap K, ∀ u ∈ b.values, NoClash fs u v) → (l.filterMap K).Pairwise (NoClash fs) →
   ∃ V, AllV wb f fs V ∧ (∀ u, u ∈ V ↔ u ∈ b.values ∨ u ∈ l.filterMap K) ∧ readL val (addC jn f fs) fs (l.flatMap F ++ rest) b = readL val (addC jn f fs) fs rest (.mk V (b.unknown ++ (l.filter fun a => (K a).isNone).flatMap F))
 | [], b, hb, _, _, _ => ⟨b.values, hb, fun u => by simp, by cases b; simp [Bod.values, Bod.unknown]⟩
 | a :: l, b, hb, hall, hcl, hpw => by
   rw [List.flatMap_cons, List.append_assoc]; rcases hall a List.mem_cons_self with ⟨hk, hu⟩ | ⟨v, x, hk, hx, hw, hstep⟩
   · (have e : (a :: l).filterMap K = l.filterMap K := by rw [List.filterMap_cons, hk]); rw [e] at hcl hpw ⊢; rw [readL_unk_app _ _ _ hu, List.filter_cons, if_pos (by rw [hk]; rfl), List.flatMap_cons]; obtain ⟨V, h1, h2, h3⟩ := readL_items hch hjn F K rest l (.mk b.values (b.unknown ++ F a)) hb (fun c hc => hall c (List.mem_cons_of_mem _ hc)) hcl hpw; refine ⟨V, h1, h2, ?_⟩; rw [h3]; show _ = readL val (addC jn f fs) fs rest (.mk V (b.unknown ++ (F a ++ _))); rw [← List.append_assoc]; rfl
   · (have e : (a :: l).filterMap K = v :: l.filterMap K := by rw [List.filterMap_cons, hk]); rw [e] at hcl hpw ⊢; rw [hstep _ _ hb, List.filter_cons, if_neg (by rw [hk]; simp)]; obtain ⟨p1, p2⟩ := List.pairwise_cons.1 hpw; have hnone : findV b.values v.1 = none := findV_non (fun u hu => (hcl v List.mem_cons_self u hu).1)
     have hkeep : ∀ u ∈ b.values, keepN fs x v.1 u.1 = true := fun u hu => by
       have hc := hcl v List.mem_cons_self u hu
       cases hq : keepN fs x v.1 u.1 with
       | true => rfl
       | false =>
         obtain ⟨h0, z, hz, hzc⟩ := keepN_false hc.1 hq; have hz0 := hch z (fldN_mem hz).1; exact absurd hzc (hc.2 z x hz hx (by omega))
     have hadd := add_ok hjn hb hx (wrongVF_iff.1 hw).1; rw [hnone, both_none] at hadd; rcases hadd with ⟨g1, g2, g3⟩ | ⟨g1, _⟩
     · unfold stepL; rw [g3]; simp only [ne_eq, not_true_eq_false, if_false]; have hmem := fun y => set_mem_iff (fs := fs) hb.ris hx y; have hpl := (wrongVF_iff.1 hw).2.2
       have hmem' : ∀ y, y ∈ setV fs b.values v ↔ y ∈ b.values ∨ y = v := fun y => by
         rw [hmem]; constructor
         · rintro (h | h)
           · exact .inl h.1
           · exact .inr h.2
         · rintro (h | h)
           · exact .inl ⟨h, hkeep y h⟩
           · exact .inr ⟨hpl, h⟩
       obtain ⟨V, h1, h2, h3⟩ := readL_items hch hjn F K rest l (.mk (setV fs b.values v) b.unknown) (set_right hch hb hx g1 g2) (fun c hc => hall c (List.mem_cons_of_mem _ hc)) (fun w hw' u hu => by
         rcases (hmem' u).1 hu with h | h
         · exact hcl w (List.mem_cons_of_mem _ hw') u h
         · rw [h]; exact p1 w hw') p2
       refine ⟨V, h1, fun u => ?_, h3⟩; rw [h2 u]; show u ∈ setV fs b.values v ∨ _ ↔ _; rw [hmem', List.mem_cons, or_assoc]
     · exact absurd hw g1
theorem rising_mem {l r : List Val} (hl : RisingV l) (hr : RisingV r) (h : ∀ u, u ∈ l ↔ u ∈ r) : l = r := by
 refine rising_ext hl hr fun n => ?_; apply Option.ext; intro u; rw [find_iff hl, find_iff hr, h]
def mapS (φ : Bod → Bod) (v : Val) : Val := (v.1, v.2.1, v.2.2.1, v.2.2.2.map φ)
theorem valRecs_map (sub : Bod → List UInt8) (φ : Bod → Bod) (x : Fld) (v : Val) : valRecs sub x (mapS φ v) = valRecs (fun s => sub (φ s)) x v := by
 unfold valRecs mapS; simp only [List.map_map]; rfl
theorem valRecs_congr {sub sub' : Bod → List UInt8} {x : Fld} {v : Val} (h : ∀ s ∈ v.2.2.2, sub s = sub' s) : valRecs sub x v = valRecs sub' x v := by
 unfold valRecs; rw [List.map_congr_left (f := fun s => (⟨x.number, 2, 0, sub s⟩ : Rec)) (g := fun s => ⟨x.number, 2, 0, sub' s⟩) (fun s hs => by rw [h s hs])]
theorem oneB_len {n : Int} {s t : List UInt8} (h : s.length = t.length) : (oneB ⟨n, 2, 0, s⟩).length = (oneB ⟨n, 2, 0, t⟩).length := by
 unfold oneB; simp [h]
theorem flat_lens {α β : Type} (g h : α → List β) : ∀ (l : List α), (∀ a ∈ l, (g a).length = (h a).length) → (l.flatMap g).length = (l.flatMap h).length
 | [], _ => rfl
 | a :: l, k => by
   rw [List.flatMap_cons, List.flatMap_cons, List.length_append, List.length_append, k a List.mem_cons_self, flat_lens g h l (fun b hb => k b (List.mem_cons_of_mem _ hb))]
theorem valRecs_len {sub sub' : Bod → List UInt8} {x : Fld} {v : Val} (h : ∀ s ∈ v.2.2.2, (sub s).length = (sub' s).length) : ((valRecs sub x v).flatMap oneB).length = ((valRecs sub' x v).flatMap oneB).length := by
 unfold valRecs; split
 · rfl
 · simp only [List.flatMap_append, List.length_append]
   congr 2
   rw [List.flatMap_map, List.flatMap_map]; exact flat_lens _ _ _ (fun s hs => oneB_len (h s hs))
theorem plain_map (φ : Bod → Bod) (x : Fld) (v : Val) : plainN x (mapS φ v) = plainN x v := rfl
theorem count_map (φ : Bod → Bod) (k : Int) (v : Val) : countN k (mapS φ v) = countN k v := by
 unfold countN mapS; simp only [List.length_map]
theorem fit_map {wb wb' : Int → Bod → Int} {f g : Fil} {x : Fld} {v : Val} {φ : Bod → Bod} (h : wrongVF wb f x v = 0) (hs : ∀ s ∈ v.2.2.2, wb' (msgI g x.type) (φ s) = 0) : wrongVF wb' g x (mapS φ v) = 0 := by
 obtain ⟨⟨h1, h2, h3, h4, h5, h6⟩, h7, h8⟩ := wrongVF_iff.1 h; refine wrongVF_iff.2 ⟨⟨?_, ?_, ?_, h4, h5, fun s hs' => ?_⟩, ?_, ?_⟩
 · rw [count_map]; exact h1
 · rw [count_map]; exact h2
 · rw [count_map]; exact h3
 · obtain ⟨t, ht, rfl⟩ := List.mem_map.1 hs'; exact hs t ht
 · rw [count_map]; exact h7
 · rw [plain_map]; exact h8
theorem valRecs_num {sub : Bod → List UInt8} {x : Fld} {v : Val} : ∀ r ∈ valRecs sub x v, r.number = x.number := by
 intro r hr; unfold valRecs at hr; split at hr
 · obtain rfl := List.mem_singleton.1 hr; rfl
 · rcases List.mem_append.1 hr with h | h
   · obtain ⟨q, _, rfl⟩ := List.mem_map.1 h; rfl
   · rcases List.mem_append.1 h with h | h
     · obtain ⟨q, _, rfl⟩ := List.mem_map.1 h; rfl
     · obtain ⟨q, _, rfl⟩ := List.mem_map.1 h; rfl
def recsOf (sub : Fld → Bod → List UInt8) (fs : List Fld) (v : Val) : List Rec := match fldN fs v.1 with | none => [] | some z => valRecs (sub z) z v
theorem valsRecs_eq (sub : Fld → Bod → List UInt8) (fs : List Fld) (l : List Val) : valsRecs sub fs l = l.flatMap (recsOf sub fs) := rfl
theorem flatMap_same {α β : Type} {f g : α → List β} : ∀ {l : List α}, (∀ a ∈ l, f a = g a) → l.flatMap f = l.flatMap g
 | [], _ => rfl
 | a :: l, h => by rw [List.flatMap_cons, List.flatMap_cons, h a List.mem_cons_self, flatMap_same (l := l) (fun b hb => h b (List.mem_cons_of_mem _ hb))]
theorem parted_len {α : Type} (p : α → Bool) (F F2 : α → List Rec) : ∀ l : List α, (∀ a ∈ l, p a = true → ((F2 a).flatMap oneB).length = ((F a).flatMap oneB).length) →
   (((l.filter p).flatMap F2).flatMap oneB).length + (((l.filter fun a => !p a).flatMap F).flatMap oneB).length = ((l.flatMap F).flatMap oneB).length
 | [], _ => rfl
 | a :: l, h => by
   have ih := parted_len p F F2 l (fun b hb => h b (List.mem_cons_of_mem _ hb)); rw [List.flatMap_cons, List.flatMap_append, List.length_append]
   by_cases hp : p a = true
   · rw [List.filter_cons, if_pos hp, List.filter_cons, if_neg (by rw [hp]; decide), List.flatMap_cons, List.flatMap_append, List.length_append, h a List.mem_cons_self hp]; omega
   · rw [List.filter_cons, if_neg hp, List.filter_cons, if_pos (by simpa using hp), List.flatMap_cons, List.flatMap_append, List.length_append]; omega
theorem fld_less {f : Fil} {m : Msg} (hm : msgN f m = 0) {lacks : List Int} {n : Int} {z : Fld} (h : fldN (lessM lacks m).fields n = some z) : fldN m.fields n = some z := by
 obtain ⟨h1, h2⟩ := fldN_mem h; have h3 := (List.mem_filter.1 (show z ∈ m.fields.filter (fun y => !goneN lacks y) from h1)).1; rw [← h2]; exact fld_self hm h3
theorem fld_less_none {m : Msg} {lacks : List Int} {n : Int} (h : fldN m.fields n = none) : fldN (lessM lacks m).fields n = none := by
 unfold fldN at h ⊢; rw [List.find?_eq_none] at h ⊢; exact fun z hz => h z (List.mem_filter.1 (show z ∈ m.fields.filter (fun y => !goneN lacks y) from hz)).1
theorem old_main {f : Fil} (hright : (wrongN f).1 = 0) (lacks : List Int) : ∀ (k : Nat), k ≤ 12 → ∀ (msg : Int) (x : Bod), 0 ≤ msg → msg < f.msgs.length → wrongB f k msg x = 0 → B64 k x → (rawB f k msg x).length ≤ 4000 →
   (readC (lessN lacks f) k msg (rawB f k msg x)).2 = 0 ∧ (rawB (lessN lacks f) k msg (readC (lessN lacks f) k msg (rawB f k msg x)).1).length = (rawB f k msg x).length ∧ readC f k msg (rawB (lessN lacks f) k msg (readC (lessN lacks f) k msg (rawB f k msg x)).1) = (x, 0)
 | 0, _, _, _, _, _, h, _, _ => by cases h
 | k + 1, hk, msg, x, h0, h1, h, h64, h4 => by
   obtain ⟨mi, rfl⟩ : ∃ mi : Nat, msg = mi := ⟨msg.toNat, by omega⟩; (have hmi : mi < f.msgs.length := by omega); have ih := old_main hright lacks k (by omega); obtain ⟨g, hg⟩ : ∃ g, lessN lacks f = g := ⟨_, rfl⟩; (have hrg : (wrongN g).1 = 0 := by rw [← hg]; exact less_right hright); (have hm : f.msgs[(mi : Int).toNat]? = some f.msgs[mi] := by rw [Int.toNat_natCast, List.getElem?_eq_getElem hmi]); (have hgm : g.msgs = f.msgs.map (lessM lacks) := by rw [← hg]; rfl); (have hm' : g.msgs[(mi : Int).toNat]? = some (lessM lacks f.msgs[mi]) := by rw [hgm, List.getElem?_map, hm]; rfl); (have hgl : g.msgs.length = f.msgs.length := by rw [hgm, List.length_map]); have hmr := right_msg hright f.msgs[mi] (List.getElem_mem hmi); have hmr' := right_msg hrg (lessM lacks f.msgs[mi]) (List.mem_of_getElem? hm'); (have hIg : ∀ s, msgI g s = msgI f s := fun s => by rw [← hg]; exact msgI_less lacks f s); rw [hg] at ih ⊢; generalize hM : f.msgs[mi] = m at *; have hch : ∀ z ∈ m.fields, 0 ≤ z.choice := fun z hz => (choice_16 hmr hz).1; have hch' : ∀ z ∈ (lessM lacks m).fields, 0 ≤ z.choice := fun z hz => (choice_16 hmr' hz).1; obtain ⟨hB, uB⟩ := (wrongB_is hm hch x).1 h; obtain ⟨r1, r2⟩ := recs_right hright hm h h64 (Nat.le_refl _) h4; have hp : parse (rawB f (k + 1) mi x) = (recsB f (k + 1) mi x, 0, 0) := parse_flat r1 h4
   -- what is known of the bodies of a value
   have hs : ∀ v ∈ x.values, ∀ z, fldN m.fields v.1 = some z → ∀ s ∈ v.2.2.2, (readC g k (msgI f z.type) (rawB f k (msgI f z.type) s)).2 = 0 ∧ wrongB g k (msgI f z.type) (readC g k (msgI f z.type) (rawB f k (msgI f z.type) s)).1 = 0 ∧
       (rawB g k (msgI f z.type) (readC g k (msgI f z.type) (rawB f k (msgI f z.type) s)).1).length = (rawB f k (msgI f z.type) s).length ∧ readC f k (msgI f z.type) (rawB g k (msgI f z.type) (readC g k (msgI f z.type) (rawB f k (msgI f z.type) s)).1) = (s, 0) ∧ readC f k (msgI f z.type) (rawB f k (msgI f z.type) s) = (s, 0) := by
     intro v hv z hz s hs; obtain ⟨y, hy, hw⟩ := hB.fld v hv; rw [hz] at hy; obtain rfl := Option.some.inj hy; have ht := field_typed hmr z (fldN_mem hz).1; obtain ⟨g1, g2⟩ := (right_val hw ht).2 s hs; have hmb := msgI_bd f z.type; have hl := Nat.le_trans (r2 v hv z hz s hs) h4; obtain ⟨i1, i2, i3⟩ := ih (msgI f z.type) s g1 (by omega) g2 ((h64.1 v hv).2 s hs) hl; exact ⟨i1, read_right hrg k (by omega) _ _ g1 (by omega) i1, i2, i3, read_raw hright k (by omega) _ s g1 (by omega) g2 ((h64.1 v hv).2 s hs) hl⟩
   obtain ⟨φ, hφ⟩ : ∃ φ : Fld → Bod → Bod, φ = fun z s => (readC g k (msgI f z.type) (rawB f k (msgI f z.type) s)).1 := ⟨_, rfl⟩; (have hφs : ∀ z s, (readC g k (msgI f z.type) (rawB f k (msgI f z.type) s)).1 = φ z s := fun z s => by rw [hφ]); simp only [hφs] at hs; obtain ⟨K, hK⟩ : ∃ K : Val → Option Val, K = fun v => (fldN (lessM lacks m).fields v.1).map (fun z => mapS (φ z) v) := ⟨_, rfl⟩; have hKnone : ∀ v, K v = none ↔ fldN (lessM lacks m).fields v.1 = none := fun v => by rw [hK]; simp
   have hKsome : ∀ v w, K v = some w → ∃ z, fldN (lessM lacks m).fields v.1 = some z ∧ fldN m.fields v.1 = some z ∧ w = mapS (φ z) v := fun v w hv => by
     rw [hK] at hv; obtain ⟨z, hz, rfl⟩ := Option.map_eq_some_iff.1 hv; exact ⟨z, hz, fld_less hmr hz, rfl⟩
   have hclash : ∀ u ∈ x.values, ∀ v ∈ x.values, u.1 ≠ v.1 → NoClash m.fields u v := fun u hu v hv hne => ⟨hne, fun a b ha hb h0 e => hB.one u hu v hv hne a b ha hb h0 e⟩; have hpm : x.values.Pairwise (fun u v => u ∈ x.values ∧ v ∈ x.values ∧ u.1 < v.1) := List.Pairwise.and_mem.1 hB.ris
   -- the first reading: by the file that knows less
   have hread1 := readL_items (wb := wrongB g k) (jb := joinB g k) (f := g) hch' (joinK_ok hrg k 12 (by omega)) (val := fun z r => valueC (fun bs => readC g k (msgI g z.type) bs) z r) (recsOf (fun z s => rawB f k (msgI f z.type) s) m.fields) K x.unknown x.values bod0 AllV.nil (fun v hv => by
       obtain ⟨z, hz, hw⟩ := hB.fld v hv
       cases hf : fldN (lessM lacks m).fields v.1 with
       | none =>
         refine .inl ⟨(hKnone v).2 hf, fun r hr => ?_⟩; unfold recsOf at hr; rw [hz] at hr; rw [valRecs_num r hr, (fldN_mem hz).2, hf]
       | some z' =>
         obtain rfl : z = z' := by
           have := fld_less hmr hf; rw [hz] at this; exact Option.some.inj this
         have hzn := (fldN_mem hz).2; have hww : wrongVF (wrongB g k) g z (mapS (φ z) v) = 0 := fit_map hw (fun s hs' => by rw [hIg]; exact (hs v hv z hz s hs').2.1); refine .inr ⟨mapS (φ z) v, z, by rw [hK]; simp only [hf]; rfl, hf, hww, fun rest b hb => ?_⟩
         have e : recsOf (fun z s => rawB f k (msgI f z.type) s) m.fields v = valRecs (fun t => rawB f k (msgI f z.type) (readC f k (msgI f z.type) (rawB g k (msgI f z.type) t)).1) z (mapS (φ z) v) := by
           unfold recsOf; rw [hz, valRecs_map]; exact valRecs_congr (fun s hs' => by rw [(hs v hv z hz s hs').2.2.2.1])
         rw [e]; refine readL_val hch' (joinK_ok hrg k 12 (by omega)) (fun z bs => readC g k (msgI g z.type) bs) _ (by rw [hzn]; exact hf) (by rw [← hg]; rw [typed_less]; exact field_typed hmr z (fldN_mem hz).1) hww hzn.symm (h64.1 v hv).1 (fun t ht => ?_) rest b hb; obtain ⟨s, hs', rfl⟩ := List.mem_map.1 (show t ∈ v.2.2.2.map (φ z) from ht); obtain ⟨q1, q2, q3, q4, q5⟩ := hs v hv z hz s hs'; rw [q4, hIg]
         exact Prod.ext (hφs z s) q1) (fun v _ u hu => by cases hu) (hpm.filterMap K (fun u v huv u' hu' v' hv' => by
       obtain ⟨a, ha1, ha2, rfl⟩ := hKsome u u' hu'; obtain ⟨b, hb1, hb2, rfl⟩ := hKsome v v' hv'; (have hne : u.1 ≠ v.1 := by have := huv.2.2; omega); exact ⟨hne, fun c d hc hd => (hclash u huv.1 v huv.2.1 hne).2 c d (fld_less hmr hc) (fld_less hmr hd)⟩))
   obtain ⟨V, hV1, hV2, hV3⟩ := hread1
   have hVis : V = x.values.filterMap K := by
     refine rising_mem hV1.ris (hpm.filterMap K (fun u v huv u' hu' v' hv' => ?_)) (fun u => by rw [hV2]; simp [bod0, Bod.values]); obtain ⟨a, _, _, rfl⟩ := hKsome u u' hu'; obtain ⟨b, _, _, rfl⟩ := hKsome v v' hv'; exact huv.2.2
   have hu' : ∀ r ∈ x.unknown, fldN (lessM lacks m).fields r.number = none := fun r hr => fld_less_none (unk_none (uB r hr)); rw [readL_unk _ _ hu'] at hV3; obtain ⟨y, hy⟩ : ∃ y : Bod, y = .mk V ((x.values.filter fun a => (K a).isNone).flatMap (recsOf (fun z s => rawB f k (msgI f z.type) s) m.fields) ++ x.unknown) := ⟨_, rfl⟩
   have hry : readC g (k + 1) mi (rawB f (k + 1) mi x) = (y, 0) := by
     rw [readC, hp, if_neg (by simp), hm']; simp only; rw [recsB_succ hm, valsRecs_eq, hV3, hy]; rfl
   rw [hry]
   -- the second one's records
   have hrec : recsB g (k + 1) mi y = (x.values.filter fun a => (K a).isSome).flatMap (recsOf (fun z s => rawB g k (msgI f z.type) (φ z s)) m.fields) ++ ((x.values.filter fun a => (K a).isNone).flatMap (recsOf (fun z s => rawB f k (msgI f z.type) s) m.fields) ++ x.unknown) := by
     rw [recsB_succ hm', hy]; show valsRecs _ _ V ++ _ = _
     congr 1
     rw [hVis]
     have hgen : ∀ l : List Val, valsRecs (fun z s => rawB g k (msgI g z.type) s) (lessM lacks m).fields (l.filterMap K) = (l.filter fun a => (K a).isSome).flatMap (recsOf (fun z s => rawB g k (msgI f z.type) (φ z s)) m.fields) := by
       intro l
       induction l with
       | nil => rfl
       | cons v l ihl =>
         cases hkv : K v with
         | none => rw [List.filterMap_cons, hkv, List.filter_cons, if_neg (by rw [hkv]; simp)]; exact ihl
         | some w =>
           obtain ⟨z, hz1, hz2, rfl⟩ := hKsome v w hkv; rw [List.filterMap_cons, hkv, List.filter_cons, if_pos (by rw [hkv]; rfl), List.flatMap_cons, ← ihl]; show List.flatMap _ _ = _; rw [List.flatMap_cons]
           congr 1
           show (match fldN (lessM lacks m).fields v.1 with | none => [] | some x => valRecs (fun s => rawB g k (msgI g x.type) s) x (mapS (φ z) v)) = recsOf _ _ v; rw [hz1]; simp only; unfold recsOf; rw [hz2, valRecs_map]; simp only [hIg]
     exact hgen x.values
   have hlen1 : ∀ v ∈ x.values, ((recsOf (fun z s => rawB g k (msgI f z.type) (φ z s)) m.fields v).flatMap oneB).length = ((recsOf (fun z s => rawB f k (msgI f z.type) s) m.fields v).flatMap oneB).length := fun v hv => by
     obtain ⟨z, hz, hw⟩ := hB.fld v hv; unfold recsOf; rw [hz]; exact valRecs_len (fun s hs' => (hs v hv z hz s hs').2.2.1)
   have hlen : (rawB g (k + 1) mi y).length = (rawB f (k + 1) mi x).length := by
     have hpl := parted_len (fun a => (K a).isSome) (recsOf (fun z s => rawB f k (msgI f z.type) s) m.fields) (recsOf (fun z s => rawB g k (msgI f z.type) (φ z s)) m.fields) x.values (fun v hv _ => hlen1 v hv); have hne : (x.values.filter fun a => !(K a).isSome) = x.values.filter fun a => (K a).isNone := List.filter_congr (fun a _ => by cases K a <;> rfl); rw [hne] at hpl; rw [raw_succ hm, valsRecs_eq, show rawB g (k + 1) mi y = (recsB g (k + 1) mi y).flatMap oneB from rfl, hrec]; simp only [List.flatMap_append, List.length_append] at hpl ⊢; omega
   refine ⟨rfl, hlen, ?_⟩; show readC f (k + 1) mi (rawB g (k + 1) mi y) = (x, 0)
   -- the second reading: by the file that has them
   have hsum : ∀ v ∈ x.values, ((recsOf (fun z s => rawB f k (msgI f z.type) s) m.fields v).flatMap oneB).length ≤ 4000 := fun v hv => by
     refine Nat.le_trans ?_ h4; rw [raw_succ hm, valsRecs_eq, List.length_append]; refine Nat.le_trans ?_ (Nat.le_add_right _ _); obtain ⟨p, q, e⟩ := List.append_of_mem hv; rw [e, List.flatMap_append, List.flatMap_cons]; simp only [List.flatMap_append, List.length_append]; omega
   have hrr : ∀ r ∈ recsB g (k + 1) mi y, wrongRec r = 0 ∧ r.bits < 2 ^ 64 := by
     rw [hrec]; intro r hr; rw [recsB_succ hm, valsRecs_eq] at r1; rcases List.mem_append.1 hr with hr | hr
     · obtain ⟨v, hv, hr⟩ := List.mem_flatMap.1 hr; have hvx := (List.mem_filter.1 hv).1; obtain ⟨z, hz, hw⟩ := hB.fld v hvx; have hl1 := hlen1 v hvx; have hl2 := hsum v hvx; unfold recsOf at hr hl1 hl2; rw [hz] at hr hl1 hl2; obtain ⟨hzm, hzn⟩ := fldN_mem hz; obtain ⟨i, hi, e⟩ := List.getElem_of_mem hzm; have hff := field_facts ((msg_field hmr).2.2 i hi); rw [e] at hff; simp only at hl1 hl2 hr; exact (valRecs_right (M := 4000) (sub := fun s => rawB g k (msgI f z.type) (φ z s)) hff.1 hff.2.1 hff.2.2.2.1 (wrongVF_iff.1 hw).1 (h64.1 v hvx).1 (by omega) (Nat.le_refl _)).1 r hr
     · rcases List.mem_append.1 hr with hr | hr
       · obtain ⟨v, hv, hr⟩ := List.mem_flatMap.1 hr; exact r1 r (List.mem_append_left _ (List.mem_flatMap.2 ⟨v, (List.mem_filter.1 hv).1, hr⟩))
       · exact r1 r (List.mem_append_right _ hr)
   have hp2 : parse (rawB g (k + 1) mi y) = (recsB g (k + 1) mi y, 0, 0) := parse_flat hrr (by rw [show (recsB g (k + 1) mi y).flatMap oneB = rawB g (k + 1) mi y from rfl, hlen]; exact h4); obtain ⟨F3, hF3⟩ : ∃ F3 : Val → List Rec, F3 = fun v => if (K v).isSome then recsOf (fun z s => rawB g k (msgI f z.type) (φ z s)) m.fields v else recsOf (fun z s => rawB f k (msgI f z.type) s) m.fields v := ⟨_, rfl⟩
   have hrec3 : recsB g (k + 1) mi y = ((x.values.filter fun a => (K a).isSome) ++ (x.values.filter fun a => (K a).isNone)).flatMap F3 ++ x.unknown := by
     rw [hrec, List.flatMap_append, List.append_assoc]
     have e1 : (x.values.filter fun a => (K a).isSome).flatMap F3 = (x.values.filter fun a => (K a).isSome).flatMap (recsOf (fun z s => rawB g k (msgI f z.type) (φ z s)) m.fields) := by
       refine flatMap_same fun v hv => ?_; rw [hF3]; simp only; rw [if_pos (List.mem_filter.1 hv).2]
     have e2 : (x.values.filter fun a => (K a).isNone).flatMap F3 = (x.values.filter fun a => (K a).isNone).flatMap (recsOf (fun z s => rawB f k (msgI f z.type) s) m.fields) := by
       refine flatMap_same fun v hv => ?_; rw [hF3]; simp only; have := (List.mem_filter.1 hv).2; rw [if_neg (by cases hkv : K v <;> simp [hkv] at this ⊢)]
     rw [e1, e2]
   have hmem2 : ∀ u, u ∈ (x.values.filter fun a => (K a).isSome) ++ (x.values.filter fun a => (K a).isNone) ↔ u ∈ x.values := fun u => by
     rw [List.mem_append, List.mem_filter, List.mem_filter]; constructor
     · rintro (h | h)
       · exact h.1
       · exact h.1
     · intro hu
       cases hku : K u with
       | none => exact .inr ⟨hu, rfl⟩
       | some w => exact .inl ⟨hu, rfl⟩
   have hread2 := readL_items (wb := wrongB f k) (jb := joinB f k) (f := f) hch (joinK_ok hright k 12 (by omega)) (val := fun z r => valueC (fun bs => readC f k (msgI f z.type) bs) z r) F3 some x.unknown ((x.values.filter fun a => (K a).isSome) ++ (x.values.filter fun a => (K a).isNone)) bod0 AllV.nil (fun v hv => by
       have hvx := (hmem2 v).1 hv; obtain ⟨z, hz, hw⟩ := hB.fld v hvx; have hzn := (fldN_mem hz).2; refine .inr ⟨v, z, rfl, hz, hw, fun rest b hb => ?_⟩
       have e : F3 v = valRecs (fun s => if (K v).isSome then rawB g k (msgI f z.type) (φ z s) else rawB f k (msgI f z.type) s) z v := by
         rw [hF3]; simp only; split <;> (unfold recsOf; rw [hz])
       rw [e]; refine readL_val hch (joinK_ok hright k 12 (by omega)) (fun z bs => readC f k (msgI f z.type) bs) _ (by rw [hzn]; exact hz) (field_typed hmr z (fldN_mem hz).1) hw hzn.symm (h64.1 v hvx).1 (fun s hs' => ?_) rest b hb; obtain ⟨q1, q2, q3, q4, q5⟩ := hs v hvx z hz s hs'; split
       · exact q4
       · exact q5) (fun v _ u hu => by cases hu) (by
       rw [List.filterMap_some]; have hpc : x.values.Pairwise (NoClash m.fields) := hpm.imp (fun {u v} h => hclash u h.1 v h.2.1 (by have := h.2.2; omega)); refine List.pairwise_append.2 ⟨hpc.sublist List.filter_sublist, hpc.sublist List.filter_sublist, fun u hu v hv => ?_⟩; obtain ⟨u1, u2⟩ := List.mem_filter.1 hu; obtain ⟨v1, v2⟩ := List.mem_filter.1 hv; refine hclash u u1 v v1 fun e => ?_
       cases hku : K u with
       | none => rw [hku] at u2; cases u2
       | some w =>
         obtain ⟨z, hz1, _, _⟩ := hKsome u w hku; rw [e] at hz1; (have h3 : K v = none := by cases hkv : K v with | none => rfl | some w => rw [hkv] at v2; cases v2); have := (hKnone v).1 h3; rw [hz1] at this; cases this)
   obtain ⟨V2, hW1, hW2, hW3⟩ := hread2
   have hV2is : V2 = x.values := rising_mem hW1.ris hB.ris (fun u => by
     rw [hW2, List.filterMap_some, hmem2]; simp [bod0, Bod.values])
   rw [readC, hp2, if_neg (by simp), hm]; simp only; rw [hrec3, hW3, readL_unk _ _ (fun r hr => unk_none (uB r hr)), hV2is]; have e0 : ((x.values.filter fun a => (K a).isSome) ++ (x.values.filter fun a => (K a).isNone)).filter (fun a => (some a).isNone) = [] := List.filter_eq_nil_iff.2 (fun a _ => by simp); rw [e0]; (cases x); rfl
theorem old_way {f : Fil} {msg : Int} {x : Bod} (lacks : List Int) (h : (bytesC f msg x).2 = 0) (h64 : B64 12 x) :
   (parseA (lessN lacks f) msg (bytesC f msg x).1).2 = 0 ∧ (bytesC (lessN lacks f) msg (parseA (lessN lacks f) msg (bytesC f msg x).1).1).2 = 0 ∧ (bytesC (lessN lacks f) msg (parseA (lessN lacks f) msg (bytesC f msg x).1).1).1.length = (bytesC f msg x).1.length ∧
   parseA f msg (bytesC (lessN lacks f) msg (parseA (lessN lacks f) msg (bytesC f msg x).1).1).1 = (x, 0) := by
 obtain ⟨h1, h2, h3⟩ := bytesC_ok h; obtain ⟨g1, g2, g3, g4⟩ := wrongA_four h1; have hrg := less_right (lacks := lacks) g1; have hl : (lessN lacks f).msgs.length = f.msgs.length := List.length_map _; obtain ⟨k1, k2, k3⟩ := old_main g1 lacks 12 (Nat.le_refl _) msg x g2 g3 g4 h64 h3
 have hp : ∀ l, parseA f msg l = readC f 12 msg l := fun l => by
   unfold parseA; rw [if_neg (by rw [g1]; simp), if_neg (by omega)]
 have hpg : ∀ l, parseA (lessN lacks f) msg l = readC (lessN lacks f) 12 msg l := fun l => by
   unfold parseA; rw [if_neg (by rw [hrg]; simp), if_neg (by rw [hl]; omega)]
 rw [hp, hpg, h2] at *
 have hw : wrongA (lessN lacks f) msg (readC (lessN lacks f) 12 msg (rawB f 12 msg x)).1 = 0 := by
   unfold wrongA; rw [if_neg (by rw [hrg]; simp), if_neg (by rw [hl]; omega)]; exact read_right hrg 12 (Nat.le_refl _) msg _ g2 (by rw [hl]; exact g3) k1
 have hb : bytesC (lessN lacks f) msg (readC (lessN lacks f) 12 msg (rawB f 12 msg x)).1 = (rawB (lessN lacks f) 12 msg (readC (lessN lacks f) 12 msg (rawB f 12 msg x)).1, 0) := by
   unfold bytesC; rw [if_neg (by rw [hw]; simp), if_neg (by rw [k2]; omega)]
 rw [hb]; exact ⟨k1, rfl, k2, k3⟩
end Go.Proofs.YtbceapeoknngnaaGreatDoor
