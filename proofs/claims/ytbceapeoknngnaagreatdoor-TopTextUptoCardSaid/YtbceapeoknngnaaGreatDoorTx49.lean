/-
  A right file's text is read as the file.
  A right file's text is read as the file: messages, enums, the whole.
  What is read is right, so it is printed and read again; choices numbered once more are the same.
  presstop.file, and the file of the user.
  A body that lies has numbers of 64 bits.
  presstop.alive.
  Many numbers one by one: all of a body, in plain Lean.
-/
import Derived.Lib.ItoaNum
import Derived.Test.YtbceapeoknngnaaGreatDoorTx48
set_option linter.unusedVariables false
namespace Go.Proofs.YtbceapeoknngnaaGreatDoor
structure NameOk (w : List UInt8) : Prop where
 len : 0 < w.length ∧ w.length ≤ 16
 first : ∀ c, w.head? = some c → letterB c = true
 all : ∀ c ∈ w, moreB c = true
theorem NameOk.of (w : List UInt8) (h : named w = true) : NameOk w := by
 unfold named at h; rw [Bool.and_eq_true, decide_eq_true_eq, List.all_eq_true] at h; obtain ⟨h1, h2⟩ := h; refine ⟨h1, ?_, ?_⟩
 · intro c hc
   cases w with
   | nil => cases hc
   | cons d r =>
     simp only [List.head?_cons, Option.some.injEq] at hc; subst hc; have := h2 0 (List.mem_range.2 (by simp)); unfold partN at this; rw [if_pos rfl] at this; exact this
 · intro c hc; obtain ⟨i, hi, rfl⟩ := List.getElem_of_mem hc; have := h2 i (List.mem_range.2 hi); unfold partN at this; (have hg : w.getD i 0 = w[i] := by simp [List.getD, hi]); rw [hg] at this; split at this
   · unfold moreB moreN; unfold letterN at this; rw [decide_eq_true_eq] at this ⊢; omega
   · exact this
def typeOk (t : List UInt8) : Prop := NameOk t ∧ t ∉ words ∧ t ≠ wRepeated ∧ t ≠ wReserved ∧ t ≠ wOneof
structure FldPr (x : Fld) : Prop where
 name : NameOk x.name
 num : 0 ≤ x.number ∧ x.number ≤ 536870911
 kind : (1 ≤ x.kind ∧ x.kind ≤ 9 ∧ x.kind ≠ 5 ∧ x.type = []) ∨ ((x.kind = 5 ∨ x.kind = 10) ∧ typeOk x.type)
 choice : 0 ≤ x.choice
 many : 0 < x.choice → x.many = false
structure MsgPr (m : Msg) : Prop where
 name : NameOk m.name
 fields : ∀ x ∈ m.fields, FldPr x
 flen : m.fields.length ≤ 16
 barred : ∀ n ∈ m.barred, 0 ≤ n ∧ n ≤ 536870911
 blen : m.barred.length ≤ 16
structure EnuPr (e : Enu) : Prop where
 name : NameOk e.name
 items : ∀ x ∈ e.items, NameOk x.name ∧ -2147483648 ≤ x.value ∧ x.value ≤ 2147483647
 ilen : e.items.length ≤ 16
structure FilPr (F : Fil) : Prop where
 msgs : ∀ m ∈ F.msgs, MsgPr m
 enums : ∀ e ∈ F.enums, EnuPr e
 len : F.msgs.length + F.enums.length ≤ 10
theorem take_mem {p : UInt8 → Bool} : ∀ (l : List UInt8) (c : UInt8), c ∈ l.takeWhile p → p c = true
 | [], _, h => by cases h
 | d :: l, c, h => by
   rw [List.takeWhile_cons] at h; split at h
   · rename_i hd; rcases List.mem_cons.1 h with rfl | h
     · exact hd
     · exact take_mem l c h
   · cases h
theorem word_name {l w l' : List UInt8} (h : wordP l = .ok w l') : NameOk w := by
 have hl := word_len h; unfold wordP at h; split at h
 · cases h
 · split at h
   · cases h
   · injection h with h2 _; refine ⟨by omega, ?_, ?_⟩
     · intro c hc
       cases hs : skip l with
       | nil => rw [hs] at h2; subst h2; cases hc
       | cons d r =>
         rw [hs, candP] at h2; split at h2
         · rename_i hd; rw [List.takeWhile_cons] at h2; split at h2
           · subst h2; simp only [List.head?_cons, Option.some.injEq] at hc; subst hc; exact hd
           · subst h2; cases hc
         · subst h2; cases hc
     · intro c hc
       cases hs : skip l with
       | nil => rw [hs] at h2; subst h2; cases hc
       | cons d r =>
         rw [hs, candP] at h2; split at h2
         · rw [← h2] at hc; exact take_mem _ _ hc
         · subst h2; cases hc
theorem idxP_spec {α : Type} (p : α → Bool) : ∀ l : List α, (idxP p l = -1 ∧ ∀ a ∈ l, p a = false) ∨ ∃ i : Nat, ∃ h : i < l.length, idxP p l = i ∧ p l[i] = true
 | [] => .inl ⟨rfl, fun _ h => by cases h⟩
 | a :: l => by
   rw [idxP]
   by_cases ha : p a = true
   · rw [if_pos ha]; exact .inr ⟨0, by simp, rfl, ha⟩
   · rw [if_neg ha]; rcases idxP_spec p l with ⟨h1, h2⟩ | ⟨i, hi, h1, h2⟩
     · rw [h1, if_pos (by decide)]; refine .inl ⟨rfl, fun b hb => ?_⟩; rcases List.mem_cons.1 hb with rfl | hb
       · simpa using ha
       · exact h2 b hb
     · rw [h1, if_neg (by omega)]; exact .inr ⟨i + 1, by simp; omega, by omega, by simpa using h2⟩
theorem kind_raw {w : List UInt8} (hw : NameOk w) : (1 ≤ (kindP w).1 ∧ (kindP w).1 ≤ 9 ∧ (kindP w).1 ≠ 5 ∧ (kindP w).2 = []) ∨ ((kindP w).1 = 10 ∧ (kindP w).2 = w ∧ w ∉ words) := by
 unfold kindP; rcases idxP_spec (fun x => w == x) words with ⟨h1, h2⟩ | ⟨i, hi, h1, h2⟩
 · rw [h1, if_neg (by decide)]; refine .inr ⟨rfl, rfl, fun h => ?_⟩; have := h2 w h; simp at this
 · rw [h1, if_pos (by omega)]; refine .inl ⟨by simp only; omega, ?_, ?_, rfl⟩
   · have : i < 9 := hi; simp only; omega
   · intro e; (have : i = 4 := by simp only at e; omega); subst this; rw [beq_iff_eq] at h2; have h3 := hw.len.1; rw [show w = [] from h2] at h3; exact absurd h3 (by decide)
structure FldRaw (x : Fld) : Prop where
 name : NameOk x.name
 num : 0 ≤ x.number ∧ x.number ≤ 536870911
 kind : (1 ≤ x.kind ∧ x.kind ≤ 9 ∧ x.kind ≠ 5 ∧ x.type = []) ∨ (x.kind = 10 ∧ NameOk x.type ∧ x.type ∉ words)
 choice : 0 ≤ x.choice
 many : 0 < x.choice → x.many = false
theorem head_raw {c : Nat} {l l' : List UInt8} {p : Bool × List UInt8} (h : headP c l = .ok p l') : NameOk p.2 ∧ (0 < c → p.1 = false) := by
 unfold headP at h; obtain ⟨w, l1, h1, h2⟩ := bind_ok_of h; split at h2
 · rename_i hc; obtain ⟨w2, l2, h3, h4⟩ := bind_ok_of h2; injection h4 with h5 _; subst h5; exact ⟨word_name h3, fun e => by have := hc.2; omega⟩
 · injection h2 with h5 _; subst h5; exact ⟨word_name h1, fun _ => rfl⟩
theorem field_raw {c : Nat} {l l' : List UInt8} {x : Fld} (h : fieldP c l = .ok x l') : FldRaw x := by
 have hl := field_len h; unfold fieldP at h; obtain ⟨mw, l2, h1, h⟩ := bind_ok_of h; obtain ⟨nm, l3, h2, h⟩ := bind_ok_of h; obtain ⟨u, l4, h3, h⟩ := bind_ok_of h; obtain ⟨n, l5, h4, h⟩ := bind_ok_of h; obtain ⟨u2, l6, h5, h⟩ := bind_ok_of h; injection h with h6 _; have g1 := head_raw h1; have g2 := word_name h2; have g4 := num_lenP h4; have g6 := kind_raw g1.1; subst h6; refine ⟨g2, ⟨by simp only; omega, by simp only; omega⟩, ?_, by simp only; omega, fun e => g1.2 (by simp only at e; omega)⟩; rcases g6 with g | ⟨ga, gb, gc⟩
 · exact .inl g
 · refine .inr ⟨ga, ?_, ?_⟩
   · simp only; rw [gb]; exact g1.1
   · simp only; rw [gb]; exact gc
theorem nums_raw : ∀ (f : Nat) (acc : List Int) (l : List UInt8) (r : List Int) (l' : List UInt8), numsP f acc l = .ok r l' → (∀ n ∈ acc, 0 ≤ n ∧ n ≤ 536870911) → ∀ n ∈ r, 0 ≤ n ∧ n ≤ 536870911
 | 0, _, _, _, _, h, _ => by cases h
 | f + 1, acc, l, r, l', h, hp => by
   rw [numsP] at h; split at h
   · obtain ⟨n, l2, h1, h2⟩ := bind_ok_of h; have := num_lenP h1; refine nums_raw f _ _ _ _ h2 ?_; intro m hm; rcases List.mem_append.1 hm with hm | hm
     · exact hp m hm
     · rw [List.mem_singleton] at hm; subst hm; omega
   · injection h with h1 _; subst h1; exact hp
theorem choice_raw : ∀ (f c : Nat) (acc : List Fld) (l : List UInt8) (r : List Fld) (l' : List UInt8), choiceP f c acc l = .ok r l' → (∀ x ∈ acc, FldRaw x) → ∀ x ∈ r, FldRaw x
 | 0, _, _, _, _, _, h, _ => by cases h
 | f + 1, c, acc, l, r, l', h, hp => by
   rw [choiceP] at h; split at h
   · injection h with h1 _; subst h1; exact hp
   · obtain ⟨n, l2, h1, h2⟩ := bind_ok_of h; refine choice_raw f c _ _ _ _ h2 ?_; intro m hm; rcases List.mem_append.1 hm with hm | hm
     · exact hp m hm
     · rw [List.mem_singleton] at hm; subst hm; exact field_raw h1
theorem part_raw {c : Nat} {fs : List Fld} {bs : List Int} {l l' : List UInt8} {t : Nat × List Fld × List Int} (h : partP c fs bs l = .ok t l') (hf : ∀ x ∈ fs, FldRaw x) (hb : ∀ n ∈ bs, 0 ≤ n ∧ n ≤ 536870911) :
   (∀ x ∈ t.2.1, FldRaw x) ∧ ∀ n ∈ t.2.2, 0 ≤ n ∧ n ≤ 536870911 := by
 unfold partP at h; obtain ⟨w, l2, h1, h⟩ := bind_ok_of h; split at h
 · obtain ⟨n, l3, h2, h⟩ := bind_ok_of h; obtain ⟨b, l4, h3, h⟩ := bind_ok_of h; obtain ⟨u, l5, h4, h⟩ := bind_ok_of h; injection h with h5 _; subst h5; have := num_lenP h2; refine ⟨hf, nums_raw _ _ _ _ _ h3 ?_⟩; intro m hm; rcases List.mem_append.1 hm with hm | hm
   · exact hb m hm
   · rw [List.mem_singleton] at hm; subst hm; omega
 · split at h
   · obtain ⟨u, l3, h2, h⟩ := bind_ok_of h; obtain ⟨b, l4, h3, h⟩ := bind_ok_of h; injection h with h5 _; subst h5; exact ⟨choice_raw _ _ _ _ _ _ h3 hf, hb⟩
   · obtain ⟨x, l3, h2, h⟩ := bind_ok_of h; injection h with h5 _; subst h5; refine ⟨?_, hb⟩; intro m hm; rcases List.mem_append.1 hm with hm | hm
     · exact hf m hm
     · rw [List.mem_singleton] at hm; subst hm; exact field_raw h2
structure MsgRaw (m : Msg) : Prop where
 name : NameOk m.name
 fields : ∀ x ∈ m.fields, FldRaw x
 flen : m.fields.length ≤ 16
 barred : ∀ n ∈ m.barred, 0 ≤ n ∧ n ≤ 536870911
 blen : m.barred.length ≤ 16
theorem mess_raw : ∀ (f : Nat) (nm : List UInt8) (c : Nat) (fs : List Fld) (bs : List Int) (l : List UInt8) (m : Msg) (l' : List UInt8), messP f nm c fs bs l = .ok m l' → NameOk nm → (∀ x ∈ fs, FldRaw x) → (∀ n ∈ bs, 0 ≤ n ∧ n ≤ 536870911) → fs.length ≤ 16 → bs.length ≤ 16 → MsgRaw m
 | 0, _, _, _, _, _, _, _, h, _, _, _, _, _ => by cases h
 | f + 1, nm, c, fs, bs, l, m, l', h, hn, hf, hb, hfl, hbl => by
   rw [messP] at h; split at h
   · injection h with h1 _; subst h1; exact ⟨hn, hf, hfl, hb, hbl⟩
   · obtain ⟨t, l2, h1, h2⟩ := bind_ok_of h; obtain ⟨g1, g2⟩ := part_raw h1 hf hb; split at h2
     · cases h2
     · rename_i hle; exact mess_raw f nm _ _ _ _ _ _ h2 hn g1 g2 (by omega) (by omega)
theorem message_raw {l l' : List UInt8} {m : Msg} (h : messageP l = .ok m l') : MsgRaw m := by
 unfold messageP at h; obtain ⟨nm, l1, h1, h⟩ := bind_ok_of h; obtain ⟨u, l2, h2, h⟩ := bind_ok_of h; exact mess_raw _ _ _ _ _ _ _ _ h (word_name h1) (fun _ e => absurd e List.not_mem_nil) (fun _ e => absurd e List.not_mem_nil) (Nat.zero_le _) (Nat.zero_le _)
theorem item_raw {l l' : List UInt8} {x : Itm} (h : itemP l = .ok x l') : NameOk x.name ∧ -2147483648 ≤ x.value ∧ x.value ≤ 2147483647 := by
 have hl := item_len h; unfold itemP at h; obtain ⟨nm, l2, h1, h⟩ := bind_ok_of h; obtain ⟨u, l3, h2, h⟩ := bind_ok_of h; obtain ⟨v, l5, h3, h⟩ := bind_ok_of h; obtain ⟨u2, l6, h4, h⟩ := bind_ok_of h; injection h with h6 _; have := word_name h1; subst h6; exact ⟨this, hl.2.2⟩
theorem items_raw : ∀ (f : Nat) (acc : List Itm) (l : List UInt8) (r : List Itm) (l' : List UInt8), itemsP f acc l = .ok r l' → (∀ x ∈ acc, NameOk x.name ∧ -2147483648 ≤ x.value ∧ x.value ≤ 2147483647) → acc.length ≤ 16 → (∀ x ∈ r, NameOk x.name ∧ -2147483648 ≤ x.value ∧ x.value ≤ 2147483647) ∧ r.length ≤ 16
 | 0, _, _, _, _, h, _, _ => by cases h
 | f + 1, acc, l, r, l', h, hp, hl => by
   rw [itemsP] at h; split at h
   · injection h with h1 _; subst h1; exact ⟨hp, hl⟩
   · obtain ⟨x, l2, h1, h2⟩ := bind_ok_of h; split at h2
     · cases h2
     · rename_i hle; refine items_raw f _ _ _ _ h2 ?_ (by omega); intro m hm; rcases List.mem_append.1 hm with hm | hm
       · exact hp m hm
       · rw [List.mem_singleton] at hm; subst hm; exact item_raw h1
theorem enum_raw {l l' : List UInt8} {e : Enu} (h : enumP l = .ok e l') : EnuPr e := by
 unfold enumP at h; obtain ⟨nm, l1, h1, h⟩ := bind_ok_of h; obtain ⟨u, l2, h2, h⟩ := bind_ok_of h; obtain ⟨is, l3, h3, h⟩ := bind_ok_of h; injection h with h4 _; subst h4; obtain ⟨g1, g2⟩ := items_raw _ _ _ _ _ h3 (fun _ e => absurd e List.not_mem_nil) (Nat.zero_le _); exact ⟨word_name h1, g1, g2⟩
structure FilRaw (F : Fil) : Prop where
 msgs : ∀ m ∈ F.msgs, MsgRaw m
 enums : ∀ e ∈ F.enums, EnuPr e
 len : F.msgs.length + F.enums.length ≤ 10
theorem file_raw : ∀ (f : Nat) (F : Fil) (l : List UInt8) (F' : Fil) (l' : List UInt8), fileP f F l = .ok F' l' → FilRaw F → FilRaw F'
 | 0, _, _, _, _, h, _ => by cases h
 | f + 1, F, l, F', l', h, hF => by
   rw [fileP] at h; split at h
   · injection h with h1 _; subst h1; exact hF
   · obtain ⟨G, l3, h1, h2⟩ := bind_ok_of h; split at h2
     · cases h2
     · rename_i hle; refine file_raw f G l3 F' l' h2 ?_; unfold topP at h1; obtain ⟨w, l2, h3, h1⟩ := bind_ok_of h1; split at h1
       · obtain ⟨m, l4, h4, h1⟩ := bind_ok_of h1; injection h1 with h5 _; subst h5; refine ⟨?_, hF.enums, by omega⟩; intro x hx; rcases List.mem_append.1 hx with hx | hx
         · exact hF.msgs x hx
         · rw [List.mem_singleton] at hx; subst hx; exact message_raw h4
       · split at h1
         · obtain ⟨m, l4, h4, h1⟩ := bind_ok_of h1; injection h1 with h5 _; subst h5; refine ⟨hF.msgs, ?_, by omega⟩; intro x hx; rcases List.mem_append.1 hx with hx | hx
           · exact hF.enums x hx
           · rw [List.mem_singleton] at hx; subst hx; exact enum_raw h4
         · cases h1
theorem raw_nil : FilRaw ⟨[], []⟩ := ⟨fun _ h => absurd h List.not_mem_nil, fun _ h => absurd h List.not_mem_nil, Nat.zero_le _⟩
theorem parse_raw (s : List UInt8) : FilRaw (parseS s).1 := by
 unfold parseS; split
 · exact raw_nil
 · split
   · rename_i F l e; exact file_raw _ _ _ _ _ e raw_nil
   · exact raw_nil
open Go.RowKit
set_option maxRecDepth 100000
open Lib (hid)
def txtU : List UInt8 := (([101, 110, 117, 109, 32, 82, 111, 108, 101, 32, 123, 32, 110, 111, 110, 101, 32, 61, 32, 48, 59, 32, 97, 100, 109, 105, 110, 32, 61, 32, 55, 59, 32, 125, 32, 109, 101, 115, 115, 97, 103, 101] : List UInt8).append [32, 85, 115, 101, 114, 32, 123, 32, 115, 116, 114, 105, 110, 103, 32, 110, 97, 109, 101, 32, 61, 32, 49, 59, 32, 115, 105, 110, 116, 54, 52, 32, 115, 99, 111, 114, 101, 32, 61, 32, 50, 59]).append (([32, 82, 111, 108, 101, 32, 114, 111, 108, 101, 32, 61, 32, 51, 59, 32, 114, 101, 112, 101, 97, 116, 101, 100, 32, 85, 115, 101, 114, 32, 102, 114, 105, 101, 110, 100, 115, 32, 61, 32, 52, 59] : List UInt8).append [32, 111, 110, 101, 111, 102, 32, 123, 32, 98, 121, 116, 101, 115, 32, 107, 101, 121, 32, 61, 32, 53, 59, 32, 98, 111, 111, 108, 32, 111, 112, 101, 110, 32, 61, 32, 54, 59, 32, 125, 32, 125])
def roleU : Enu := ⟨[82, 111, 108, 101], [⟨[110, 111, 110, 101], 0⟩, ⟨[97, 100, 109, 105, 110], 7⟩]⟩
def fldsU (k : Int) : List Fld := [⟨[110, 97, 109, 101], 1, 8, [], false, 0⟩, ⟨[115, 99, 111, 114, 101], 2, 2, [], false, 0⟩, ⟨[114, 111, 108, 101], 3, k, [82, 111, 108, 101], false, 0⟩, ⟨[102, 114, 105, 101, 110, 100, 115], 4, 10, [85, 115, 101, 114], true, 0⟩, ⟨[107, 101, 121], 5, 9, [], false, 1⟩, ⟨[111, 112, 101, 110], 6, 4, [], false, 1⟩]
def filU0 : Fil := ⟨[⟨[85, 115, 101, 114], fldsU 10, []⟩], [roleU]⟩
def filU : Fil := ⟨[⟨[85, 115, 101, 114], fldsU 5, []⟩], [roleU]⟩
theorem parse_txtU : parseS txtU = (filU0, 0, 0) := by decide +kernel
theorem link_txtU : linkN filU0 = (filU, 0, 0) := by decide +kernel
theorem wrong_filU : (wrongN filU).1 = 0 := by decide +kernel
def topF (s : List UInt8) : Fil × Bool :=
 if (parseS s).2.1 ≠ 0 then (⟨[], []⟩, false) else ((linkN (parseS s).1).1, decide ((linkN (parseS s).1).2.1 = 0))
theorem topF_U : topF txtU = (filU, true) := by
 unfold topF; rw [parse_txtU, if_neg (by simp), link_txtU]; rfl
theorem filSz_raw {F : Fil} (h : FilRaw F) : FilSz F :=
 ⟨by have := h.len; omega, by have := h.len; omega, fun m hm => by have h1 := (h.msgs m hm).flen; have h2 := (h.msgs m hm).blen; omega, fun e he => by have := (h.enums e he).ilen; omega⟩
set_option maxHeartbeats 3200000 in
theorem file_t (s : ByteArray) (w : World) (hev : EvR w) :
   Calls Tryz.prog 16 #[.string s] w fun e w' => ∃ v, e = .returned (.tuple #[v, .bool (topF s.data.toList).2]) ∧ FilV All w' v (topF s.data.toList).1 ∧ Up w w' := by
 have hp := fun W (u : Up w W) => parse_s s W (hev.up u); have hsz := filSz_raw (parse_raw s.data.toList); obtain ⟨TF, hTF⟩ : ∃ TF, topF s.data.toList = TF := ⟨_, rfl⟩; rw [hTF]; unfold topF at hTF; generalize parseS s.data.toList = PS at *; obtain ⟨F, pe, pa⟩ := PS; simp only at hp hsz hTF; have Hsz := hid hsz; have HTF := hid hTF; have Hp := hid hp; clear hsz hTF hp hev
 go_enter Tryz.func16, Tryz.ntmps16
 go_upto_region 1 with (fail)
 have hbR := blk_new w (.cells #[.slice none 0 0, .slice none 0 0] 25) (g := w.heap.size) rfl; have hu1 := (Up.refl w).alloc (.cells #[.slice none 0 0, .slice none 0 0] 25); obtain ⟨R, hR⟩ : ∃ R, w.heap.size = R := ⟨_, rfl⟩; (have hRw : w.heap.size ≤ R := by omega); rw [hR] at hbR ⊢; generalize hw1 : w.alloc (.cells #[.slice none 0 0, .slice none 0 0] 25) = w1 at *; have U1 := hid hu1; have HbR := hid hbR; have HRw := hid hRw; clear hw1 hbR hu1 hR hRw
 go_upto_region 2 with (go_at_call 41; go_must (refine (Hp.out _ U1.out).mono ?_; rintro e w2 ⟨v, rfl, hf, hu2⟩; obtain ⟨vm, ve, rfl, hm, he⟩ := id hf; obtain ⟨mo, mc, rfl, _, _⟩ := hm.val; obtain ⟨eo, ec, rfl, _, _⟩ := he.val; clear hm he))
 have hf2 := (hf.keep (Keep.weak (S' := All) (fun _ _ => trivial))).up (((Up.refl w2).alloc (.cells #[.slice mo F.msgs.length mc, .slice eo F.enums.length ec] 25)).alloc (.cells #[.int .i64 pe, .int .i64 (pa : Int)] 67)); have hb4 := blk_old (.cells #[.int .i64 pe, .int .i64 (pa : Int)] 67) (blk_new w2 (.cells #[.slice mo F.msgs.length mc, .slice eo F.enums.length ec] 25) (g := w2.heap.size) rfl); have hb5 := blk_new (w2.alloc (.cells #[.slice mo F.msgs.length mc, .slice eo F.enums.length ec] 25)) (.cells #[.int .i64 pe, .int .i64 (pa : Int)] 67) (g := w2.heap.size + 1) (by simp); have hu3 := (hu2.alloc (.cells #[.slice mo F.msgs.length mc, .slice eo F.enums.length ec] 25)).alloc (.cells #[.int .i64 pe, .int .i64 (pa : Int)] 67); obtain ⟨B4, hB4⟩ : ∃ B, w2.heap.size = B := ⟨_, rfl⟩; rw [hB4] at hb4 hb5 ⊢; obtain ⟨B5, hB5⟩ : ∃ B, B4 + 1 = B := ⟨_, rfl⟩; (have hB5w : w1.heap.size ≤ B5 := by have := hu2.size; omega); rw [hB5] at hb5 ⊢; generalize hw3 : (w2.alloc (.cells #[.slice mo F.msgs.length mc, .slice eo F.enums.length ec] 25)).alloc (.cells #[.int .i64 pe, .int .i64 (pa : Int)] 67) = w3 at *; have U3 := hid hu3; have Hb4 := hid hb4; have Hb5 := hid hb5; have Hf3 := hid hf2; have HB5w := hid hB5w; have hbR3 := hu3.blk HbR.out; have hRB : R < w1.heap.size := lt_of_block HbR.out; have HbR1 := HbR; have HbR := hid hbR3; have HRB := hid hRB; have k0 : w3.cell? ⟨B5, 0, none⟩ = some (.int .i64 pe) := cell_of_row _ _ 0 _ _ _ hb5; clear hw3 hf hf2 hb4 hb5 hu3 hu2 hB4 hB5 hbR3 hRB hB5w
 by_cases hpe : pe = 0
 rotate_left
 · have hT := HTF.out; rw [if_pos hpe] at hT; subst hT; (have hne : (pe != 0) = true := by rw [bne_iff_ne]; exact hpe); have r0 : w3.cell? ⟨R, 0, none⟩ = some (.slice none 0 0) := cell_of_row _ _ 0 _ _ _ HbR.out; have r1 : w3.cell? ⟨R, 1, none⟩ = some (.slice none 0 0) := cell_of_row _ _ 1 _ _ _ HbR.out; have rf' : ∀ o, w3.frozen? ⟨R, o, none⟩ = false := fun o => frozen_of_row _ _ o _ _ HbR.out; have rz : R < w3.heap.size := lt_of_block HbR.out; (go_wp2_with fail); refine bodyPost_ret (v := .tuple #[.agg #[.slice none 0 0, .slice none 0 0], .bool false]) (by simp [results, Tryz.results16, go_sem, r0, r1]) rfl ?_; refine ⟨_, rfl, filV_nilS _ _, ?_⟩; exact Up.setCell (Up.setCell (U1.out.trans U3.out) (p := ⟨R, 0, none⟩) HRw.out _) (p := ⟨R, 1, none⟩) HRw.out _
 subst hpe; have hT := HTF.out; rw [if_neg (by simp)] at hT; obtain ⟨a0, a1⟩ := (⟨cell_of_row _ _ 0 _ _ _ Hb4.out, cell_of_row _ _ 1 _ _ _ Hb4.out⟩ : w3.cell? ⟨B4, 0, none⟩ = some (.slice mo F.msgs.length mc) ∧ w3.cell? ⟨B4, 1, none⟩ = some (.slice eo F.enums.length ec)); have hl := link_s _ F w3 Hf3.out Hsz.out; obtain ⟨LN, hLN⟩ : ∃ LN, linkN F = LN := ⟨_, rfl⟩; rw [hLN] at hl hT; obtain ⟨LF, le, lat⟩ := LN; simp only at hl hT; subst hT; have Hl := hid hl; clear hl hLN k0; have k0 : w3.cell? ⟨B5, 0, none⟩ = some (.int .i64 0) := cell_of_row _ _ 0 _ _ _ Hb5.out; have k1 : w3.cell? ⟨B5, 1, none⟩ = some (.int .i64 (pa : Int)) := cell_of_row _ _ 1 _ _ _ Hb5.out
 go_upto_region 4 with (fail)
 clear k0 k1; (go_wp2_with fail); refine Hl.out.mono ?_; rintro e w4 ⟨v4, rfl, hf4, hu4⟩; obtain ⟨vm4, ve4, rfl, hm4, he4⟩ := id hf4; obtain ⟨no, nc, rfl, _, _⟩ := hm4.val; obtain ⟨po, pc, rfl, _, _⟩ := he4.val; have hb5 := hu4.blk Hb5.out; have k0 : w4.cell? ⟨B5, 0, none⟩ = some (.int .i64 0) := cell_of_row _ _ 0 _ _ _ hb5; have k1 : w4.cell? ⟨B5, 1, none⟩ = some (.int .i64 (pa : Int)) := cell_of_row _ _ 1 _ _ _ hb5; have kf : ∀ o, w4.frozen? ⟨B5, o, none⟩ = false := fun o => frozen_of_row _ _ o _ _ hb5; have kz : B5 < w4.heap.size := lt_of_block hb5; clear hm4 he4 a0 a1; have hB53 : B5 < w3.heap.size := lt_of_block Hb5.out
 go_upto_region 5 with (fail)
 have hf5 : FilV (fun b => w3.heap.size ≤ b) (((w4.setCell ⟨B5, 0, none⟩ (.int .i64 le)).setCell ⟨B5, 1, none⟩ (.int .i64 (lat : Int))).alloc (.cells #[.slice no LF.msgs.length nc, .slice po LF.enums.length pc] 25)) (.agg #[.slice no LF.msgs.length nc, .slice po LF.enums.length pc]) LF :=
   (((hf4.keep (Keep.setCell (p := ⟨B5, 0, none⟩) (show ¬ w3.heap.size ≤ B5 by omega) _)).keep (Keep.setCell (p := ⟨B5, 1, none⟩) (show ¬ w3.heap.size ≤ B5 by omega) _)).alloc _)
 have hb5' := blk_old (.cells #[.slice no LF.msgs.length nc, .slice po LF.enums.length pc] 25) (heap_setCell_same _ B5 1 _ _ (.int .i64 (lat : Int)) (heap_setCell_same w4 B5 0 _ _ (.int .i64 le) hb5)); have hb6 := blk_new ((w4.setCell ⟨B5, 0, none⟩ (.int .i64 le)).setCell ⟨B5, 1, none⟩ (.int .i64 (lat : Int))) (.cells #[.slice no LF.msgs.length nc, .slice po LF.enums.length pc] 25) rfl; have hu5 : Up w1 (((w4.setCell ⟨B5, 0, none⟩ (.int .i64 le)).setCell ⟨B5, 1, none⟩ (.int .i64 (lat : Int))).alloc (.cells #[.slice no LF.msgs.length nc, .slice po LF.enums.length pc] 25)) := (Up.setCell (Up.setCell (U3.out.trans hu4) (p := ⟨B5, 0, none⟩) HB5w.out _) (p := ⟨B5, 1, none⟩) HB5w.out _).alloc _; (have hsz : ((w4.setCell ⟨B5, 0, none⟩ (.int .i64 le)).setCell ⟨B5, 1, none⟩ (.int .i64 (lat : Int))).heap.size = w4.heap.size := by simp); rw [hsz] at hb6; obtain ⟨G6, hG6⟩ : ∃ G, w4.heap.size = G := ⟨_, rfl⟩; rw [hG6] at hb6 kz ⊢; generalize ((w4.setCell ⟨B5, 0, none⟩ (.int .i64 le)).setCell ⟨B5, 1, none⟩ (.int .i64 (lat : Int))).alloc (.cells #[.slice no LF.msgs.length nc, .slice po LF.enums.length pc] 25) = w5 at *; have hbR5 := hu5.blk HbR1.out; have hRB := HRB.out; have hB5w := HB5w.out; (have n1 : B5 ≠ R := by omega); (have n2 : G6 ≠ R := by omega); have l0 : w5.cell? ⟨G6, 0, none⟩ = some (.slice no LF.msgs.length nc) := cell_of_row _ _ 0 _ _ _ hb6; have l1 : w5.cell? ⟨G6, 1, none⟩ = some (.slice po LF.enums.length pc) := cell_of_row _ _ 1 _ _ _ hb6; have l2 : w5.cell? ⟨B5, 0, none⟩ = some (.int .i64 le) := cell_of_row _ _ 0 _ _ _ hb5'; have r0 : w5.cell? ⟨R, 0, none⟩ = some (.slice none 0 0) := cell_of_row _ _ 0 _ _ _ hbR5; have r1 : w5.cell? ⟨R, 1, none⟩ = some (.slice none 0 0) := cell_of_row _ _ 1 _ _ _ hbR5; have rf' : ∀ o, w5.frozen? ⟨R, o, none⟩ = false := fun o => frozen_of_row _ _ o _ _ hbR5; have rz : R < w5.heap.size := lt_of_block hbR5; have HR3 := hid (show R < w3.heap.size from by have := HRB.out; have := U3.out.size; omega); have Hf5 := hid hf5; have Hu5 := hid hu5; have DD := hid (fun (a b : Value) => (⟨Eq.trans (cell_set_ne (w := w5.setCell ⟨R, 0, none⟩ a) n2 1 b) (Eq.trans (cell_set_ne (w := w5) n2 0 a) l0), Eq.trans (cell_set_ne (w := w5.setCell ⟨R, 0, none⟩ a) n2 1 b) (Eq.trans (cell_set_ne (w := w5) n2 0 a) l1), Eq.trans (cell_set_ne (w := w5.setCell ⟨R, 0, none⟩ a) n1 1 b) (Eq.trans (cell_set_ne (w := w5) n1 0 a) l2)⟩ : _ ∧ _ ∧ _)); clear kf k0 k1 hb5 hb5' hb6 hu5 hsz hf5 hf4 hu4 hbR5 hB53 hRB hB5w hG6 kz; have dd : w5.drew.cell? ⟨G6, 0, none⟩ = some (.slice no LF.msgs.length nc) ∧ w5.drew.cell? ⟨G6, 1, none⟩ = some (.slice po LF.enums.length pc) ∧ w5.drew.cell? ⟨B5, 0, none⟩ = some (.int .i64 le) := ⟨l0, l1, l2⟩
 go_region_held3 (fun w' => w'.cell? ⟨G6, 0, none⟩ = some (.slice no LF.msgs.length nc) ∧ w'.cell? ⟨G6, 1, none⟩ = some (.slice po LF.enums.length pc) ∧ w'.cell? ⟨B5, 0, none⟩ = some (.int .i64 le))
   (first | with_reducible exact dd | exact DD.out _ _)
   (fail)
 all_goals
   (go_wp2_with fail); refine bodyPost_ret (v := .tuple #[.agg #[.slice no LF.msgs.length nc, .slice po LF.enums.length pc], .bool (le == 0)]) (by simp [results, Tryz.results16, go_sem, r0, r1]) rfl ?_; refine ⟨_, rfl, FilV.up (FilV.all (FilV.keep (FilV.keep Hf5.out (Keep.setCell (p := ⟨R, 0, none⟩) (show ¬ w3.heap.size ≤ R by have := HR3.out; omega) _)) (Keep.setCell (p := ⟨R, 1, none⟩) (show ¬ w3.heap.size ≤ R by have := HR3.out; omega) _))) (Up.refl _).drew, ?_⟩; exact (Up.setCell (Up.setCell (U1.out.trans Hu5.out) (p := ⟨R, 0, none⟩) HRw.out _) (p := ⟨R, 1, none⟩) HRw.out _).drew
end Go.Proofs.YtbceapeoknngnaaGreatDoor
namespace Go.Proofs.YtbceapeoknngnaaGreatDoor
open Go.RowKit
theorem b64_of : ∀ (d : Nat) {S : Nat → Prop} {w : World} {b : Bod} {cs : List Value}, DBodF d S w b cs → ∀ k, B64 k b
 | 0, _, _, _, _, h, _ => h.elim
 | d + 1, S, w, b, cs, h, 0 => trivial
 | d + 1, S, w, b, cs, ⟨vv, vu, _, hv, hu, _⟩, k + 1 => by
   refine ⟨fun v hv' => ?_, fun r hr => ?_⟩
   · obtain ⟨i, hi, rfl⟩ := List.getElem_of_mem hv'; obtain ⟨ao, cap, _, _, _, _, g4⟩ := hv; obtain ⟨_, _, cs, _, _, _, _, _, vb, vy, vs, rfl, _, h1, _, h3, _⟩ := g4 i hi; refine ⟨fun n hn => ?_, fun s hs => ?_⟩
     · obtain ⟨j, hj, rfl⟩ := List.getElem_of_mem hn; obtain ⟨ao', cap', _, _, _, _, g4'⟩ := h1; obtain ⟨_, _, cs', _, _, _, _, _, h⟩ := g4' j hj; have := h.2; simpa using this
     · obtain ⟨j, hj, rfl⟩ := List.getElem_of_mem hs; obtain ⟨ao', cap', _, _, _, _, g4'⟩ := h3; obtain ⟨_, _, cs', _, _, _, _, _, h⟩ := g4' j hj; exact b64_of d h k
   · obtain ⟨i, hi, rfl⟩ := List.getElem_of_mem hr; obtain ⟨ao, cap, _, _, _, _, g4⟩ := hu; obtain ⟨_, _, cs, _, _, _, _, _, ⟨_, _, _, h64⟩, _⟩ := g4 i hi; simpa using h64
set_option maxRecDepth 100000
open Lib (hid)
def bodU : Bod := .mk [(1, [], [[104, 105]], []), (2, [18446744073709551614], [], []), (3, [7], [], [])] []
theorem wrong_U : wrongA filU 0 bodU = 0 := by decide +kernel
theorem raw_U : rawB filU 12 0 bodU = [10, 2, 104, 105, 16, 3, 24, 7] := by decide +kernel
theorem b64_U : B64 12 bodU := ⟨fun v hv => by
 have hv : v ∈ [((1 : Int), ([] : List Nat), [([104, 105] : List UInt8)], ([] : List Bod)), (2, [18446744073709551614], [], []), (3, [7], [], [])] := hv; simp only [List.mem_cons, List.not_mem_nil, or_false] at hv; rcases hv with rfl | rfl | rfl
 · exact ⟨fun n hn => (by cases hn), fun s hs => (by cases hs)⟩
 · exact ⟨fun n hn => (by obtain rfl : n = 18446744073709551614 := (by simpa using hn); decide), fun s hs => (by cases hs)⟩
 · exact ⟨fun n hn => (by obtain rfl : n = 7 := (by simpa using hn); decide), fun s hs => (by cases hs)⟩, fun r hr => (by cases hr)⟩
theorem parse_U : parseA filU 0 [10, 2, 104, 105, 16, 3, 24, 7] = (bodU, 0) := by
 have h := read_raw wrong_filU 12 (Nat.le_refl _) 0 bodU (by decide) (by decide) (wrongA_parts wrong_U).2.2.2 b64_U (by rw [raw_U]; decide); rw [raw_U] at h; unfold parseA; rw [wrong_filU, if_neg (by decide), if_neg (by decide), h]
theorem file_user (w : World) (hev : EvR w) : Calls Tryz.prog 16 #[.string ⟨txtU.toArray⟩] w fun e w' => ∃ mo mc eo ec, e = .returned (.tuple #[.agg #[.slice mo 1 mc, .slice eo 1 ec], .bool true]) ∧ FilV All w' (.agg #[.slice mo 1 mc, .slice eo 1 ec]) filU ∧ Up w w' := by
 have h := file_t ⟨txtU.toArray⟩ w hev; rw [show (⟨txtU.toArray⟩ : ByteArray).data.toList = txtU from rfl, topF_U] at h; refine h.mono fun e w' ⟨v, he, hf, hu⟩ => ?_; obtain ⟨vm, ve, rfl, hm, he'⟩ := id hf; obtain ⟨mo, mc, rfl, _, _⟩ := hm.val; obtain ⟨eo, ec, rfl, _, _⟩ := he'.val; exact ⟨mo, mc, eo, ec, he, hf, hu⟩
set_option maxHeartbeats 3200000 in
theorem alive_top (w : World) (hev : EvR w) (hT : Tabs w) : Calls Tryz.prog 12 #[] w fun e w' => e = .returned (.bool true) ∧ Up w w' := by
 have Hfi := hid (file_user w hev); have HT := hid hT; clear hev hT
 go_enter Tryz.func12, Tryz.ntmps12
 go_upto_region 2 with (go_at_call 16; go_must (refine Hfi.out.mono ?_; rintro e w1 ⟨mo, mc, eo, ec, rfl, hf, hu⟩))
 have hb1 := blk_new w1 (.cells #[.slice mo 1 mc, .slice eo 1 ec] 25) (g := w1.heap.size) rfl; have hu2 := (Up.refl w1).alloc (.cells #[.slice mo 1 mc, .slice eo 1 ec] 25); obtain ⟨B1, hB1⟩ : ∃ B, w1.heap.size = B := ⟨_, rfl⟩; rw [hB1] at hb1 ⊢; generalize hw2 : w1.alloc (.cells #[.slice mo 1 mc, .slice eo 1 ec] 25) = w2 at *; have U2 := hid (hu.trans hu2); have Hf2 := hid (hf.up hu2); have f0 : w2.cell? ⟨B1, 0, none⟩ = some (.slice mo 1 mc) := cell_of_row _ _ 0 _ _ _ hb1; have f1 : w2.cell? ⟨B1, 1, none⟩ = some (.slice eo 1 ec) := cell_of_row _ _ 1 _ _ _ hb1; clear hw2 hu hf hu2 hb1 Hfi hB1; have hrb : RdB All (w2.alloc (.cells #[.int .u8 10, .int .u8 2, .int .u8 104, .int .u8 105, .int .u8 16, .int .u8 3, .int .u8 24, .int .u8 7] 5)) (.slice (some ⟨w2.heap.size, 0, none⟩) 8 8) [10, 2, 104, 105, 16, 3, 24, 7] := rdB_of_block [10, 2, 104, 105, 16, 3, 24, 7] (blk_new w2 _ rfl) rfl trivial rfl (by omega) (by unfold maxLen; omega); have hpa := parse_c (.agg #[.slice mo 1 mc, .slice eo 1 ec]) filU 0 (.slice (some ⟨w2.heap.size, 0, none⟩) 8 8) [10, 2, 104, 105, 16, 3, 24, 7] _ (Hf2.out.up ((Up.refl w2).alloc _)) hrb (by decide) (HT.out.up (U2.out.alloc _)); rw [parse_U] at hpa; have Hpa := hid hpa; clear hpa hrb
 go_upto_region 3 with (go_at_call 14; go_must (refine Hpa.out.mono ?_; rintro e w3 ⟨vv, vu, rfl, hd, hu⟩; obtain ⟨s1, d1, s2, d2, rfl, rfl, hdv, hdu, hdz⟩ := bod_cells hd))
 clear f0 f1; have hu4 := (U2.out.alloc (.cells #[.int .u8 10, .int .u8 2, .int .u8 104, .int .u8 105, .int .u8 16, .int .u8 3, .int .u8 24, .int .u8 7] 5)).trans hu; have hu5 := hu4.alloc (.cells #[.slice s1 bodU.values.length d1, .slice s2 bodU.unknown.length d2] 29); have hdv5 := hdv.up (stable_val 12) ((Up.refl w3).alloc (.cells #[.slice s1 bodU.values.length d1, .slice s2 bodU.unknown.length d2] 29)); have hb3 := blk_new w3 (.cells #[.slice s1 bodU.values.length d1, .slice s2 bodU.unknown.length d2] 29) (g := w3.heap.size) rfl; obtain ⟨B3, hB3⟩ : ∃ B, w3.heap.size = B := ⟨_, rfl⟩; rw [hB3] at hb3 ⊢; generalize w3.alloc (.cells #[.slice s1 bodU.values.length d1, .slice s2 bodU.unknown.length d2] 29) = w4 at *; have U4 := hid hu5; have Hb3 := hid hb3; have g0 : w4.cell? ⟨B3, 0, none⟩ = some (.slice s1 bodU.values.length d1) := cell_of_row _ _ 0 _ _ _ hb3; have g1 : w4.cell? ⟨B3, 1, none⟩ = some (.slice s2 bodU.unknown.length d2) := cell_of_row _ _ 1 _ _ _ hb3; have hge := get_v 12 (.slice s1 bodU.values.length d1) (.slice s2 bodU.unknown.length d2) bodU.values 2 w4 hdv5 ⟨_, _, _, rfl⟩; rw [show findV bodU.values 2 = some (2, [18446744073709551614], [], []) from rfl] at hge; simp only [Option.getD_some, Option.isSome_some] at hge; have Hge := hid hge; clear hge hd hu hu4 hu5 hdv hdu hdz hdv5 hb3 Hpa hB3
 go_upto_region 4 with (go_at_call 19; go_must (refine Hge.out.mono ?_; rintro e w5 ⟨a1, c1, a2, c2, a3, c3, rfl, hv, hu⟩))
 obtain ⟨_, _, _, _, _, _, hcs, _, hx1, _, _, _⟩ := val_cells hv; simp only [List.cons.injEq, Value.slice.injEq, and_true, true_and] at hcs; obtain ⟨⟨rfl, rfl⟩, _⟩ := hcs; obtain ⟨nb, no, ncs, hnb, _, _, hncs, hnd⟩ := hx1.at (i := 0) (by decide); subst hnb; obtain ⟨rfl, _⟩ := hnd; (have c0 : w5.cell? ⟨nb, no, none⟩ = some (.int .u64 18446744073709551614) := by have h := hncs 0 _ rfl; simpa using h); have g0' := hu.cell_some g0; have U5 := hid (U4.out.trans hu); clear g0 g1 hv hncs hx1 hu Hge; have hvl : bodU.values.length = 3 := rfl; rw [hvl] at g0'; have hb5 := blk_new w5 (.cells #[.int .i64 2, .slice (some ⟨nb, no, none⟩) 1 c1, .slice a2 0 c2, .slice a3 0 c3] 53) (g := w5.heap.size) rfl; have hu6 := (Up.refl w5).alloc (.cells #[.int .i64 2, .slice (some ⟨nb, no, none⟩) 1 c1, .slice a2 0 c2, .slice a3 0 c3] 53); have c0 := hu6.cell_some c0; have g0' := hu6.cell_some g0'; have U6 := hid (U5.out.trans hu6); obtain ⟨B5, hB5⟩ : ∃ B, w5.heap.size = B := ⟨_, rfl⟩; (try simp only [List.length_cons, List.length_nil, Nat.zero_add]); rw [hB5] at hb5 ⊢; generalize w5.alloc (.cells #[.int .i64 2, .slice (some ⟨nb, no, none⟩) 1 c1, .slice a2 0 c2, .slice a3 0 c3] 53) = w6 at *; have v1 : w6.cell? ⟨B5, 1, none⟩ = some (.slice (some ⟨nb, no, none⟩) 1 c1) := cell_of_row _ _ 1 _ _ _ hb5; (have hwr : RowKit.wrap64 18446744073709551614 = -2 := by unfold RowKit.wrap64; omega); clear hb5 hu6 hB5; go_wp2_with fail
 go_ret
 exact ⟨rfl, U6.out⟩
end Go.Proofs.YtbceapeoknngnaaGreatDoor
namespace Go.Proofs.YtbceapeoknngnaaGreatDoor
open Go.RowKit
theorem bytesC_04 {f : Fil} {msg : Int} {x : Bod} (h : wrongA f msg x = 0) : (bytesC f msg x).2 = 0 ∨ (bytesC f msg x).2 = 4 := by
 unfold bytesC; rw [if_neg (by rw [h]; simp)]; split
 · exact .inr rfl
 · exact .inl rfl
end Go.Proofs.YtbceapeoknngnaaGreatDoor
