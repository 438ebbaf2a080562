/-
  syntax.Words, link.free; pressref1.Words, pressref2.Free.
-/
import Derived.Test.YtplgegffapikoaaDoorPt15
import Derived.Test.YtplgegffapikoaaDoorPt06
set_option linter.unusedVariables false
namespace Go.Proofs.YtplgegffapikoaaDoor
open Go.RowKit
def wInt64 : List UInt8 := [105, 110, 116, 54, 52]
def wSint64 : List UInt8 := [115, 105, 110, 116, 54, 52]
def wUint64 : List UInt8 := [117, 105, 110, 116, 54, 52]
def wBool : List UInt8 := [98, 111, 111, 108]
def wFixed64 : List UInt8 := [102, 105, 120, 101, 100, 54, 52]
def wFixed32 : List UInt8 := [102, 105, 120, 101, 100, 51, 50]
def wString : List UInt8 := [115, 116, 114, 105, 110, 103]
def wBytes : List UInt8 := [98, 121, 116, 101, 115]
def wRepeated : List UInt8 := [114, 101, 112, 101, 97, 116, 101, 100]
def wReserved : List UInt8 := [114, 101, 115, 101, 114, 118, 101, 100]
def wOneof : List UInt8 := [111, 110, 101, 111, 102]
def words : List (List UInt8) := [wInt64, wSint64, wUint64, wBool, [], wFixed64, wFixed32, wString, wBytes]
def wordsV : List Value := words.map fun s => .string ⟨s.toArray⟩
def freeN (s : List UInt8) : Bool := named s && !(words ++ [wRepeated, wReserved, wOneof]).any (fun x => s == x)

theorem words_rd (w : World) (e : TypeId) : RdS DStr 1 All (w.alloc (.cells wordsV.toArray e)) (.slice (some ⟨w.heap.size, 0, none⟩) 9 9) words := by
  refine rdS_of_block words (words.map fun s => [.string ⟨s.toArray⟩]) (blk_new w _ rfl) ?_ trivial (by rfl) (fun i hi => ⟨[.string ⟨words[i].toArray⟩], by simp [hi], rfl, rfl, ?_⟩) rfl (Nat.le_refl _) (by unfold maxLen; omega)
  · rfl
  · have h : ∀ x ∈ words, x.length ≤ 140737488355328 := by decide
    exact h _ (List.getElem_mem hi)

set_option maxRecDepth 100000 in
set_option maxHeartbeats 800000 in
theorem words_s (w : World) :
    Calls Tryd.prog 65 #[] w fun e w' => e = .returned (.slice (some ⟨w.heap.size, 0, none⟩) 9 9) ∧ w' = w.alloc (.cells wordsV.toArray 9) := by
  go_enter Tryd.func65, Tryd.ntmps65
  go_wp2_with fail
  go_ret
  exact ⟨rfl, rfl⟩
set_option maxRecDepth 100000 in
set_option maxHeartbeats 800000 in
theorem words_r (w : World) :
    Calls Tryd.prog 79 #[] w fun e w' => e = .returned (.slice (some ⟨w.heap.size, 0, none⟩) 9 9) ∧ w' = w.alloc (.cells wordsV.toArray 9) := by
  go_enter Tryd.func79, Tryd.ntmps79
  go_wp2_with fail
  go_ret
  exact ⟨rfl, rfl⟩

set_option maxRecDepth 100000 in
set_option maxHeartbeats 800000 in
theorem free_l (s : List UInt8) (w : World) :
    Calls Tryd.prog 44 #[.string ⟨s.toArray⟩] w fun e w' => e = .returned (.bool (freeN s)) ∧ Up w w' := by
  have hn := named_s ⟨s.toArray⟩ w
  simp only at hn
  cases hnn : named s with
  | false =>
    rw [hnn] at hn
    have Hn := Lib.hid hn; clear hn
    go_enter Tryd.func44, Tryd.ntmps44
    go_wp2_with (first
      | (go_at_call 64; go_must (refine Hn.out.mono ?_; rintro e w1 ⟨rfl, hu1⟩)))
    go_ret
    exact ⟨ret_bool (by simp [freeN, hnn]), hu1⟩
  | true =>
    rw [hnn] at hn
    have Hn := Lib.hid hn; clear hn
    have hf : freeN s = (!(words.any (fun x => s == x)) && (!(s == wRepeated) && (!(s == wReserved) && !(s == wOneof)))) := by
      unfold freeN
      rw [hnn, List.any_append]
      simp only [List.any_cons, List.any_nil, Bool.true_and, Bool.or_false, Bool.not_or]
    have Hf := Lib.hid hf; clear hf
    go_enter Tryd.func44, Tryd.ntmps44
    go_wp2_with (first
      | (go_at_call 64; go_must (refine Hn.out.mono ?_; rintro e w1 ⟨rfl, hu1⟩))
      | (go_at_call 65; go_must (refine (words_s w1).mono ?_; rintro e w2 ⟨rfl, rfl⟩))
      | (go_at_call 45; go_must (refine (contains_str _ words s _ (words_rd w1 _)).mono ?_; rintro e w3 ⟨rfl, rfl⟩; generalize words.any (fun x => s == x) = c at *)))
    all_goals
      clear Hn
      go_ret
      refine ⟨ret_bool ?_, hu1.alloc _⟩
      rw [Hf.out]
      simp_all [wRepeated, wReserved, wOneof]
      try rw [Bool.and_assoc]

theorem eStr : Elem Tryd.prog 93 9 1 16 (.string .empty) := ⟨Tryd.underlying93, info_parts (by kernel_rfl), rfl, by decide⟩
def words12 : List (List UInt8) := words ++ [wRepeated, wReserved, wOneof]
theorem words12_len : words12.length = 12 := rfl
theorem words12_rd {base : Nat} {e : TypeId} {w : World} {v : Value} (how : w.ownsRow base e 1 v 12 (wordsV ++ [.string ⟨wRepeated.toArray⟩, .string ⟨wReserved.toArray⟩, .string ⟨wOneof.toArray⟩])) : RdS DStr 1 All w v words12 := by
  refine rdS_of_row stable_str (css := words12.map fun s => [.string ⟨s.toArray⟩]) how rfl (fun i hi => ⟨[.string ⟨words12[i].toArray⟩], by simp [hi], rfl, rfl, ?_⟩)
  have h : ∀ x ∈ words12, x.length ≤ 140737488355328 := by decide
  exact h _ (List.getElem_mem hi)

set_option maxRecDepth 100000 in
set_option maxHeartbeats 800000 in
theorem free_r (s : List UInt8) (w : World) (hs : okS s) :
    Calls Tryd.prog 50 #[.string ⟨s.toArray⟩] w fun e w' => e = .returned (.bool (freeN s)) ∧ Up w w' := by
  have hs : s.length ≤ 140737488355328 := hs
  go_enter Tryd.func50, Tryd.ntmps50
  have h3 := blk_new (w.alloc (.cells wordsV.toArray 9)) (.cells #[.string ⟨wRepeated.toArray⟩, .string ⟨wReserved.toArray⟩, .string ⟨wOneof.toArray⟩] 9) (g := w.heap.size + 1) (by simp)
  have hnews : ∀ ad, some (⟨w.heap.size + 1, 0, none⟩ : Addr) = some ad → ∀ j u, [Value.string ⟨wRepeated.toArray⟩, .string ⟨wReserved.toArray⟩, .string ⟨wOneof.toArray⟩][j]? = some u → ((w.alloc (.cells wordsV.toArray 9)).alloc (.cells #[.string ⟨wRepeated.toArray⟩, .string ⟨wReserved.toArray⟩, .string ⟨wOneof.toArray⟩] 9)).cell? (ad.add j) = some u := by
    rintro ad h j u hu
    obtain rfl := Option.some.inj h
    rw [Addr.add_lit, cell_of_row _ _ _ _ _ _ h3]
    simpa using hu
  have how0 : ((w.alloc (.cells wordsV.toArray 9)).alloc (.cells #[.string ⟨wRepeated.toArray⟩, .string ⟨wReserved.toArray⟩, .string ⟨wOneof.toArray⟩] 9)).ownsRow w.heap.size 9 1 (.slice (some ⟨w.heap.size, 0, none⟩) 9 9) 9 wordsV :=
    (World.ownsRow_lit (e := 9) (size := 1) w wordsV.toArray 9 (Nat.le_refl _) (by unfold maxLen; omega) rfl).alloc _
  have Hnews := Lib.hid hnews; have How0 := Lib.hid how0; clear hnews how0 h3
  go_wp2_with (first
    | (go_at_call 79; go_must (refine (words_r w).mono ?_; rintro e w2 ⟨rfl, rfl⟩))
    | (at_builtin; go_must (refine wpList_app eStr _ (by rfl) _ _ (by rfl) w.heap.size _ 9 wordsV (by rfl) How0.out (some ⟨w.heap.size + 1, 0, none⟩) 3 3 (by rfl) [.string ⟨wRepeated.toArray⟩, .string ⟨wReserved.toArray⟩, .string ⟨wOneof.toArray⟩] (by rfl) (fun h => nomatch h) Hnews.out (oc (cs := #[.string ⟨wRepeated.toArray⟩, .string ⟨wReserved.toArray⟩, .string ⟨wOneof.toArray⟩]) (by rfl)) (by decide) (by unfold maxLen; omega) (by simp; omega) ?_; intro v3 w3 how3 hev3; have hu3 := Lib.hid (((((Up.refl w).alloc _).alloc _).evo hev3 (fun j hj => by simp [Value.ownBlock] at hj; omega))); have hrd := words12_rd how3; obtain ⟨a3, c3, rfl, _, _⟩ := hrd.val; have Hrd := Lib.hid hrd; clear hrd how3 hev3)))
  clear Hnews How0
  go_loopw [9] (fun i wr => ∃ k : Nat, k ≤ words12.length ∧ i = .int .i64 k ∧ wr = w3 ∧ ∀ j, (hj : j < words12.length) → j < k → (s == words12[j]) = false) (fun i _ => words12.length - (intOf i).toNat)
  case atStart => exact ⟨0, by omega, rfl, rfl, fun j _ h => absurd h (by omega)⟩
  case round =>
    obtain ⟨k, hk, rfl, rfl, hg⟩ := hrel
    have Hg := Lib.hid hg; clear hg
    by_cases hlt : k < words12.length
    · obtain ⟨b, o, cs, rfl, hb, hl, hcs, hd⟩ := Hrd.out.at hlt
      obtain ⟨hd, _⟩ := hd
      have hc := hcs 0 _ (by rw [hd]; rfl)
      simp only [Nat.mul_one, Nat.add_zero] at hc
      clear hcs hd hl
      have i0 : (0 : Int) ≤ (k : Int) := by omega
      have i1 : (k : Int) < (words12.length : Int) := by omega
      have Hgn := Lib.hid (fun e => no_more (p := fun x => s == x) hlt Hg.out e)
      have Hgg := Lib.hid (fun (e : (s == words12[k]) = true) => (show freeN s = false from by
        have : words12.any (fun x => s == x) = true := List.any_eq_true.2 ⟨_, List.getElem_mem hlt, e⟩
        unfold freeN
        rw [show words ++ [wRepeated, wReserved, wOneof] = words12 from rfl, this]
        simp))
      generalize words12[k] = x at *
      by_cases he : (s == x) = true
      · go_wp2_with fail
        go_ret
        exact ⟨ret_bool (Hgg.out he).symm, hu3.out⟩
      · have he : (s == x) = false := by simpa using he
        go_wp2_with fail
        go_roundw
        case rel => exact ⟨k + 1, by omega, by go_num, trivial, Hgn.out he⟩
        case measure => simp [intOf]; omega
    · have hf : freeN s = named s := by
        have : words12.any (fun x => s == x) = false := by
          rw [List.any_eq_false]
          intro x hx
          obtain ⟨i, hi, rfl⟩ := List.getElem_of_mem hx
          simp [Hg.out i hi (by omega)]
        unfold freeN
        rw [show words ++ [wRepeated, wReserved, wOneof] = words12 from rfl, this]
        simp
      have hn := named_r ⟨s.toArray⟩ wr (by show s.length ≤ _; omega)
      simp only at hn
      rw [← hf] at hn
      have Hn := Lib.hid hn; clear hn hf
      go_wp2_with (first
        | (go_at_call 53; go_must (refine Hn.out.mono ?_; rintro e w4 ⟨rfl, hu4⟩)))
      go_ret
      exact ⟨rfl, hu3.out.trans hu4⟩
end Go.Proofs.YtplgegffapikoaaDoor
