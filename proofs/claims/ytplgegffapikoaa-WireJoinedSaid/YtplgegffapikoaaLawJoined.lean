/-
  presslaw1.WireJoined.
-/
import Derived.Test.YtplgegffapikoaaLawKit
import Derived.Test.YtplgegffapikoaaJoin
set_option linter.unusedVariables false
namespace Go.Proofs.Ytplgegffapikoaa
open Go.RowKit
theorem parse_len {l : List UInt8} (h : (parse l).2.1 = 0) : l.length ≤ 4000 := by
  unfold parse at h
  by_cases h4 : 4000 < l.length
  · rw [if_pos h4] at h; simp at h
  · omega
theorem parseG_at : ∀ (f : Nat) (l : List UInt8), (parseG f l).2.2 ≤ l.length
  | 0, l => by simp [parseG]
  | f + 1, l => by
    rw [parseG]
    by_cases h1 : l = []
    · rw [if_pos h1]; simp
    · rw [if_neg h1]
      by_cases h2 : (oneP l).1 = 0
      · have hk := oneP_ok h2
        have h2' : ¬ (oneP l).1 ≠ 0 := by simpa using h2
        rw [if_neg h2']
        have ih := parseG_at f (l.drop (oneP l).2.2)
        rw [List.length_drop] at ih
        simp only
        split
        · simp only; omega
        · simp
      · rw [if_pos h2]; simp
theorem parseG_cnt : ∀ (f : Nat) (l : List UInt8), (parseG f l).1.length ≤ l.length
  | 0, l => by simp [parseG]
  | f + 1, l => by
    rw [parseG]
    by_cases h1 : l = []
    · rw [if_pos h1]; simp
    · rw [if_neg h1]
      by_cases h2 : (oneP l).1 = 0
      · have hk := oneP_ok h2
        have h2' : ¬ (oneP l).1 ≠ 0 := by simpa using h2
        rw [if_neg h2']
        have ih := parseG_cnt f (l.drop (oneP l).2.2)
        rw [List.length_drop] at ih
        simp only
        split
        · simp
        · simp only [List.length_cons]; omega
      · rw [if_pos h2]; simp
theorem parse_cnt (l : List UInt8) : (parse l).1.length ≤ l.length := by
  unfold parse
  split
  · simp
  · exact parseG_cnt _ _
theorem parse_at (l : List UInt8) : (parse l).2.2 ≤ l.length := by
  unfold parse
  split
  · simp
  · exact parseG_at _ _

set_option maxRecDepth 100000 in
set_option maxHeartbeats 1600000 in
theorem joined_any (va vb : Value) (a b : List UInt8) (w : World) (ha : RdB All w va a) (hb : RdB All w vb b) (hlb : b.length ≤ 140737488351232) :
    Calls Try.prog 5 #[va, vb] w fun e w' => e = .returned (.bool true) ∧ Up w w' := by
  obtain ⟨ao, cap, rfl, hc1, hc2⟩ := ha.val
  obtain ⟨bo, bap, rfl, hd1, hd2⟩ := hb.val
  have Ha := Lib.hid ha; clear ha
  have Hb := Lib.hid hb; clear hb
  go_enter Try.func5, Try.ntmps5
  go_wp2_with fail
  refine (alive_any _).mono ?_
  rintro e w1 ⟨rfl, hu1⟩
  have Hu1 := Lib.hid hu1; clear hu1
  go_wp2_with fail
  refine (parse_law _ a w1 (Ha.out.up stable_u8 Hu1.out)).mono ?_
  rintro e w2 ⟨a2, c2, rfl, hr2, hu2⟩
  have Hu2 := Lib.hid (Hu1.out.trans hu2); clear hu2
  have Hr2 := Lib.hid hr2; clear hr2
  have hlen := @parse_len a
  have hca := parse_cnt a
  have happ := @parse_append a b
  generalize hp : parse a = p at *
  obtain ⟨x, f, fa⟩ := p
  simp only at hlen happ hca
  have Hr2 := Lib.hid (show RdS DRec 4 All w2 (.slice a2 x.length c2) x from Hr2.out)
  have Hlen := Lib.hid hlen; clear hlen
  have Happ := Lib.hid happ; clear happ
  go_wp2_with fail
  refine (parse_law _ b _ ((Hb.out.up stable_u8 Hu2.out).up stable_u8 (Up.alloc (Up.refl w2) _))).mono ?_
  rintro e w3 ⟨a3, c3, rfl, hr3, hu3⟩
  have q0 : w3.cell? ⟨w2.heap.size, 0, none⟩ = some (.int .i64 f) := cell_of_row w3 _ 0 _ _ _ (hu3.blk (blk_new w2 _ rfl))
  have hz3 := lt_of_block (hu3.blk (blk_new w2 _ rfl))
  have Hr2 := Lib.hid ((Hr2.out.up stable_rec (Up.alloc (Up.refl w2) _)).up stable_rec hu3)
  have Hu3 := Lib.hid (Hu2.out.trans ((Up.alloc (Up.refl w2) _).trans hu3)); clear hu3
  have Hr3 := Lib.hid hr3; clear hr3
  have P2 := Lib.hid (@parse_err b)
  have hat := parse_at b
  have hcb := parse_cnt b
  generalize hq : parse b = q at *
  obtain ⟨y, g, ga⟩ := q
  simp only at P2 hat hcb
  have Hr3 := Lib.hid (show RdS DRec 4 All w3 (.slice a3 y.length c3) y from Hr3.out)
  by_cases hf : f = 0
  · subst hf
    have hla := Hlen.out rfl
    by_cases h4 : 4000 < a.length + b.length
    · have hs : RowKit.wrap64 ((a.length : Int) + (b.length : Int)) = ((a.length + b.length : Nat) : Int) := by unfold RowKit.wrap64; omega
      go_wp2_with fail
      go_ret
      exact ⟨rfl, Hu3.out.alloc _⟩
    · have hpp := Happ.out rfl (by omega)
      have Hpp := Lib.hid hpp; clear hpp
      have Hnw1 := Lib.hid (RdB.news ((Ha.out.up stable_u8 Hu3.out).up stable_u8 ((Up.alloc (Up.refl w3) (.cells #[.int .i64 g, .int .i64 (ga : Int)] 34)).alloc (.cells #[] 5))))
      have how0 : ((w3.alloc (.cells #[.int .i64 g, .int .i64 (ga : Int)] 34)).alloc (.cells #[] 5)).ownsRow (w3.heap.size + 1) 5 1 (.slice (some ⟨w3.heap.size + 1, 0, none⟩) 0 0) 0 [] := by
        have := World.ownsRow_lit (e := 5) (size := 1) (w3.alloc (.cells #[.int .i64 g, .int .i64 (ga : Int)] 34)) #[] 0 (Nat.le_refl _) (by unfold maxLen; omega) (by simp)
        simpa using this
      have How0 := Lib.hid how0; clear how0
      have tok1 : True := trivial
      go_wp2_with (first
        | (at_builtin; clear tok1; go_must (refine wpList_app eU8 _ (by rfl) _ _ (by rfl) (w3.heap.size + 1) _ 0 [] (by rfl) How0.out ao a.length cap (by rfl) (B8 a) (by simp [B8]) Hnw1.out.2.1 Hnw1.out.2.2 (B8_one _) (by omega) (by unfold maxLen; omega) (by simp) ?_; intro v5 w5 how5 hev5; have hu5 := Lib.hid ((Up.alloc (Up.refl (w3.alloc (.cells #[.int .i64 g, .int .i64 (ga : Int)] 34))) _).evo hev5 (fun j hj => by simp [Value.ownBlock] at hj; subst hj; simp)); have how5' : w5.ownsRow (w3.heap.size + 1) 5 1 v5 a.length (B8 a) := (by simpa using how5); have How5 := Lib.hid how5'; clear how5 how5' hev5 Hnw1; have hz5 : w3.heap.size + 1 ≤ w5.heap.size := (by have := hu5.out.size; simpa using this); have Hnw := Lib.hid (RdB.news ((Hb.out.up stable_u8 (Hu3.out.alloc _)).up stable_u8 hu5.out))))
        | (at_builtin; go_must (refine wpList_app eU8 _ (by rfl) _ _ (by rfl) (w3.heap.size + 1) _ _ _ (by rfl) How5.out bo b.length bap (by rfl) (B8 b) (by simp [B8]) Hnw.out.2.1 Hnw.out.2.2 (B8_one _) (by omega) (by unfold maxLen; omega) hz5 ?_; intro v6 w6 how6 (hev6 : Evo w5 w6 v5 v6); have hu6 := Lib.hid (Up.evo hu5.out hev6 (fun j hj => by have := (How5.out.lt j hj).1; simpa using this)); rw [← B8_append] at how6; have How6 := Lib.hid how6; clear how6 hev6 Hnw)))
      have hb6 := hu6.out.blk (blk_new w3 (.cells #[.int .i64 g, .int .i64 (ga : Int)] 34) rfl)
      have Hu36 := Lib.hid ((Up.alloc (Up.refl w3) _).trans hu6.out)
      have hr6 : RdB All w6 v6 (a ++ b) := rdB_of_owns (by rw [List.length_append]; exact How6.out) (fun _ _ => trivial)
      clear How6 How5 How0 hu5 hu6 hz5
      have hp2 := parse_law _ _ _ hr6
      rw [Hpp.out] at hp2
      clear hr6 Hpp Happ Hlen Ha
      by_cases hg : g = 0
      · subst hg
        have e : parseC a.length x (y, 0, ga) = (x ++ y, 0, 0) := by unfold parseC; rw [if_neg (by simp)]
        rw [e] at hp2
        have Hp2 := Lib.hid hp2; clear hp2
        refine Hp2.out.mono ?_
        rintro e w7 ⟨a7, c7, rfl, hr7, hu7⟩
        clear Hp2
        have hb7 := hu7.blk hb6
        have q1 : w7.cell? ⟨w3.heap.size, 0, none⟩ = some (.int .i64 0) := cell_of_row w7 _ 0 _ _ _ hb7
        have hz7 := lt_of_block hb7
        have hr7' : RdS DRec 4 All w7 (.slice a7 (x.length + y.length) c7) (x ++ y) := by rw [← List.length_append]; exact hr7
        have Hr7 := Lib.hid hr7'; clear hr7 hr7' hb6 hb7
        have Hu37 := Lib.hid (Hu36.out.trans hu7); clear hu7
        have toold : ∀ {v : Value} {l : List Rec}, RdS DRec 4 All w3 v l → RdS DRec 4 (fun k => k < w7.heap.size + 1) (w7.alloc (.cells #[.int .i64 0, .int .i64 0] 34)) v l := fun h => (((h.up stable_rec Hu37.out).keep stable_rec Keep.lt).up stable_rec (Up.alloc (Up.refl w7) _)).keep stable_rec (Keep.weak (fun k hk => by unfold Lt at hk; omega))
        obtain ⟨_, nx, cx, lx, ex, fx, gx⟩ := RdS.css (by decide) (toold Hr2.out)
        obtain ⟨_, ny, cy, ly, ey, fy, gy⟩ := RdS.css (by decide) (toold Hr3.out)
        clear toold
        have how0 : ((w7.alloc (.cells #[.int .i64 0, .int .i64 0] 34)).alloc (.cells #[] 78)).ownsRow (w7.heap.size + 1) 78 4 (.slice (some ⟨w7.heap.size + 1, 0, none⟩) 0 0) 0 [] := by
          have := World.ownsRow_lit (e := 78) (size := 4) (w7.alloc (.cells #[.int .i64 0, .int .i64 0] 34)) #[] 0 (Nat.le_refl _) (by unfold maxLen; omega) (by simp)
          simpa using this
        have How0 := Lib.hid how0; clear how0
        have Nx := Lib.hid nx; have Lx := Lib.hid lx; have Ex := Lib.hid ex; have Fx := Lib.hid fx; have Gx := Lib.hid gx
        have Ny := Lib.hid ny; have Ly := Lib.hid ly; have Ey := Lib.hid ey; have Fy := Lib.hid fy; have Gy := Lib.hid gy
        clear nx lx ex fx gx ny ly ey fy gy
        have hcx : x.length ≤ 4000 := by omega
        have hcy : y.length ≤ 4000 := by omega
        have tok1 : True := trivial
        go_wp2_with (first
          | (at_builtin; clear tok1; go_must (refine wpList_appW eRec _ (by rfl) _ _ (by rfl) (w7.heap.size + 1) _ 0 [] (by rfl) How0.out a2 x.length c2 (by rfl) cx.flatten Fx.out Nx.out (fun ad h j u hu => (Up.alloc (Up.refl _) _).cell_some (Gx.out ad h j u hu)) (ones_rec Lx.out Ex.out) (by omega) (by unfold maxLen; omega) (by simp) ?_; intro v8 w8 how8 hev8; have hu8 := Lib.hid ((Up.alloc (Up.refl (w7.alloc (.cells #[.int .i64 0, .int .i64 0] 34))) _).evo hev8 (fun j hj => by simp [Value.ownBlock] at hj; subst hj; simp)); have how8' : w8.ownsRow (w7.heap.size + 1) 78 4 v8 x.length cx.flatten := (by simpa using how8); have How8 := Lib.hid how8'; clear how8 how8' hev8; have hz8 : w7.heap.size + 1 ≤ w8.heap.size := (by have := hu8.out.size; simpa using this)))
          | (at_builtin; go_must (refine wpList_appW eRec _ (by rfl) _ _ (by rfl) (w7.heap.size + 1) _ _ _ (by rfl) How8.out a3 y.length c3 (by rfl) cy.flatten Fy.out Ny.out (fun ad h j u hu => hu8.out.cell_some (Gy.out ad h j u hu)) (ones_rec Ly.out Ey.out) (by omega) (by unfold maxLen; omega) hz8 ?_; intro v9 w9 how9 (hev9 : Evo w8 w9 v8 v9); have hu9 := Lib.hid (Up.evo hu8.out hev9 (fun j hj => by have := (How8.out.lt j hj).1; simpa using this)); have Hj := Lib.hid (rdS_join stable_rec hu9.out Lx.out Ex.out Ly.out Ey.out how9); clear how9 hev9))
          | (go_at_call 17; go_must (refine (same_law _ _ (x ++ y) (x ++ y) _ rfl ((Hr7.out.up stable_rec (Up.alloc (Up.refl w7) _)).up stable_rec hu9.out) Hj.out).mono ?_; rintro e w10 ⟨rfl, hu10⟩; have Hu10 := Lib.hid (((Hu3.out.trans Hu37.out).alloc _).trans (hu9.out.trans hu10)); clear hu10)))
        go_ret
        exact ⟨rfl, Hu10.out⟩
      · have e : parseC a.length x (y, g, ga) = ([], g, a.length + ga) := by unfold parseC; rw [if_pos (by simpa using hg)]
        rw [e] at hp2
        have Hp2 := Lib.hid hp2; clear hp2
        refine Hp2.out.mono ?_
        rintro e w7 ⟨a7, c7, rfl, hr7, hu7⟩
        clear Hp2
        have hb7 := hu7.blk hb6
        have q1 : w7.cell? ⟨w3.heap.size, 0, none⟩ = some (.int .i64 g) := cell_of_row w7 _ 0 _ _ _ hb7
        have q2 : w7.cell? ⟨w3.heap.size, 1, none⟩ = some (.int .i64 (ga : Int)) := cell_of_row w7 _ 1 _ _ _ hb7
        have hz7 := lt_of_block hb7
        have Hu37 := Lib.hid (Hu36.out.trans hu7); clear hu7 hb6 hb7
        have hg2 : (g != 0) = true := by simpa using hg
        have hcm : (a.length : Int) + (ga : Int) = (ga : Int) + (a.length : Int) := Int.add_comm _ _
        go_wp2_with fail
        go_ret
        exact ⟨ret_bool (by simp), (Hu3.out.trans Hu37.out).alloc _⟩
  · go_wp2_with fail
    go_ret
    exact ⟨rfl, Hu3.out.alloc _⟩
end Go.Proofs.Ytplgegffapikoaa
