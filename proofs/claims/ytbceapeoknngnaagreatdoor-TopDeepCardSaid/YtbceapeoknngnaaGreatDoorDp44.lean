/-
  The parser's message.
-/
import Derived.Test.YtbceapeoknngnaaGreatDoorDp43
import Derived.Deep.RegionLaw
import Derived.Deep.RegionHeld3
import Derived.Deep.DeepCutAuto
import Derived.Deep.CutBlock
set_option linter.unusedVariables false
namespace Go.Proofs.YtbceapeoknngnaaGreatDoor
open Go.RowKit
set_option maxRecDepth 100000 in
set_option maxHeartbeats 6400000 in
theorem message_p (g : Nat) (s : ByteArray) (k0 : Nat) (w : World) (hk0 : k0 ≤ s.size) (hz0 : s.size ≤ 1000000) (hgr : 3 < g) (hev : EvR w) (hp : PW g s k0 w) :
    Calls Tryz.prog 76 #[.pointer (some ⟨g, 0, none⟩)] w (PEnd g s w (messageP (dr s k0)) (fun w' x v => MsgV w w' x v)) := by
  have hgw := hp.lt
  have Hp := Lib.hid hp; have Hev := Lib.hid hev
  clear hp hev
  go_enter Tryz.func76, Tryz.ntmps76
  go_wp2_with fail
  have hb0 := blk_new w (.cells #[.string ⟨#[]⟩, .slice none 0 0, .slice none 0 0] 38) (g := w.heap.size) rfl
  have hu0 := (Up.refl w).alloc (.cells #[.string ⟨#[]⟩, .slice none 0 0, .slice none 0 0] 38)
  generalize w.alloc (.cells #[.string ⟨#[]⟩, .slice none 0 0, .slice none 0 0] 38) = w0 at *
  obtain ⟨R, hR⟩ : ∃ R, w.heap.size = R := ⟨_, rfl⟩
  rw [hR] at hb0 hgw ⊢
  have HR := Lib.hid hR; have Hb0 := Lib.hid hb0; have Hu0 := Lib.hid hu0
  clear hR hb0 hu0
  refine (word_p g s k0 w0 hk0 (by omega) (Hp.out.up Hu0.out)).mono ?_
  intro e w1 he
  rcases h1 : wordP (dr s k0) with ⟨nm, l1⟩ | ⟨er, l⟩
  rotate_left
  · obtain ⟨rfl, hg⟩ := he.bad h1
    go_wp2_with fail
    exact ⟨rfl, PEnd.of_bad (by rw [messageP, h1]; rfl) rfl ((Gr.of_up Hu0.out).trans hg)⟩
  obtain ⟨v, rfl, rfl, ⟨k1, hk1, hd1, hp1⟩, hg1⟩ := he.ok h1
  have hR1 := hg1.blk Hb0.out (by omega)
  have Hg1 := Lib.hid ((Gr.of_up Hu0.out).trans hg1)
  have Hp1 := Lib.hid hp1; have Hd1 := Lib.hid hd1; have HR1 := Lib.hid hR1
  have hRw := lt_of_block hR1
  have Hl1 := Lib.hid (word_len h1)
  have H1 := Lib.hid h1
  clear hd1 hp1 hg1 he Hb0 Hu0 Hp hR1 h1
  go_wp2_with fail
  have HE : Hid (MW g s w R w1.heap.size nm [] [] (.slice none 0 0) (.slice none 0 0) k1 _) := Lib.hid ⟨Hp1.out.alloc _, Hg1.out.alloc _, OwnS.nil _ _ _ _ _ _, OwnS.nil _ _ _ _ _ _, fun j e => (by simp [Value.ownBlock] at e), blk_new w1 (.cells #[.string ⟨nm.toArray⟩, .slice none 0 0, .slice none 0 0] 38) rfl, blk_old _ HR1.out⟩
  generalize w1.alloc (.cells #[.string ⟨nm.toArray⟩, .slice none 0 0, .slice none 0 0] 38) = w2 at *
  obtain ⟨M, hM⟩ : ∃ M, w1.heap.size = M := ⟨_, rfl⟩
  rw [hM] at HE hRw ⊢
  clear hM Hp1 Hg1 HR1
  refine (must_p g s k1 123 _ hk1 (by omega) HE.out.pw).mono ?_
  intro e w3 he
  rw [Hd1.out] at he
  rcases h3 : mustP 123 l1 with ⟨u3, l3⟩ | ⟨er, l⟩
  rotate_left
  · obtain ⟨rfl, hg⟩ := he.bad h3
    go_wp2_with fail
    exact ⟨rfl, PEnd.of_bad (by rw [messageP, H1.out, PR.bind_ok, h3]; rfl) rfl (HE.out.gr.trans hg)⟩
  obtain ⟨v, rfl, rfl, ⟨k3, hk3, hd3, hp3⟩, hg3⟩ := he.ok h3
  have HE3 := Lib.hid (HE.out.step hg3 hp3 (by omega) (by omega))
  have Hd3 := Lib.hid hd3
  have hT : messageP (dr s k0) = messP (l3.length + 1) nm 0 [] [] l3 := by rw [messageP, H1.out, PR.bind_ok, h3]; rfl
  have HT := Lib.hid hT
  have hd3l : l3.length ≤ s.size := by rw [← hd3, dr_len]; omega
  clear hd3 hp3 hg3 he HE Hd1 H1 h3 hT
  go_wp2_with fail
  go_loopw [4] (fun ch wr => ∃ (c : Nat) (fs : List Fld) (bs : List Int) (l : List UInt8) (vf vb : Value) (f k : Nat), ch = .int .i64 c ∧ l.length < f ∧ messP f nm c fs bs l = messP (l3.length + 1) nm 0 [] [] l3 ∧ fs.length ≤ 16 ∧ bs.length ≤ 16 ∧ c + fs.length + bs.length + l.length ≤ s.size ∧ k ≤ s.size ∧ dr s k = l ∧ MW g s w R M nm fs bs vf vb k wr) (fun _ wr => s.size - pwAt g wr)
  case atStart => exact ⟨0, [], [], l3, .slice none 0 0, .slice none 0 0, l3.length + 1, k3, rfl, by omega, rfl, by simp, by simp, by simpa using hd3l, hk3, Hd3.out, HE3.out⟩
  case round =>
    obtain ⟨c, fs, bs, l, vf, vb, f, k, rfl, hlf, hT2, hfs, hbs, hsum, hk, hd, he⟩ := hrel
    have HE := Lib.hid he; have Hd := Lib.hid hd; have HT2 := Lib.hid hT2; have Hlf := Lib.hid hlf; have Hsum := Lib.hid hsum
    obtain ⟨f, rfl⟩ : ∃ f', f = f' + 1 := ⟨f - 1, by omega⟩
    clear he hd hT2 hlf HE3 Hd3 hsum
    have hea := eat_p g s k 125 wr hk (by omega) HE.out.pw
    rw [Hd.out] at hea
    have hit : messP (f + 1) nm c fs bs l = if (eatP 125 l).1 then .ok ⟨nm, fs, bs⟩ (eatP 125 l).2 else (partP c fs bs (eatP 125 l).2).bind fun t l6 => if 16 < t.2.1.length ∨ 16 < t.2.2.length then .bad 5 l6 else messP f nm t.1 t.2.1 t.2.2 l6 := by rw [messP]
    have Hel := Lib.hid (eat_len 125 l)
    have Hat := Lib.hid HE.out.pw.is
    generalize eatP 125 l = ea at *
    obtain ⟨eb, l4⟩ := ea
    simp only at hea hit Hel
    rw [HT2.out, ← HT.out] at hit
    have Hit := Lib.hid hit; have Hea := Lib.hid hea
    clear hea hit HT2
    cases eb with
    | true =>
      go_wp2_with fail
      refine Hea.out.mono ?_
      rintro e w5 ⟨rfl, ⟨k5, hk5, hd5, hp5⟩, hg5⟩
      have HE5 := Lib.hid (HE.out.step hg5 hp5 (by omega) (by omega))
      have c0 := cell_of_row w5 M 0 _ _ _ HE5.out.m; have c1 := cell_of_row w5 M 1 _ _ _ HE5.out.m; have c2 := cell_of_row w5 M 2 _ _ _ HE5.out.m
      have z0 := cell_of_row w5 R 0 _ _ _ HE5.out.r; have z1 := cell_of_row w5 R 1 _ _ _ HE5.out.r; have z2 := cell_of_row w5 R 2 _ _ _ HE5.out.r
      have zf := fun o => frozen_of_row w5 R o _ _ HE5.out.r
      have zz := lt_of_block HE5.out.r
      have HT3 := Lib.hid (show messageP (dr s k0) = .ok ⟨nm, fs, bs⟩ l4 from Hit.out)
      obtain ⟨av, cv, rfl⟩ := own_val HE5.out.of.own.choose_spec
      obtain ⟨au, cu, rfl⟩ := own_val HE5.out.ob.own.choose_spec
      clear Hea HE hp5 hg5
      go_wp2_with fail
      refine bodyPost_ret (v := .agg #[.string ⟨nm.toArray⟩, .slice av fs.length cv, .slice au bs.length cu]) (by simp [results, Tryz.results76, go_sem, z0, z1, z2]) rfl ?_
      have hfin := HE5.out.fin HR.out hgw hRw
      refine PEnd.of_ok HT3.out ⟨_, _, rfl, hfin.1, hfin.2.1, Hl1.out.2.1⟩ ⟨k5, hk5, hd5, hfin.2.2.1⟩ hfin.2.2.2
    | false =>
      go_wp2_with fail
      refine Hea.out.mono ?_
      rintro e w5 ⟨rfl, ⟨k5, hk5, hd5, hp5⟩, hg5⟩
      have HE5 := Lib.hid (HE.out.step hg5 hp5 (by omega) (by omega))
      have Hd5 := Lib.hid hd5
      clear Hea HE hp5 hg5 hd5
      have hit : messageP (dr s k0) = (partP c fs bs l4).bind fun t l6 => if 16 < t.2.1.length ∨ 16 < t.2.2.length then .bad 5 l6 else messP f nm t.1 t.2.1 t.2.2 l6 := Hit.out
      have Hit := Lib.hid hit
      clear hit
      go_wp2_with fail
      refine (peek_p g s k5 w5 hk5 (by omega) HE5.out.pw).mono ?_
      intro e w6 he
      rw [Hd5.out] at he
      rcases p6 : wordP l4 with ⟨nm2, l6⟩ | ⟨er, l'⟩
      rotate_left
      · rw [p6, PR.bind_bad] at he
        obtain ⟨rfl, hg⟩ := he
        go_wp2_with fail
        exact ⟨rfl, PEnd.of_bad (by rw [Hit.out, partP, p6]; rfl) rfl (HE5.out.gr.trans hg)⟩
      rw [p6, PR.bind_ok] at he
      obtain ⟨v6, rfl, rfl, ⟨k6, hk6, hd6, hp6⟩, hg6⟩ := he
      have HE6 := Lib.hid (HE5.out.step hg6 hp6 (by omega) (by omega))
      have Hd6 := Lib.hid hd6; have P6 := Lib.hid p6
      clear hd6 hp6 hg6 HE5 Hd5 p6
      go_upto_block 2 with (fail)
      go_cut [4] (fun ch wc => ∃ t l7 vf' vb' k7, partP c fs bs l4 = .ok t l7 ∧ ch = .int .i64 (t.1 : Nat) ∧ k7 ≤ s.size ∧ dr s k7 = l7 ∧ MW g s w R M nm t.2.1 t.2.2 vf' vb' k7 wc ∧ t.1 + t.2.1.length + t.2.2.length + l7.length ≤ s.size ∧ l7.length < l4.length)
      case first =>
        by_cases hrs : nm2 = wReserved
        · have e1 : (nm2 == [114, 101, 115, 101, 114, 118, 101, 100]) = true := by rw [hrs]; rfl
          have hpt : partP c fs bs l4 = (numP 536870911 l6).bind fun n l3 => (numsP (l3.length + 1) (bs ++ [(n : Int)]) l3).bind fun bs' l4 => (mustP 59 l4).bind fun _ l5 => .ok (c, fs, bs') l5 := by rw [partP, P6.out, PR.bind_ok, if_pos hrs]
          have Hpt := Lib.hid hpt
          have Hw6 := Lib.hid (word_len P6.out)
          clear hrs hpt
          go_wp2_with fail
          refine (word_p g s k6 _ hk6 (by omega) HE6.out.pw).mono ?_
          intro e w7 he
          rw [Hd6.out] at he
          obtain ⟨v7, rfl, rfl, ⟨k7, hk7, hd7, hp7⟩, hg7⟩ := he.ok P6.out
          have HE7 := Lib.hid (HE6.out.step hg7 hp7 hgw hRw)
          have Hd7 := Lib.hid hd7
          clear hd7 hp7 hg7 he HE6 Hd6
          go_upto_region 9 with (fail)
          have hnu := num_p g s k7 536870911 w7.drew hk7 (by omega) (by omega) hgr ((Hev.out.gr HE7.out.gr hgr).up (Up.refl _).drew) (HE7.out.pw.up (Up.refl _).drew)
          rw [Hd7.out] at hnu
          have Hnu := Lib.hid hnu
          have m2 : w7.cell? ⟨M, 2, none⟩ = some vb := cell_of_row w7 M 2 _ _ _ HE7.out.m
          have mz := lt_of_block HE7.out.m
          clear hnu
          go_cut [] (fun wc => ∃ n l8 vb' k8, numP 536870911 l6 = .ok n l8 ∧ k8 ≤ s.size ∧ dr s k8 = l8 ∧ MW g s w R M nm fs (bs ++ [(n : Int)]) vf vb' k8 wc)
          case first =>
            rcases p8 : numP 536870911 l6 with ⟨n, l8⟩ | ⟨er, l'⟩
            · have P8 := Lib.hid p8
              have Hnl := Lib.hid (num_lenP p8)
              have HOK : Hid (okI (n : Int)) := Lib.hid (by have := Hnl.out.2; exact ⟨by omega, by omega⟩)
              clear p8
              go_region_law (first
                | (go_simp; go_at_call 143; refine Hnu.out.mono ?_; intro e w8 he; obtain ⟨v8, rfl, rfl, ⟨k8, hk8, hd8, hp8⟩, hg8⟩ := he.ok P8.out; have HE8 := Lib.hid ((HE7.out.up (Up.refl _).drew).step hg8 hp8 hgw hRw); obtain ⟨xs, hxs⟩ := HE8.out.ob.own; have Hxs := Lib.hid hxs; have m2 : w8.cell? ⟨M, 2, none⟩ = some vb := cell_of_row w8 M 2 _ _ _ HE8.out.m; have mz := lt_of_block HE8.out.m; have Hd8 := Lib.hid hd8; clear hd8 hp8 hg8 he hxs)
                | (refine step_app1 eNum _ (by rfl) _ _ (by rfl) (M + 1) _ _ _ (by rfl) Hxs.out _ (by rfl) (by first | rfl | simp) (by rfl) (oc (by rfl)) (by omega) (by unfold maxLen; omega) (by first | omega | (simp; omega)) ?_; intro v9 w9 how9 hev9; obtain ⟨a9, c9, rfl⟩ := own_val how9; have hb9 := hev9.blk HE8.out.m (fun e => by have := (HE8.out.ob.lo _ e).1; omega); have m1 := cell_of_row w9 M 1 _ _ _ hb9; have m2 := cell_of_row w9 M 2 _ _ _ hb9; have mf := fun o => frozen_of_row w9 M o _ _ hb9; have mz := lt_of_block hb9; have HE9 := Lib.hid (MW.snocB (n := (n : Int)) HE8.out Hxs.out how9 hev9 HOK.out hgw hRw (by rw [HR.out]; omega)); clear hb9 how9 hev9))
              all_goals
                go_wp2_with fail
                go_meet
                exact ⟨n, l8, _, k8, P8.out, hk8, Hd8.out, HE9.out⟩
            · have Hr := Lib.hid (show messageP (dr s k0) = .bad er l' by rw [Hit.out, Hpt.out, p8]; rfl)
              have P8 := Lib.hid p8
              clear p8
              have hHeld0 : w7.drew.cell? ⟨M, 2, none⟩ = some vb := (Up.refl _).drew.cell_some m2
              refine wp_region_held_drew (S := fun w' => w'.cell? ⟨M, 2, none⟩ = some vb) (by kernel_rfl) hHeld0 (fun hHeld => ?_)
              refine wpAnyH_take (i := 0) (v := ?_) (by simp only [List.getElem?_toArray, List.getElem?_cons_zero] <;> rfl) (by kernel_rfl) (by kernel_rfl) (by kernel_rfl) (fun _ _ _ h => by exact h) (Or.inl ⟨by rfl, ?_⟩) (by assumption) ?_
              rotate_left
              · (intro w hSw; (try dsimp only at hSw); go_simp)
                try with_reducible rfl
              rotate_left
              try simp only [Act.put, List.setIfInBounds_toArray, List.set_cons_zero, List.set_cons_succ]
              refine wpAnyH_take (i := 1) (v := ?_) (by simp only [List.getElem?_toArray, List.getElem?_cons_succ, List.getElem?_cons_zero] <;> rfl) (by kernel_rfl) (by kernel_rfl) (by kernel_rfl) (fun _ _ _ h => by exact h) (Or.inl ⟨by rfl, ?_⟩) (by assumption) ?_
              rotate_left
              · (intro w hSw; (try dsimp only at hSw); go_simp)
                try with_reducible rfl
              rotate_left
              try simp only [Act.put, List.setIfInBounds_toArray, List.set_cons_zero, List.set_cons_succ]
              refine wpAnyH_take (i := 2) (v := ?_) (by simp only [List.getElem?_toArray, List.getElem?_cons_succ, List.getElem?_cons_zero] <;> rfl) (by kernel_rfl) (by kernel_rfl) (by kernel_rfl) (fun _ _ _ h => by exact h) (Or.inl ⟨by rfl, ?_⟩) (by assumption) ?_
              rotate_left
              · (intro w hSw; (try dsimp only at hSw); go_simp)
                try with_reducible rfl
              rotate_left
              try simp only [Act.put, List.setIfInBounds_toArray, List.set_cons_zero, List.set_cons_succ]
              refine wpAnyH_ready (rs := [3]) (by kernel_rfl) (by simp) (AllReadyH.cons (by simp only [List.getElem?_toArray, List.getElem?_cons_succ, List.getElem?_cons_zero] <;> rfl) (fun K' hK => ?_) AllReadyH.nil)
              clear hK
              rw [if_pos (by rfl)]
              go_simp
              refine Hnu.out.mono ?_
              intro e w8 he
              obtain ⟨rfl, hg8⟩ := he.bad P8.out
              exact ⟨rfl, PEnd.of_bad Hr.out rfl (HE7.out.gr.drew.trans hg8)⟩
          case rest =>
            obtain ⟨n, l8, vb8, k8, hn8, hk8, hd8, he8⟩ := hcut
            have Hl8 := Lib.hid (num_lenP hn8)
            have hpt : partP c fs bs l4 = (numsP (l8.length + 1) (bs ++ [(n : Int)]) l8).bind fun bs' l4 => (mustP 59 l4).bind fun _ l5 => .ok (c, fs, bs') l5 := by rw [Hpt.out, hn8]; rfl
            have Hpt := Lib.hid hpt
            have HE8 := Lib.hid he8; have Hd8 := Lib.hid hd8
            clear hpt he8 hd8 hn8 HE7 Hnu Hd7 m2 mz
            go_wp2_with fail
            go_loopw [] (fun wr => ∃ (bs' : List Int) (l : List UInt8) (vb' : Value) (f k : Nat), l.length < f ∧ numsP f bs' l = numsP (l8.length + 1) (bs ++ [(n : Int)]) l8 ∧ c + fs.length + bs'.length + l.length ≤ s.size ∧ l.length < l4.length ∧ k ≤ s.size ∧ dr s k = l ∧ MW g s w R M nm fs bs' vf vb' k wr) (fun wr => s.size - pwAt g wr)
            case atStart => exact ⟨bs ++ [(n : Int)], l8, vb8, l8.length + 1, k8, by omega, rfl, by have := Hl8.out.1; have := Hw6.out.1; have := Hel.out; have := Hsum.out; rw [List.length_append, List.length_singleton]; omega, by have := Hl8.out.1; have := Hw6.out.1; omega, hk8, Hd8.out, HE8.out⟩
            case round =>
              clear HE8 Hd8 hk8
              obtain ⟨bs', lq, vb', fq, kq, hlf, hT2, hsum, hlq, hkq, hdq, heq⟩ := hrel
              have HEq := Lib.hid heq; have Hdq := Lib.hid hdq; have HT2 := Lib.hid hT2; have Hlfq := Lib.hid hlf; have Hsumq := Lib.hid hsum; have Hlq := Lib.hid hlq
              obtain ⟨fq, rfl⟩ : ∃ f', fq = f' + 1 := ⟨fq - 1, by omega⟩
              have Hkq := Lib.hid HEq.out.pw.is
              clear heq hdq hT2 hlf hsum hlq
              have hea := eat_p g s kq 44 _ hkq (by omega) HEq.out.pw
              rw [Hdq.out] at hea
              have hitq : numsP (fq + 1) bs' lq = if (eatP 44 lq).1 then (numP 536870911 (eatP 44 lq).2).bind fun n l2 => numsP fq (bs' ++ [(n : Int)]) l2 else .ok bs' (eatP 44 lq).2 := by rw [numsP]
              have Helq := Lib.hid (eat_len 44 lq)
              generalize eatP 44 lq = ea at *
              obtain ⟨eb, lr⟩ := ea
              simp only at hea hitq Helq
              rw [HT2.out] at hitq
              have Hitq := Lib.hid hitq; have Hea := Lib.hid hea
              clear hea hitq HT2
              cases eb with
              | false =>
                have hpt : partP c fs bs l4 = (mustP 59 lr).bind fun _ l5 => .ok (c, fs, bs') l5 := by rw [Hpt.out, Hitq.out, if_neg Bool.false_ne_true]; rfl
                have Hpt := Lib.hid hpt
                clear hpt
                go_wp2_with fail
                refine Hea.out.mono ?_
                rintro e w9 ⟨rfl, ⟨k9, hk9, hd9, hp9⟩, hg9⟩
                have HE9 := Lib.hid (HEq.out.step hg9 hp9 hgw hRw)
                have Hd9 := Lib.hid hd9
                clear hd9 hp9 hg9 HEq Hea
                go_wp2_with fail
                refine (must_p g s k9 59 _ hk9 (by omega) HE9.out.pw).mono ?_
                intro e w10 he
                rw [Hd9.out] at he
                rcases p10 : mustP 59 lr with ⟨u10, l10⟩ | ⟨er, l'⟩
                · obtain ⟨v10, rfl, rfl, ⟨k10, hk10, hd10, hp10⟩, hg10⟩ := he.ok p10
                  have HE10 := Lib.hid (HE9.out.step hg10 hp10 hgw hRw)
                  have Hd10 := Lib.hid hd10
                  have Hl10 := Lib.hid (must_len p10)
                  have hpt : partP c fs bs l4 = .ok (c, fs, bs') l10 := by rw [Hpt.out, p10]; rfl
                  have Hpt := Lib.hid hpt
                  clear hd10 hp10 hg10 HE9 he p10 hpt
                  go_wp2_with fail
                  go_meet
                  exact ⟨(c, fs, bs'), l10, vf, vb', k10, Hpt.out, rfl, hk10, Hd10.out, HE10.out, by have := Hl10.out; have := Helq.out; have := Hsumq.out; simp only; omega, by have := Hl10.out; have := Helq.out; have := Hlq.out; omega⟩
                · obtain ⟨rfl, hg⟩ := he.bad p10
                  go_wp2_with fail
                  exact ⟨rfl, PEnd.of_bad (by rw [Hit.out, Hpt.out, p10]; rfl) rfl (HE9.out.gr.trans hg)⟩
              | true =>
                have hitq : numsP (l8.length + 1) (bs ++ [(n : Int)]) l8 = (numP 536870911 lr).bind fun n l2 => numsP fq (bs' ++ [(n : Int)]) l2 := Hitq.out
                have Hitq := Lib.hid hitq
                clear hitq
                go_wp2_with fail
                refine Hea.out.mono ?_
                rintro e w9 ⟨rfl, ⟨k9, hk9, hd9, hp9⟩, hg9⟩
                have HE9 := Lib.hid (HEq.out.step hg9 hp9 hgw hRw)
                have Hd9 := Lib.hid hd9
                clear hd9 hp9 hg9 HEq Hea
                have hnu := num_p g s k9 536870911 w9.drew hk9 (by omega) (by omega) hgr ((Hev.out.gr HE9.out.gr hgr).up (Up.refl _).drew) (HE9.out.pw.up (Up.refl _).drew)
                rw [Hd9.out] at hnu
                have Hnu := Lib.hid hnu
                have m2 : w9.cell? ⟨M, 2, none⟩ = some vb' := cell_of_row w9 M 2 _ _ _ HE9.out.m
                have mz := lt_of_block HE9.out.m
                clear hnu
                generalize w9 = wq at *
                have HEr := HE9
                clear HE9
                go_wp2_with fail
                rcases p8 : numP 536870911 lr with ⟨nq, l9⟩ | ⟨er, l'⟩
                · have P8 := Lib.hid p8
                  have Hnl := Lib.hid (num_lenP p8)
                  have HOK : Hid (okI (nq : Int)) := Lib.hid (by have := Hnl.out.2; exact ⟨by omega, by omega⟩)
                  have Hbl := Lib.hid (show bs'.length ≤ 1000000 by have := Hsumq.out; omega)
                  have hbl := Hbl.out
                  clear p8
                  go_region_law (first
                    | (go_simp; go_at_call 143; refine Hnu.out.mono ?_; intro e w8 he; obtain ⟨v8, rfl, rfl, ⟨k8, hk8, hd8, hp8⟩, hg8⟩ := he.ok P8.out; have HE8 := Lib.hid ((HEr.out.up (Up.refl _).drew).step hg8 hp8 hgw hRw); obtain ⟨xs, hxs⟩ := HE8.out.ob.own; have Hxs := Lib.hid hxs; have m2 : w8.cell? ⟨M, 2, none⟩ = some vb' := cell_of_row w8 M 2 _ _ _ HE8.out.m; have mz := lt_of_block HE8.out.m; have Hd8 := Lib.hid hd8; clear hd8 hp8 hg8 he hxs)
                    | (refine step_app1 eNum _ (by rfl) _ _ (by rfl) (M + 1) _ _ _ (by rfl) Hxs.out _ (by rfl) (by first | rfl | simp) (by rfl) (oc (by rfl)) (by omega) (by unfold maxLen; omega) (by first | omega | (simp; omega)) ?_; intro v9 w9 how9 hev9; obtain ⟨a9, c9, rfl⟩ := own_val how9; have hb9 := hev9.blk HE8.out.m (fun e => by have := (HE8.out.ob.lo _ e).1; omega); have m1 := cell_of_row w9 M 1 _ _ _ hb9; have m2 := cell_of_row w9 M 2 _ _ _ hb9; have mf := fun o => frozen_of_row w9 M o _ _ hb9; have mz := lt_of_block hb9; have HE9 := Lib.hid (MW.snocB (n := (nq : Int)) HE8.out Hxs.out how9 hev9 HOK.out hgw hRw (by rw [HR.out]; omega)); clear hb9 how9 hev9))
                  all_goals
                    go_wp2_with fail
                    refine ⟨⟨bs' ++ [(nq : Int)], l9, _, fq, k8, by have := Hnl.out.1; have := Helq.out; have := Hlfq.out; omega, by rw [Hitq.out, P8.out]; rfl, by have := Hnl.out.1; have := Helq.out; have := Hsumq.out; rw [List.length_append, List.length_singleton]; omega, by have := Hnl.out.1; have := Helq.out; have := Hlq.out; omega, hk8, Hd8.out, HE9.out⟩, ?_⟩
                    rw [HE9.out.pw.is, Hkq.out]
                    have h1 := dr_len s k8
                    have h2 := dr_len s kq
                    rw [Hd8.out] at h1; rw [Hdq.out] at h2
                    have := Hnl.out.1; have := Helq.out
                    omega
                · have Hr := Lib.hid (show messageP (dr s k0) = .bad er l' by rw [Hit.out, Hpt.out, Hitq.out, p8]; rfl)
                  have P8 := Lib.hid p8
                  clear p8
                  have hHeld0 : wq.drew.cell? ⟨M, 2, none⟩ = some vb' := (Up.refl _).drew.cell_some m2
                  refine wp_region_held_drew (S := fun w' => w'.cell? ⟨M, 2, none⟩ = some vb') (by kernel_rfl) hHeld0 (fun hHeld => ?_)
                  refine wpAnyH_take (i := 0) (v := ?_) (by simp only [List.getElem?_toArray, List.getElem?_cons_zero] <;> rfl) (by kernel_rfl) (by kernel_rfl) (by kernel_rfl) (fun _ _ _ h => by exact h) (Or.inl ⟨by rfl, ?_⟩) (by assumption) ?_
                  rotate_left
                  · (intro w hSw; (try dsimp only at hSw); go_simp)
                    try with_reducible rfl
                  rotate_left
                  try simp only [Act.put, List.setIfInBounds_toArray, List.set_cons_zero, List.set_cons_succ]
                  refine wpAnyH_take (i := 1) (v := ?_) (by simp only [List.getElem?_toArray, List.getElem?_cons_succ, List.getElem?_cons_zero] <;> rfl) (by kernel_rfl) (by kernel_rfl) (by kernel_rfl) (fun _ _ _ h => by exact h) (Or.inl ⟨by rfl, ?_⟩) (by assumption) ?_
                  rotate_left
                  · (intro w hSw; (try dsimp only at hSw); go_simp)
                    try with_reducible rfl
                  rotate_left
                  try simp only [Act.put, List.setIfInBounds_toArray, List.set_cons_zero, List.set_cons_succ]
                  refine wpAnyH_take (i := 2) (v := ?_) (by simp only [List.getElem?_toArray, List.getElem?_cons_succ, List.getElem?_cons_zero] <;> rfl) (by kernel_rfl) (by kernel_rfl) (by kernel_rfl) (fun _ _ _ h => by exact h) (Or.inl ⟨by rfl, ?_⟩) (by assumption) ?_
                  rotate_left
                  · (intro w hSw; (try dsimp only at hSw); go_simp)
                    try with_reducible rfl
                  rotate_left
                  try simp only [Act.put, List.setIfInBounds_toArray, List.set_cons_zero, List.set_cons_succ]
                  refine wpAnyH_ready (rs := [3]) (by kernel_rfl) (by simp) (AllReadyH.cons (by simp only [List.getElem?_toArray, List.getElem?_cons_succ, List.getElem?_cons_zero] <;> rfl) (fun K' hK => ?_) AllReadyH.nil)
                  clear hK
                  rw [if_pos (by rfl)]
                  go_simp
                  refine Hnu.out.mono ?_
                  intro e w8 he
                  obtain ⟨rfl, hg8⟩ := he.bad P8.out
                  exact ⟨rfl, PEnd.of_bad Hr.out rfl (HEr.out.gr.drew.trans hg8)⟩
        · have e1 : (nm2 == [114, 101, 115, 101, 114, 118, 101, 100]) = false := by rw [beq_eq_false_iff_ne]; exact hrs
          by_cases hof : nm2 = wOneof
          · have e2 : (nm2 == [111, 110, 101, 111, 102]) = true := by rw [hof]; rfl
            have hpt : partP c fs bs l4 = (mustP 123 l6).bind fun _ l3 => (choiceP (l3.length + 1) (c + 1) fs l3).bind fun fs' l4 => .ok (c + 1, fs', bs) l4 := by rw [partP, P6.out, PR.bind_ok, if_neg hrs, if_pos hof]
            have Hpt := Lib.hid hpt
            have Hw6 := Lib.hid (word_len P6.out)
            have hc1 : (c : Int) + 1 = ((c + 1 : Nat) : Int) := by omega
            have Hc1 := Lib.hid hc1
            have hcb : c ≤ 1000000 := by have := Hsum.out; omega
            clear hrs hof hpt hc1
            go_wp2_with fail
            refine (word_p g s k6 _ hk6 (by omega) HE6.out.pw).mono ?_
            intro e w7 he
            rw [Hd6.out] at he
            obtain ⟨v7, rfl, rfl, ⟨k7, hk7, hd7, hp7⟩, hg7⟩ := he.ok P6.out
            have HE7 := Lib.hid (HE6.out.step hg7 hp7 hgw hRw)
            have Hd7 := Lib.hid hd7
            clear hd7 hp7 hg7 he HE6 Hd6
            go_wp2_with fail
            refine (must_p g s k7 123 _ hk7 (by omega) HE7.out.pw).mono ?_
            intro e w8 he
            rw [Hd7.out] at he
            rcases p8 : mustP 123 l6 with ⟨u8, l8⟩ | ⟨er, l'⟩
            rotate_left
            · obtain ⟨rfl, hg⟩ := he.bad p8
              go_wp2_with fail
              exact ⟨rfl, PEnd.of_bad (by rw [Hit.out, Hpt.out, p8]; rfl) rfl (HE7.out.gr.trans hg)⟩
            obtain ⟨v8, rfl, rfl, ⟨k8, hk8, hd8, hp8⟩, hg8⟩ := he.ok p8
            have HE8 := Lib.hid (HE7.out.step hg8 hp8 hgw hRw)
            have Hd8 := Lib.hid hd8
            have Hl8 := Lib.hid (must_len p8)
            have hpt : partP c fs bs l4 = (choiceP (l8.length + 1) (c + 1) fs l8).bind fun fs' l4 => .ok (c + 1, fs', bs) l4 := by rw [Hpt.out, p8]; rfl
            have Hpt := Lib.hid hpt
            clear hd8 hp8 hg8 he HE7 Hd7 p8 hpt
            go_wp2_with fail
            go_loopw [] (fun wr => ∃ (fs' : List Fld) (l : List UInt8) (vf' : Value) (f k : Nat), l.length < f ∧ choiceP f (c + 1) fs' l = choiceP (l8.length + 1) (c + 1) fs l8 ∧ c + 1 + fs'.length + bs.length + l.length ≤ s.size ∧ l.length < l4.length ∧ k ≤ s.size ∧ dr s k = l ∧ MW g s w R M nm fs' bs vf' vb k wr) (fun wr => s.size - pwAt g wr)
            case atStart => exact ⟨fs, l8, vf, l8.length + 1, k8, by omega, rfl, by have := Hl8.out; have := Hw6.out.1; have := Hel.out; have := Hsum.out; omega, by have := Hl8.out; have := Hw6.out.1; omega, hk8, Hd8.out, HE8.out⟩
            case round =>
              clear HE8 Hd8 hk8
              obtain ⟨fs', lq, vf', fq, kq, hlf, hT2, hsum, hlq, hkq, hdq, heq⟩ := hrel
              have HEq := Lib.hid heq; have Hdq := Lib.hid hdq; have HT2 := Lib.hid hT2; have Hlfq := Lib.hid hlf; have Hsumq := Lib.hid hsum; have Hlq := Lib.hid hlq
              obtain ⟨fq, rfl⟩ : ∃ f', fq = f' + 1 := ⟨fq - 1, by omega⟩
              have Hkq := Lib.hid HEq.out.pw.is
              clear heq hdq hT2 hlf hsum hlq
              have hea := eat_p g s kq 125 _ hkq (by omega) HEq.out.pw
              rw [Hdq.out] at hea
              have hitq : choiceP (fq + 1) (c + 1) fs' lq = if (eatP 125 lq).1 then .ok fs' (eatP 125 lq).2 else (fieldP (c + 1) (eatP 125 lq).2).bind fun x l2 => choiceP fq (c + 1) (fs' ++ [x]) l2 := by rw [choiceP]
              have Helq := Lib.hid (eat_len 125 lq)
              generalize eatP 125 lq = ea at *
              obtain ⟨eb, lr⟩ := ea
              simp only at hea hitq Helq
              rw [HT2.out] at hitq
              have Hitq := Lib.hid hitq; have Hea := Lib.hid hea
              clear hea hitq HT2
              cases eb with
              | true =>
                have hpt : partP c fs bs l4 = .ok (c + 1, fs', bs) lr := by rw [Hpt.out, Hitq.out]; rfl
                have Hpt := Lib.hid hpt
                clear hpt
                go_wp2_with fail
                refine Hea.out.mono ?_
                rintro e w9 ⟨rfl, ⟨k9, hk9, hd9, hp9⟩, hg9⟩
                have HE9 := Lib.hid (HEq.out.step hg9 hp9 hgw hRw)
                have Hd9 := Lib.hid hd9
                clear hd9 hp9 hg9 HEq Hea
                go_wp2_with fail
                go_meet
                exact ⟨(c + 1, fs', bs), lr, vf', vb, k9, Hpt.out, by first | rfl | (rw [← Hc1.out]), hk9, Hd9.out, HE9.out, by have := Helq.out; have := Hsumq.out; simp only; omega, by have := Helq.out; have := Hlq.out; omega⟩
              | false =>
                have hitq : choiceP (l8.length + 1) (c + 1) fs l8 = (fieldP (c + 1) lr).bind fun x l2 => choiceP fq (c + 1) (fs' ++ [x]) l2 := by rw [Hitq.out, if_neg Bool.false_ne_true]
                have Hitq := Lib.hid hitq
                clear hitq
                go_wp2_with fail
                refine Hea.out.mono ?_
                rintro e w9 ⟨rfl, ⟨k9, hk9, hd9, hp9⟩, hg9⟩
                have HEr := Lib.hid (HEq.out.step hg9 hp9 hgw hRw)
                have Hd9 := Lib.hid hd9
                clear hd9 hp9 hg9 HEq Hea
                generalize w9 = wq at *
                have hfl := field_pp g s k9 (c + 1) wq.drew hk9 (by omega) hgr ((Hev.out.gr HEr.out.gr hgr).up (Up.refl _).drew) (HEr.out.pw.up (Up.refl _).drew)
                rw [Hd9.out, ← Hc1.out] at hfl
                have Hfl := Lib.hid hfl
                have m1 : wq.cell? ⟨M, 1, none⟩ = some vf' := cell_of_row wq M 1 _ _ _ HEr.out.m
                have mz := lt_of_block HEr.out.m
                clear hfl
                go_wp2_with fail
                rcases p8 : fieldP (c + 1) lr with ⟨x, l9⟩ | ⟨er, l'⟩
                · have P8 := Lib.hid p8
                  have Hfo := Lib.hid (field_len p8)
                  have hbl : fs'.length ≤ 1000000 := by have := Hsumq.out; omega
                  clear p8
                  have HOK : Hid (okI x.number ∧ okI x.kind ∧ okI x.choice ∧ okS x.name ∧ okS x.type) := Lib.hid (by
                    obtain ⟨_, ⟨a1, a2, a3, a4, a5, a6⟩, a7⟩ := Hfo.out
                    have := Hsum.out
                    refine ⟨⟨by omega, by omega⟩, ⟨by omega, by omega⟩, ⟨by omega, by omega⟩, by unfold okS; omega, by unfold okS; omega⟩)
                  go_region_law (first
                    | (go_simp; go_at_call 144; refine Hfl.out.mono ?_; intro e w8 he; obtain ⟨v8, rfl, hv8, ⟨k8, hk8, hd8, hp8⟩, hg8⟩ := he.ok P8.out; obtain rfl : v8 = .agg #[.string ⟨x.name.toArray⟩, .int .i64 x.number, .int .i64 x.kind, .string ⟨x.type.toArray⟩, .bool x.many, .int .i64 x.choice] := hv8; have HE8 := Lib.hid ((HEr.out.up (Up.refl _).drew).step hg8 hp8 hgw hRw); obtain ⟨xs, hxs⟩ := HE8.out.of.own; have Hxs := Lib.hid hxs; have m1 : w8.cell? ⟨M, 1, none⟩ = some vf' := cell_of_row w8 M 1 _ _ _ HE8.out.m; have mz := lt_of_block HE8.out.m; have Hd8 := Lib.hid hd8; clear hd8 hp8 hg8 he hxs)
                    | (refine step_app1 eFld _ (by rfl) _ _ (by rfl) (M + 1) _ _ _ (by rfl) Hxs.out _ (by rfl) (by first | rfl | simp) (by rfl) (oc (by rfl)) (by omega) (by unfold maxLen; omega) (by first | omega | (simp; omega)) ?_; intro v9 w9 how9 hev9; obtain ⟨a9, c9, rfl⟩ := own_val how9; have hb9 := hev9.blk HE8.out.m (fun e => by have := (HE8.out.of.lo _ e).1; omega); have m1 := cell_of_row w9 M 1 _ _ _ hb9; have m2 := cell_of_row w9 M 2 _ _ _ hb9; have mf := fun o => frozen_of_row w9 M o _ _ hb9; have mz := lt_of_block hb9; have HE9 := Lib.hid (MW.snocF (x := x) HE8.out Hxs.out how9 hev9 HOK.out hgw hRw (by rw [HR.out]; omega)); clear hb9 how9 hev9))
                  all_goals
                    go_wp2_with fail
                    refine ⟨⟨fs' ++ [x], l9, _, fq, k8, by have := Hfo.out.1; have := Helq.out; have := Hlfq.out; omega, by rw [Hitq.out, P8.out]; rfl, by have := Hfo.out.1; have := Helq.out; have := Hsumq.out; rw [List.length_append, List.length_singleton]; omega, by have := Hfo.out.1; have := Helq.out; have := Hlq.out; omega, hk8, Hd8.out, HE9.out⟩, ?_⟩
                    rw [HE9.out.pw.is, Hkq.out]
                    have h1 := dr_len s k8
                    have h2 := dr_len s kq
                    rw [Hd8.out] at h1; rw [Hdq.out] at h2
                    have := Hfo.out.1; have := Helq.out
                    omega
                · have Hr := Lib.hid (show messageP (dr s k0) = .bad er l' by rw [Hit.out, Hpt.out, Hitq.out, p8]; rfl)
                  have P8 := Lib.hid p8
                  clear p8
                  have hHeld0 : wq.drew.cell? ⟨M, 1, none⟩ = some vf' := (Up.refl _).drew.cell_some m1
                  refine wp_region_held_drew (S := fun w' => w'.cell? ⟨M, 1, none⟩ = some vf') (by kernel_rfl) hHeld0 (fun hHeld => ?_)
                  refine wpAnyH_take (i := 0) (v := ?_) (by simp only [List.getElem?_toArray, List.getElem?_cons_zero] <;> rfl) (by kernel_rfl) (by kernel_rfl) (by kernel_rfl) (fun _ _ _ h => by exact h) (Or.inl ⟨by rfl, ?_⟩) (by assumption) ?_
                  rotate_left
                  · (intro w hSw; (try dsimp only at hSw); go_simp)
                    try with_reducible rfl
                  rotate_left
                  try simp only [Act.put, List.setIfInBounds_toArray, List.set_cons_zero, List.set_cons_succ]
                  refine wpAnyH_take (i := 1) (v := ?_) (by simp only [List.getElem?_toArray, List.getElem?_cons_succ, List.getElem?_cons_zero] <;> rfl) (by kernel_rfl) (by kernel_rfl) (by kernel_rfl) (fun _ _ _ h => by exact h) (Or.inl ⟨by rfl, ?_⟩) (by assumption) ?_
                  rotate_left
                  · (intro w hSw; (try dsimp only at hSw); go_simp)
                    try with_reducible rfl
                  rotate_left
                  try simp only [Act.put, List.setIfInBounds_toArray, List.set_cons_zero, List.set_cons_succ]
                  refine wpAnyH_take (i := 2) (v := ?_) (by simp only [List.getElem?_toArray, List.getElem?_cons_succ, List.getElem?_cons_zero] <;> rfl) (by kernel_rfl) (by kernel_rfl) (by kernel_rfl) (fun _ _ _ h => by exact h) (Or.inl ⟨by rfl, ?_⟩) (by assumption) ?_
                  rotate_left
                  · (intro w hSw; (try dsimp only at hSw); go_simp)
                    try with_reducible rfl
                  rotate_left
                  try simp only [Act.put, List.setIfInBounds_toArray, List.set_cons_zero, List.set_cons_succ]
                  refine wpAnyH_take (i := 3) (v := ?_) (by simp only [List.getElem?_toArray, List.getElem?_cons_succ, List.getElem?_cons_zero] <;> rfl) (by kernel_rfl) (by kernel_rfl) (by kernel_rfl) (fun _ _ _ h => by exact h) (Or.inl ⟨by rfl, ?_⟩) (by assumption) ?_
                  rotate_left
                  · (intro w hSw; (try dsimp only at hSw); go_simp)
                    try with_reducible rfl
                  rotate_left
                  try simp only [Act.put, List.setIfInBounds_toArray, List.set_cons_zero, List.set_cons_succ]
                  refine wpAnyH_ready (rs := [4]) (by kernel_rfl) (by simp) (AllReadyH.cons (by simp only [List.getElem?_toArray, List.getElem?_cons_succ, List.getElem?_cons_zero] <;> rfl) (fun K' hK => ?_) AllReadyH.nil)
                  clear hK
                  rw [if_pos (by rfl)]
                  go_simp
                  refine Hfl.out.mono ?_
                  intro e w8 he
                  obtain ⟨rfl, hg8⟩ := he.bad P8.out
                  exact ⟨rfl, PEnd.of_bad Hr.out rfl (HEr.out.gr.drew.trans hg8)⟩
          · have e2 : (nm2 == [111, 110, 101, 111, 102]) = false := by rw [beq_eq_false_iff_ne]; exact hof
            have hpt : partP c fs bs l4 = (fieldP 0 l4).bind fun x l3 => .ok (c, fs ++ [x], bs) l3 := by rw [partP, P6.out, PR.bind_ok, if_neg hrs, if_neg hof]
            have Hpt := Lib.hid hpt
            clear hrs hof hpt
            have hfl := field_pp g s k6 0 w6.drew hk6 (by omega) hgr ((Hev.out.gr HE6.out.gr hgr).up (Up.refl _).drew) (HE6.out.pw.up (Up.refl _).drew)
            rw [Hd6.out] at hfl
            have Hfl := Lib.hid hfl
            have m1 : w6.cell? ⟨M, 1, none⟩ = some vf := cell_of_row w6 M 1 _ _ _ HE6.out.m
            have mz := lt_of_block HE6.out.m
            clear hfl
            go_wp2_with fail
            rcases p8 : fieldP 0 l4 with ⟨x, l8⟩ | ⟨er, l'⟩
            · have P8 := Lib.hid p8
              have Hfo := Lib.hid (field_len p8)
              clear p8
              have HOK : Hid (okI x.number ∧ okI x.kind ∧ okI x.choice ∧ okS x.name ∧ okS x.type) := Lib.hid (by
                obtain ⟨_, ⟨a1, a2, a3, a4, a5, a6⟩, a7⟩ := Hfo.out
                have := Hsum.out
                refine ⟨⟨by omega, by omega⟩, ⟨by omega, by omega⟩, ⟨by omega, by omega⟩, by unfold okS; omega, by unfold okS; omega⟩)
              go_region_law (first
                | (go_simp; go_at_call 144; refine Hfl.out.mono ?_; intro e w8 he; obtain ⟨v8, rfl, hv8, ⟨k8, hk8, hd8, hp8⟩, hg8⟩ := he.ok P8.out; obtain rfl : v8 = .agg #[.string ⟨x.name.toArray⟩, .int .i64 x.number, .int .i64 x.kind, .string ⟨x.type.toArray⟩, .bool x.many, .int .i64 x.choice] := hv8; have HE8 := Lib.hid ((HE6.out.up (Up.refl _).drew).step hg8 hp8 hgw hRw); obtain ⟨xs, hxs⟩ := HE8.out.of.own; have Hxs := Lib.hid hxs; have m1 : w8.cell? ⟨M, 1, none⟩ = some vf := cell_of_row w8 M 1 _ _ _ HE8.out.m; have mz := lt_of_block HE8.out.m; have Hd8 := Lib.hid hd8; clear hd8 hp8 hg8 he hxs)
                | (refine step_app1 eFld _ (by rfl) _ _ (by rfl) (M + 1) _ _ _ (by rfl) Hxs.out _ (by rfl) (by first | rfl | simp) (by rfl) (oc (by rfl)) (by omega) (by unfold maxLen; omega) (by first | omega | (simp; omega)) ?_; intro v9 w9 how9 hev9; obtain ⟨a9, c9, rfl⟩ := own_val how9; have hb9 := hev9.blk HE8.out.m (fun e => by have := (HE8.out.of.lo _ e).1; omega); have m1 := cell_of_row w9 M 1 _ _ _ hb9; have m2 := cell_of_row w9 M 2 _ _ _ hb9; have mf := fun o => frozen_of_row w9 M o _ _ hb9; have mz := lt_of_block hb9; have HE9 := Lib.hid (MW.snocF (x := x) HE8.out Hxs.out how9 hev9 HOK.out hgw hRw (by rw [HR.out]; omega)); clear hb9 how9 hev9))
              all_goals
                go_wp2_with fail
                go_meet
                exact ⟨(c, fs ++ [x], bs), l8, _, vb, k8, by rw [Hpt.out, P8.out]; rfl, rfl, hk8, Hd8.out, HE9.out, by have := Hfo.out.1; have := Hel.out; have := Hsum.out; simp only [List.length_append, List.length_singleton]; omega, Hfo.out.1⟩
            · have Hr := Lib.hid (show messageP (dr s k0) = .bad er l' by rw [Hit.out, Hpt.out, p8]; rfl)
              have P8 := Lib.hid p8
              clear p8
              have hHeld0 : w6.drew.cell? ⟨M, 1, none⟩ = some vf := (Up.refl _).drew.cell_some m1
              refine wp_region_held_drew (S := fun w' => w'.cell? ⟨M, 1, none⟩ = some vf) (by kernel_rfl) hHeld0 (fun hHeld => ?_)
              refine wpAnyH_take (i := 0) (v := ?_) (by simp only [List.getElem?_toArray, List.getElem?_cons_zero] <;> rfl) (by kernel_rfl) (by kernel_rfl) (by kernel_rfl) (fun _ _ _ h => by exact h) (Or.inl ⟨by rfl, ?_⟩) (by assumption) ?_
              rotate_left
              · (intro w hSw; (try dsimp only at hSw); go_simp)
                try with_reducible rfl
              rotate_left
              try simp only [Act.put, List.setIfInBounds_toArray, List.set_cons_zero, List.set_cons_succ]
              refine wpAnyH_take (i := 1) (v := ?_) (by simp only [List.getElem?_toArray, List.getElem?_cons_succ, List.getElem?_cons_zero] <;> rfl) (by kernel_rfl) (by kernel_rfl) (by kernel_rfl) (fun _ _ _ h => by exact h) (Or.inl ⟨by rfl, ?_⟩) (by assumption) ?_
              rotate_left
              · (intro w hSw; (try dsimp only at hSw); go_simp)
                try with_reducible rfl
              rotate_left
              try simp only [Act.put, List.setIfInBounds_toArray, List.set_cons_zero, List.set_cons_succ]
              refine wpAnyH_take (i := 2) (v := ?_) (by simp only [List.getElem?_toArray, List.getElem?_cons_succ, List.getElem?_cons_zero] <;> rfl) (by kernel_rfl) (by kernel_rfl) (by kernel_rfl) (fun _ _ _ h => by exact h) (Or.inl ⟨by rfl, ?_⟩) (by assumption) ?_
              rotate_left
              · (intro w hSw; (try dsimp only at hSw); go_simp)
                try with_reducible rfl
              rotate_left
              try simp only [Act.put, List.setIfInBounds_toArray, List.set_cons_zero, List.set_cons_succ]
              refine wpAnyH_ready (rs := [3]) (by kernel_rfl) (by simp) (AllReadyH.cons (by simp only [List.getElem?_toArray, List.getElem?_cons_succ, List.getElem?_cons_zero] <;> rfl) (fun K' hK => ?_) AllReadyH.nil)
              clear hK
              rw [if_pos (by rfl)]
              go_simp
              refine Hfl.out.mono ?_
              intro e w8 he
              obtain ⟨rfl, hg8⟩ := he.bad P8.out
              exact ⟨rfl, PEnd.of_bad Hr.out rfl (HE6.out.gr.drew.trans hg8)⟩
      case rest =>
        obtain ⟨⟨c7, fs7, bs7⟩, l7, vf7, vb7, k7, hpt, rfl, hk7, hd7, he7, hs7, hl7⟩ := hcut
        simp only at he7 hs7
        have hit : messageP (dr s k0) = if 16 < fs7.length ∨ 16 < bs7.length then .bad 5 l7 else messP f nm c7 fs7 bs7 l7 := by rw [Hit.out, hpt]; rfl
        have Hit := Lib.hid hit; have HE7 := Lib.hid he7; have Hd7 := Lib.hid hd7; have Hs7 := Lib.hid hs7; have Hl7 := Lib.hid hl7
        obtain ⟨a7, q7, rfl⟩ := own_val he7.of.own.choose_spec
        obtain ⟨b7, r7, rfl⟩ := own_val he7.ob.own.choose_spec
        have m1 := cell_of_row wc M 1 _ _ _ HE7.out.m; have m2 := cell_of_row wc M 2 _ _ _ HE7.out.m
        clear hit hpt he7 hd7 hs7 hl7 HE6 Hd6 P6
        have hcs : 16 < fs7.length ∨ (fs7.length ≤ 16 ∧ 16 < bs7.length) ∨ (fs7.length ≤ 16 ∧ bs7.length ≤ 16) := by omega
        rcases hcs with h1 | ⟨h1, h2⟩ | ⟨h1, h2⟩
        · have j1 : (16 : Int) < (fs7.length : Int) := by omega
          have Hb := Lib.hid (show messageP (dr s k0) = .bad 5 l7 by rw [Hit.out, if_pos (.inl h1)])
          go_wp2_with fail
          refine (fail_p g s k7 5 _ HE7.out.pw).mono ?_
          rintro e w14 ⟨rfl, hu14⟩
          go_wp2_with fail
          exact ⟨rfl, PEnd.of_bad Hb.out (by rw [← Hd7.out, dr_len]; omega) (HE7.out.gr.up hu14)⟩
        · have j1 : ¬ (16 : Int) < (fs7.length : Int) := by omega
          have j2 : (16 : Int) < (bs7.length : Int) := by omega
          have Hb := Lib.hid (show messageP (dr s k0) = .bad 5 l7 by rw [Hit.out, if_pos (.inr h2)])
          go_wp2_with fail
          refine (fail_p g s k7 5 _ HE7.out.pw).mono ?_
          rintro e w14 ⟨rfl, hu14⟩
          go_wp2_with fail
          exact ⟨rfl, PEnd.of_bad Hb.out (by rw [← Hd7.out, dr_len]; omega) (HE7.out.gr.up hu14)⟩
        · have j1 : ¬ (16 : Int) < (fs7.length : Int) := by omega
          have j2 : ¬ (16 : Int) < (bs7.length : Int) := by omega
          have Hb := Lib.hid (show messageP (dr s k0) = messP f nm c7 fs7 bs7 l7 by rw [Hit.out, if_neg (by omega)])
          go_wp2_with fail
          refine ⟨⟨c7, fs7, bs7, l7, _, _, f, k7, rfl, by have := Hl7.out; have := Hel.out; have := Hlf.out; omega, by rw [← HT.out, Hb.out], h1, h2, Hs7.out, hk7, Hd7.out, HE7.out⟩, ?_⟩
          rw [HE7.out.pw.is, Hat.out]
          have h1 := dr_len s k7
          have h2 := dr_len s k
          rw [Hd7.out] at h1; rw [Hd.out] at h2
          have := Hl7.out; have := Hel.out
          omega
end Go.Proofs.YtbceapeoknngnaaGreatDoor
