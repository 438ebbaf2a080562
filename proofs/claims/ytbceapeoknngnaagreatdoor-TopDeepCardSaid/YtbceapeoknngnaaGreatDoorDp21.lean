/-
  (*writer).value, of what is not packed.
-/
import Derived.Test.YtbceapeoknngnaaGreatDoorDp20
set_option linter.unusedVariables false
namespace Go.Proofs.YtbceapeoknngnaaGreatDoor
open Go.RowKit
set_option maxRecDepth 100000 in
set_option maxHeartbeats 12800000 in
theorem wvalue_flat (k d : Nat) (f : Fil) (ih : WBodC k d f) (x : Fld) (v : Val) (cb fb bf fo b o base : Nat) (vb : Value) (l : List UInt8) (a1 a2 a3 : Option Addr) (c1 c2 c3 : Nat) (w0 w : World) (hu0 : Up w0 w) (hbs : w0.heap.size ≤ base)
    (hc : ChkAt w0 cb fb f) (hx : FldAt w0 bf fo x) (hv : ValAt w0 b o v a1 a2 a3 c1 c2 c3) (hd : DValD d All w0 v [.int .i64 v.1, .slice a1 v.2.1.length c1, .slice a2 v.2.2.1.length c2, .slice a3 v.2.2.2.length c3]) (n1 : 1 ≤ x.number) (n2 : x.number < 536870912)
    (hm : ¬ (x.many = true ∧ howC x.kind ≠ 2)) (hbit : ∀ n ∈ v.2.1, howC x.kind ≠ 2 ∧ (x.kind = 7 → n < 4294967296)) (hsub : ∀ s ∈ v.2.2.2, 0 ≤ msgI f x.type ∧ wrongB f k (msgI f x.type) s = 0)
    (hlen : (l ++ (v.2.1.flatMap (rec1 x) ++ (v.2.2.1.flatMap (recS x.number) ++ v.2.2.2.flatMap (fun s => recS x.number (rawB f k (msgI f x.type) s))))).length ≤ 1099511627776 - 8200)
    (hown : w.ownsRow base 5 1 vb l.length (B8 l)) (hb : base ≤ w.heap.size) :
    Calls Tryz.prog 65 #[.pointer (some ⟨cb, 0, none⟩), vb, .pointer (some ⟨bf, fo, none⟩), .pointer (some ⟨b, o, none⟩)] w fun e w' => ∃ v', e = .returned v' ∧ w'.ownsRow base 5 1 v' (l ++ (v.2.1.flatMap (rec1 x) ++ (v.2.2.1.flatMap (recS x.number) ++ v.2.2.2.flatMap (fun s => recS x.number (rawB f k (msgI f x.type) s))))).length (B8 (l ++ (v.2.1.flatMap (rec1 x) ++ (v.2.2.1.flatMap (recS x.number) ++ v.2.2.2.flatMap (fun s => recS x.number (rawB f k (msgI f x.type) s)))))) ∧ Evo w w' vb v' := by
  obtain ⟨T, hT⟩ : ∃ T, l ++ (v.2.1.flatMap (rec1 x) ++ (v.2.2.1.flatMap (recS x.number) ++ v.2.2.2.flatMap (fun s => recS x.number (rawB f k (msgI f x.type) s)))) = T := ⟨_, rfl⟩
  rw [hT] at hlen ⊢
  have HT := Lib.hid hT; clear hT
  obtain ⟨ab, cbp, rfl, _, _⟩ := (rdB_of_owns (S := All) hown (fun _ _ => trivial)).val
  have hmf : ∀ (fn : Fn) (first cap : Array Value) (w : World), (Instr.makeFunc fn first cap).run Tryz.prog w = .ok (.func fn first cap) w := fun _ _ _ _ => rfl
  obtain ⟨p1, g1, p2, g2, p3, g3, he, hn, hx1, hx2, hx3, zx⟩ := val_cells hd
  simp only [List.cons.injEq, Value.slice.injEq, true_and, and_true] at he
  obtain ⟨⟨rfl, rfl⟩, ⟨rfl, rfl⟩, rfl, rfl⟩ := he
  obtain ⟨zb, zy, zs⟩ := zx
  have Ih := Lib.hid ih
  obtain ⟨hxb, ⟨x0, x1, x2, x3, x4, x5⟩, hxd⟩ := hx
  obtain ⟨_, v1, v2, v3⟩ := hv
  have Hx1 := Lib.hid hx1; have Hx2 := Lib.hid (hx2.keep stable_bytes Keep.lt); have Hx3 := Lib.hid hx3; have Hc := Lib.hid hc
  have HX := Lib.hid (And.intro x1 (And.intro x2 (And.intro x3 (And.intro v1 (And.intro v2 v3)))))
  have Hbit := Lib.hid hbit; have Hsub := Lib.hid hsub; have Hl := Lib.hid hlen; have Hown := Lib.hid hown
  have HU := Lib.hid (fun W u (h : Evo w W (.slice ab l.length cbp) u) => hu0.evo h (fun j hj => Nat.le_trans hbs (hown.lt j hj).1))
  have hlt1 : b < w0.heap.size := World.block_lt_of_cell? w0 _ v1
  have hz0 := hu0.size
  have ub := hu0.alloc (.cells #[.pointer (some ⟨bf, fo, none⟩)] 64)
  have y2 := ub.cell_some x2
  have y4 := ub.cell_some x4
  have y8 := ub.cell_some v1
  have hhw := Lib.hid (how_c x.kind)
  clear hc hd hx1 hx2 hx3 hbit hsub hlen hown ih x0 x1 x2 x3 x5 x4 v1 v2 v3 hxd
  have hne2 : x.many = true → (howC x.kind != 2) = false := fun h => by
    by_cases g : howC x.kind = 2
    · rw [g]; rfl
    · exact absurd ⟨h, g⟩ hm
  have Hm := Lib.hid hm; clear hm
  go_enter Tryz.func65, Tryz.ntmps65
  cases hmc : x.many
  all_goals
    rw [hmc] at y4
    try have hne3 := hne2 hmc
    clear hne2
    go_upto_region 4 with (go_at_call 21; go_must (refine (hhw.out _).mono ?_; rintro e w1 ⟨rfl, rfl⟩))
    have hbx : (w.alloc (.cells #[.pointer (some ⟨bf, fo, none⟩)] 64)).heap[w.heap.size]? = some (.cells #[.pointer (some ⟨bf, fo, none⟩)] 64 (0, 0)) := heap_alloc_new w _
    have how := Hown.out.alloc (.cells #[.pointer (some ⟨bf, fo, none⟩)] 64)
    have hev0 : Evo w (w.alloc (.cells #[.pointer (some ⟨bf, fo, none⟩)] 64)) (Value.slice ab l.length cbp) (Value.slice ab l.length cbp) := Evo.of_alloc (Evo.refl _ _)
    generalize w.alloc (.cells #[.pointer (some ⟨bf, fo, none⟩)] 64) = W at *
    have How := Lib.hid how; have Hbx := Lib.hid hbx; have Hev0 := Lib.hid hev0
    clear how hbx hev0 y2 y4 ub
    try clear hne3
    go_wp2_with fail
    clear y8
    go_loopw [1, 45] (fun u i wr => ∃ k1 : Nat, k1 ≤ v.2.1.length ∧ i = .int .i64 k1 ∧ wr.ownsRow base 5 1 u (l ++ (v.2.1.take k1).flatMap (rec1 x)).length (B8 (l ++ (v.2.1.take k1).flatMap (rec1 x))) ∧ Evo w wr (Value.slice ab l.length cbp) u ∧ wr.heap[w.heap.size]? = some (.cells #[.pointer (some ⟨bf, fo, none⟩)] 64 (0, 0))) (fun _ i _ => v.2.1.length - (intOf i).toNat)
    case atStart => exact ⟨0, by omega, rfl, by simpa using How.out, Hev0.out, Hbx.out⟩
    case round =>
      clear How Hbx Hev0
      obtain ⟨k1, hk1, rfl, how, hev, hbx⟩ := hrel
      have up := HU.out _ _ hev
      have hz1 : base ≤ wr.heap.size := by have := hev.grown.size; omega
      have hbc : wr.cell? ⟨w.heap.size, 0, none⟩ = some (.pointer (some ⟨bf, fo, none⟩)) := cell_of_row wr _ 0 _ _ _ hbx
      have nb := own_ne how hbx (by decide)
      have nf : u1.ownBlock ≠ some bf := fun e => by have := (how.lt bf e).1; omega
      by_cases hlt : k1 < v.2.1.length
      · obtain ⟨bb, oo, cs, rfl, _, _, hcs, hd⟩ := (Hx1.out.up stable_u64 up).at hlt
        obtain ⟨hd, h64⟩ := hd
        subst hd
        have n0 := hcs 0 _ rfl
        simp only [Nat.add_zero, Nat.mul_one] at n0
        have hmem := Hbit.out _ (List.getElem_mem hlt)
        have htk := take_flat (rec1 x) hlt
        have hle0 := flat_le (rec1 x) v.2.1 k1
        have hL1 : (l ++ (v.2.1.take k1).flatMap (rec1 x)).length ≤ 1099511627776 - 4100 := by have := Hl.out; rw [← HT.out] at this; simp only [List.length_append] at this ⊢; omega
        have y1 := up.cell_some HX.out.1
        have y2 := up.cell_some HX.out.2.1
        generalize v.2.1[k1] = n at *
        have Hr := Lib.hid (told_right (n := n) x.number n1 n2 hmem.1 hmem.2)
        have Hb := Lib.hid (told_64 (k := x.kind) (n := n) h64)
        have Hbt := Lib.hid (fun W => bits_c x.kind n W h64)
        have HL1 := Lib.hid hL1; have How := Lib.hid how; have Hev := Lib.hid hev; have Hbx := Lib.hid hbx; have Htk := Lib.hid htk
        clear hL1 how hev hbx htk hle0 hcs hmem h64 up
        generalize (v.2.1.take k1).flatMap (rec1 x) = P1 at *
        have hrec : rec1 x n = oneB ⟨x.number, howC x.kind, toldC x.kind n, []⟩ := rfl
        have Hrec := Lib.hid hrec; clear hrec
        generalize howC x.kind = hw at *
        generalize toldC x.kind n = bt at *
        obtain ⟨wq, rfl⟩ : ∃ wq : World, wq = wr := ⟨_, rfl⟩
        go_upto_region 7 with (fail)
        have dd : wq.drew.cell? ⟨w.heap.size, 0, none⟩ = some (.pointer (some ⟨bf, fo, none⟩)) ∧ wq.drew.cell? ⟨bf, fo + 1, none⟩ = some (.int .i64 x.number) ∧ wq.drew.cell? ⟨bf, fo + 2, none⟩ = some (.int .i64 x.kind) := ⟨hbc, y1, y2⟩
        have DE := Lib.hid (fun W3 v' (h : Evo wq W3 u1 v') => (⟨evo_cell h hbc nb, evo_cell h y1 nf, evo_cell h y2 nf⟩ : W3.cell? ⟨w.heap.size, 0, none⟩ = some (.pointer (some ⟨bf, fo, none⟩)) ∧ W3.cell? ⟨bf, fo + 1, none⟩ = some (.int .i64 x.number) ∧ W3.cell? ⟨bf, fo + 2, none⟩ = some (.int .i64 x.kind)))
        go_region_held3 (fun w' => w'.cell? ⟨w.heap.size, 0, none⟩ = some (.pointer (some ⟨bf, fo, none⟩)) ∧ w'.cell? ⟨bf, fo + 1, none⟩ = some (.int .i64 x.number) ∧ w'.cell? ⟨bf, fo + 2, none⟩ = some (.int .i64 x.kind))
          (first | with_reducible exact dd | with_reducible exact DE.out _ _ hev6.undrew)
          (first | (go_at_call 21; refine (hhw.out _).mono ?_; rintro e w5 ⟨rfl, hw5⟩; subst hw5) | (go_at_call 120; refine (Hbt.out _).mono ?_; rintro e w5 ⟨rfl, hw5⟩; subst hw5) | (go_at_call 59; refine (add_own base u1 _ ⟨x.number, hw, bt, []⟩ (.slice none 0 0) _ (rdB_nil _ _) Hr.out Hb.out HL1.out How.out.drew (by simp; omega)).mono ?_; rintro e w6 ⟨v6, rfl, how6, hev6⟩))
        all_goals
          clear dd DE
          go_wp2_with fail
          go_roundw
          case rel => exact ⟨k1 + 1, by omega, by go_num, by rw [Htk.out, Hrec.out, ← List.append_assoc]; exact how6, Hev.out.trans hev6.undrew, hev6.undrew.blk Hbx.out nb⟩
          case measure => simp [intOf]; omega
      · rw [List.take_of_length_le (show v.2.1.length ≤ k1 by omega)] at how
        have hT1 := HT.out
        rw [← List.append_assoc] at hT1
        have HT1 := Lib.hid hT1; clear hT1 HT
        generalize l ++ v.2.1.flatMap (rec1 x) = L1 at *
        have y9 := up.cell_some HX.out.2.2.2.2.1
        have How := Lib.hid how; have Hev := Lib.hid hev; have Hbx := Lib.hid hbx
        clear how hev hbx up nb nf hbc hz1
        go_wp2_with fail
        clear y9
        go_loopw [1, 73] (fun u i wr => ∃ k2 : Nat, k2 ≤ v.2.2.1.length ∧ i = .int .i64 k2 ∧ wr.ownsRow base 5 1 u (L1 ++ (v.2.2.1.take k2).flatMap (recS x.number)).length (B8 (L1 ++ (v.2.2.1.take k2).flatMap (recS x.number))) ∧ Evo w wr (Value.slice ab l.length cbp) u ∧ wr.heap[w.heap.size]? = some (.cells #[.pointer (some ⟨bf, fo, none⟩)] 64 (0, 0))) (fun _ i _ => v.2.2.1.length - (intOf i).toNat)
        case atStart => exact ⟨0, by omega, rfl, by simpa using How.out, Hev.out, Hbx.out⟩
        case round =>
          clear How Hbx Hev
          obtain ⟨k2, hk2, rfl, how, hev, hbx⟩ := hrel
          have up := HU.out _ _ hev
          have hz1 : base ≤ wr.heap.size := by have := hev.grown.size; omega
          have hbc : wr.cell? ⟨w.heap.size, 0, none⟩ = some (.pointer (some ⟨bf, fo, none⟩)) := cell_of_row wr _ 0 _ _ _ hbx
          have nb := own_ne how hbx (by decide)
          have nf : u1.ownBlock ≠ some bf := fun e => by have := (how.lt bf e).1; omega
          by_cases hlt2 : k2 < v.2.2.1.length
          · obtain ⟨bb, oo, cs, rfl, _, _, hcs, hd⟩ := (Hx2.out.up stable_bytes up).at hlt2
            obtain ⟨vy, hd, hr, hyz⟩ := hd
            subst hd
            obtain ⟨ya, yc, rfl, _, _⟩ := hr.val
            have n0 := hcs 0 _ rfl
            simp only [Nat.add_zero, Nat.mul_one] at n0
            have htk := take_flat (recS x.number) hlt2
            have hle0 := flat_le (recS x.number) v.2.2.1 (k2 + 1)
            have hL1 : (L1 ++ (v.2.2.1.take k2).flatMap (recS x.number)).length + v.2.2.1[k2].length ≤ 1099511627776 - 8200 := by
              have h1 := Hl.out
              have h2 := recS_len x.number v.2.2.1[k2]
              rw [← HT1.out] at h1
              rw [htk] at hle0
              simp only [List.length_append] at h1 h2 hle0 ⊢
              omega
            have y1 := up.cell_some HX.out.1
            have k20 : (0 : Int) ≤ (k2 : Int) := by omega
            have k21 : (k2 : Int) < (v.2.2.1.length : Int) := by omega
            generalize v.2.2.1[k2] = q at *
            have Hsz := Lib.hid (sized_c base u1 _ w.heap.size bf fo x.number q _ wr hbc y1 (hr.keep stable_u8 (Keep.weak (fun j hj e => by unfold Lt at hj; have := (how.lt j e).1; omega))) n1 n2 hL1 how hz1)
            have Hev := Lib.hid hev; have Hbx := Lib.hid hbx; have Htk := Lib.hid htk
            clear hL1 how hev hbx htk hle0 hcs up hr hz1
            generalize (v.2.2.1.take k2).flatMap (recS x.number) = P2 at *
            go_wp2_with (go_at_call 118; go_must (refine Hsz.out.mono ?_; rintro e w6 ⟨v6, rfl, how6, hev6⟩))
            go_roundw
            case rel => exact ⟨k2 + 1, by omega, by go_num, by rw [Htk.out, ← List.append_assoc]; exact how6, Hev.out.trans hev6, hev6.blk Hbx.out nb⟩
            case measure => simp [intOf]; omega
          · rw [List.take_of_length_le (show v.2.2.1.length ≤ k2 by omega)] at how
            have hT2 := HT1.out
            rw [← List.append_assoc] at hT2
            have HT2 := Lib.hid hT2; clear hT2 HT1
            generalize L1 ++ v.2.2.1.flatMap (recS x.number) = L2 at *
            have y9 := up.cell_some HX.out.2.2.2.2.2
            have How := Lib.hid how; have Hev := Lib.hid hev; have Hbx := Lib.hid hbx
            clear how hev hbx up nb nf hbc hz1
            go_wp2_with fail
            clear y9
            go_loopw [1, 87] (fun u i wr => ∃ k3 : Nat, k3 ≤ v.2.2.2.length ∧ i = .int .i64 k3 ∧ wr.ownsRow base 5 1 u (L2 ++ (v.2.2.2.take k3).flatMap (fun s => recS x.number (rawB f k (msgI f x.type) s))).length (B8 (L2 ++ (v.2.2.2.take k3).flatMap (fun s => recS x.number (rawB f k (msgI f x.type) s)))) ∧ Evo w wr (Value.slice ab l.length cbp) u ∧ wr.heap[w.heap.size]? = some (.cells #[.pointer (some ⟨bf, fo, none⟩)] 64 (0, 0))) (fun _ i _ => v.2.2.2.length - (intOf i).toNat)
            case atStart => exact ⟨0, by omega, rfl, by simpa using How.out, Hev.out, Hbx.out⟩
            case round =>
              clear How Hbx Hev
              obtain ⟨k3, hk3, rfl, how, hev, hbx⟩ := hrel
              have up := HU.out _ _ hev
              have hz1 : base ≤ wr.heap.size := by have := hev.grown.size; omega
              have hbc : wr.cell? ⟨w.heap.size, 0, none⟩ = some (.pointer (some ⟨bf, fo, none⟩)) := cell_of_row wr _ 0 _ _ _ hbx
              have nb := own_ne how hbx (by decide)
              by_cases hlt3 : k3 < v.2.2.2.length
              · obtain ⟨hmi, hsr⟩ := Hsub.out _ (List.getElem_mem hlt3)
                have hmb := msgI_bd f x.type
                have hmb2 : msgI f x.type < f.msgs.length := by omega
                obtain ⟨b1, o1, cs, rfl, _, _, hcs, hd⟩ := (Hx3.out.up (stable_bod d) up).at hlt3
                obtain ⟨m1, r1, s1, m2, r2, s2, rfl⟩ := bod_two hd
                have n0 := hcs 0 _ rfl
                have n1' := hcs 1 _ rfl
                simp only [Nat.add_zero] at n0
                have hba : BodAt d wr b1 (o1 + k3 * 2) v.2.2.2[k3] := ⟨_, _, n0, n1', hd⟩
                have hcw := Hc.out.up up
                obtain ⟨hcc, vm, ve, hcm, hce, hfv⟩ := id hcw
                obtain ⟨vm', ve', he', hm', he''⟩ := id hfv
                simp only [Value.agg.injEq, Array.mk.injEq, List.cons.injEq, and_true] at he'
                obtain ⟨rfl, rfl⟩ := he'
                obtain ⟨ma, mc, rfl, _, _⟩ := hm'.val
                obtain ⟨ea, ec, rfl, _, _⟩ := he''.val
                clear hm' he''
                have htk := take_flat (fun s => recS x.number (rawB f k (msgI f x.type) s)) hlt3
                have hle0 := flat_le (fun s => recS x.number (rawB f k (msgI f x.type) s)) v.2.2.2 (k3 + 1)
                have hL1 : (L2 ++ (v.2.2.2.take k3).flatMap (fun s => recS x.number (rawB f k (msgI f x.type) s))).length + (rawB f k (msgI f x.type) v.2.2.2[k3]).length ≤ 1099511627776 - 8200 := by
                  have h1 := Hl.out
                  have h2 := recS_len x.number (rawB f k (msgI f x.type) v.2.2.2[k3])
                  rw [← HT2.out] at h1
                  rw [htk] at hle0
                  simp only [List.length_append] at h1 h2 hle0 ⊢
                  omega
                have k30 : (0 : Int) ≤ (k3 : Int) := by omega
                have k31 : (k3 : Int) < (v.2.2.2.length : Int) := by omega
                have y1 := up.cell_some HX.out.1
                have ty := up.cell_some HX.out.2.2.1
                have v3 := up.cell_some HX.out.2.2.2.2.2
                have Hmsg := Lib.hid (fun W (u : Up wr W) => find_msg_l (.agg #[.slice ma f.msgs.length mc, .slice ea f.enums.length ec]) f x.type W (hfv.up u))
                have Hbc := Lib.hid (fun W (u : Up wr W) => Ih.out (msgI f x.type) v.2.2.2[k3] cb fb b1 (o1 + k3 * 2) W hmi hmb2 (hcw.up u) (hba.up u) hsr (by omega))
                change Hid (∀ W, Up wr W → Calls _ _ _ _ fun e w' => e = Ending.returned (.int .i64 (msgI f x.type)) ∧ Up W w') at Hmsg
                have nb1 : u1.ownBlock ≠ some bf := fun e => by have := (how.lt bf e).1; omega
                have nb2 : u1.ownBlock ≠ some b := fun e => by have := (how.lt b e).1; omega
                have nb3 : u1.ownBlock ≠ some cb := fun e => by have h2 := (how.lt cb e).1; have h3 := World.block_lt_of_cell? w0 _ Hc.out.1; simp only at h3; omega
                have nb4 : u1.ownBlock ≠ some fb := fun e => by have h2 := (how.lt fb e).1; obtain ⟨_, _, h3, _⟩ := Hc.out.2; have h3 := World.block_lt_of_cell? w0 _ h3; simp only at h3; omega
                clear hsr hmb hmb2 hle0 hmi hd hcs
                generalize rawB f k (msgI f x.type) v.2.2.2[k3] = RB at *
                generalize msgI f x.type = mi at *
                generalize (v.2.2.2.take k3).flatMap (fun s => recS x.number (rawB f k mi s)) = P3 at *
                obtain ⟨wq, rfl⟩ : ∃ wq : World, wq = wr := ⟨_, rfl⟩
                have Htk := Lib.hid htk; have Hev := Lib.hid hev; have Hbx := Lib.hid hbx
                have Hsz := Lib.hid (fun W2 (u : Up wq W2) vd base2 (hvd : W2.ownsRow base2 5 1 vd RB.length (B8 RB)) (hb2 : wq.heap.size ≤ base2) => sized_c base u1 _ w.heap.size bf fo x.number RB vd W2 (u.cell_some hbc) (u.cell_some y1) (rdB_of_owns hvd (fun j hj e => by have h1 := (hvd.lt j hj).1; have h2 := (how.lt j e).2; omega)) n1 n2 hL1 (how.kept u.to_none (Classical.em _)) (by have := u.size; omega))
                have dd : (wq.drew.cell? ⟨cb, 0, none⟩ = some (.pointer (some ⟨fb, 0, none⟩)) ∧ wq.drew.cell? ⟨fb, 0, none⟩ = some (.slice ma f.msgs.length mc) ∧ wq.drew.cell? ⟨fb, 1, none⟩ = some (.slice ea f.enums.length ec) ∧ wq.drew.cell? ⟨w.heap.size, 0, none⟩ = some (.pointer (some ⟨bf, fo, none⟩)) ∧ wq.drew.cell? ⟨b, o + 3, none⟩ = some (.slice (some ⟨b1, o1, none⟩) v.2.2.2.length c3) ∧ wq.drew.cell? ⟨bf, fo + 3, none⟩ = some (.string ⟨x.type.toArray⟩)) := ⟨hcc, hcm, hce, hbc, v3, ty⟩
                have DD := Lib.hid (fun W (u : Up wq W) => (⟨u.cell_some hcc, u.cell_some hcm, u.cell_some hce, u.cell_some hbc, u.cell_some v3, u.cell_some ty⟩ : (W.cell? ⟨cb, 0, none⟩ = some (.pointer (some ⟨fb, 0, none⟩)) ∧ W.cell? ⟨fb, 0, none⟩ = some (.slice ma f.msgs.length mc) ∧ W.cell? ⟨fb, 1, none⟩ = some (.slice ea f.enums.length ec) ∧ W.cell? ⟨w.heap.size, 0, none⟩ = some (.pointer (some ⟨bf, fo, none⟩)) ∧ W.cell? ⟨b, o + 3, none⟩ = some (.slice (some ⟨b1, o1, none⟩) v.2.2.2.length c3) ∧ W.cell? ⟨bf, fo + 3, none⟩ = some (.string ⟨x.type.toArray⟩))))
                have DE := Lib.hid (fun W2 (u : Up wq W2) W v' (h : Evo W2 W u1 v') => (⟨evo_cell h (u.cell_some hcc) nb3, evo_cell h (u.cell_some hcm) nb4, evo_cell h (u.cell_some hce) nb4, evo_cell h (u.cell_some hbc) nb, evo_cell h (u.cell_some v3) nb2, evo_cell h (u.cell_some ty) nb1⟩ : (W.cell? ⟨cb, 0, none⟩ = some (.pointer (some ⟨fb, 0, none⟩)) ∧ W.cell? ⟨fb, 0, none⟩ = some (.slice ma f.msgs.length mc) ∧ W.cell? ⟨fb, 1, none⟩ = some (.slice ea f.enums.length ec) ∧ W.cell? ⟨w.heap.size, 0, none⟩ = some (.pointer (some ⟨bf, fo, none⟩)) ∧ W.cell? ⟨b, o + 3, none⟩ = some (.slice (some ⟨b1, o1, none⟩) v.2.2.2.length c3) ∧ W.cell? ⟨bf, fo + 3, none⟩ = some (.string ⟨x.type.toArray⟩))))
                clear htk hev hbx how hL1 hba hcw hfv up hz1 n0 n1' y1
                go_upto_region 17 with (fail)
                go_region_held3 (fun w' => (w'.cell? ⟨cb, 0, none⟩ = some (.pointer (some ⟨fb, 0, none⟩)) ∧ w'.cell? ⟨fb, 0, none⟩ = some (.slice ma f.msgs.length mc) ∧ w'.cell? ⟨fb, 1, none⟩ = some (.slice ea f.enums.length ec) ∧ w'.cell? ⟨w.heap.size, 0, none⟩ = some (.pointer (some ⟨bf, fo, none⟩)) ∧ w'.cell? ⟨b, o + 3, none⟩ = some (.slice (some ⟨b1, o1, none⟩) v.2.2.2.length c3) ∧ w'.cell? ⟨bf, fo + 3, none⟩ = some (.string ⟨x.type.toArray⟩)))
                  (first | with_reducible exact dd | with_reducible exact DE.out _ hu6 _ _ hev7 | with_reducible exact DD.out _ hu6 | with_reducible exact DD.out _ hu5)
                  (first | (go_at_call 81; refine (Hmsg.out _ (Up.refl wq).drew).mono ?_; rintro e w5 ⟨rfl, hu5'⟩; have hu5 := ((Up.refl wq).drew).trans hu5') | (go_at_call 37; refine (Hbc.out _ hu5).mono ?_; rintro e w6 ⟨vd, rfl, how6, hu6'⟩; have hu6 := hu5.trans hu6') | (go_at_call 118; refine (Hsz.out _ hu6 vd _ how6 hu5.size).mono ?_; rintro e w7 ⟨v7, rfl, how7, hev7⟩))
                all_goals
                  clear dd DD DE
                  go_wp2_with fail
                  go_roundw
                  case rel => exact ⟨k3 + 1, by omega, by go_num, by rw [Htk.out, ← List.append_assoc]; exact how7, Hev.out.trans ((evo_up hu6).trans hev7), hev7.blk (hu6.blk Hbx.out) nb⟩
                  case measure => simp [intOf]; omega
              · rw [List.take_of_length_le (show v.2.2.2.length ≤ k3 by omega)] at how
                rw [HT2.out] at how
                go_wp2_with fail
                go_ret
                exact ⟨_, rfl, how, hev⟩
end Go.Proofs.YtbceapeoknngnaaGreatDoor
