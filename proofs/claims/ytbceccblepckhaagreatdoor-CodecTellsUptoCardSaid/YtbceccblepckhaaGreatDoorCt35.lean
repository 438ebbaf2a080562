/-
  pressref2.WrongAll.
  codec.Bytes.
  pressref3.Bytes.
-/
import Derived.Test.YtbceccblepckhaaGreatDoorCt32
import Derived.Test.YtbceccblepckhaaGreatDoorCt34
import Derived.Test.YtbceccblepckhaaGreatDoorCt31
set_option maxHeartbeats 3200000
set_option linter.unusedVariables false
namespace Go.Proofs.YtbceccblepckhaaGreatDoor
open Go.RowKit
set_option maxRecDepth 100000
open Lib (hid)
theorem wrong_all (d:Nat) (v vv vu:Value) (f:Fil) (msg:Int) (x:Bod) (w:World) (hf:FilV All w v f) (hb:DBodF d All w x [vv,vu]) (hsz:f.msgs.length+f.enums.length<=9223372036854775807) :
  Calls Tryz.prog 17 #[v,.int .i64 msg,.agg #[vv,vu]] w fun e w'=>e=.returned (.int .i64 (wrongA f msg x))/\Up w w':=by
 obtain ⟨vm,ve,rfl,hm,he⟩:=id hf;obtain ⟨ma,mc,rfl,_,_⟩:=hm.val;obtain ⟨ea,ec,rfl,_,_⟩:=he.val;obtain ⟨a1,n1,c1,a2,n2,c2,hbt⟩:=bod_two hb;simp only [List.cons.injEq,and_true] at hbt;obtain ⟨rfl,rfl⟩:=hbt;have Hf:=hid hf;have Hb:=hid hb;have Hsz:=hid hsz;clear hf hb hsz hm he;obtain ⟨ANS,hANS⟩:∃ ANS,wrongA f msg x=ANS:=⟨_,rfl⟩;rw [hANS];unfold wrongA at hANS;have HA:=hid hANS;clear hANS
 go_enter Tryz.func17,Tryz.ntmps17
 (go_wp2_with fail);have hb0:((w.alloc (.cells #[.slice ma f.msgs.length mc,.slice ea f.enums.length ec] 25)).alloc (.cells #[.slice a1 n1 c1,.slice a2 n2 c2] 29)).heap[w.heap.size]? = some (.cells #[.slice ma f.msgs.length mc,.slice ea f.enums.length ec] 25 (0,0)):=blk_old _ (blk_new w _ rfl);have hb1:((w.alloc (.cells #[.slice ma f.msgs.length mc,.slice ea f.enums.length ec] 25)).alloc (.cells #[.slice a1 n1 c1,.slice a2 n2 c2] 29)).heap[w.heap.size+1]? = some (.cells #[.slice a1 n1 c1,.slice a2 n2 c2] 29 (0,0)):=blk_new (w.alloc _) _ (by simp);have hu0:Up w ((w.alloc (.cells #[.slice ma f.msgs.length mc,.slice ea f.enums.length ec] 25)).alloc (.cells #[.slice a1 n1 c1,.slice a2 n2 c2] 29)):=((Up.refl w).alloc _).alloc _;generalize hw1:(w.alloc (.cells #[.slice ma f.msgs.length mc,.slice ea f.enums.length ec] 25)).alloc (.cells #[.slice a1 n1 c1,.slice a2 n2 c2] 29)=w1 at *;clear hw1;refine (wrong_r _ f w1 (Hf.out.up hu0) Hsz.out).mono ?_;rintro e w2 ⟨rfl,hu2⟩;have Hu02:=hid (hu0.trans hu2);have Hb0:=hid (hu2.blk hb0);have Hb1:=hid (hu2.blk hb1);clear hb0 hb1 hu0 hu2;have hz:=lt_of_block Hb1.out;have hANS:=HA.out;clear HA;(have r0:w.heap.size<w2.heap.size:=by omega);(have r1:w.heap.size+1<w2.heap.size:=by omega);have f0:=ro0 Hb0.out;have f1:=ro1 Hb0.out;have g0:=ro0 Hb1.out;have g1:=ro1 Hb1.out
 by_cases hw:(wrongN f).1=0
 ·have Hw:=hid hw;rw [if_neg (by simpa using hw)] at hANS;rw [hw]
  by_cases hm:msg<0∨(f.msgs.length:Int)<=msg
  ·rw [if_pos hm] at hANS;rcases (show msg<0∨(¬ msg<0/\(f.msgs.length:Int)<=msg) by omega) with h|⟨h,h2⟩
   ·clear hm g0 g1 f1;generalize (wrongN f).2=at2 at *;go_wp2_with fail
    go_ret
    exact ⟨ret_int hANS,Hu02.out.alloc _⟩
   ·clear hm g0 g1 f1;generalize (wrongN f).2=at2 at *;go_wp2_with fail
    go_ret
    exact ⟨ret_int hANS,Hu02.out.alloc _⟩
  ·rw [if_neg hm] at hANS;(have h1:¬ msg<0:=by omega);(have h2:¬ (f.msgs.length:Int)<=msg:=by omega);have Hm:=hid hm;have Hans:=hid hANS;clear hm hw hANS;generalize (wrongN f).2=at2 at *;(go_wp2_with fail);have hu03:=Hu02.out.alloc (.cells #[.int .i64 0,.int .i64 (at2:Int)] 60);have hbc:=bodyr_c f Hw.out 12 (by omega) d (.agg #[.slice ma f.msgs.length mc,.slice ea f.enums.length ec]) (.slice a1 n1 c1) (.slice a2 n2 c2) msg x _ (by have:=Hm.out;omega) (by have:=Hm.out;omega) (Hf.out.up hu03) (stable_bod d _ _ _ _ _ _ (Keep.upS hu03) Hb.out);refine (show Calls Tryz.prog 32 #[.agg #[.slice ma f.msgs.length mc,.slice ea f.enums.length ec],.int .i64 msg,.agg #[.slice a1 n1 c1,.slice a2 n2 c2],.int .i64 1] _ _ from hbc).mono ?_;rintro e w4 ⟨rfl,hu4⟩;rw [Hans.out];go_wp2_with fail
   go_ret
   exact ⟨rfl,hu03.trans hu4⟩
 ·rw [if_pos hw] at hANS;generalize (wrongN f).1=e1 at *;generalize (wrongN f).2=at2 at *;clear f0 f1 g0 g1;go_wp2_with fail
  go_ret
  exact ⟨ret_int (by first|rfl|exact hANS),Hu02.out.alloc _⟩
theorem wbody_c (f:Fil) (hright:(wrongN f).1=0):∀ k d,WBodC k d f
 |0,d=>fun msg x cb fb b o w _ _ _ _ hw _=>by rw [wrongB] at hw;cases hw
 |k+1,d=>wbody_step k d f (wbody_c f hright k) hright
theorem own_base {base base' n size:Nat} {e:TypeId} {w:World} {v:Value} {xs:List Value} (h:w.ownsRow base' e size v n xs) (hb:base<=base'):w.ownsRow base e size v n xs:=by
 obtain ⟨h1,h2⟩:=h;refine ⟨h1,?_⟩;rcases h2 with h2|⟨g,cap,cur,h2,h3,h4⟩
 ·exact .inl h2
 ·exact .inr ⟨g,cap,cur,h2,Nat.le_trans hb h3,h4⟩
theorem wrongA_parts {f:Fil} {msg:Int} {x:Bod} (h:wrongA f msg x=0):(wrongN f).1=0/\0<=msg/\msg<f.msgs.length/\wrongB f 12 msg x=0:=by
 unfold wrongA at h;split at h
 ·contradiction
 rename_i h1;split at h
 ·cases h
 ·exact ⟨by simpa using h1,by omega,by omega,h⟩
theorem bytes_c (d:Nat) (v vv vu:Value) (f:Fil) (msg:Int) (x:Bod) (w:World) (hf:FilV All w v f) (hb:DBodF d All w x [vv,vu]) (hT:Tabs w) (hlen:wrongA f msg x=0->(rawB f 12 msg x).length<=1099511627776 - 8200) :
  Calls Tryz.prog 8 #[v,.int .i64 msg,.agg #[vv,vu]] w fun e w'=>∃ v',e=.returned (.tuple #[v',.int .i64 (bytesC f msg x).2])/\w'.ownsRow w.heap.size 5 1 v' (bytesC f msg x).1.length (B8 (bytesC f msg x).1)/\Up w w':=by
 obtain ⟨vm,ve,rfl,hm,he⟩:=id hf;obtain ⟨ma,mc,rfl,_,_⟩:=hm.val;obtain ⟨ea,ec,rfl,_,_⟩:=he.val;obtain ⟨a1,n1,c1,a2,n2,c2,hbt⟩:=bod_two hb;simp only [List.cons.injEq,and_true] at hbt;obtain ⟨rfl,rfl⟩:=hbt;have Hf:=hid hf;have Hb:=hid hb;have HT:=hid hT;have Hlen:=hid hlen;clear hf hb hT hm he hlen;obtain ⟨ANS,hANS⟩:∃ ANS,bytesC f msg x=ANS:=⟨_,rfl⟩;rw [hANS];unfold bytesC at hANS;have HA:=hid hANS;clear hANS;have hb0:((w.alloc (.cells #[.slice ma f.msgs.length mc,.slice ea f.enums.length ec] 25)).alloc (.cells #[.slice a1 n1 c1,.slice a2 n2 c2] 29)).heap[w.heap.size]? = some (.cells #[.slice ma f.msgs.length mc,.slice ea f.enums.length ec] 25 (0,0)):=blk_old _ (blk_new w _ rfl);have hb1:((w.alloc (.cells #[.slice ma f.msgs.length mc,.slice ea f.enums.length ec] 25)).alloc (.cells #[.slice a1 n1 c1,.slice a2 n2 c2] 29)).heap[w.heap.size+1]? = some (.cells #[.slice a1 n1 c1,.slice a2 n2 c2] 29 (0,0)):=blk_new (w.alloc _) _ (by simp);have hu0:Up w ((w.alloc (.cells #[.slice ma f.msgs.length mc,.slice ea f.enums.length ec] 25)).alloc (.cells #[.slice a1 n1 c1,.slice a2 n2 c2] 29)):=((Up.refl w).alloc _).alloc _;have Hw0:=hid (fun W (u:Up w W)=>wrong_bod d _ _ _ f msg x W (Hf.out.up u) (stable_bod d _ _ _ _ _ _ (Keep.upS u) Hb.out) (HT.out.up u))
 go_enter Tryz.func8,Tryz.ntmps8
 go_upto_region 1 with (fail)
 generalize hw1:(w.alloc (.cells #[.slice ma f.msgs.length mc,.slice ea f.enums.length ec] 25)).alloc (.cells #[.slice a1 n1 c1,.slice a2 n2 c2] 29)=w1 at *;clear hw1;have i0:=ro0 hb0;have i1:=ro1 hb0;have j0:=ro0 hb1;have j1:=ro1 hb1
 go_upto_region 2 with (go_at_call 15;go_must (refine (Hw0.out _ hu0).mono ?_;rintro e w2 ⟨rfl,hu2⟩))
 have f0:=hu2.cell_some i0;have f1:=hu2.cell_some i1;have g0:=hu2.cell_some j0;have g1:=hu2.cell_some j1;have hu02:=hu0.trans hu2;have Hu02:=hid hu02;have r0:w.heap.size<w2.heap.size:=World.block_lt_of_cell? w2 _ f0;have r1:w.heap.size+1<w2.heap.size:=World.block_lt_of_cell? w2 _ g0;clear i0 i1 j0 j1 hb0 hb1 hu2 hu0 hu02;have hANS:=HA.out;clear HA
 by_cases hw:wrongA f msg x=0
 ·have hlen:=Hlen.out hw;rw [if_neg (by simpa using hw)] at hANS;obtain ⟨p1,p2,p3,p4⟩:=wrongA_parts hw;have Hbod:=hid (fun W cb' (u:Up w2 W) (hcb:W.cell? ⟨cb',0,none⟩=some (.pointer (some ⟨w.heap.size,0,none⟩)))=>wbody_c f p1 12 d msg x cb' w.heap.size (w.heap.size+1) 0 W p2 p3 ⟨hcb,_,_,u.cell_some f0,u.cell_some f1,Hf.out.up (Hu02.out.trans u)⟩ ⟨_,_,u.cell_some g0,u.cell_some g1,stable_bod d _ _ _ _ _ _ (Keep.upS (Hu02.out.trans u)) Hb.out⟩ p4 hlen);rw [hw];have Hans:=hid hANS;clear hw hANS p1 p2 p3 p4 Hlen;generalize rawB f 12 msg x=RB at *
  by_cases hbig:4000<RB.length
  ·rw [if_pos hbig] at Hans;(have hb2:(4000:Int)<(RB.length:Int):=by omega);clear f0 f1 g0 g1;(go_wp2_with (go_at_call 16;go_must (refine (Hbod.out _ _ ((Up.refl w2).alloc _) (cell_of_row _ _ 0 _ _ _ (blk_new w2 _ rfl))).mono ?_;rintro e w4 ⟨v4,rfl,how4,hu4⟩;obtain ⟨a4,c4,rfl,_,_⟩:=(rdB_of_owns (S:=All) how4 (fun _ _=>trivial)).val)));refine bodyPost_ret (v:=.tuple #[.slice none 0 0,.int .i64 4]) (by simp [results,Tryz.results8,go_sem]) rfl ?_;rw [←Hans.out];exact ⟨_,rfl,World.ownsRow_nil _ _ _ _,(Hu02.out.alloc _).trans hu4⟩
  ·rw [if_neg hbig] at Hans;(have hb2:¬ (4000:Int)<(RB.length:Int):=by omega);clear f0 f1 g0 g1;(go_wp2_with (go_at_call 16;go_must (refine (Hbod.out _ _ ((Up.refl w2).alloc _) (cell_of_row _ _ 0 _ _ _ (blk_new w2 _ rfl))).mono ?_;rintro e w4 ⟨v4,rfl,how4,hu4⟩;obtain ⟨a4,c4,rfl,_,_⟩:=(rdB_of_owns (S:=All) how4 (fun _ _=>trivial)).val)));refine bodyPost_ret (v:=.tuple #[.slice a4 RB.length c4,.int .i64 0]) (by simp [results,Tryz.results8,go_sem]) rfl ?_;rw [←Hans.out];exact ⟨_,rfl,own_base how4 (by simp;omega),(Hu02.out.alloc _).trans hu4⟩
 ·rw [if_pos (by simpa using hw)] at hANS;have Hans:=hid hANS;clear hANS;generalize wrongA f msg x=er at *;(have her:(er != 0)=true:=by rw [bne_iff_ne];exact hw);(go_wp2_with fail);refine bodyPost_ret (v:=.tuple #[.slice none 0 0,.int .i64 er]) (by simp [results,Tryz.results8,go_sem]) rfl ?_;rw [←Hans.out];exact ⟨_,rfl,World.ownsRow_nil _ _ _ _,Hu02.out⟩
theorem bytes_r (d:Nat) (v vv vu:Value) (f:Fil) (msg:Int) (x:Bod) (w:World) (hf:FilV All w v f) (hb:DBodF d All w x [vv,vu]) (hsz:f.msgs.length+f.enums.length<=9223372036854775807) (hlen:wrongA f msg x=0->(rawB f 12 msg x).length<=1099511627776) :
  Calls Tryz.prog 9 #[v,.int .i64 msg,.agg #[vv,vu]] w fun e w'=>∃ v',e=.returned (.tuple #[v',.int .i64 (bytesC f msg x).2])/\w'.ownsRow w.heap.size 5 1 v' (bytesC f msg x).1.length (B8 (bytesC f msg x).1)/\Up w w':=by
 obtain ⟨vm,ve,rfl,hm,he⟩:=id hf;obtain ⟨ma,mc,rfl,_,_⟩:=hm.val;obtain ⟨ea,ec,rfl,_,_⟩:=he.val;obtain ⟨a1,n1,c1,a2,n2,c2,hbt⟩:=bod_two hb;simp only [List.cons.injEq,and_true] at hbt;obtain ⟨rfl,rfl⟩:=hbt;have Hf:=hid hf;have Hb:=hid hb;have Hlen:=hid hlen;have Hsz:=hid hsz;clear hf hb hm he hlen hsz;obtain ⟨ANS,hANS⟩:∃ ANS,bytesC f msg x=ANS:=⟨_,rfl⟩;rw [hANS];unfold bytesC at hANS;have HA:=hid hANS;clear hANS;have hb0:((w.alloc (.cells #[.slice ma f.msgs.length mc,.slice ea f.enums.length ec] 25)).alloc (.cells #[.slice a1 n1 c1,.slice a2 n2 c2] 29)).heap[w.heap.size]? = some (.cells #[.slice ma f.msgs.length mc,.slice ea f.enums.length ec] 25 (0,0)):=blk_old _ (blk_new w _ rfl);have hb1:((w.alloc (.cells #[.slice ma f.msgs.length mc,.slice ea f.enums.length ec] 25)).alloc (.cells #[.slice a1 n1 c1,.slice a2 n2 c2] 29)).heap[w.heap.size+1]? = some (.cells #[.slice a1 n1 c1,.slice a2 n2 c2] 29 (0,0)):=blk_new (w.alloc _) _ (by simp);have hu0:Up w ((w.alloc (.cells #[.slice ma f.msgs.length mc,.slice ea f.enums.length ec] 25)).alloc (.cells #[.slice a1 n1 c1,.slice a2 n2 c2] 29)):=((Up.refl w).alloc _).alloc _;have Hw0:=hid (fun W (u:Up w W)=>wrong_all d _ _ _ f msg x W (Hf.out.up u) (stable_bod d _ _ _ _ _ _ (Keep.upS u) Hb.out) Hsz.out)
 go_enter Tryz.func9,Tryz.ntmps9
 go_upto_region 1 with (fail)
 generalize hw1:(w.alloc (.cells #[.slice ma f.msgs.length mc,.slice ea f.enums.length ec] 25)).alloc (.cells #[.slice a1 n1 c1,.slice a2 n2 c2] 29)=w1 at *;clear hw1;have i0:=ro0 hb0;have i1:=ro1 hb0;have j0:=ro0 hb1;have j1:=ro1 hb1
 go_upto_region 2 with (go_at_call 17;go_must (refine (Hw0.out _ hu0).mono ?_;rintro e w2 ⟨rfl,hu2⟩))
 have f0:=hu2.cell_some i0;have f1:=hu2.cell_some i1;have g0:=hu2.cell_some j0;have g1:=hu2.cell_some j1;have hu02:=hu0.trans hu2;have Hu02:=hid hu02;clear i0 i1 j0 j1 hb0 hb1 hu2 hu0 hu02;have hANS:=HA.out;clear HA
 by_cases hw:wrongA f msg x=0
 ·have hlen:=Hlen.out hw;rw [if_neg (by simpa using hw)] at hANS;obtain ⟨p1,p2,p3,p4⟩:=wrongA_parts hw;have Hrec:=hid (fun W (u:Up w W)=>records_c f p1 12 d msg x (.agg #[.slice ma f.msgs.length mc,.slice ea f.enums.length ec]) (.slice a1 n1 c1) (.slice a2 n2 c2) W p2 p3 (Hf.out.up u) (stable_bod d _ _ _ _ _ _ (Keep.upS u) Hb.out) p4 hlen);have Hraw:=hid (fun v W (hv:RdS DRec 4 All W v (recsB f 12 msg x))=>show Calls Tryz.prog 18 #[v] W fun e w'=>∃ v',e=.returned v'/\w'.ownsRow W.heap.size 5 1 v' (rawB f 12 msg x).length (B8 (rawB f 12 msg x))/\Up W w' from raw_r v _ W hv (recs_okS p1 p4 (b64_of d Hb.out 12) hlen (Nat.le_refl _)) hlen);rw [hw];have Hans:=hid hANS;clear hw hANS p1 p2 p3 p4 Hlen;generalize rawB f 12 msg x=RB at *;generalize recsB f 12 msg x=RL at *;have hANS:=Hans.out
  by_cases hbig:4000<RB.length
  ·rw [if_pos hbig] at hANS;have Hans:=hid hANS;(have hb2:(4000:Int)<(RB.length:Int):=by omega);clear hANS
   go_wp2_with (first
    |(go_at_call 19;go_must (refine (Hrec.out _ Hu02.out).mono ?_;rintro e w4 ⟨v4,rfl,hrd4,hu4⟩;obtain ⟨a4,c4,rfl,_,_⟩:=hrd4.val;have Hrd4:=hid hrd4;clear hrd4))
    |(go_at_call 18;go_must (refine (Hraw.out _ _ Hrd4.out).mono ?_;rintro e w5 ⟨v5,rfl,how5,hu5⟩;obtain ⟨a5,c5,rfl,_,_⟩:=own_news how5;have Hown5:=hid how5;clear how5)))
   refine bodyPost_ret (v:=.tuple #[.slice none 0 0,.int .i64 4]) (by simp [results,Tryz.results9,go_sem]) rfl ?_;rw [←Hans.out];exact ⟨_,rfl,World.ownsRow_nil _ _ _ _,(Hu02.out.trans hu4).trans hu5⟩
  ·rw [if_neg hbig] at hANS;have Hans:=hid hANS;(have hb2:¬ (4000:Int)<(RB.length:Int):=by omega);clear hANS
   go_wp2_with (first
    |(go_at_call 19;go_must (refine (Hrec.out _ Hu02.out).mono ?_;rintro e w4 ⟨v4,rfl,hrd4,hu4⟩;obtain ⟨a4,c4,rfl,_,_⟩:=hrd4.val;have Hrd4:=hid hrd4;clear hrd4))
    |(go_at_call 18;go_must (refine (Hraw.out _ _ Hrd4.out).mono ?_;rintro e w5 ⟨v5,rfl,how5,hu5⟩;obtain ⟨a5,c5,rfl,_,_⟩:=own_news how5;have Hown5:=hid how5;clear how5)))
   refine bodyPost_ret (v:=.tuple #[.slice a5 RB.length c5,.int .i64 0]) (by simp [results,Tryz.results9,go_sem]) rfl ?_;rw [←Hans.out];exact ⟨_,rfl,own_base Hown5.out (by have:=(Hu02.out.trans hu4).size;omega),(Hu02.out.trans hu4).trans hu5⟩
 ·rw [if_pos (by simpa using hw)] at hANS;have Hans:=hid hANS;clear hANS;generalize wrongA f msg x=er at *;(have her:(er != 0)=true:=by rw [bne_iff_ne];exact hw);(go_wp2_with fail);refine bodyPost_ret (v:=.tuple #[.slice none 0 0,.int .i64 er]) (by simp [results,Tryz.results9,go_sem]) rfl ?_;rw [←Hans.out];exact ⟨_,rfl,World.ownsRow_nil _ _ _ _,Hu02.out⟩
end Go.Proofs.YtbceccblepckhaaGreatDoor
