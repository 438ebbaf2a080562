/-
  codec.Parse.
  pressref3.Parse.
  What nobody knows is kept, in plain Lean.
  The law CodecTells.
-/
import Derived.Test.YtbceccblepckhaaGreatDoorCt48
import Derived.Test.YtbceccblepckhaaGreatDoorCt05
import Derived.Test.YtbceccblepckhaaGreatDoorCt35
import Derived.Deep.Quiet
set_option maxHeartbeats 12800000
set_option linter.unusedVariables false
namespace Go.Proofs.YtbceccblepckhaaGreatDoor
open Go.RowKit
set_option maxRecDepth 100000
open Lib (hid)
theorem parse_c (v:Value) (f:Fil) (msg:Int) (vb:Value) (l:List UInt8) (w:World) (hf:FilV All w v f) (hr:RdB All w vb l) (hll:l.length<=1099511627776) (hT:Tabs w) :
  Calls Tryz.prog 10 #[v,.int .i64 msg,vb] w fun e w'=>∃ vv vu,e=.returned (.tuple #[.agg #[vv,vu],.int .i64 (parseA f msg l).2])/\DBodF 13 (From w.heap.size) w' (parseA f msg l).1 [vv,vu]/\Up w w':=by
 obtain ⟨vm,ve,rfl,hm,he⟩:=id hf;obtain ⟨ma,mc,rfl,_,_⟩:=hm.val;obtain ⟨ea,ec,rfl,_,_⟩:=he.val;obtain ⟨la,lc,rfl,_,_⟩:=hr.val;have Hf:=hid hf;have Hr:=hid hr;have HT:=hid hT;have Hll:=hid hll;clear hf hr hT hm he hll;obtain ⟨ANS,hANS⟩:∃ ANS,parseA f msg l=ANS:=⟨_,rfl⟩;rw [hANS];unfold parseA at hANS;have HA:=hid hANS;clear hANS;have hb0:((w.alloc (.cells #[.slice ma f.msgs.length mc,.slice ea f.enums.length ec] 25)).alloc (.cells #[.slice none 0 0,.slice none 0 0] 29)).heap[w.heap.size]? = some (.cells #[.slice ma f.msgs.length mc,.slice ea f.enums.length ec] 25 (0,0)):=blk_old _ (blk_new w _ rfl);have hb1:((w.alloc (.cells #[.slice ma f.msgs.length mc,.slice ea f.enums.length ec] 25)).alloc (.cells #[.slice none 0 0,.slice none 0 0] 29)).heap[w.heap.size+1]? = some (.cells #[.slice none 0 0,.slice none 0 0] 29 (0,0)):=blk_new (w.alloc _) _ (by simp);have hu0:Up w ((w.alloc (.cells #[.slice ma f.msgs.length mc,.slice ea f.enums.length ec] 25)).alloc (.cells #[.slice none 0 0,.slice none 0 0] 29)):=((Up.refl w).alloc _).alloc _;have Hw0:=hid (fun W (u:Up w W)=>wrong_l _ f W (Hf.out.up u));obtain ⟨we,hwe⟩:∃ we,(wrongN f).1=we:=⟨_,rfl⟩;rw [hwe] at Hw0;generalize hwa:(wrongN f).2=wa at *;clear hwa
 go_enter Tryz.func10,Tryz.ntmps10
 go_upto_region 1 with (fail)
 generalize (w.alloc (.cells #[.slice ma f.msgs.length mc,.slice ea f.enums.length ec] 25)).alloc (.cells #[.slice none 0 0,.slice none 0 0] 29)=w1 at *;have i0:=ro0 hb0;have i1:=ro1 hb0
 go_upto_region 2 with (go_at_call 20;go_must (refine (Hw0.out _ hu0).mono ?_;rintro e w2 ⟨rfl,hu2⟩))
 have hbX:=blk_new w2 (.cells #[.int .i64 we,.int .i64 (wa:Int)] 60) (g:=w2.heap.size) rfl;have hu3:=(hu0.trans hu2).alloc (.cells #[.int .i64 we,.int .i64 (wa:Int)] 60);have hb0:=blk_old (.cells #[.int .i64 we,.int .i64 (wa:Int)] 60) (hu2.blk hb0);have hb1':=hu2.blk hb1;(have hXB:w2.heap.size≠w.heap.size+1:=by have:=lt_of_block hb1';omega);have hb1:=blk_old (.cells #[.int .i64 we,.int .i64 (wa:Int)] 60) hb1';generalize w2.alloc (.cells #[.int .i64 we,.int .i64 (wa:Int)] 60)=w3 at *;generalize w2.heap.size=X at *;have z0:=ro0 hb1;have z1:=ro1 hb1;have zf:∀ o,w3.frozen? ⟨w.heap.size+1,o,none⟩=false:=fun o=>frozen_of_row w3 _ o _ _ hb1;have zz:w.heap.size+1<w3.heap.size:=lt_of_block hb1;have x0:=ro0 hbX;have Hu3:=hid hu3;have Hb0:=hid hb0;have Hb1:=hid hb1;clear hbX hu2 hu3 hb0 hb1 hb1' hu0 i0 i1;have hANS:=HA.out;clear HA
 by_cases hw:we=0
 ·rw [if_neg (by rw [hwe,hw];simp)] at hANS;subst hw;have i0:=ro0 Hb0.out;have i1:=ro1 Hb0.out
  by_cases hmm:msg<0∨f.msgs.length<=msg
  ·rw [if_pos hmm] at hANS;have Hans:=hid hANS;clear hANS;(have hc:msg<0∨(¬ msg<0/\(f.msgs.length:Int)<=msg):=by omega);clear hmm;rcases hc with hc|⟨hc1,hc2⟩
   all_goals
    (go_wp2_with fail);refine bodyPost_ret (v:=.tuple #[.agg #[.slice none 0 0,.slice none 0 0],.int .i64 6]) (by simp [results,Tryz.results10,go_sem,z0,z1]) rfl ?_;rw [←Hans.out];refine ⟨_,_,rfl,⟨_,_,rfl,rdS_nil _ _ _ _,rdS_nil _ _ _ _,by simp [bod0,Bod.values],by simp [bod0,Bod.unknown]⟩,?_⟩;exact Up.setCell (Up.setCell Hu3.out (p:=⟨w.heap.size+1,0,none⟩) (Nat.le_succ _) _) (p:=⟨w.heap.size+1,1,none⟩) (Nat.le_succ _) _
  ·rw [if_neg hmm] at hANS;(have hm0:0<=msg:=by omega);(have hm1:msg<f.msgs.length:=by omega);(have hc1:¬ msg<0:=by omega);(have hc2:¬ (f.msgs.length:Int)<=msg:=by omega);have Hans:=hid hANS;have e1:(13:Int) - ((12:Nat):Int)=1:=rfl;have Hbod:=hid (fun W C (u:Up w3 W) (hc:W.cell? ⟨C,0,none⟩=some (.pointer (some ⟨w.heap.size,0,none⟩)))=>rbody_c f hwe 12 (Nat.le_refl _) msg l (.slice la l.length lc) C w.heap.size W hm0 hm1 ⟨hc,_,_,u.cell_some i0,u.cell_some i1,Hf.out.up (Hu3.out.trans u)⟩ (Hr.out.up stable_u8 (Hu3.out.trans u)) Hll.out (HT.out.up (Hu3.out.trans u)));rw [e1] at Hbod;clear hANS hmm e1;have hC:=blk_new w3 (.cells #[.pointer (some ⟨w.heap.size,0,none⟩)] 63) (g:=w3.heap.size) rfl;generalize readC f 12 msg l=RC at *;(go_wp2_with (go_at_call 21;go_must (refine (Hbod.out _ _ ((Up.refl w3).alloc _) (cell_of_row _ _ 0 _ _ _ hC)).mono ?_;rintro e w6 ⟨vv,vu,rfl,hd6,hu6⟩;obtain ⟨s1,n1,c1,s2,n2,c2,hbt⟩:=bod_two hd6;simp only [List.cons.injEq,and_true] at hbt;obtain ⟨rfl,rfl⟩:=hbt;have Hd6:=hid hd6;have Hu6:=hid (((Up.refl w3).alloc _).trans hu6);have hb6:=(((Up.refl w3).alloc _).trans hu6).blk Hb1.out;have y0:=ro0 hb6;have y1:=ro1 hb6;have yf:∀ o,w6.frozen? ⟨w.heap.size+1,o,none⟩=false:=(fun o=>frozen_of_row w6 _ o _ _ hb6);have yz:w.heap.size+1<w6.heap.size:=lt_of_block hb6;clear hd6 hu6 hb6 z0 z1 zf x0 i0 i1 hC)));refine bodyPost_ret (v:=.tuple #[.agg #[.slice s1 n1 c1,.slice s2 n2 c2],.int .i64 RC.2]) (by simp [results,Tryz.results10,go_sem,y0,y1]) rfl ?_;rw [←Hans.out];refine ⟨_,_,rfl,?_,Up.setCell (Up.setCell (Hu3.out.trans Hu6.out) (p:=⟨w.heap.size+1,0,none⟩) (Nat.le_succ _) _) (p:=⟨w.heap.size+1,1,none⟩) (Nat.le_succ _) _⟩;refine stable_bod 13 _ _ _ _ _ _ ?_ Hd6.out;refine (((Keep.setCell (p:=⟨w.heap.size+1,0,none⟩) ?_ _).trans (Keep.setCell (p:=⟨w.heap.size+1,1,none⟩) ?_ _)).trans (Keep.weak fun q hq=>?_))
   ·show ¬ _<=_;simp;omega
   ·show ¬ _<=_;simp;omega
   ·have h1:(w3.alloc (.cells #[.pointer (some ⟨w.heap.size,0,none⟩)] 63)).heap.size<=q:=hq;simp at h1;show w.heap.size<=q;omega
 ·rw [if_pos (by rw [hwe];exact hw)] at hANS;have Hans:=hid hANS;(have hne:(we != 0)=true:=by rw [bne_iff_ne];exact hw);rw [hwe] at Hans;clear hANS hw
  go_upto_region 3 with (fail)
  have dd:w3.drew.cell? ⟨X,0,none⟩=some (.int .i64 we):=x0;clear x0
  go_region_held3 (fun w'=>w'.cell? ⟨X,0,none⟩=some (.int .i64 we))
   (first|with_reducible exact dd|exact Eq.trans (cell_set_ne (w:=w3.setCell ⟨w.heap.size+1,0,none⟩ (.slice none 0 0)) hXB 1 (.slice none 0 0)) (Eq.trans (cell_set_ne (w:=w3) hXB 0 (.slice none 0 0)) dd))
   (fail)
  all_goals
   (go_wp2_with fail);refine bodyPost_ret (v:=.tuple #[.agg #[.slice none 0 0,.slice none 0 0],.int .i64 we]) (by simp [results,Tryz.results10,go_sem,z0,z1]) rfl ?_;rw [←Hans.out];refine ⟨_,_,rfl,⟨_,_,rfl,rdS_nil _ _ _ _,rdS_nil _ _ _ _,by simp [bod0,Bod.values],by simp [bod0,Bod.unknown]⟩,?_⟩;exact (Up.setCell (Up.setCell Hu3.out (p:=⟨w.heap.size+1,0,none⟩) (Nat.le_succ _) _) (p:=⟨w.heap.size+1,1,none⟩) (Nat.le_succ _) _).drew
theorem parse_r3 (v:Value) (f:Fil) (msg:Int) (vb:Value) (l:List UInt8) (w:World) (hf:FilV All w v f) (hr:RdB All w vb l) (hll:l.length<=1099511627776) (hsz:f.msgs.length+f.enums.length<=9223372036854775807) :
  Calls Tryz.prog 11 #[v,.int .i64 msg,vb] w fun e w'=>∃ vv vu,e=.returned (.tuple #[.agg #[vv,vu],.int .i64 (parseA f msg l).2])/\DBodF 13 All w' (parseA f msg l).1 [vv,vu]/\Up w w':=by
 obtain ⟨vm,ve,rfl,hm,he⟩:=id hf;obtain ⟨ma,mc,rfl,_,_⟩:=hm.val;obtain ⟨ea,ec,rfl,_,_⟩:=he.val;obtain ⟨la,lc,rfl,_,_⟩:=hr.val;have Hf:=hid hf;have Hr:=hid (show RdB (fun q=>q<w.heap.size) w (.slice la l.length lc) l from hr.keep stable_u8 (fun q _ hb=>⟨rfl,hb⟩));have Hsz:=hid hsz;have Hll:=hid hll;clear hf hr hsz hm he hll;obtain ⟨ANS,hANS⟩:∃ ANS,parseA f msg l=ANS:=⟨_,rfl⟩;rw [hANS];unfold parseA at hANS;have HA:=hid hANS;clear hANS;have hb0:((w.alloc (.cells #[.slice ma f.msgs.length mc,.slice ea f.enums.length ec] 25)).alloc (.cells #[.slice none 0 0,.slice none 0 0] 29)).heap[w.heap.size]? = some (.cells #[.slice ma f.msgs.length mc,.slice ea f.enums.length ec] 25 (0,0)):=blk_old _ (blk_new w _ rfl);have hb1:((w.alloc (.cells #[.slice ma f.msgs.length mc,.slice ea f.enums.length ec] 25)).alloc (.cells #[.slice none 0 0,.slice none 0 0] 29)).heap[w.heap.size+1]? = some (.cells #[.slice none 0 0,.slice none 0 0] 29 (0,0)):=blk_new (w.alloc _) _ (by simp);have hu0:Up w ((w.alloc (.cells #[.slice ma f.msgs.length mc,.slice ea f.enums.length ec] 25)).alloc (.cells #[.slice none 0 0,.slice none 0 0] 29)):=((Up.refl w).alloc _).alloc _;have Hw0:=hid (fun W (u:Up w W)=>wrong_r _ f W (Hf.out.up u) Hsz.out);obtain ⟨we,hwe⟩:∃ we,(wrongN f).1=we:=⟨_,rfl⟩;rw [hwe] at Hw0;generalize hwa:(wrongN f).2=wa at *;clear hwa
 go_enter Tryz.func11,Tryz.ntmps11
 go_upto_region 1 with (fail)
 generalize (w.alloc (.cells #[.slice ma f.msgs.length mc,.slice ea f.enums.length ec] 25)).alloc (.cells #[.slice none 0 0,.slice none 0 0] 29)=w1 at *;have i0:=ro0 hb0;have i1:=ro1 hb0
 go_upto_region 2 with (go_at_call 22;go_must (refine (Hw0.out _ hu0).mono ?_;rintro e w2 ⟨rfl,hu2⟩))
 have hbX:=blk_new w2 (.cells #[.int .i64 we,.int .i64 (wa:Int)] 60) (g:=w2.heap.size) rfl;have hu3:=(hu0.trans hu2).alloc (.cells #[.int .i64 we,.int .i64 (wa:Int)] 60);have hb0:=blk_old (.cells #[.int .i64 we,.int .i64 (wa:Int)] 60) (hu2.blk hb0);have hb1':=hu2.blk hb1;(have hXB:w2.heap.size≠w.heap.size+1:=by have:=lt_of_block hb1';omega);have hb1:=blk_old (.cells #[.int .i64 we,.int .i64 (wa:Int)] 60) hb1';generalize w2.alloc (.cells #[.int .i64 we,.int .i64 (wa:Int)] 60)=w3 at *;generalize w2.heap.size=X at *;have z0:=ro0 hb1;have z1:=ro1 hb1;have zf:∀ o,w3.frozen? ⟨w.heap.size+1,o,none⟩=false:=fun o=>frozen_of_row w3 _ o _ _ hb1;have zz:w.heap.size+1<w3.heap.size:=lt_of_block hb1;have x0:=ro0 hbX;have Hu3:=hid hu3;have Hb0:=hid hb0;have Hb1:=hid hb1;clear hbX hu2 hu3 hb0 hb1 hb1' hu0 i0 i1;have hANS:=HA.out;clear HA
 by_cases hw:we=0
 ·rw [if_neg (by rw [hwe,hw];simp)] at hANS;subst hw;have i0:=ro0 Hb0.out;have i1:=ro1 Hb0.out
  by_cases hmm:msg<0∨f.msgs.length<=msg
  ·rw [if_pos hmm] at hANS;have Hans:=hid hANS;clear hANS;(have hc:msg<0∨(¬ msg<0/\(f.msgs.length:Int)<=msg):=by omega);clear hmm;rcases hc with hc|⟨hc1,hc2⟩
   all_goals
    (go_wp2_with fail);refine bodyPost_ret (v:=.tuple #[.agg #[.slice none 0 0,.slice none 0 0],.int .i64 6]) (by simp [results,Tryz.results11,go_sem,z0,z1]) rfl ?_;rw [←Hans.out];refine ⟨_,_,rfl,⟨_,_,rfl,rdS_nil _ _ _ _,rdS_nil _ _ _ _,by simp [bod0,Bod.values],by simp [bod0,Bod.unknown]⟩,?_⟩;exact Up.setCell (Up.setCell Hu3.out (p:=⟨w.heap.size+1,0,none⟩) (Nat.le_succ _) _) (p:=⟨w.heap.size+1,1,none⟩) (Nat.le_succ _) _
  ·rw [if_neg hmm] at hANS;(have hm0:0<=msg:=by omega);(have hm1:msg<f.msgs.length:=by omega);(have hc1:¬ msg<0:=by omega);(have hc2:¬ (f.msgs.length:Int)<=msg:=by omega);have Hans:=hid hANS;have e1:(13:Int) - ((12:Nat):Int)=1:=rfl;have Hbod:=hid (fun W (u:Up w3 W)=>read_r f hwe 12 (Nat.le_refl _) (fun q=>q<w.heap.size) msg l (.agg #[.slice ma f.msgs.length mc,.slice ea f.enums.length ec]) (.slice la l.length lc) W hm0 hm1 (Hf.out.up (Hu3.out.trans u)) (Hr.out.up stable_u8 (Hu3.out.trans u)) Hll.out);rw [e1] at Hbod;clear hANS hmm e1;generalize readC f 12 msg l=RC at *;(go_wp2_with (go_at_call 23;go_must (refine (Hbod.out _ (Up.refl w3)).mono ?_;rintro e w6 ⟨vv,vu,rfl,hd6,hu6⟩;obtain ⟨s1,n1,c1,s2,n2,c2,hbt⟩:=bod_two hd6;simp only [List.cons.injEq,and_true] at hbt;obtain ⟨rfl,rfl⟩:=hbt;have Hd6:=hid hd6;have Hu6:=hid hu6;have hb6:=hu6.blk Hb1.out;have y0:=ro0 hb6;have y1:=ro1 hb6;have yf:∀ o,w6.frozen? ⟨w.heap.size+1,o,none⟩=false:=(fun o=>frozen_of_row w6 _ o _ _ hb6);have yz:w.heap.size+1<w6.heap.size:=lt_of_block hb6;clear hd6 hu6 hb6 z0 z1 zf x0 i0 i1)));refine bodyPost_ret (v:=.tuple #[.agg #[.slice s1 n1 c1,.slice s2 n2 c2],.int .i64 RC.2]) (by simp [results,Tryz.results11,go_sem,y0,y1]) rfl ?_;rw [←Hans.out];refine ⟨_,_,rfl,?_,Up.setCell (Up.setCell (Hu3.out.trans Hu6.out) (p:=⟨w.heap.size+1,0,none⟩) (Nat.le_succ _) _) (p:=⟨w.heap.size+1,1,none⟩) (Nat.le_succ _) _⟩;refine stable_bod 13 _ _ _ _ _ _ ?_ Hd6.out;refine (((Keep.setCell (p:=⟨w.heap.size+1,0,none⟩) ?_ _).trans (Keep.setCell (p:=⟨w.heap.size+1,1,none⟩) ?_ _)).trans (Keep.weak fun q hq=>?_))
   ·rintro (h|h)
    ·have h':w.heap.size+1<w.heap.size:=h;omega
    ·have h':w3.heap.size<=w.heap.size+1:=h;omega
   ·rintro (h|h)
    ·have h':w.heap.size+1<w.heap.size:=h;omega
    ·have h':w3.heap.size<=w.heap.size+1:=h;omega
   ·trivial
 ·rw [if_pos (by rw [hwe];exact hw)] at hANS;have Hans:=hid hANS;(have hne:(we != 0)=true:=by rw [bne_iff_ne];exact hw);rw [hwe] at Hans;clear hANS hw
  go_upto_region 3 with (fail)
  have dd:w3.drew.cell? ⟨X,0,none⟩=some (.int .i64 we):=x0;clear x0
  go_region_held3 (fun w'=>w'.cell? ⟨X,0,none⟩=some (.int .i64 we))
   (first|with_reducible exact dd|exact Eq.trans (cell_set_ne (w:=w3.setCell ⟨w.heap.size+1,0,none⟩ (.slice none 0 0)) hXB 1 (.slice none 0 0)) (Eq.trans (cell_set_ne (w:=w3) hXB 0 (.slice none 0 0)) dd))
   (fail)
  all_goals
   (go_wp2_with fail);refine bodyPost_ret (v:=.tuple #[.agg #[.slice none 0 0,.slice none 0 0],.int .i64 we]) (by simp [results,Tryz.results11,go_sem,z0,z1]) rfl ?_;rw [←Hans.out];refine ⟨_,_,rfl,⟨_,_,rfl,rdS_nil _ _ _ _,rdS_nil _ _ _ _,by simp [bod0,Bod.values],by simp [bod0,Bod.unknown]⟩,?_⟩;exact (Up.setCell (Up.setCell Hu3.out (p:=⟨w.heap.size+1,0,none⟩) (Nat.le_succ _) _) (p:=⟨w.heap.size+1,1,none⟩) (Nat.le_succ _) _).drew
end Go.Proofs.YtbceccblepckhaaGreatDoor
namespace Go.Proofs.YtbceccblepckhaaGreatDoor
open Go.RowKit
theorem wrongA_four {f:Fil} {msg:Int} {x:Bod} (h:wrongA f msg x=0):(wrongN f).1=0/\0<=msg/\msg<f.msgs.length/\wrongB f 12 msg x=0:=by
 unfold wrongA at h;split at h
 ·contradiction
 rename_i h1;split at h
 ·cases h
 ·exact ⟨by simpa using h1,by omega,by omega,h⟩
set_option maxRecDepth 100000
open Lib (hid)
theorem own_ints {b:Nat} {w:World} {v:Value} {l:List Int} (h:OwnS DInt b 3 1 No w v l):OwnI 0 w v l:=by
 obtain ⟨css,h1,h2,h3⟩:=h
 have hfl:css.flatten=l.map (Value.int .i64):=by
  have:css=l.map (fun x=>[Value.int .i64 x]):=by
   apply List.ext_getElem?;intro i
   by_cases hi:i<l.length
   ·obtain ⟨cs,h4,h5,h6⟩:=h3 i hi;rw [h4,List.getElem?_map,List.getElem?_eq_getElem hi];rw [h6.1];rfl
   ·rw [List.getElem?_eq_none (by omega),List.getElem?_eq_none (by simp;omega)]
  rw [this];clear this h3 h1 h2
  induction l with
  |nil=>rfl
  |cons a l ih=>simpa using ih
 rw [hfl] at h2;exact own_baseI (Nat.zero_le _) h2
theorem tells5_any (d:Nat) (h13:13<=d) (v:Value) (f:Fil) (msg:Int) (va ua:Value) (x:Bod) (vb:Value) (l:List UInt8) (kind:Int) (w:World) (hf:FilV All w v f) (hx:DBodF d All w x [va,ua]) (hr:RdB All w vb l) (hll:l.length<=1099511627776) (hT:Tabs w) (hwg:wgt 12 x<=1000000000) (hkd:(Lit.int .i64 kind).wf=true) (hsz:FilSz f) :
  Calls Tryz.prog 3 #[v,.int .i64 msg,.agg #[va,ua],vb,.int .i64 kind] w fun e w'=>e=.returned (.bool true)/\Up w w':=by
 obtain ⟨vm,ve,rfl,hm,he⟩:=id hf;obtain ⟨ma,mc,rfl,_,_⟩:=hm.val;obtain ⟨ea,ec,rfl,_,_⟩:=he.val;obtain ⟨la,lc,rfl,_,_⟩:=hr.val;obtain ⟨av,al,ac,au,am,an,e1⟩:=bod_two hx;simp only [List.cons.injEq,and_true] at e1;obtain ⟨rfl,rfl⟩:=e1;have h64:=b64_of d hx 12
 have hlen:wrongA f msg x=0->(rawB f 12 msg x).length<=1099511627776 - 8200:=fun h=>by
  obtain ⟨g1,_,_,g4⟩:=wrongA_four h;have:=raw_wgt g1 12 msg x g4 h64 (by omega);omega
 (have hs2:f.msgs.length+f.enums.length<=9223372036854775807:=by have h1:=hsz.1;have h2:=hsz.2.1;omega);have Hfl:=hid (show ∀ m∈f.msgs,m.fields.length<=2199023255552 from fun m hm=>by have:=(hsz.2.2.1 m hm).1;omega);have Hf:=hid hf;have Hr:=hid hr;have HT:=hid hT;have Hll:=hid hll;have Hx:=hid hx;have Hlen:=hid hlen;have H13:=hid h13;have Hs2:=hid hs2;have Hm:=hid hm;have Hkd:=hid (fun W=>how_r kind W hkd);have Hkc:=hid (fun W=>how_c kind W);generalize howC kind=HK at *;clear hf hr hT hm he hll hx hwg h64 hlen h13 hs2 hsz hkd
 go_enter Tryz.func3,Tryz.ntmps3
 go_upto_region 1 with (fail)
 generalize hW:(w.alloc (.cells #[.slice ma f.msgs.length mc,.slice ea f.enums.length ec] 25)).alloc (.cells #[.slice av al ac,.slice au am an] 29)=w1;(have hb0:w1.heap[w.heap.size]? = some (.cells #[.slice ma f.msgs.length mc,.slice ea f.enums.length ec] 25 (0,0)):=by rw [←hW];exact blk_old _ (blk_new w _ rfl));(have hb1:w1.heap[w.heap.size+1]? = some (.cells #[.slice av al ac,.slice au am an] 29 (0,0)):=by rw [←hW];exact blk_new (w.alloc _) _ (by simp));(have hu1:Up w w1:=by rw [←hW];exact ((Up.refl w).alloc _).alloc _);have U1:=hid hu1;have HbB0:=hid hb0;have HbB1:=hid hb1;obtain ⟨B0,hB0⟩:∃ B,w.heap.size=B:=⟨_,rfl⟩;rw [hB0] at HbB0 HbB1 ⊢;obtain ⟨B1,hB1⟩:∃ B,B0+1=B:=⟨_,rfl⟩;rw [hB1] at HbB1 ⊢;clear hB1;clear hW hb0 hb1 hu1 hB0
 go_upto_region 3 with (first
  |(go_at_call 4;go_must (refine (Hkc.out _).mono ?_;rintro e w2 ⟨rfl,rfl⟩))
  |(go_at_call 5;go_must (refine (Hkd.out _).mono ?_;rintro e w2 ⟨rfl,hu⟩;have U2:=hid hu;clear hu)))
 have f0:=ro0 (U2.out.blk HbB0.out);clear Hkd Hkc
 go_upto_region 4 with (fail)
 clear f0;(go_loopw [30] (fun i wr=>∃ k:Nat,k<=f.msgs.length/\i=.int .i64 k/\Up w2 wr) (fun i _=>f.msgs.length - (intOf i).toNat));case atStart=>exact ⟨0,Nat.zero_le _,rfl,Up.refl _⟩
 case round =>
  obtain ⟨k,hk,rfl,hu⟩:=hrel;have Hu:=hid hu;clear hu
  by_cases hlt:k<f.msgs.length
  ·obtain ⟨mb,mo,cs,rfl,_,_,hcs,hd⟩:=(Hm.out.up (stable_msg) (U1.out.trans (U2.out.trans Hu.out))).at hlt;obtain ⟨vf,vb,hd,hfs,hbs,hnm⟩:=hd;subst hd;obtain ⟨fa,fc,rfl,_,_⟩:=hfs.val;obtain ⟨ba,bc,rfl,_,_⟩:=hbs.val;have s0:=hcs 0 _ rfl;have s1:=hcs 1 _ rfl;have s2:=hcs 2 _ rfl;simp only [Nat.add_zero] at s0;(have hk0:(0:Int)<=(k:Int):=by omega);(have hk1:(k:Int)<(f.msgs.length:Int):=by omega);have Hfs:=hid hfs;have Hfz:=hid (Hfl.out f.msgs[k] (List.getElem_mem hlt));clear hcs hbs hnm hfs;generalize f.msgs[k]=m at *;obtain ⟨wo,rfl⟩:∃ wo:World,wo=wr:=⟨_,rfl⟩
   go_upto_region 6 with (fail)
   obtain ⟨X,hX⟩:∃ X,wo.heap.size=X:=⟨_,rfl⟩;have hy:=blk_new wo (.cells #[.string ⟨m.name.toArray⟩,.slice fa m.fields.length fc,.slice ba m.barred.length bc] 35) (g:=X) hX.symm;have huy:=(Up.refl wo).alloc (.cells #[.string ⟨m.name.toArray⟩,.slice fa m.fields.length fc,.slice ba m.barred.length bc] 35);rw [hX];generalize hwy:wo.alloc (.cells #[.string ⟨m.name.toArray⟩,.slice fa m.fields.length fc,.slice ba m.barred.length bc] 35)=wy at *;have Huy:=hid huy;have q0:=ro0 hy;have q1:=ro1 hy;have q2:=ro2 hy;have DD:=hid (fun W (u:Up wy W)=>(⟨u.cell_some q0,u.cell_some q1,u.cell_some q2⟩:W.cell? ⟨X,0,none⟩=some (.string ⟨m.name.toArray⟩)/\W.cell? ⟨X,1,none⟩=some (.slice fa m.fields.length fc)/\W.cell? ⟨X,2,none⟩=some (.slice ba m.barred.length bc)));have dd:wy.drew.cell? ⟨X,0,none⟩=some (.string ⟨m.name.toArray⟩)/\wy.drew.cell? ⟨X,1,none⟩=some (.slice fa m.fields.length fc)/\wy.drew.cell? ⟨X,2,none⟩=some (.slice ba m.barred.length bc):=⟨q0,q1,q2⟩;have hnc:=fun W (u:Up wy W)=>(numbers_any m (.string ⟨m.name.toArray⟩) (.slice fa m.fields.length fc) (.slice ba m.barred.length bc) W ⟨_,rfl⟩ ⟨_,_,_,rfl⟩ (Hfs.out.up stable_fld (Huy.out.trans u)) Hfz.out).mono (R':=fun e w'=>∃ v',e=.returned v'/\OwnI 0 w' v' (numsC m)/\Up W w') (fun e w' h=>by obtain ⟨v',h1,h2,h3⟩:=h;exact ⟨v',h1,own_ints h2,h3⟩);have hnr:=fun W (u:Up wy W)=>(nums_r m (.string ⟨m.name.toArray⟩) (.slice fa m.fields.length fc) (.slice ba m.barred.length bc) W ⟨_,rfl⟩ ⟨_,_,_,rfl⟩ (Hfs.out.up stable_fld (Huy.out.trans u)) Hfz.out).mono (R':=fun e w'=>∃ v',e=.returned v'/\OwnI 0 w' v' (numsC m)/\Up W w') (fun e w' h=>by obtain ⟨v',h1,h2,h3⟩:=h;exact ⟨v',h1,own_baseI (Nat.zero_le _) h2,h3⟩);obtain ⟨L,hL⟩:∃ L,numsC m=L:=⟨_,rfl⟩;rw [hL] at hnc hnr;(have hLz:L.length<=2199023255552:=by rw [←hL,numsC,List.length_mergeSort,List.length_map];exact Hfz.out);have Hnc:=hid hnc;have Hnr:=hid hnr;clear hL hnc hnr hwy hy huy s0 s1 s2 hX q0 q1 q2
   go_cut [13,14] (fun p q wc=>∃ s1 n1 s2 n2,p=.slice s1 L.length n1/\q=.slice s2 L.length n2/\OwnI 0 wc (.slice s1 L.length n1) L/\OwnI 0 wc (.slice s2 L.length n2) L/\Up wy wc)
   case first =>
    go_region_held3 (fun w'=>w'.cell? ⟨X,0,none⟩=some (.string ⟨m.name.toArray⟩)/\w'.cell? ⟨X,1,none⟩=some (.slice fa m.fields.length fc)/\w'.cell? ⟨X,2,none⟩=some (.slice ba m.barred.length bc))
     (first|with_reducible exact dd|with_reducible exact DD.out _ hz1|with_reducible exact DD.out _ hz2)
     (first
      |(go_at_call 6
        first
         |(refine (Hnc.out _ (Up.refl wy).drew).mono ?_;rintro e w3 ⟨v3,rfl,ho3,hu3⟩;have hz1:=(Up.refl wy).drew.trans hu3;obtain ⟨s3,n3,rfl⟩:=own_val ho3)
         |(refine (Hnc.out _ hz2).mono ?_;rintro e w3 ⟨v3,rfl,ho3,hu3⟩;have hz1:=hz2.trans hu3;have ho4:=ho4.up hu3;obtain ⟨s3,n3,rfl⟩:=own_val ho3))
      |(go_at_call 7
        first
         |(refine (Hnr.out _ (Up.refl wy).drew).mono ?_;rintro e w4 ⟨v4,rfl,ho4,hu4⟩;have hz2:=(Up.refl wy).drew.trans hu4;obtain ⟨s4,n4,rfl⟩:=own_val ho4)
         |(refine (Hnr.out _ hz1).mono ?_;rintro e w4 ⟨v4,rfl,ho4,hu4⟩;have hz2:=hz1.trans hu4;have ho3:=ho3.up hu4;obtain ⟨s4,n4,rfl⟩:=own_val ho4)))
    all_goals
     go_wp2_with fail
     go_meet
    exact ⟨s3,n3,s4,n4,rfl,rfl,ho3,ho4,hz2⟩
   case rest =>
   obtain ⟨s1,n1,s2,n2,rfl,rfl,ho1,ho2,huc⟩:=hcut;obtain ⟨wn,rfl⟩:∃ wn:World,wn=wc:=⟨_,rfl⟩;have Ho1:=hid ho1;have Ho2:=hid ho2;have Hun:=hid (Huy.out.trans huc);clear ho1 ho2 huc dd DD Hnc Hnr
   go_upto_region 10 with (fail)
   (go_loopw [45] (fun i wr=>∃ j:Nat,j<=L.length/\i=.int .i64 j/\Up wn wr) (fun i _=>L.length - (intOf i).toNat));case atStart=>exact ⟨0,Nat.zero_le _,rfl,Up.refl _⟩
   case round =>
    obtain ⟨j,hj,rfl,hu3⟩:=hrel;have Hu3:=hid hu3
    by_cases hjt:j<L.length
    ·obtain ⟨a1,b1,e1,_,hne1,hso1⟩:=(Ho1.out.up hu3).lo;obtain ⟨a2,b2,e2,_,hne2,hso2⟩:=(Ho2.out.up hu3).lo;simp only [Value.slice.injEq] at e1 e2;obtain ⟨rfl,_,rfl⟩:=e1;obtain ⟨rfl,_,rfl⟩:=e2
     cases s1 with
     |none=>have:=(hne1 rfl).1;omega
     |some ad1 =>
      cases s2 with
      |none=>have:=(hne2 rfl).1;omega
      |some ad2 =>
       obtain ⟨g1,rfl,_,_,hg1⟩:=hso1 _ rfl;obtain ⟨g2,rfl,_,_,hg2⟩:=hso2 _ rfl;have y1:=hg1 j hjt;have y2:=hg2 j hjt;(have hj0:(0:Int)<=(j:Int):=by omega);(have hj1:(j:Int)<(L.length:Int):=by omega);clear hso1 hso2 hg1 hg2 hne1 hne2 hu3;generalize L[j]=y at *
       go_upto_region 12 with (fail)
       go_quiet (fail)
       go_wp2_with fail
       go_roundw
       (case rel=>exact ⟨j+1,by omega,by go_num,Hu3.out.drewN _⟩);case measure=>simp [intOf];omega
    ·clear hu3;go_wp2_with fail
     go_roundw
     (case rel=>exact ⟨k+1,by omega,by go_num,(Hu.out.trans Hun.out).trans Hu3.out⟩);case measure=>simp [intOf];omega
  ·clear Hm Hfl;obtain ⟨w3,rfl⟩:∃ y:World,y=wr:=⟨_,rfl⟩;obtain ⟨CB,hCB⟩:∃ CB,bytesC f msg x=CB:=⟨_,rfl⟩;have f0:=ro0 ((U2.out.trans (Hu.out)).blk HbB0.out);have f1:=ro1 ((U2.out.trans (Hu.out)).blk HbB0.out);have x0:=ro0 ((U2.out.trans (Hu.out)).blk HbB1.out);have x1:=ro1 ((U2.out.trans (Hu.out)).blk HbB1.out);have hby:=bytes_c d (.agg #[.slice ma f.msgs.length mc,.slice ea f.enums.length ec]) (.slice av al ac) (.slice au am an) f msg x w3 (Hf.out.up (U1.out.trans (U2.out.trans (Hu.out)))) (stable_bod d _ _ All _ _ _ (Keep.upS (U1.out.trans (U2.out.trans (Hu.out)))) Hx.out) (HT.out.up (U1.out.trans (U2.out.trans (Hu.out)))) Hlen.out;have hbr:=fun W (u:Up w3 W)=>bytes_r d (.agg #[.slice ma f.msgs.length mc,.slice ea f.enums.length ec]) (.slice av al ac) (.slice au am an) f msg x W (Hf.out.up ((U1.out.trans (U2.out.trans (Hu.out))).trans u)) (stable_bod d _ _ All _ _ _ (Keep.upS ((U1.out.trans (U2.out.trans (Hu.out))).trans u)) Hx.out) Hs2.out (fun h=>Nat.le_trans (Hlen.out h) (by decide));rw [hCB] at hby hbr;obtain ⟨CB,ce⟩:=CB;simp only at hby hbr;have Hby:=hid hby;have Hbr:=hid hbr;clear hby hbr hCB
   go_upto_region 17 with (go_at_call 8;go_must (refine Hby.out.mono ?_;rintro e w4 ⟨vx4,rfl,how,hu⟩;obtain ⟨p4,c4,rfl⟩:=own_val how))
   have U4:=hid hu;have HP4:=hid (rdB_of_owns (S:=All) how (fun _ _=>trivial));clear hu how f0 f1 x0 x1 Hby;have f0:=ro0 ((U2.out.trans (Hu.out.trans (U4.out))).blk HbB0.out);have f1:=ro1 ((U2.out.trans (Hu.out.trans (U4.out))).blk HbB0.out);have x0:=ro0 ((U2.out.trans (Hu.out.trans (U4.out))).blk HbB1.out);have x1:=ro1 ((U2.out.trans (Hu.out.trans (U4.out))).blk HbB1.out)
   go_upto_region 18 with (go_at_call 9;go_must (refine (Hbr.out _ U4.out).mono ?_;rintro e w5 ⟨vx5,rfl,how,hu⟩;obtain ⟨p5,c5,rfl⟩:=own_val how))
   have U5:=hid (U4.out.trans hu);have hc1:=run_conv (P:=Tryz.prog) (w:=w5) (HP4.out.up stable_u8 hu) 30 5 9 Tryz.underlying30 Tryz.underlying5 Tryz.underlying9;have hc2:=run_conv (P:=Tryz.prog) (w:=w5) (rdB_of_owns (S:=All) how (fun _ _=>trivial)) 30 5 9 Tryz.underlying30 Tryz.underlying5 Tryz.underlying9;clear hu how f0 f1 x0 x1 Hbr HP4
   go_upto_region 20 with (fail)
   clear hc1 hc2;obtain ⟨RC,hRC⟩:∃ RC,parseA f msg l=RC:=⟨_,rfl⟩;have f0:=ro0 ((U2.out.trans (Hu.out.trans (U5.out))).blk HbB0.out);have f1:=ro1 ((U2.out.trans (Hu.out.trans (U5.out))).blk HbB0.out);have hpa:=parse_c (.agg #[.slice ma f.msgs.length mc,.slice ea f.enums.length ec]) f msg (.slice la l.length lc) l w5 (Hf.out.up (U1.out.trans (U2.out.trans (Hu.out.trans (U5.out))))) (Hr.out.up stable_u8 (U1.out.trans (U2.out.trans (Hu.out.trans (U5.out))))) Hll.out (HT.out.up (U1.out.trans (U2.out.trans (Hu.out.trans (U5.out)))));have hpr:=fun W (u:Up w5 W)=>parse_r3 (.agg #[.slice ma f.msgs.length mc,.slice ea f.enums.length ec]) f msg (.slice la l.length lc) l W (Hf.out.up ((U1.out.trans (U2.out.trans (Hu.out.trans (U5.out)))).trans u)) (Hr.out.up stable_u8 ((U1.out.trans (U2.out.trans (Hu.out.trans (U5.out)))).trans u)) Hll.out Hs2.out;rw [hRC] at hpa hpr;obtain ⟨RB,re⟩:=RC;simp only at hpa hpr;have Hpa:=hid hpa;have Hpr:=hid hpr;clear hpa hpr hRC
   go_upto_region 21 with (go_at_call 10;go_must (refine Hpa.out.mono ?_;rintro e w6 ⟨vv,vu,rfl,hd,hu⟩;obtain ⟨y1,yn,yc,y2,ym,yd,hbt⟩:=bod_two hd;simp only [List.cons.injEq,and_true] at hbt;obtain ⟨rfl,rfl⟩:=hbt))
   have U6:=hid hu;have hd6:=bod_all hd;clear hu hd f0 f1 Hpa;obtain ⟨BY,hBY⟩:∃ G,w6.heap.size=G:=⟨_,rfl⟩;have hblk:=blk_new w6 (.cells #[.slice y1 yn yc,.slice y2 ym yd] 29) (g:=BY) hBY.symm;have hua:=(Up.refl w6).alloc (.cells #[.slice y1 yn yc,.slice y2 ym yd] 29);rw [hBY];generalize hwn:w6.alloc (.cells #[.slice y1 yn yc,.slice y2 ym yd] 29)=w7 at *;have U7:=hid (U6.out.trans hua);have HbBY:=hid hblk;have HD7:=hid (stable_bod 13 _ _ All _ _ _ (Keep.upS hua) hd6);clear hwn hblk hua hBY hd6;have f0:=ro0 ((U2.out.trans (Hu.out.trans (U5.out.trans (U7.out)))).blk HbB0.out);have f1:=ro1 ((U2.out.trans (Hu.out.trans (U5.out.trans (U7.out)))).blk HbB0.out)
   go_upto_region 22 with (go_at_call 11;go_must (refine (Hpr.out _ U7.out).mono ?_;rintro e w8 ⟨vv,vu,rfl,hd8,hu⟩;obtain ⟨z1,zn,zc,z2,zm,zd,hbt⟩:=bod_two hd8;simp only [List.cons.injEq,and_true] at hbt;obtain ⟨rfl,rfl⟩:=hbt))
   have U8:=hid hu;clear hu f0 f1 Hpr;obtain ⟨BZ,hBZ⟩:∃ G,w8.heap.size=G:=⟨_,rfl⟩;have hblk:=blk_new w8 (.cells #[.slice z1 zn zc,.slice z2 zm zd] 29) (g:=BZ) hBZ.symm;have hua:=(Up.refl w8).alloc (.cells #[.slice z1 zn zc,.slice z2 zm zd] 29);rw [hBZ];generalize hwn:w8.alloc (.cells #[.slice z1 zn zc,.slice z2 zm zd] 29)=w9 at *;have U9:=hid (U8.out.trans hua);have HD9:=hid (stable_bod 13 _ _ All _ _ _ (Keep.upS hua) hd8);have yf0:=ro0 (U9.out.blk HbBY.out);have yf1:=ro1 (U9.out.blk HbBY.out);have zf0:=ro0 hblk;have zf1:=ro1 hblk;clear hwn hblk hua hBZ hd8;have Hsm:=hid (same_b 13 RB _ _ _ _ w9 (stable_bod 13 _ _ All _ _ _ (Keep.upS U9.out) HD7.out) HD9.out);go_wp2_with (go_at_call 12;go_must (refine Hsm.out.mono ?_;rintro e w10 ⟨rfl,hu⟩))
   go_ret
   exact ⟨rfl,(U1.out.trans (U2.out.trans (Hu.out.trans (U5.out.trans (U7.out.trans (U9.out)))))).trans hu⟩
end Go.Proofs.YtbceccblepckhaaGreatDoor
