/-
  (*reader).value, of a message.
  (*reader).value: what a record tells of a field.
  pressref3.Value, of a message (written by gen_refval3.py).
-/
import Derived.Test.YtbceccblepckhaaGreatDoorCt39
set_option maxHeartbeats 12800000
set_option linter.unusedVariables false
namespace Go.Proofs.YtbceccblepckhaaGreatDoor
open Go.RowKit
set_option maxRecDepth 100000
open Lib (hid)
abbrev RBodC (k:Nat) (f:Fil):Prop:=∀ (msg:Int) (l:List UInt8) (v:Value) (cb fb:Nat) (w:World),0<=msg->msg<f.msgs.length->ChkAt w cb fb f->RdB All w v l->l.length<=1099511627776->Tabs w ->
 Calls Tryz.prog 21 #[.pointer (some ⟨cb,0,none⟩),.int .i64 msg,v,.int .i64 (13 - k)] w fun e w'=>∃ vv vu,e=.returned (.tuple #[.agg #[vv,vu],.int .i64 (readC f k msg l).2])/\DBodF (k+1) (From w.heap.size) w' (readC f k msg l).1 [vv,vu]/\Up w w'
theorem rvalue_sub (k:Nat) (f:Fil) (ih:RBodC k f) (x:Fld) (r:Rec) (cb fb bf fo b o c3:Nat) (a3:Option Addr) (w:World) (hk13:k<=12) (hc:ChkAt w cb fb f) (hx:FldAt w bf fo x) (h1:w.cell? ⟨b,o+1,none⟩=some (.int .i64 r.how)) (h3:w.cell? ⟨b,o+3,none⟩=some (.slice a3 r.bytes.length c3))
  (hr:RdB All w (.slice a3 r.bytes.length c3) r.bytes) (hbl:r.bytes.length<=1099511627776) (hT:Tabs w) (hk:x.kind=10) (hh:r.how=2) (hm0:0<=msgI f x.type) :
  Calls Tryz.prog 42 #[.pointer (some ⟨cb,0,none⟩),.pointer (some ⟨bf,fo,none⟩),.pointer (some ⟨b,o,none⟩),.int .i64 (12 - k)] w fun e w'=>∃ v3,e=.returned (.tuple #[.agg #[.int .i64 x.number,.slice none 0 0,.slice none 0 0,v3],.bool (decide ((readC f k (msgI f x.type) r.bytes).2=0)),.int .i64 (readC f k (msgI f x.type) r.bytes).2])/\RdS (DBodF (k+1)) 2 (From (w.heap.size+2)) w' v3 (if (readC f k (msgI f x.type) r.bytes).2=0 then [(readC f k (msgI f x.type) r.bytes).1] else [])/\Up w w':=by
 have hmb:=msgI_bd f x.type;(have hm1:msgI f x.type<f.msgs.length:=by omega);have hhw:=how_c x.kind;rw [hk] at hhw;have Hhw:=hid hhw;obtain ⟨hcc,vm,ve,hcm,hce,hfv⟩:=id hc;obtain ⟨vm',ve',he',hm',he''⟩:=id hfv;simp only [Value.agg.injEq,Array.mk.injEq,List.cons.injEq,and_true] at he';obtain ⟨rfl,rfl⟩:=he';obtain ⟨ma,mc,rfl,_,_⟩:=hm'.val;obtain ⟨ea,ec,rfl,_,_⟩:=he''.val;clear hm' he'';have Hmsg:=hid (fun W (u:Up w W)=>find_msg_l (.agg #[.slice ma f.msgs.length mc,.slice ea f.enums.length ec]) f x.type W (hfv.up u));change Hid (∀ W,Up w W->Calls _ _ _ _ fun e w'=>e=Ending.returned (.int .i64 (msgI f x.type))/\Up W w') at Hmsg;have Hbod:=hid (fun W (u:Up w W)=>ih (msgI f x.type) r.bytes _ cb fb W hm0 hm1 (hc.up u) (hr.up stable_u8 u) hbl (hT.up u));obtain ⟨hxb,⟨x0,x1,x2,x3,x4,x5⟩,hxd⟩:=hx;rw [hk] at x2;rw [hh] at h1;(have hdp:IntKind.i64.wrap ((12:Int) - (k:Int)+1)=13 - (k:Int):=by rw [IntKind.wrap_i64];omega);have u2:=((Up.refl w).alloc (.cells #[.int .i64 0,.slice none 0 0,.slice none 0 0,.slice none 0 0] 71)).alloc (.cells #[.int .i64 x.number,.slice none 0 0,.slice none 0 0,.slice none 0 0] 71);have hb:=World.block_lt_of_cell? w _ h1;simp only at hb;(have hb1:bf≠w.heap.size:=by omega);(have hb2:bf≠w.heap.size+1:=by omega);have g1:=u2.cell_some h1;have g2:=u2.cell_some x2;have HP:=hid (fun W (u:Up w W)=>(⟨u.cell_some hcc,u.cell_some hcm,u.cell_some hce,u.cell_some x3,u.cell_some h3⟩:(W.cell? ⟨cb,0,none⟩=some (.pointer (some ⟨fb,0,none⟩))/\W.cell? ⟨fb,0,none⟩=some (.slice ma f.msgs.length mc)/\W.cell? ⟨fb,1,none⟩=some (.slice ea f.enums.length ec)/\W.cell? ⟨bf,fo+3,none⟩=some (.string ⟨x.type.toArray⟩)/\W.cell? ⟨b,o+3,none⟩=some (.slice a3 r.bytes.length c3))));clear hk hh x0 x4 x5 hxd hhw hr hT hfv hc ih;generalize readC f k (msgI f x.type) r.bytes=RC at *;generalize msgI f x.type=mi at *
 go_enter Tryz.func42,Tryz.ntmps42
 go_upto_region 9 with (go_at_call 4;go_must (refine (Hhw.out _).mono ?_;rintro e w1 ⟨rfl,hw1⟩;subst hw1))
 have hk0:((w.alloc (.cells #[.int .i64 0,.slice none 0 0,.slice none 0 0,.slice none 0 0] 71)).alloc (.cells #[.int .i64 x.number,.slice none 0 0,.slice none 0 0,.slice none 0 0] 71)).heap[w.heap.size]? = some (.cells #[.int .i64 0,.slice none 0 0,.slice none 0 0,.slice none 0 0] 71 (0,0)):=blk_old _ (blk_new w _ rfl);have hk1:((w.alloc (.cells #[.int .i64 0,.slice none 0 0,.slice none 0 0,.slice none 0 0] 71)).alloc (.cells #[.int .i64 x.number,.slice none 0 0,.slice none 0 0,.slice none 0 0] 71)).heap[w.heap.size+1]? = some (.cells #[.int .i64 x.number,.slice none 0 0,.slice none 0 0,.slice none 0 0] 71 (0,0)):=blk_new (w.alloc _) _ (by simp);clear g1 g2 h1 h3 x1 x2 x3 hcc hcm hce;generalize hW:(w.alloc (.cells #[.int .i64 0,.slice none 0 0,.slice none 0 0,.slice none 0 0] 71)).alloc (.cells #[.int .i64 x.number,.slice none 0 0,.slice none 0 0,.slice none 0 0] 71)=W at *;have dd:(W.drew.cell? ⟨cb,0,none⟩=some (.pointer (some ⟨fb,0,none⟩))/\W.drew.cell? ⟨fb,0,none⟩=some (.slice ma f.msgs.length mc)/\W.drew.cell? ⟨fb,1,none⟩=some (.slice ea f.enums.length ec)/\W.drew.cell? ⟨bf,fo+3,none⟩=some (.string ⟨x.type.toArray⟩)/\W.drew.cell? ⟨b,o+3,none⟩=some (.slice a3 r.bytes.length c3)):=HP.out _ u2.drew;have Hz2:=hid (show W.heap.size=w.heap.size+2 by rw [←hW];simp);clear hW
 go_cut [14,15] (fun p e wc=>∃ (G:Nat) (s1 s2:Option Addr) (n1 c1 n2 c2:Nat),p=.pointer (some ⟨G,0,none⟩)/\e=.int .i64 RC.2/\wc.heap[G]? = some (.cells #[.slice s1 n1 c1,.slice s2 n2 c2] 29 (0,0))/\DBodF (k+1) (fun b=>w.heap.size+2<=b/\b≠G) wc RC.1 [.slice s1 n1 c1,.slice s2 n2 c2]/\w.heap.size+2<=G/\Up W wc)
 case first =>
  go_region_held3 (fun w'=>(w'.cell? ⟨cb,0,none⟩=some (.pointer (some ⟨fb,0,none⟩))/\w'.cell? ⟨fb,0,none⟩=some (.slice ma f.msgs.length mc)/\w'.cell? ⟨fb,1,none⟩=some (.slice ea f.enums.length ec)/\w'.cell? ⟨bf,fo+3,none⟩=some (.string ⟨x.type.toArray⟩)/\w'.cell? ⟨b,o+3,none⟩=some (.slice a3 r.bytes.length c3)))
   (first|with_reducible exact dd|with_reducible exact HP.out _ (Up.setCell (Up.setCell (hu6.alloc _) (show w.heap.size<=w6.heap.size from hu6.size) _) (show w.heap.size<=w6.heap.size from hu6.size) _)|with_reducible exact HP.out _ (Up.setCell (Up.setCell hu6 (show w.heap.size<=w5.heap.size from hu5.size) _) (show w.heap.size<=w5.heap.size from hu5.size) _)|with_reducible exact HP.out _ (Up.setCell (Up.setCell hu6 (show w.heap.size<=W.heap.size from u2.size) _) (show w.heap.size<=W.heap.size from u2.size) _)|with_reducible exact HP.out _ (hu6.alloc _)|with_reducible exact HP.out _ hu6|with_reducible exact HP.out _ (hu5.alloc _)|with_reducible exact HP.out _ hu5|with_reducible exact HP.out _ (u2.alloc _).drew|with_reducible exact HP.out _ (u2.drew.alloc _))
   (first
    |(go_at_call 69
      first
       |(refine (Hmsg.out _ u2.drew).mono ?_;rintro e w5 ⟨rfl,hu5'⟩;have hu5:=u2.drew.trans hu5';have hw5:=(Up.refl W).drew.trans hu5')
       |(refine (Hmsg.out _ (u2.alloc _).drew).mono ?_;rintro e w5 ⟨rfl,hu5'⟩;have hu5:=(u2.alloc _).drew.trans hu5';have hw5:=((Up.refl W).alloc _).drew.trans hu5';have hg5:w5.heap[W.heap.size]? = some (.cells #[.slice none 0 0,.slice none 0 0] 29 (0,0)):=hu5'.blk (blk_new W _ rfl)))
    |(go_at_call 21
      first
       |(refine (Hbod.out _ hu5).mono ?_;rintro e w6 ⟨vv,vu,rfl,hd6,hu6'⟩;obtain ⟨s1,n1,c1,s2,n2,c2,hbt⟩:=bod_two hd6;simp only [List.cons.injEq,and_true] at hbt;obtain ⟨rfl,rfl⟩:=hbt;have hu6:=hu5.trans hu6';have hw6:=hw5.trans hu6';try (have hg6:w6.heap[W.heap.size]? = some (.cells #[.slice none 0 0,.slice none 0 0] 29 (0,0)):=hu6'.blk hg5;have q0:=ro0 hg6;have q1:=ro1 hg6;have qf:∀ o,w6.frozen? ⟨W.heap.size,o,none⟩=false:=(fun o=>frozen_of_row w6 _ o _ _ hg6);have qz:W.heap.size<w6.heap.size:=lt_of_block hg6))
       |(refine (Hbod.out _ (hu5.alloc _)).mono ?_;rintro e w6 ⟨vv,vu,rfl,hd6,hu6'⟩;obtain ⟨s1,n1,c1,s2,n2,c2,hbt⟩:=bod_two hd6;simp only [List.cons.injEq,and_true] at hbt;obtain ⟨rfl,rfl⟩:=hbt;have hu6:=(hu5.alloc _).trans hu6';have hw6:=(hw5.alloc _).trans hu6';have hg6:w6.heap[w5.heap.size]? = some (.cells #[.slice none 0 0,.slice none 0 0] 29 (0,0)):=hu6'.blk (blk_new w5 _ rfl);have q0:=ro0 hg6;have q1:=ro1 hg6;have qf:∀ o,w6.frozen? ⟨w5.heap.size,o,none⟩=false:=(fun o=>frozen_of_row w6 _ o _ _ hg6);have qz:w5.heap.size<w6.heap.size:=lt_of_block hg6)))
  all_goals
   go_wp2_with fail
   go_meet
  ·exact ⟨w6.heap.size,s1,s2,n1,c1,n2,c2,rfl,rfl,blk_new w6 _ rfl,stable_bod _ _ _ _ _ _ _ (fun b hs hb=>⟨((Up.refl w6).alloc _).block b hb,by have:=hw5.size;have:=Hz2.out;have:w5.heap.size<=b:=hs;omega,by omega⟩) hd6,by have:=hw6.size;have:=Hz2.out;omega,hw6.alloc _⟩
  ·exact ⟨w5.heap.size,s1,s2,n1,c1,n2,c2,rfl,rfl,box2_set hg6 _ _,stable_bod _ _ _ _ _ _ _ (fun b hs hb=>by
    (have hs':w5.heap.size+1<=b:=by simpa using hs);exact ⟨box2_other (by omega) _ _,by have:=hw5.size;have:=Hz2.out;omega,by omega⟩) hd6,by have:=hw5.size;have:=Hz2.out;omega,Up.setCell (Up.setCell hw6 (show W.heap.size<=w5.heap.size from hw5.size) _) (show W.heap.size<=w5.heap.size from hw5.size) _⟩
  ·exact ⟨W.heap.size,s1,s2,n1,c1,n2,c2,rfl,rfl,box2_set hg6 _ _,stable_bod _ _ _ _ _ _ _ (fun b hs hb=>by
    have hs':w5.heap.size<=b:=hs;have h5:=lt_of_block hg5;exact ⟨box2_other (by omega) _ _,by have:=Hz2.out;omega,by omega⟩) hd6,by have:=Hz2.out;omega,Up.setCell (Up.setCell hw6 (Nat.le_refl W.heap.size) _) (Nat.le_refl W.heap.size) _⟩
 case rest =>
 obtain ⟨G,s1,s2,n1,c1,n2,c2,rfl,rfl,hG,hdG,hzG,huW⟩:=hcut;have k0:=huW.blk hk0;have k1:=huW.blk hk1;have HuW:=hid (u2.trans huW);have HG:=hid hG;have HdG:=hid hdG;have HzG:=hid hzG;have z0:=ro0 k0;have z1:=ro1 k0;have z2:=ro2 k0;have z3:=ro3 k0;have y0:=ro0 k1;have y1:=ro1 k1;have y2:=ro2 k1;have y3:=ro3 k1;have f0:∀ o,wc.frozen? ⟨w.heap.size,o,none⟩=false:=fun o=>frozen_of_row wc _ o _ _ k0;have f1:∀ o,wc.frozen? ⟨w.heap.size+1,o,none⟩=false:=fun o=>frozen_of_row wc _ o _ _ k1;have g0:=ro0 hG;have g1:=ro1 hG;have q0:=lt_of_block k0;have q1:=lt_of_block k1;have qG:=lt_of_block hG;(have ne0:w.heap.size≠wc.heap.size:=by omega);(have ne1:w.heap.size+1≠wc.heap.size:=by omega);(have neG:G≠wc.heap.size:=by omega);obtain ⟨RB,re⟩:=RC;simp only at HdG ⊢;clear hk0 hk1 k0 k1 hG hdG hzG huW u2 dd Hmsg Hbod HP Hhw Hz2
 by_cases hre:re=0
 ·subst hre;(go_wp2_with fail);refine bodyPost_ret (v:=.tuple #[.agg #[.int .i64 x.number,.slice none 0 0,.slice none 0 0,.slice (some ⟨wc.heap.size,0,none⟩) 1 1],.bool true,.int .i64 0]) (by simp [results,Tryz.results42,go_sem,z0,z1,z2,z3,q0]) rfl ?_;refine ⟨_,rfl,?_,?_⟩
  ·refine rd_one (t:=29) (vv:=.slice s1 n1 c1) (vu:=.slice s2 n2 c2) (blk_new _ _ (by simp)) (show w.heap.size+2<=wc.heap.size by have:=HzG.out;omega) ?_;refine stable_bod (k+1) (From (w.heap.size+2)) _ _ _ _ _ (fun b hs hb=>⟨((Up.refl _).alloc _).block b hb,hs⟩) ?_;refine stable_bod (k+1) _ _ _ _ _ _ ?_ HdG.out;repeat (with_reducible refine Keep.trans ?_ (Keep.setCell ?_ _))
   ·exact fun b hs hb=>⟨rfl,hs.1⟩
   all_goals (show ¬ (w.heap.size+2<=_);simp)
  ·refine Up.alloc ?_ _;repeat (with_reducible refine Up.setCell ?_ ?_ _)
   ·exact HuW.out
   all_goals simp
 ·(have hne:(re != 0)=true:=by rw [bne_iff_ne];exact hre);have Hre:=hid hre;clear hre;(go_wp2_with fail);refine bodyPost_ret (v:=.tuple #[.agg #[.int .i64 x.number,.slice none 0 0,.slice none 0 0,.slice none 0 0],.bool false,.int .i64 re]) (by simp [results,Tryz.results42,go_sem,z0,z1,z2,z3]) rfl ?_;refine ⟨.slice none 0 0,rfl,rdS_nil _ _ _ _,?_⟩;repeat (with_reducible refine Up.setCell ?_ ?_ _)
  ·exact HuW.out
  all_goals simp
end Go.Proofs.YtbceccblepckhaaGreatDoor
namespace Go.Proofs.YtbceccblepckhaaGreatDoor
open Go.RowKit
theorem pack_err {kind:Int}:∀ (f:Nat) (l:List UInt8),(packP kind f l).2≠0->(packP kind f l).1=[]
 |0,l,h=>by rw [packP]
 |f+1,l,h=>by
  rw [packP] at h ⊢
  by_cases hl:l=[]
  ·rw [if_pos hl]
  rw [if_neg hl] at h ⊢
  by_cases hh:(headC (howC kind) l).2.2=0
  ·rw [if_neg (by simpa using hh)] at h ⊢;simp only at h ⊢
   by_cases hp:(packP kind f (l.drop (headC (howC kind) l).2.1)).2=0
   ·rw [if_neg (by simpa using hp)] at h;exact absurd rfl h
   ·rw [if_pos hp]
  ·rw [if_pos hh]
theorem numbers_len {x:Fld} {r:Rec} (h1:1<=x.kind) (h2:x.kind<=7):(numbersC x r).1.length<=r.bytes.length+1:=by
 unfold numbersC
 by_cases hh:r.how=howC x.kind
 ·rw [if_pos hh];simp
 ·rw [if_neg hh]
  by_cases hm:r.how≠2∨x.many=false
  ·rw [if_pos hm];simp
  ·rw [if_neg hm]
   by_cases he:(packP x.kind (r.bytes.length+1) r.bytes).2=0
   ·have:=(pack_fits h1 h2 _ _ he).2;omega
   ·rw [pack_err _ _ he];simp
theorem rd_two {S:Nat->Prop} {w:World} {x:Val} {vb vy vs:Value} {d:Nat} (h0:okI x.1) (h1:RdS DU64 1 S w vb x.2.1) (h2:RdS DBytes 1 S w vy x.2.2.1) (h3:RdS (DBodF d) 2 S w vs x.2.2.2) (hz:ValSz x):∃ a1 c1 a2 c2 a3 c3,vb=.slice a1 x.2.1.length c1/\vy=.slice a2 x.2.2.1.length c2/\vs=.slice a3 x.2.2.2.length c3/\DValD d S w x [.int .i64 x.1,.slice a1 x.2.1.length c1,.slice a2 x.2.2.1.length c2,.slice a3 x.2.2.2.length c3]:=by
 obtain ⟨a1,c1,rfl,_,_⟩:=h1.val;obtain ⟨a2,c2,rfl,_,_⟩:=h2.val;obtain ⟨a3,c3,rfl,_,_⟩:=h3.val;exact ⟨a1,c1,a2,c2,a3,c3,rfl,rfl,rfl,_,_,_,rfl,h0,h1,h2,h3,hz⟩
theorem rvalue_c (S:Nat->Prop) (k:Nat) (f:Fil) (ih:RBodC k f) (x:Fld) (r:Rec) (cb fb bf fo b o c3:Nat) (a3:Option Addr) (w:World) (hk13:k<=12) (hc:ChkAt w cb fb f) (hx:FldAt w bf fo x) (h1:w.cell? ⟨b,o+1,none⟩=some (.int .i64 r.how)) (h2:w.cell? ⟨b,o+2,none⟩=some (.int .u64 (r.bits:Int))) (h3:w.cell? ⟨b,o+3,none⟩=some (.slice a3 r.bytes.length c3))
  (hr:RdB S w (.slice a3 r.bytes.length c3) r.bytes) (hbl:r.bytes.length<=4000) (h64:r.bits<18446744073709551616) (hT:Tabs w) (ht:typedN f x=0) (n1:1<=x.number) (n2:x.number<536870912) :
  Calls Tryz.prog 42 #[.pointer (some ⟨cb,0,none⟩),.pointer (some ⟨bf,fo,none⟩),.pointer (some ⟨b,o,none⟩),.int .i64 (12 - k)] w fun e w'=>∃ a1 c1 a2 c2 a3 c3,e=.returned (.tuple #[.agg #[.int .i64 x.number,.slice a1 (valueC (fun bs=>readC f k (msgI f x.type) bs) x r).1.2.1.length c1,.slice a2 (valueC (fun bs=>readC f k (msgI f x.type) bs) x r).1.2.2.1.length c2,.slice a3 (valueC (fun bs=>readC f k (msgI f x.type) bs) x r).1.2.2.2.length c3],.bool (valueC (fun bs=>readC f k (msgI f x.type) bs) x r).2.1,.int .i64 (valueC (fun bs=>readC f k (msgI f x.type) bs) x r).2.2]) /\
   DValD (k+1) (SVal S w.heap.size) w' (valueC (fun bs=>readC f k (msgI f x.type) bs) x r).1 [.int .i64 x.number,.slice a1 (valueC (fun bs=>readC f k (msgI f x.type) bs) x r).1.2.1.length c1,.slice a2 (valueC (fun bs=>readC f k (msgI f x.type) bs) x r).1.2.2.1.length c2,.slice a3 (valueC (fun bs=>readC f k (msgI f x.type) bs) x r).1.2.2.2.length c3]/\Up w w':=by
 obtain ⟨t1,t2,t3,t4⟩:=typed_facts ht;(have hok:okI x.number:=by unfold okI;omega);have hrA:RdB All w (.slice a3 r.bytes.length c3) r.bytes:=hr.keep stable_u8 Keep.all;have hnil64:∀ (Q:Nat->Prop) (W:World),RdS DU64 1 Q W (.slice none 0 0) ([]:List Nat):=fun _ _=>rdS_nil _ _ _ _;have hnilB:∀ (Q:Nat->Prop) (W:World),RdS DBytes 1 Q W (.slice none 0 0) ([]:List (List UInt8)):=fun _ _=>rdS_nil _ _ _ _;have hnilS:∀ (Q:Nat->Prop) (W:World),RdS (DBodF (k+1)) 2 Q W (.slice none 0 0) ([]:List Bod):=fun _ _=>rdS_nil _ _ _ _;unfold valueC
 by_cases hk:howC x.kind≠2
 ·rw [if_pos hk];(have h7:x.kind<=7:=by rcases kind_how t1 t2 with h|h|h;exact h.2;exact absurd h.1 hk;exact absurd h.1 hk);refine (rvalue_num x r cb bf fo b o c3 a3 (12 - k) w hx h1 h2 h3 hrA (by omega) h64 hk).mono ?_;rintro e w' ⟨v1,rfl,hv,hu⟩
  obtain ⟨p1,q1,p2,q2,p3,q3,e1,e2,e3,hd⟩:=rd_two (d:=k+1) (x:=(x.number,(numbersC x r).1,[],[])) hok (hv.keep stable_u64 (S':=SVal S w.heap.size) (Keep.weak fun b hb=>.inr hb)) (hnilB _ _) (hnilS _ _) (by
   have:=numbers_len (r:=r) t1 h7;refine ⟨?_,by simp,by simp⟩;simp only;omega)
  subst e1;(cases e2;cases e3);exact ⟨_,_,_,_,_,_,rfl,hd,hu⟩
 ·rw [if_neg hk];have hk2:howC x.kind=2:=Classical.not_not.1 hk
  have hnil:∀ (W:World),DValD (k+1) (SVal S w.heap.size) W (x.number,[],[],[]) [.int .i64 x.number,.slice none 0 0,.slice none 0 0,.slice none 0 0]:=fun W =>
   ⟨_,_,_,rfl,hok,hnil64 _ _,hnilB _ _,hnilS _ _,⟨by simp,by simp,by simp⟩⟩
  by_cases hw:r.how≠2
  ·rw [if_pos hw];refine (rvalue_unfit x r cb bf fo b o (12 - k) w hx h1 hk2 hw).mono ?_;rintro e w' ⟨rfl,hu⟩;exact ⟨_,_,_,_,_,_,rfl,hnil w',hu⟩
  ·rw [if_neg hw];have hw:r.how=2:=Classical.not_not.1 hw
   by_cases h8:x.kind=8
   ·rw [if_pos h8];refine (rvalue_text S x r cb bf fo b o c3 a3 (12 - k) w hx h1 h3 hr (by omega) h8 hT hw).mono ?_;rintro e w' ⟨v2,rfl,hv,hu⟩
    cases hvd:Lib.validD r.bytes with
    |true =>
     rw [hvd] at hv;obtain ⟨p1,q1,p2,q2,p3,q3,e1,e2,e3,hd⟩:=rd_two (d:=k+1) (x:=(x.number,[],[r.bytes],[])) hok (hnil64 _ _) hv (hnilS _ _) ⟨by simp,by simp,by simp⟩;subst e2;(cases e1;cases e3);exact ⟨_,_,_,_,_,_,rfl,hd,hu⟩
    |false =>
     rw [hvd] at hv;obtain ⟨p1,q1,p2,q2,p3,q3,e1,e2,e3,hd⟩:=rd_two (d:=k+1) (x:=(x.number,[],[],[])) hok (hnil64 _ _) hv (hnilS _ _) ⟨by simp,by simp,by simp⟩;subst e2;(cases e1;cases e3);exact ⟨_,_,_,_,_,_,rfl,hd,hu⟩
   ·rw [if_neg h8]
    by_cases h9:x.kind=9
    ·rw [if_pos h9];refine (rvalue_raw S x r cb bf fo b o c3 a3 (12 - k) w hx h1 h3 hr (by omega) h9 hw).mono ?_;rintro e w' ⟨v2,rfl,hv,hu⟩;obtain ⟨p1,q1,p2,q2,p3,q3,e1,e2,e3,hd⟩:=rd_two (d:=k+1) (x:=(x.number,[],[r.bytes],[])) hok (hnil64 _ _) hv (hnilS _ _) ⟨by simp,by simp,by simp⟩;subst e2;(cases e1;cases e3);exact ⟨_,_,_,_,_,_,rfl,hd,hu⟩
    ·rw [if_neg h9];(have h10:x.kind=10:=by rcases howC_two.1 hk2 with h|h|h;exact absurd h h8;exact absurd h h9;exact h);refine (rvalue_sub k f ih x r cb fb bf fo b o c3 a3 w hk13 hc hx h1 h3 hrA (by omega) hT h10 hw (t3 h10)).mono ?_;rintro e w' ⟨v3,rfl,hv,hu⟩;have hv:=hv.keep (stable_bod (k+1)) (S':=SVal S w.heap.size) (Keep.weak fun b hb=>.inr hb)
     by_cases hz:(readC f k (msgI f x.type) r.bytes).2=0
     ·rw [if_pos hz] at hv;rw [if_neg (by simpa using hz)];obtain ⟨p1,q1,p2,q2,p3,q3,e1,e2,e3,hd⟩:=rd_two (d:=k+1) (x:=(x.number,[],[],[(readC f k (msgI f x.type) r.bytes).1])) hok (hnil64 _ _) (hnilB _ _) hv ⟨by simp,by simp,by simp⟩;subst e3;(cases e1;cases e2);refine ⟨_,_,_,_,_,_,?_,hd,hu⟩;rw [decide_eq_true hz,hz];rfl
     ·rw [if_neg hz] at hv;rw [if_pos (by simpa using hz)];obtain ⟨p1,q1,p2,q2,p3,q3,e1,e2,e3,hd⟩:=rd_two (d:=k+1) (x:=(x.number,[],[],[])) hok (hnil64 _ _) (hnilB _ _) hv ⟨by simp,by simp,by simp⟩;subst e3;(cases e1;cases e2);refine ⟨_,_,_,_,_,_,?_,hd,hu⟩;rw [decide_eq_false hz];rfl
set_option maxRecDepth 100000
open Lib (hid)
abbrev ReadC (k:Nat) (f:Fil):Prop:=∀ (S:Nat->Prop) (msg:Int) (l:List UInt8) (fv v:Value) (w:World),0<=msg->msg<f.msgs.length->FilV All w fv f->RdB S w v l->l.length<=1099511627776 ->
 Calls Tryz.prog 23 #[fv,.int .i64 msg,v,.int .i64 (13 - k)] w fun e w'=>∃ vv vu,e=.returned (.tuple #[.agg #[vv,vu],.int .i64 (readC f k msg l).2])/\DBodF (k+1) (Sx S w) w' (readC f k msg l).1 [vv,vu]/\Up w w'
def S4 (S:Nat->Prop) (B:Nat):Nat->Prop:=fun q=>(S q/\q<B)∨B+4<=q
theorem rval_sub {S:Nat->Prop} (k:Nat) (f:Fil) (ih:ReadC k f) (x:Fld) (r:Rec) (m1 e1 a3:Option Addr) (m3 e3 c3:Nat) (bf fo:Nat) (w:World) (hf:FilV All w (.agg #[.slice m1 f.msgs.length m3,.slice e1 f.enums.length e3]) f) (hx:FldAt w bf fo x) (hr:RdB S w (.slice a3 r.bytes.length c3) r.bytes) (hbl:r.bytes.length<=4000) (hk12:k<=12) (hk:x.kind=10) (hh2:r.how=2) (hm0:0<=msgI f x.type) :
  Calls Tryz.prog 49 #[.agg #[.slice m1 f.msgs.length m3,.slice e1 f.enums.length e3],.pointer (some ⟨bf,fo,none⟩),.agg #[.int .i64 r.number,.int .i64 r.how,.int .u64 (r.bits:Int),.slice a3 r.bytes.length c3],.int .i64 (12 - k)] w fun e w' =>
   ∃ a1 c1,e=.returned (.tuple #[.agg #[.int .i64 x.number,.slice none 0 0,.slice none 0 0,.slice a1 1 c1],.int .i64 (readC f k (msgI f x.type) r.bytes).2])/\RdS (DBodF (k+1)) 2 (Sx S w) w' (.slice a1 1 c1) [(readC f k (msgI f x.type) r.bytes).1]/\Up w w':=by
 have hmb:=msgI_bd f x.type;(have hm1:msgI f x.type<f.msgs.length:=by omega);have Hmsg:=hid (fun W (u:Up w W)=>find_msg_r (.agg #[.slice m1 f.msgs.length m3,.slice e1 f.enums.length e3]) f x.type W (hf.up u));change Hid (∀ W,Up w W->Calls _ _ _ _ fun e w'=>e=Ending.returned (.int .i64 (msgI f x.type))/\Up W w') at Hmsg;have Hbod:=hid (fun W (u:Up w W)=>ih (SL S w.heap.size) (msgI f x.type) r.bytes (.agg #[.slice m1 f.msgs.length m3,.slice e1 f.enums.length e3]) (.slice a3 r.bytes.length c3) W hm0 hm1 (hf.up u) ((hr.keep stable_u8 (fun q hq hb=>⟨rfl,hq,hb⟩)).up stable_u8 u) (by omega));change Hid (∀ W,Up w W->Calls _ _ _ _ _) at Hbod;(have hdp:IntKind.i64.wrap ((12:Int) - (k:Int)+1)=13 - (k:Int):=by rw [IntKind.wrap_i64];omega);(have hk2:howC x.kind=2:=by rw [hk];rfl);(have b8:(x.kind==8)=false:=by rw [hk];rfl);(have b9:(x.kind==9)=false:=by rw [hk];rfl);(have b10:(x.kind==10)=true:=by rw [hk];rfl);generalize readC f k (msgI f x.type) r.bytes=RC at *;generalize msgI f x.type=mi at *;clear hk ih hm0 hm1 hf hmb;have hk:=hk2;have Hh2:=hid hh2;clear hk2 hh2;obtain ⟨hxb,⟨x0,x1,x2,x3,x4,x5⟩,hxd⟩:=hx;have Hwf:=hid (wf_int hxd.2.2.1);(have bh:(howC x.kind==2)=true:=by simpa using hk);have Hr:=hid hr;have Hbl:=hid hbl;clear hr x0 x4 x5 hxd hbl;obtain ⟨W,hW⟩:∃ W,(((w.alloc (.cells #[.slice m1 f.msgs.length m3,.slice e1 f.enums.length e3] 25)).alloc (.cells #[.int .i64 r.number,.int .i64 r.how,.int .u64 (r.bits:Int),.slice a3 r.bytes.length c3] 87)).alloc (.cells #[.int .i64 0,.slice none 0 0,.slice none 0 0,.slice none 0 0] 71)).alloc (.cells #[.int .i64 x.number,.slice none 0 0,.slice none 0 0,.slice none 0 0] 71)=W:=⟨_,rfl⟩;(have hu:Up w W:=by rw [←hW];exact ((((Up.refl w).alloc _).alloc _).alloc _).alloc _);(have hb0:W.heap[w.heap.size]? = some (.cells #[.slice m1 f.msgs.length m3,.slice e1 f.enums.length e3] 25 (0,0)):=by rw [←hW];exact blk_old _ (blk_old _ (blk_old _ (blk_new w _ rfl))));(have hb1:W.heap[w.heap.size+1]? = some (.cells #[.int .i64 r.number,.int .i64 r.how,.int .u64 (r.bits:Int),.slice a3 r.bytes.length c3] 87 (0,0)):=by rw [←hW];exact blk_old _ (blk_old _ (blk_new (w.alloc _) _ (by simp))));(have hb2:W.heap[w.heap.size+2]? = some (.cells #[.int .i64 0,.slice none 0 0,.slice none 0 0,.slice none 0 0] 71 (0,0)):=by rw [←hW];exact blk_old _ (blk_new ((w.alloc _).alloc _) _ (by simp)));(have hb3:W.heap[w.heap.size+3]? = some (.cells #[.int .i64 x.number,.slice none 0 0,.slice none 0 0,.slice none 0 0] 71 (0,0)):=by rw [←hW];exact blk_new (((w.alloc _).alloc _).alloc _) _ (by simp));(have hz:W.heap.size=w.heap.size+4:=by rw [←hW];simp);have y1:=((((Up.refl w).alloc (.cells #[.slice m1 f.msgs.length m3,.slice e1 f.enums.length e3] 25)).alloc (.cells #[.int .i64 r.number,.int .i64 r.how,.int .u64 (r.bits:Int),.slice a3 r.bytes.length c3] 87)).alloc (.cells #[.int .i64 0,.slice none 0 0,.slice none 0 0,.slice none 0 0] 71)).cell_some x1;have y2:=hu.cell_some x2;have y3:=hu.cell_some x3;have Hu:=hid hu;have Hb0:=hid hb0;have Hb1:=hid hb1;have Hb2:=hid hb2;have Hb3:=hid hb3;have Hz:=hid hz;clear hu hb0 hb1 hb2 hb3 hz x1 x2 x3;have HW:=hid hW;clear hW
 go_enter Tryz.func49,Tryz.ntmps49
 go_upto_region 2 with (fail)
 rw [HW.out];clear y1;have f0:=ro0 Hb0.out;have f1:=ro1 Hb0.out;have r1:=ro1 Hb1.out;have r3:=ro3 Hb1.out;(go_wp2_with fail);refine (how_r x.kind _ Hwf.out).mono ?_;rintro e W1 ⟨rfl,hu1⟩;have f0:=hu1.cell_some f0;have f1:=hu1.cell_some f1;have y3:=hu1.cell_some y3;have y2:=hu1.cell_some y2;have r1:=hu1.cell_some r1;rw [Hh2.out] at r1;have r3:=hu1.cell_some r3;replace Hu:=hid (Hu.out.trans hu1);replace Hb2:=hid (hu1.blk Hb2.out);replace Hb3:=hid (hu1.blk Hb3.out);(have hz1:w.heap.size+4<=W1.heap.size:=by have:=hu1.size;have:=Hz.out;omega);(have hz2:w.heap.size+1+1<W1.heap.size:=by omega);(have hz3:w.heap.size+1+1+1<W1.heap.size:=by omega);have v0:=ro0 Hb3.out;have v1:=ro1 Hb3.out;have v2:=ro2 Hb3.out;have v3:=ro3 Hb3.out;have vf:∀ o,W1.frozen? ⟨w.heap.size+1+1+1,o,none⟩=false:=fun o=>frozen_of_row W1 _ o _ _ Hb3.out;have z0:=ro0 Hb2.out;have z1:=ro1 Hb2.out;have z2:=ro2 Hb2.out;have z3:=ro3 Hb2.out;have zf:∀ o,W1.frozen? ⟨w.heap.size+1+1,o,none⟩=false:=fun o=>frozen_of_row W1 _ o _ _ Hb2.out;clear hu1 HW Hb0 Hb1 Hz;(have hle:w.heap.size<=w.heap.size+1+1:=by omega);have u2:=Hu.out;have HP:=hid (fun W' (u:Up W1 W')=>(⟨u.cell_some f0,u.cell_some f1,u.cell_some y3,u.cell_some r3⟩:(W'.cell? ⟨w.heap.size,0,none⟩=some (.slice m1 f.msgs.length m3)/\W'.cell? ⟨w.heap.size,1,none⟩=some (.slice e1 f.enums.length e3)/\W'.cell? ⟨bf,fo+3,none⟩=some (.string ⟨x.type.toArray⟩)/\W'.cell? ⟨w.heap.size+1,3,none⟩=some (.slice a3 r.bytes.length c3))));(have hW5:w.heap.size<W1.heap.size:=by omega);clear v0 v1 v2 v3 vf z0 z1 z2 z3 zf hle
 go_upto_region 11 with (fail)
 have dd:(W1.drew.cell? ⟨w.heap.size,0,none⟩=some (.slice m1 f.msgs.length m3)/\W1.drew.cell? ⟨w.heap.size,1,none⟩=some (.slice e1 f.enums.length e3)/\W1.drew.cell? ⟨bf,fo+3,none⟩=some (.string ⟨x.type.toArray⟩)/\W1.drew.cell? ⟨w.heap.size+1,3,none⟩=some (.slice a3 r.bytes.length c3)):=HP.out _ (Up.refl W1).drew;clear f0 f1 y2 y3 r1 r3
 go_cut [12,13] (fun p e wc=>∃ (G:Nat) (s1 s2:Option Addr) (n1 c1 n2 c2:Nat),p=.pointer (some ⟨G,0,none⟩)/\e=.int .i64 RC.2/\wc.heap[G]? = some (.cells #[.slice s1 n1 c1,.slice s2 n2 c2] 29 (0,0))/\DBodF (k+1) (fun b=>S4 S w.heap.size b/\b≠G) wc RC.1 [.slice s1 n1 c1,.slice s2 n2 c2]/\w.heap.size+4<=G/\Up W1 wc)
 case first =>
  go_region_held3 (fun w'=>(w'.cell? ⟨w.heap.size,0,none⟩=some (.slice m1 f.msgs.length m3)/\w'.cell? ⟨w.heap.size,1,none⟩=some (.slice e1 f.enums.length e3)/\w'.cell? ⟨bf,fo+3,none⟩=some (.string ⟨x.type.toArray⟩)/\w'.cell? ⟨w.heap.size+1,3,none⟩=some (.slice a3 r.bytes.length c3)))
   (first|with_reducible exact dd|with_reducible exact HP.out _ (Up.setCell (Up.setCell (hw6.alloc _) (show W1.heap.size<=w6.heap.size from hw6.size) _) (show W1.heap.size<=w6.heap.size from hw6.size) _)|with_reducible exact HP.out _ (Up.setCell (Up.setCell hw6 (show W1.heap.size<=w5.heap.size from hw5.size) _) (show W1.heap.size<=w5.heap.size from hw5.size) _)|with_reducible exact HP.out _ (Up.setCell (Up.setCell hw6 (show W1.heap.size<=W1.heap.size from Nat.le_refl _) _) (show W1.heap.size<=W1.heap.size from Nat.le_refl _) _)|with_reducible exact HP.out _ (hw6.alloc _)|with_reducible exact HP.out _ hw6|with_reducible exact HP.out _ (hw5.alloc _)|with_reducible exact HP.out _ hw5|with_reducible exact HP.out _ ((Up.refl W1).alloc _).drew|with_reducible exact HP.out _ ((Up.refl W1).drew.alloc _))
   (first
    |(go_at_call 36
      first
       |(refine (Hmsg.out _ u2.drew).mono ?_;rintro e w5 ⟨rfl,hu5'⟩;have hu5:=u2.drew.trans hu5';have hw5:=(Up.refl W1).drew.trans hu5')
       |(refine (Hmsg.out _ (u2.alloc _).drew).mono ?_;rintro e w5 ⟨rfl,hu5'⟩;have hu5:=(u2.alloc _).drew.trans hu5';have hw5:=((Up.refl W1).alloc _).drew.trans hu5';have hg5:w5.heap[W1.heap.size]? = some (.cells #[.slice none 0 0,.slice none 0 0] 29 (0,0)):=hu5'.blk (blk_new W1 _ rfl)))
    |(go_at_call 23
      first
       |(refine (Hbod.out _ hu5).mono ?_;rintro e w6 ⟨vv,vu,rfl,hd6,hu6'⟩;obtain ⟨s1,n1,c1,s2,n2,c2,hbt⟩:=bod_two hd6;simp only [List.cons.injEq,and_true] at hbt;obtain ⟨rfl,rfl⟩:=hbt;have hu6:=hu5.trans hu6';have hw6:=hw5.trans hu6';try (have hg6:w6.heap[W1.heap.size]? = some (.cells #[.slice none 0 0,.slice none 0 0] 29 (0,0)):=hu6'.blk hg5;have q0:=ro0 hg6;have q1:=ro1 hg6;have qf:∀ o,w6.frozen? ⟨W1.heap.size,o,none⟩=false:=(fun o=>frozen_of_row w6 _ o _ _ hg6);have qz:W1.heap.size<w6.heap.size:=lt_of_block hg6))
       |(refine (Hbod.out _ (hu5.alloc _)).mono ?_;rintro e w6 ⟨vv,vu,rfl,hd6,hu6'⟩;obtain ⟨s1,n1,c1,s2,n2,c2,hbt⟩:=bod_two hd6;simp only [List.cons.injEq,and_true] at hbt;obtain ⟨rfl,rfl⟩:=hbt;have hu6:=(hu5.alloc _).trans hu6';have hw6:=(hw5.alloc _).trans hu6';have hg6:w6.heap[w5.heap.size]? = some (.cells #[.slice none 0 0,.slice none 0 0] 29 (0,0)):=hu6'.blk (blk_new w5 _ rfl);have q0:=ro0 hg6;have q1:=ro1 hg6;have qf:∀ o,w6.frozen? ⟨w5.heap.size,o,none⟩=false:=(fun o=>frozen_of_row w6 _ o _ _ hg6);have qz:w5.heap.size<w6.heap.size:=lt_of_block hg6)))
  all_goals
   go_wp2_with fail
   go_meet
  ·exact ⟨w6.heap.size,s1,s2,n1,c1,n2,c2,rfl,rfl,blk_new w6 _ rfl,stable_bod _ _ _ _ _ _ _ (fun b hs hb=>⟨((Up.refl w6).alloc _).block b hb,(by
    rcases hs with h|h
    ·exact .inl h
    ·have h':w5.heap.size<=b:=h;have:=hw5.size;exact .inr (by omega)),by omega⟩) hd6,by have:=hw6.size;omega,hw6.alloc _⟩
  ·exact ⟨w5.heap.size,s1,s2,n1,c1,n2,c2,rfl,rfl,box2_set hg6 _ _,stable_bod _ _ _ _ _ _ _ (fun b hs hb=>by
    have h5:=hw5.size
    have hne:b≠w5.heap.size:=by
     rcases hs with h|h
     ·have:=h.2;omega
     ·(have hs':w5.heap.size+1<=b:=by simpa using h);omega
    exact ⟨box2_other hne _ _,(by
     rcases hs with h|h
     ·exact .inl h
     ·(have hs':w5.heap.size+1<=b:=by simpa using h);exact .inr (by omega)),hne⟩) hd6,by have:=hw5.size;omega,Up.setCell (Up.setCell hw6 (show W1.heap.size<=w5.heap.size from hw5.size) _) (show W1.heap.size<=w5.heap.size from hw5.size) _⟩
  ·exact ⟨W1.heap.size,s1,s2,n1,c1,n2,c2,rfl,rfl,box2_set hg6 _ _,stable_bod _ _ _ _ _ _ _ (fun b hs hb=>by
    have h5:=lt_of_block hg5
    have hne:b≠W1.heap.size:=by
     rcases hs with h|h
     ·have:=h.2;omega
     ·have hs':w5.heap.size<=b:=h;omega
    exact ⟨box2_other hne _ _,(by
     rcases hs with h|h
     ·exact .inl h
     ·have hs':w5.heap.size<=b:=h;exact .inr (by omega)),hne⟩) hd6,by omega,Up.setCell (Up.setCell hw6 (Nat.le_refl W1.heap.size) _) (Nat.le_refl W1.heap.size) _⟩
 case rest =>
 obtain ⟨G,s1,s2,n1,c1,n2,c2,rfl,rfl,hG,hdG,hzG,huW⟩:=hcut;have k0:=huW.blk Hb2.out;have k1:=huW.blk Hb3.out;have HuW:=hid (u2.trans huW);have HG:=hid hG;have HdG:=hid hdG;have HzG:=hid hzG;have z0:=ro0 k0;have z1:=ro1 k0;have z2:=ro2 k0;have z3:=ro3 k0;have v0:=ro0 k1;have v1:=ro1 k1;have v2:=ro2 k1;have v3:=ro3 k1;have zf:∀ o,wc.frozen? ⟨w.heap.size+1+1,o,none⟩=false:=fun o=>frozen_of_row wc _ o _ _ k0;have vf:∀ o,wc.frozen? ⟨w.heap.size+1+1+1,o,none⟩=false:=fun o=>frozen_of_row wc _ o _ _ k1;have g0:=ro0 hG;have g1:=ro1 hG;have q0:=lt_of_block k0;have q1:=lt_of_block k1;have qG:=lt_of_block hG;have q2:w.heap.size+1+1<wc.heap.size:=q0;(have ne0:w.heap.size+1+1≠wc.heap.size:=by omega);(have ne1:w.heap.size+1+1+1≠wc.heap.size:=by omega);(have neG:G≠wc.heap.size:=by omega);obtain ⟨RB,re⟩:=RC;simp only at HdG ⊢;clear k0 k1 hG hdG hzG huW u2 dd Hmsg Hbod HP
 (go_wp2_with fail);refine bodyPost_ret (v:=.tuple #[.agg #[.int .i64 x.number,.slice none 0 0,.slice none 0 0,.slice (some ⟨wc.heap.size,0,none⟩) 1 1],.int .i64 re]) (by simp [results,Tryz.results49,go_sem,z0,z1,z2,z3,q2]) rfl ?_;(have hle:w.heap.size<=w.heap.size+1+1:=by omega);(have hle3:w.heap.size<=w.heap.size+1+1+1:=by omega);refine ⟨_,_,rfl,?_,(up4 (Up.setCell HuW.out (p:=⟨w.heap.size+1+1+1,3,none⟩) hle3 _) hle _ _ _ _).alloc _⟩;have hsz:=HuW.out.size;refine rd_one (t:=29) (vv:=.slice s1 n1 c1) (vu:=.slice s2 n2 c2) (blk_new _ _ (by simp)) (.inr (by omega)) ?_;(have hna:¬ S4 S w.heap.size (w.heap.size+1+1):=by rintro (⟨_,h⟩|h) <;> omega);(have hnb:¬ S4 S w.heap.size (w.heap.size+1+1+1):=by rintro (⟨_,h⟩|h) <;> omega);refine stable_bod (k+1) _ _ _ _ _ _ ?_ HdG.out;have kw:Keep (fun b=>S4 S w.heap.size b/\b≠G) wc (S4 S w.heap.size) wc:=Keep.weak (fun q h=>h.1)
 exact (((kw.trans (Keep.setCell (p:=⟨w.heap.size+1+1+1,3,none⟩) hnb _)).trans (keep4 hna _ _ _ _)).trans (Keep.alloc _)).trans (Keep.weak (fun q h=>by
  rcases h with h|h
  ·exact .inl h.1
  ·exact .inr (by omega)))
end Go.Proofs.YtbceccblepckhaaGreatDoor
