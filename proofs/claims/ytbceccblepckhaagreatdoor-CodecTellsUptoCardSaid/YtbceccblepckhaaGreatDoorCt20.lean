/-
  pressref2.WrongValue.
-/
import Derived.Test.YtbceccblepckhaaGreatDoorCt19
import Derived.Test.YtbceccblepckhaaGreatDoorCt17
set_option maxHeartbeats 6400000
set_option linter.unusedVariables false
namespace Go.Proofs.YtbceccblepckhaaGreatDoor
open Go.RowKit
set_option maxRecDepth 100000
open Lib (hid)
abbrev BodyRC (k d:Nat) (f:Fil):Prop:=∀ (v vv vu:Value) (msg:Int) (x:Bod) (w:World),0<=msg->msg<f.msgs.length->FilV All w v f->DBodF d All w x [vv,vu] ->
 Calls Tryz.prog 32 #[v,.int .i64 msg,.agg #[vv,vu],.int .i64 (13 - k)] w fun e w'=>e=.returned (.int .i64 (wrongB f k msg x))/\Up w w'
theorem countN_10 (v:Val):countN 10 v=(v.2.2.2.length,v.2.1.length+v.2.2.1.length==0):=rfl
theorem countN_no {kind:Int} (h8:kind≠8) (h9:kind≠9) (h10:kind≠10) (v:Val):countN kind v=(v.2.1.length,v.2.2.1.length+v.2.2.2.length==0):=by
 unfold countN;rw [if_neg (by omega),if_neg h10]
theorem value_r (k d:Nat) (f:Fil) (ih:BodyRC k d f) (hk:k<=12) (x:Fld) (v:Val) (fv:Value) (bf of:Nat) (a1 a2 a3:Option Addr) (c1 c2 c3:Nat) (w:World) (hf:FilV All w fv f) (hx:FldAt w bf of x)
  (hd:DValD d All w v [.int .i64 v.1,.slice a1 v.2.1.length c1,.slice a2 v.2.2.1.length c2,.slice a3 v.2.2.2.length c3]) (ht:typedN f x=0) :
  Calls Tryz.prog 75 #[fv,.pointer (some ⟨bf,of,none⟩),.agg #[.int .i64 v.1,.slice a1 v.2.1.length c1,.slice a2 v.2.2.1.length c2,.slice a3 v.2.2.2.length c3],.int .i64 (12 - k)] w fun e w'=>e=.returned (.int .i64 (wrongVF (wrongB f k) f x v))/\Up w w':=by
 have Ih:=hid ih;obtain ⟨p1,g1,p2,g2,p3,g3,he,hn,hx1,hx2,hx3,zx⟩:=val_cells hd;simp only [List.cons.injEq,Value.slice.injEq,true_and,and_true] at he;obtain ⟨⟨rfl,rfl⟩,⟨rfl,rfl⟩,rfl,rfl⟩:=he;obtain ⟨vm,ve,rfl,hm,he⟩:=id hf;obtain ⟨ma,mc,rfl,_,_⟩:=hm.val;obtain ⟨ea,ec,rfl,_,_⟩:=he.val;have Hf:=hid hf;have Hx:=hid hx;have Hx1:=hid hx1;have Hx2:=hid hx2;have Hx3:=hid hx3;obtain ⟨zb,zy,zs⟩:=zx
 have hbl:∀ b∈v.2.2.1,b.length<=140737488355328:=by
  intro b hb;obtain ⟨i,hi,rfl⟩:=List.getElem_of_mem hb;obtain ⟨_,_,_,_,_,_,_,vy,_,_,hz⟩:=hx2.at hi;exact hz
 have Hbl:=hid hbl;have hkd:w.cell? ⟨bf,of+2,none⟩=some (.int .i64 x.kind):=hx.2.1.2.2.1;have hmn:w.cell? ⟨bf,of+4,none⟩=some (.bool x.many):=hx.2.1.2.2.2.2.1;have hch:w.cell? ⟨bf,of+5,none⟩=some (.int .i64 x.choice):=hx.2.1.2.2.2.2.2;have hbf:=hx.1;have Hpl:=hid (fun W (u:Up w W)=>empty_any x bf of v a1 a2 a3 c1 c2 c3 W (u.cell_some hkd) (u.cell_some hmn) (u.cell_some hch) (Nat.lt_of_lt_of_le hbf u.size) (hx1.up stable_u64 u) (hx2.up stable_bytes u));obtain ⟨ANS,hw⟩:∃ ANS,wrongVF (wrongB f k) f x v=ANS:=⟨_,rfl⟩;rw [hw];unfold wrongVF at hw;(have h16:IntKind.i64.wrap ((12:Int) - (k:Int)+1)=13 - (k:Int):=by rw [IntKind.wrap_i64];omega);have hty:=typed_facts ht
 have hk10:(countN x.kind v).2=true->0<v.2.2.2.length->0<=msgI f x.type:=by
  intro h1 h2;refine hty.2.2.1 ?_;unfold countN at h1;split at h1
  ·simp only [beq_iff_eq] at h1;omega
  ·split at h1
   ·assumption
   ·simp only [beq_iff_eq] at h1;omega
 have Hk10:=hid hk10;clear hk10;have Hkd:=hid hkd;have Hmn:=hid hmn;have H16:=hid h16;have Hw:=hid hw;have Hd:=hid hd;obtain ⟨cn,hcn⟩:∃ cn,countN x.kind v=cn:=⟨_,rfl⟩;rw [hcn] at Hw Hk10;(have hkc:x.kind=8∨x.kind=9∨x.kind=10∨(x.kind≠8/\x.kind≠9/\x.kind≠10):=by omega);clear hf hx hd hx1 hx2 hx3 ih hw hch hmn hkd hbl hm he h16 ht hty hbf;obtain ⟨xn,xb,xy,xs⟩:=v;simp only at *
 have hcc:(((x.kind==8)=true∨((x.kind==8)=false/\(x.kind==9)=true))/\(x.kind==10)=false/\cn=(xy.length,xb.length+xs.length==0))∨((x.kind==8)=false/\(x.kind==9)=false/\(x.kind==10)=true/\cn=(xs.length,xb.length+xy.length==0))∨((x.kind==8)=false/\(x.kind==9)=false/\(x.kind==10)=false/\cn=(xb.length,xy.length+xs.length==0)):=by
  rw [←hcn];rcases hkc with h|h|h|⟨h8,h9,h10⟩
  ·rw [h];exact .inl ⟨.inl rfl,rfl,rfl⟩
  ·rw [h];exact .inl ⟨.inr ⟨rfl,rfl⟩,rfl,rfl⟩
  ·rw [h];exact .inr (.inl ⟨rfl,rfl,rfl,rfl⟩)
  ·rw [countN_no h8 h9 h10];exact .inr (.inr ⟨by simpa using h8,by simpa using h9,by simpa using h10,rfl⟩)
 have hc1:(((x.kind==8)=true∨((x.kind==8)=false/\(x.kind==9)=true)))∨((x.kind==8)=false/\(x.kind==9)=false):=by
  cases (x.kind==8) <;> cases (x.kind==9) <;> simp
 have Hcc:=hid hcc;clear hkc hcn hcc
 go_enter Tryz.func75,Tryz.ntmps75
 (go_wp2_with fail);have hb0:((w.alloc (.cells #[.slice ma f.msgs.length mc,.slice ea f.enums.length ec] 25)).alloc (.cells #[.int .i64 xn,.slice a1 xb.length c1,.slice a2 xy.length c2,.slice a3 xs.length c3] 71)).heap[w.heap.size]? = some (.cells #[.slice ma f.msgs.length mc,.slice ea f.enums.length ec] 25 (0,0)):=blk_old _ (blk_new w _ rfl);have hb1:((w.alloc (.cells #[.slice ma f.msgs.length mc,.slice ea f.enums.length ec] 25)).alloc (.cells #[.int .i64 xn,.slice a1 xb.length c1,.slice a2 xy.length c2,.slice a3 xs.length c3] 71)).heap[w.heap.size+1]? = some (.cells #[.int .i64 xn,.slice a1 xb.length c1,.slice a2 xy.length c2,.slice a3 xs.length c3] 71 (0,0)):=blk_new (w.alloc _) _ (by simp);have hu0:Up w ((w.alloc (.cells #[.slice ma f.msgs.length mc,.slice ea f.enums.length ec] 25)).alloc (.cells #[.int .i64 xn,.slice a1 xb.length c1,.slice a2 xy.length c2,.slice a3 xs.length c3] 71)):=((Up.refl w).alloc _).alloc _;generalize hw1:(w.alloc (.cells #[.slice ma f.msgs.length mc,.slice ea f.enums.length ec] 25)).alloc (.cells #[.int .i64 xn,.slice a1 xb.length c1,.slice a2 xy.length c2,.slice a3 xs.length c3] 71)=w1 at *;clear hw1;have HB0:=hid hb0;have HB1:=hid hb1;have HU0:=hid hu0;have v1:=ro1 hb1;have v2:=ro2 hb1;have v3:=ro3 hb1;have kd:=hu0.cell_some Hkd.out;clear hb0 hb1 hu0
 go_quiet (fail)
 have hw1u:=HU0.out;clear hw1u
 go_step
 go_step
 go_step
 have Hkw:=hid kd;generalize hwq:w1.drewN _=wq;(have huq:Up w1 wq:=by rw [←hwq];exact (Up.refl w1).drewN _);clear hwq;have kd:=huq.cell_some kd;have u1:=huq.cell_some v1;have u2:=huq.cell_some v2;have u3:=huq.cell_some v3;have HUQ:=hid huq;clear huq v1 v2 v3
 go_cut [9,10] (fun n o wc=>(∃ (N A B:Nat),n=.int .i64 N/\o=.int .i64 ((A:Int)+(B:Int))/\((N=xy.length/\A=xb.length/\B=xs.length/\((x.kind==8)=true∨(x.kind==9)=true))∨(N=xb.length/\A=xy.length/\B=xs.length/\(x.kind==8)=false/\(x.kind==9)=false)))/\Up w1 wc)
 case first =>
  rcases hc1 with (h8|⟨h8,h9⟩)|⟨h8,h9⟩
  ·go_wp2_with fail
   go_quiet (fail)
   go_wp2_with fail
   go_meet
   exact ⟨⟨xy.length,xb.length,xs.length,rfl,rfl,.inl ⟨rfl,rfl,rfl,.inl h8⟩⟩,HUQ.out.drewN _⟩
  ·go_wp2_with fail
   go_quiet (fail)
   go_wp2_with fail
   go_meet
   exact ⟨⟨xy.length,xb.length,xs.length,rfl,rfl,.inl ⟨rfl,rfl,rfl,.inr h9⟩⟩,HUQ.out.drewN _⟩
  ·go_wp2_with fail
   go_meet
   exact ⟨⟨xb.length,xy.length,xs.length,rfl,rfl,.inr ⟨rfl,rfl,rfl,h8,h9⟩⟩,HUQ.out⟩
 case rest =>
  clear hc1 u1 u2 u3 kd HUQ;obtain ⟨⟨N0,A0,B0,rfl,rfl,hnab⟩,huc⟩:=hcut;have Hnab:=hid hnab;clear hnab
  go_step
  go_step
  have kd:=huc.cell_some Hkw.out;have u1:=ro1 (huc.blk HB1.out);have u2:=ro2 (huc.blk HB1.out);have u3:=ro3 (huc.blk HB1.out);have HUQ:=hid huc;clear huc;obtain ⟨wq2,rfl⟩:∃ wq2:World,wq2=wc:=⟨_,rfl⟩
  go_cut [9,10] (fun n o wc=>(∃ (N A B:Nat),n=.int .i64 N/\o=.int .i64 ((A:Int)+(B:Int))/\cn=(N,A+B==0)/\N<=140737488355328/\A<=140737488355328/\B<=140737488355328)/\Up w1 wc)
  case first =>
   cases h10:(x.kind==10) with
   |true =>
    go_wp2_with fail
    go_quiet (fail)
    go_wp2_with fail
    go_meet
    refine ⟨⟨xs.length,xb.length,xy.length,rfl,rfl,?_,by omega,by omega,by omega⟩,HUQ.out.drewN _⟩;rcases Hcc.out with ⟨_,h,_⟩|⟨_,_,_,h⟩|⟨_,_,h,_⟩
    ·rw [h10] at h;cases h
    ·exact h
    ·rw [h10] at h;cases h
   |false =>
    go_wp2_with fail
    go_meet
    refine ⟨⟨N0,A0,B0,rfl,rfl,?_,?_,?_,?_⟩,HUQ.out⟩
    ·rcases Hcc.out with ⟨hh,h,e⟩|⟨_,_,h,_⟩|⟨h1,h2,h,e⟩
     ·rcases Hnab.out with ⟨rfl,rfl,rfl,_⟩|⟨rfl,rfl,rfl,g8,g9⟩
      ·exact e
      ·rcases hh with hh|⟨_,hh⟩
       ·rw [g8] at hh;cases hh
       ·rw [g9] at hh;cases hh
     ·rw [h10] at h;cases h
     ·rcases Hnab.out with ⟨rfl,rfl,rfl,g⟩|⟨rfl,rfl,rfl,g8,g9⟩
      ·rcases g with g|g
       ·rw [h1] at g;cases g
       ·rw [h2] at g;cases g
      ·exact e
    all_goals
     rcases Hnab.out with ⟨rfl,rfl,rfl,_⟩|⟨rfl,rfl,rfl,_⟩ <;> omega
  case rest =>
   clear u1 u2 u3 kd HUQ Hnab Hcc;obtain ⟨⟨N,A,B,rfl,rfl,rfl,nb,ab,bb⟩,huc⟩:=hcut;simp only at Hw Hk10;have H1:=hid HB1.out;have Huc:=hid (HU0.out.trans huc);have HB0:=hid (huc.blk HB0.out);have HB1:=hid (huc.blk HB1.out);have mn:=Huc.out.cell_some Hmn.out;clear huc nq Hkw H1;obtain ⟨wo,rfl⟩:∃ wo:World,wo=wc:=⟨_,rfl⟩
   cases hok:(A+B==0) with
   |false =>
    have hw:=Hw.out;rw [if_pos hok] at hw;(have o1:decide ((0:Int)<(A:Int)+(B:Int))=true:=by rw [beq_eq_false_iff_ne] at hok;exact decide_eq_true (by omega));have Hw2:=hid hw;clear hw hok mn;go_wp2_with fail
    go_ret
    exact ⟨ret_int Hw2.out,Huc.out⟩
   |true =>
   have hw:=Hw.out;rw [if_neg (by rw [hok];decide)] at hw;(have o1:decide ((0:Int)<(A:Int)+(B:Int))=false:=by rw [beq_iff_eq] at hok;exact decide_eq_false (by omega));have Hk11:=hid (Hk10.out hok);clear Hw Hk10 hok
   by_cases hmc:N<1∨60<N∨(x.many=false/\1<N)
   ·rw [if_pos hmc] at hw;have Hw2:=hid hw;clear hw
    have hm3:((N:Int)==0)=true∨(((N:Int)==0)=false/\decide ((60:Int)<N)=true)∨(((N:Int)==0)=false/\decide ((60:Int)<N)=false/\x.many=false/\decide ((1:Int)<N)=true):=by
     by_cases g1:N<1
     ·exact .inl (by rw [beq_iff_eq];omega)
     ·by_cases g2:60<N
      ·exact .inr (.inl ⟨by rw [beq_eq_false_iff_ne];omega,decide_eq_true (by omega)⟩)
      ·rcases hmc with h|h|⟨h,h'⟩
       ·omega
       ·omega
       ·exact .inr (.inr ⟨by rw [beq_eq_false_iff_ne];omega,decide_eq_false (by omega),h,decide_eq_true (by omega)⟩)
    clear hmc;rcases hm3 with h|⟨h,h2⟩|⟨h,h2,h3,h4⟩
    ·go_wp2_with fail
     go_ret
     exact ⟨ret_int Hw2.out,Huc.out⟩
    ·go_wp2_with fail
     go_ret
     exact ⟨ret_int Hw2.out,Huc.out⟩
    ·rw [h3] at mn;go_wp2_with fail
     go_ret
     exact ⟨ret_int Hw2.out,Huc.out⟩
   rw [if_neg hmc] at hw;(have n1:((N:Int)==0)=false:=by rw [beq_eq_false_iff_ne];omega);have n2:decide ((60:Int)<(N:Int))=false:=decide_eq_false (by omega)
   have n3:(decide ((1:Int)<(N:Int))=true/\x.many=true)∨decide ((1:Int)<(N:Int))=false:=by
    by_cases g:1<N
    ·cases h:x.many with
     |true=>exact .inl ⟨decide_eq_true (by omega),rfl⟩
     |false=>exact absurd (.inr (.inr ⟨h,g⟩)) hmc
    ·exact .inr (decide_eq_false (by omega))
   have Hw2:=hid hw;clear hmc hw
   go_upto_region 8 with fail
   go_cut [84] (fun b wc=>b=.bool false/\wc=wo)
   case first =>
    rcases n3 with ⟨h,h2⟩|h
    ·rw [h2] at mn;go_wp2_with fail
     go_meet
     exact ⟨rfl,rfl⟩
    ·go_wp2_with fail
     go_meet
     exact ⟨rfl,rfl⟩
   case rest =>
   obtain ⟨rfl,rfl⟩:=hcut;clear n1 n2 n3 mn o1;have b0:=ro0 HB1.out;have b1:=ro1 HB1.out;have b2:=ro2 HB1.out;have b3:=ro3 HB1.out;(go_wp2_with fail);refine (Hpl.out _ Huc.out).mono ?_;rintro e w2 ⟨rfl,hu2⟩;have Hu2:=hid (Huc.out.trans hu2);have HB0':=hid (hu2.blk HB0.out);have HB1':=hid (hu2.blk HB1.out);clear HB0 HB1 Huc b0 b1 b2 b3 hu2 Hpl;obtain ⟨w3,rfl⟩:∃ w3:World,w3=w2:=⟨_,rfl⟩;have hw:=Hw2.out
   cases hpl:plainN x (xn,xb,xy,xs) with
   |true =>
    rw [if_pos hpl] at hw;clear Hw2 hpl;have Hw2:=hid hw;clear hw;go_wp2_with fail
    go_ret
    exact ⟨ret_int Hw2.out,Hu2.out⟩
   |false =>
   rw [if_neg (by rw [hpl];decide)] at hw;clear Hw2 hpl;have Hw2:=hid hw;clear hw;have b1:=ro1 HB1'.out;(go_wp2_with fail);clear b1;(go_loopw [91] (fun i wr=>∃ k2:Nat,k2<=xb.length/\i=.int .i64 k2/\Up w3 wr/\∀ j,(hj:j<xb.length)->j<k2->fitsN x.kind xb[j]=0) (fun i _=>xb.length - (intOf i).toNat));case atStart=>exact ⟨0,by omega,rfl,Up.refl _,fun j _ h=>absurd h (by omega)⟩
   case round =>
    obtain ⟨k2,hk2,rfl,hu,hg⟩:=hrel;have Hg:=hid hg;clear hg
    by_cases hlt:k2<xb.length
    ·obtain ⟨b1,o1,cs,rfl,_,_,hcs,hd⟩:=(Hx1.out.up stable_u64 (Hu2.out.trans hu)).at hlt;obtain ⟨rfl,hn64⟩:=hd;have n0:=hcs 0 _ rfl;simp only [Nat.add_zero,Nat.mul_one] at n0;have kd:=(Hu2.out.trans hu).cell_some Hkd.out;have Hfit:=hid (fits_r x.kind xb[k2] wr hn64);have Hgg:=hid (fun e=>firstN_map_at (q:=fitsN x.kind) hlt Hg.out e);have Hgn:=hid (fun (e:fitsN x.kind xb[k2]=0)=>zero_more' hlt Hg.out e);(have k20:(0:Int)<=(k2:Int):=by omega);(have k21:(k2:Int)<(xb.length:Int):=by omega);have Hu:=hid hu;clear hcs hu;generalize xb[k2]=q at *;(go_wp2_with fail);refine Hfit.out.mono ?_;rintro e w4 ⟨rfl,h3⟩;subst h3;clear n0 kd
     by_cases hf:fitsN x.kind q=0
     ·rw [hf];go_wp2_with fail
      go_roundw
      (case rel=>exact ⟨k2+1,by omega,by go_num,Hu.out,Hgn.out hf⟩);case measure=>simp [intOf];omega
     ·have hans:fitsN x.kind q=ANS:=by
       have:=Hgg.out hf;rw [←Hw2.out,if_pos (by rw [this];exact hf),this]
      generalize fitsN x.kind q=er at *;go_wp2_with fail
      go_ret
      exact ⟨ret_int (by first|rfl|exact hans),Hu2.out.trans Hu.out⟩
    ·have hw:=Hw2.out;rw [if_neg (by rw [firstN_map_none (fun j hj=>Hg.out j hj (by omega))];decide)] at hw;have b2:=ro2 (hu.blk HB1'.out);have Hw3:=hid hw;have Hu:=hid hu;clear hw Hw2 Hg hu;obtain ⟨w4,rfl⟩:∃ w4:World,w4=wr:=⟨_,rfl⟩;(go_wp2_with fail);clear b2;(go_loopw [108] (fun i wr=>∃ k2:Nat,k2<=xy.length/\i=.int .i64 k2/\Up w3 wr/\∀ j,(hj:j<xy.length)->j<k2->byteN x.kind xy[j]=0) (fun i _=>xy.length - (intOf i).toNat));case atStart=>exact ⟨0,by omega,rfl,Hu.out,fun j _ h=>absurd h (by omega)⟩
     case round =>
      clear Hu;obtain ⟨k3,hk3,rfl,hu,hg⟩:=hrel;have Hg:=hid hg;clear hg
      by_cases hlt3:k3<xy.length
      ·obtain ⟨b1,o1,cs,rfl,_,_,hcs,hd⟩:=(Hx2.out.up stable_bytes (Hu2.out.trans hu)).at hlt3;obtain ⟨vy,hd,hr,hyz⟩:=hd;subst hd;obtain ⟨ya,yc,rfl,_,_⟩:=hr.val;have n0:=hcs 0 _ rfl;simp only [Nat.add_zero,Nat.mul_one] at n0;have kd:=(Hu2.out.trans hu).cell_some Hkd.out;have Hval:=hid (utf8_r _ _ wr hr hyz);have Hgg:=hid (fun e=>firstN_map_at (q:=byteN x.kind) hlt3 Hg.out e);have Hgn:=hid (fun (e:byteN x.kind xy[k3]=0)=>zero_more' hlt3 Hg.out e);(have k30:(0:Int)<=(k3:Int):=by omega);(have k31:(k3:Int)<(xy.length:Int):=by omega);have Hu:=hid hu;clear hcs hu hr;generalize xy[k3]=q at *
       by_cases hlong:(4000:Int)<(q.length:Int)
       ·have hb4:byteN x.kind q=4:=by unfold byteN;rw [if_pos (by omega)]
        have hans:(4:Int)=ANS:=by
         have:=Hgg.out (by rw [hb4];decide);rw [←Hw3.out,if_pos (by rw [this,hb4];decide),this,hb4]
        have Hans:=hid hans;clear hb4 hans;go_wp2_with fail
        go_ret
        exact ⟨ret_int Hans.out,Hu2.out.trans Hu.out⟩
       by_cases hk8:x.kind=8
       ·have hke:(x.kind==8)=true:=by simp [hk8]
        cases hvd:Lib.validD q with
        |true =>
         rw [hvd] at Hval;(have hb0:byteN x.kind q=0:=by unfold byteN;rw [if_neg (by omega),if_neg (by rw [hvd];simp)]);have Hb0:=hid hb0;clear hb0 hk8;(go_wp2_with fail);refine Hval.out.mono ?_;rintro e w5 ⟨rfl,hu3⟩;have Hu3:=hid (Hu.out.trans hu3);clear hu3;go_wp2_with fail
         go_roundw
         (case rel=>exact ⟨k3+1,by omega,by go_num,Hu3.out,Hgn.out Hb0.out⟩);case measure=>simp [intOf];omega
        |false =>
         rw [hvd] at Hval;have hb9:byteN x.kind q=9:=by unfold byteN;rw [if_neg (by omega),if_pos ⟨hk8,hvd⟩]
         have hans:(9:Int)=ANS:=by
          have:=Hgg.out (by rw [hb9];decide);rw [←Hw3.out,if_pos (by rw [this,hb9];decide),this,hb9]
         have Hans:=hid hans;clear hb9 hk8 hans;(go_wp2_with fail);refine Hval.out.mono ?_;rintro e w5 ⟨rfl,hu3⟩;have Hu3:=hid (Hu.out.trans hu3);clear hu3;go_wp2_with fail
         go_ret
         exact ⟨ret_int Hans.out,Hu2.out.trans Hu3.out⟩
       ·(have hke:(x.kind==8)=false:=by simpa using hk8);(have hb0:byteN x.kind q=0:=by unfold byteN;rw [if_neg (by omega),if_neg (fun h=>hk8 h.1)]);have Hb0:=hid hb0;clear hb0 hk8;go_wp2_with fail
        go_roundw
        (case rel=>exact ⟨k3+1,by omega,by go_num,Hu.out,Hgn.out Hb0.out⟩);case measure=>simp [intOf];omega
      ·have hw:=Hw3.out;rw [if_neg (by rw [firstN_map_none (fun j hj=>Hg.out j hj (by omega))];decide)] at hw;have b3:=ro3 (hu.blk HB1'.out);have Hw4:=hid hw;have Hu:=hid hu;clear hw Hw3 Hg hu;obtain ⟨w5,rfl⟩:∃ w5:World,w5=wr:=⟨_,rfl⟩;(go_wp2_with fail);clear b3;(go_loopw [129] (fun i wr=>∃ k2:Nat,k2<=xs.length/\i=.int .i64 k2/\Up w3 wr/\∀ j,(hj:j<xs.length)->j<k2->wrongB f k (msgI f x.type) xs[j]=0) (fun i _=>xs.length - (intOf i).toNat));case atStart=>exact ⟨0,by omega,rfl,Hu.out,fun j _ h=>absurd h (by omega)⟩
       case round =>
        clear Hu;obtain ⟨k4,hk4,rfl,hu,hg⟩:=hrel;have Hg:=hid hg;clear hg
        by_cases hlt4:k4<xs.length
        ·have hmi:=Hk11.out (by omega);have hmb:=msgI_bd f x.type;(have hmb2:msgI f x.type<f.msgs.length:=by omega);obtain ⟨b1,o1,cs,rfl,_,_,hcs,hd⟩:=(Hx3.out.up (stable_bod d) (Hu2.out.trans hu)).at hlt4;obtain ⟨m1,r1,s1,m2,r2,s2,rfl⟩:=bod_two hd;have n0:=hcs 0 _ rfl;have n1':=hcs 1 _ rfl;simp only [Nat.add_zero] at n0;have Hfv:=hid (Hf.out.up (Hu2.out.trans hu));have Hgg:=hid (fun e=>firstN_map_at (q:=wrongB f k (msgI f x.type)) hlt4 Hg.out e);have Hgn:=hid (fun (e:wrongB f k (msgI f x.type) xs[k4]=0)=>zero_more' hlt4 Hg.out e);(have k40:(0:Int)<=(k4:Int):=by omega);(have k41:(k4:Int)<(xs.length:Int):=by omega);have Hmsg:=hid (fun W (u:Up wr W)=>find_msg_r (.agg #[.slice ma f.msgs.length mc,.slice ea f.enums.length ec]) f x.type W (Hfv.out.up u));have Hbc:=hid (fun W (u:Up wr W)=>Ih.out (.agg #[.slice ma f.msgs.length mc,.slice ea f.enums.length ec]) (.slice m1 r1 s1) (.slice m2 r2 s2) (msgI f x.type) xs[k4] W hmi hmb2 (Hfv.out.up u) (stable_bod d _ _ _ _ _ _ (Keep.upS u) hd));have f0:=ro0 (hu.blk HB0'.out);have f1:=ro1 (hu.blk HB0'.out);have ty:=(Hu2.out.trans hu).cell_some Hx.out.2.1.2.2.2.1;have Hu:=hid hu;have h16:=H16.out;clear hcs hd hu hmi hmb hmb2;generalize xs[k4]=q at *;change Hid (∀ W,Up wr W->Calls _ _ _ _ fun e w'=>e=Ending.returned (.int .i64 (msgI f x.type))/\Up W w') at Hmsg;generalize msgI f x.type=mi at *;obtain ⟨wq,rfl⟩:∃ wq:World,wq=wr:=⟨_,rfl⟩;generalize hER:wrongB f k mi q=ER at *
         go_upto_region 30 with (fail)
         have hbx:=blk_new wq (.cells #[.slice m1 r1 s1,.slice m2 r2 s2] 29) (g:=wq.heap.size) rfl;have hux:=(Up.refl wq).alloc (.cells #[.slice m1 r1 s1,.slice m2 r2 s2] 29);generalize hwx:wq.alloc (.cells #[.slice m1 r1 s1,.slice m2 r2 s2] 29)=wx at *;clear hwx n0 n1' hER;have e0:=ro0 hbx;have e1:=ro1 hbx;have f0:=hux.cell_some f0;have f1:=hux.cell_some f1;have ty:=hux.cell_some ty;have Hux:=hid hux;clear hux hbx;have dd:wx.drew.cell? ⟨w.heap.size,0,none⟩=some (.slice ma f.msgs.length mc)/\wx.drew.cell? ⟨w.heap.size,1,none⟩=some (.slice ea f.enums.length ec)/\wx.drew.cell? ⟨wq.heap.size,0,none⟩=some (.slice m1 r1 s1)/\wx.drew.cell? ⟨wq.heap.size,1,none⟩=some (.slice m2 r2 s2)/\wx.drew.cell? ⟨bf,of+3,none⟩=some (.string ⟨x.type.toArray⟩):=⟨f0,f1,e0,e1,ty⟩;have DD:=hid (fun W (u:Up wx W)=>(⟨u.cell_some f0,u.cell_some f1,u.cell_some e0,u.cell_some e1,u.cell_some ty⟩:W.cell? ⟨w.heap.size,0,none⟩=some (.slice ma f.msgs.length mc)/\W.cell? ⟨w.heap.size,1,none⟩=some (.slice ea f.enums.length ec)/\W.cell? ⟨wq.heap.size,0,none⟩=some (.slice m1 r1 s1)/\W.cell? ⟨wq.heap.size,1,none⟩=some (.slice m2 r2 s2)/\W.cell? ⟨bf,of+3,none⟩=some (.string ⟨x.type.toArray⟩)))
         go_region_held3 (fun w'=>w'.cell? ⟨w.heap.size,0,none⟩=some (.slice ma f.msgs.length mc)/\w'.cell? ⟨w.heap.size,1,none⟩=some (.slice ea f.enums.length ec)/\w'.cell? ⟨wq.heap.size,0,none⟩=some (.slice m1 r1 s1)/\w'.cell? ⟨wq.heap.size,1,none⟩=some (.slice m2 r2 s2)/\w'.cell? ⟨bf,of+3,none⟩=some (.string ⟨x.type.toArray⟩))
          (first|with_reducible exact dd|with_reducible exact DD.out _ hu5|with_reducible exact DD.out _ hu6)
          (first|(go_at_call 36;refine (Hmsg.out _ (Hux.out.trans (Up.refl wx).drew)).mono ?_;rintro e w5 ⟨rfl,hu5'⟩;have hu5:=((Up.refl wx).drew).trans hu5')|(go_at_call 32;refine (Hbc.out _ (Hux.out.trans hu5)).mono ?_;rintro e w6 ⟨rfl,hu6'⟩;have hu6:=hu5.trans hu6'))
         all_goals
          have HU:=hid (Hu.out.trans (Hux.out.trans hu6));clear hu6 hu6' hu5 hu5' dd DD
          by_cases hf:ER=0
          ·subst hf;go_wp2_with fail
           go_roundw
           (case rel=>exact ⟨k4+1,by omega,by go_num,HU.out,Hgn.out rfl⟩);case measure=>simp [intOf];omega
          ·(have hans:ER=ANS:=by rw [←Hw4.out];exact (Hgg.out hf).symm);go_wp2_with fail
           go_ret
           exact ⟨ret_int (by first|rfl|exact hans),Hu2.out.trans HU.out⟩
        ·(have hans:0=ANS:=by rw [←Hw4.out,firstN_map_none (fun j hj=>Hg.out j hj (by omega))]);have Hans:=hid hans;clear hans;go_wp2_with fail
         go_ret
         exact ⟨ret_int Hans.out,Hu2.out.trans hu⟩
end Go.Proofs.YtbceccblepckhaaGreatDoor
