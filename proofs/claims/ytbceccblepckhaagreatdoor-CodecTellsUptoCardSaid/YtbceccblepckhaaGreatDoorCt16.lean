/-
  link.Message, link.Enum.
  pressref2.Message, pressref2.Enum.
  (*checker).value.
-/
import Derived.Lib.SliceRun
import Derived.Test.YtbceccblepckhaaGreatDoorCt14
import Derived.Test.YtbceccblepckhaaGreatDoorCt15
set_option maxHeartbeats 6400000
set_option linter.unusedVariables false
namespace Go.Proofs.YtbceccblepckhaaGreatDoor
open Go.RowKit
set_option maxRecDepth 100000
open Lib (hid)
theorem leq_comm (a b:List UInt8):(a==b)=(b==a):=by
 rw [Bool.eq_iff_iff];simp only [beq_iff_eq];exact eq_comm
theorem find_msg_p (s:List UInt8) (b:Nat) (x:Msg) (cs:List Value) (w:World) (hb:b<w.heap.size) (hc:w.cell? ⟨b,0,none⟩=some (.string ⟨s.toArray⟩)) (hd:DMsg All w x cs) :
  Calls Tryz.prog 123 (#[.agg cs.toArray]++#[.pointer (some ⟨b,0,none⟩)]) w fun e w'=>e=.returned (.bool (x.name==s))/\Up w w':=by
 obtain ⟨vf,vb,hd,_,_,_⟩:=hd;subst hd;show Calls Tryz.prog 123 #[.agg #[.string ⟨x.name.toArray⟩,vf,vb],.pointer (some ⟨b,0,none⟩)] w _;have hne:b≠w.heap.size:=by omega
 go_enter Tryz.func123,Tryz.ntmps123
 go_wp2_with fail
 go_ret
 exact ⟨ret_bool (by simp),(Up.refl w).alloc _⟩
theorem find_msg_l (v:Value) (f:Fil) (s:List UInt8) (w:World) (hv:FilV All w v f) :
  Calls Tryz.prog 69 #[v,.string ⟨s.toArray⟩] w fun e w'=>e=.returned (.int .i64 (idxP (fun x=>x.name==s) f.msgs))/\Up w w':=by
 obtain ⟨vm,ve,rfl,hm,he⟩:=hv;have Hm:=hid hm;have He:=hid he;clear hm he
 go_enter Tryz.func69,Tryz.ntmps69
 (go_wp2_with fail);have hu:Up w ((w.alloc (.cells #[vm,ve] 25)).alloc (.cells #[.string ⟨s.toArray⟩] 9)):=((Up.refl w).alloc _).alloc _
 have hc:((w.alloc (.cells #[vm,ve] 25)).alloc (.cells #[.string ⟨s.toArray⟩] 9)).cell? ⟨w.heap.size+1,0,none⟩=some (.string ⟨s.toArray⟩) :=
  cell_of_row _ _ 0 _ _ _ (blk_new (w.alloc (.cells #[vm,ve] 25)) (.cells #[.string ⟨s.toArray⟩] 9) (g:=w.heap.size+1) (by simp))
 (have hz:w.heap.size+1<((w.alloc (.cells #[vm,ve] 25)).alloc (.cells #[.string ⟨s.toArray⟩] 9)).heap.size:=by simp);generalize (w.alloc (.cells #[vm,ve] 25)).alloc (.cells #[.string ⟨s.toArray⟩] 9)=w1 at *;refine (indexF_msg _ _ (fun x=>x.name==s) 123 (enters_of Tryz.func123 (by kernel_rfl) rfl) #[.pointer (some ⟨w.heap.size+1,0,none⟩)] w1 (Hm.out.up stable_msg hu) (fun x cs wr _ hwr hd=>find_msg_p s _ x cs wr (Nat.lt_of_lt_of_le hz hwr.size) (hwr.cell_some hc) hd)).mono ?_;rintro e w2 ⟨rfl,hu2⟩;go_wp2_with fail
 go_ret
 exact ⟨rfl,hu.trans hu2⟩
theorem find_enu_p (s:List UInt8) (b:Nat) (x:Enu) (cs:List Value) (w:World) (hb:b<w.heap.size) (hc:w.cell? ⟨b,0,none⟩=some (.string ⟨s.toArray⟩)) (hd:DEnu All w x cs) :
  Calls Tryz.prog 145 (#[.agg cs.toArray]++#[.pointer (some ⟨b,0,none⟩)]) w fun e w'=>e=.returned (.bool (x.name==s))/\Up w w':=by
 obtain ⟨vf,hd,_,_⟩:=hd;subst hd;show Calls Tryz.prog 145 #[.agg #[.string ⟨x.name.toArray⟩,vf],.pointer (some ⟨b,0,none⟩)] w _;have hne:b≠w.heap.size:=by omega
 go_enter Tryz.func145,Tryz.ntmps145
 go_wp2_with fail
 go_ret
 exact ⟨ret_bool (by simp),(Up.refl w).alloc _⟩
theorem find_enu_l (v:Value) (f:Fil) (s:List UInt8) (w:World) (hv:FilV All w v f) :
  Calls Tryz.prog 128 #[v,.string ⟨s.toArray⟩] w fun e w'=>e=.returned (.int .i64 (idxP (fun x=>x.name==s) f.enums))/\Up w w':=by
 obtain ⟨vm,ve,rfl,hm,he⟩:=hv;have Hm:=hid hm;have He:=hid he;clear hm he
 go_enter Tryz.func128,Tryz.ntmps128
 (go_wp2_with fail);have hu:Up w ((w.alloc (.cells #[vm,ve] 25)).alloc (.cells #[.string ⟨s.toArray⟩] 9)):=((Up.refl w).alloc _).alloc _
 have hc:((w.alloc (.cells #[vm,ve] 25)).alloc (.cells #[.string ⟨s.toArray⟩] 9)).cell? ⟨w.heap.size+1,0,none⟩=some (.string ⟨s.toArray⟩) :=
  cell_of_row _ _ 0 _ _ _ (blk_new (w.alloc (.cells #[vm,ve] 25)) (.cells #[.string ⟨s.toArray⟩] 9) (g:=w.heap.size+1) (by simp))
 (have hz:w.heap.size+1<((w.alloc (.cells #[vm,ve] 25)).alloc (.cells #[.string ⟨s.toArray⟩] 9)).heap.size:=by simp);generalize (w.alloc (.cells #[vm,ve] 25)).alloc (.cells #[.string ⟨s.toArray⟩] 9)=w1 at *;refine (indexF_enu _ _ (fun x=>x.name==s) 145 (enters_of Tryz.func145 (by kernel_rfl) rfl) #[.pointer (some ⟨w.heap.size+1,0,none⟩)] w1 (He.out.up stable_enu hu) (fun x cs wr _ hwr hd=>find_enu_p s _ x cs wr (Nat.lt_of_lt_of_le hz hwr.size) (hwr.cell_some hc) hd)).mono ?_;rintro e w2 ⟨rfl,hu2⟩;go_wp2_with fail
 go_ret
 exact ⟨rfl,hu.trans hu2⟩
theorem find_msg_r (v:Value) (f:Fil) (s:List UInt8) (w:World) (hv:FilV All w v f) :
  Calls Tryz.prog 36 #[v,.string ⟨s.toArray⟩] w fun e w'=>e=.returned (.int .i64 (idxP (fun x=>x.name==s) f.msgs))/\Up w w':=by
 obtain ⟨vm,ve,rfl,hm,he⟩:=hv;generalize hl:f.msgs=l at *;obtain ⟨ao,cap,h0,hc1,hc2⟩:=hm.val;subst h0;have Hv:=hid hm;clear hm he hl
 go_enter Tryz.func36,Tryz.ntmps36
 (go_wp2_with fail);(go_loopw [10] (fun i wr=>∃ k:Nat,k<=l.length/\i=.int .i64 k/\Up w wr/\∀ j,(hj:j<l.length)->j<k->(l[j].name==s)=false) (fun i _=>l.length - (intOf i).toNat));case atStart=>exact ⟨0,by omega,rfl,(Up.refl _).alloc _,fun j _ h=>absurd h (by omega)⟩
 case round =>
  obtain ⟨k,hk,rfl,hu,hg⟩:=hrel;have Hg:=hid hg;clear hg
  by_cases hlt:k<l.length
  ·obtain ⟨b,o,cs,rfl,hb,hl,hcs,hd⟩:=(Hv.out.up stable_msg hu).at hlt;obtain ⟨vf,vb,hd,hf,hb2,_⟩:=hd;obtain ⟨fo,fc,rfl,_,_⟩:=hf.val;obtain ⟨bo,bc,rfl,_,_⟩:=hb2.val;subst hd;have c0:=hcs 0 _ rfl;have c1:=hcs 1 _ rfl;have c2:=hcs 2 _ rfl;simp only [Nat.add_zero] at c0;clear hcs hl;(have i0:(0:Int)<=(k:Int):=by omega);(have i1:(k:Int)<(l.length:Int):=by omega);have hgg:=fun e=>idxP_at (fun x=>x.name==s) l k hlt Hg.out e;have Hgg:=hid hgg;clear hgg;have Hgn:=hid (fun e=>no_more (p:=fun x=>x.name==s) hlt Hg.out e);have Hu:=hid hu;clear hu;generalize l[k]=x at *
   cases he:x.name==s with
   |true =>
    go_wp2_with fail
    go_ret
    exact ⟨ret_int (Hgg.out he).symm,Hu.out.alloc _⟩
   |false =>
    go_wp2_with fail
    go_roundw
    (case rel=>exact ⟨k+1,by omega,by go_num,Hu.out.alloc _,Hgn.out he⟩);case measure=>simp [intOf];omega
  ·go_wp2_with fail
   go_ret
   exact ⟨ret_int (idxP_none _ _ (fun j hj=>Hg.out j hj (by omega))).symm,hu⟩
theorem find_enu_r (v:Value) (f:Fil) (s:List UInt8) (w:World) (hv:FilV All w v f) :
  Calls Tryz.prog 103 #[v,.string ⟨s.toArray⟩] w fun e w'=>e=.returned (.int .i64 (idxP (fun x=>x.name==s) f.enums))/\Up w w':=by
 obtain ⟨vm,ve,rfl,hm,he⟩:=hv;generalize hl:f.enums=l at *;obtain ⟨ao,cap,h0,hc1,hc2⟩:=he.val;subst h0;have Hv:=hid he;clear hm he hl
 go_enter Tryz.func103,Tryz.ntmps103
 (go_wp2_with fail);(go_loopw [10] (fun i wr=>∃ k:Nat,k<=l.length/\i=.int .i64 k/\Up w wr/\∀ j,(hj:j<l.length)->j<k->(l[j].name==s)=false) (fun i _=>l.length - (intOf i).toNat));case atStart=>exact ⟨0,by omega,rfl,(Up.refl _).alloc _,fun j _ h=>absurd h (by omega)⟩
 case round =>
  obtain ⟨k,hk,rfl,hu,hg⟩:=hrel;have Hg:=hid hg;clear hg
  by_cases hlt:k<l.length
  ·obtain ⟨b,o,cs,rfl,hb,hl,hcs,hd⟩:=(Hv.out.up stable_enu hu).at hlt;obtain ⟨vf,hd,hf,_⟩:=hd;obtain ⟨fo,fc,rfl,_,_⟩:=hf.val;subst hd;have c0:=hcs 0 _ rfl;have c1:=hcs 1 _ rfl;simp only [Nat.add_zero] at c0;clear hcs hl;(have i0:(0:Int)<=(k:Int):=by omega);(have i1:(k:Int)<(l.length:Int):=by omega);have hgg:=fun e=>idxP_at (fun x=>x.name==s) l k hlt Hg.out e;have Hgg:=hid hgg;clear hgg;have Hgn:=hid (fun e=>no_more (p:=fun x=>x.name==s) hlt Hg.out e);have Hu:=hid hu;clear hu;generalize l[k]=x at *
   cases he:x.name==s with
   |true =>
    go_wp2_with fail
    go_ret
    exact ⟨ret_int (Hgg.out he).symm,Hu.out.alloc _⟩
   |false =>
    go_wp2_with fail
    go_roundw
    (case rel=>exact ⟨k+1,by omega,by go_num,Hu.out.alloc _,Hgn.out he⟩);case measure=>simp [intOf];omega
  ·go_wp2_with fail
   go_ret
   exact ⟨ret_int (idxP_none _ _ (fun j hj=>Hg.out j hj (by omega))).symm,hu⟩
def FilAt (w:World) (fb:Nat) (f:Fil):Prop:=∃ vm ve,w.cell? ⟨fb,0,none⟩=some vm/\w.cell? ⟨fb,1,none⟩=some ve/\FilV All w (.agg #[vm,ve]) f
theorem FilAt.up {w w':World} {fb:Nat} {f:Fil} (h:FilAt w fb f) (u:Up w w'):FilAt w' fb f:=by
 obtain ⟨vm,ve,h1,h2,h3⟩:=h;exact ⟨vm,ve,u.cell_some h1,u.cell_some h2,h3.up u⟩
def ChkAt (w:World) (cb fb:Nat) (f:Fil):Prop:=w.cell? ⟨cb,0,none⟩=some (.pointer (some ⟨fb,0,none⟩))/\FilAt w fb f
theorem ChkAt.up {w w':World} {cb fb:Nat} {f:Fil} (h:ChkAt w cb fb f) (u:Up w w'):ChkAt w' cb fb f:=⟨u.cell_some h.1,h.2.up u⟩
def BodAt (d:Nat) (w:World) (b o:Nat) (x:Bod):Prop:=∃ vv vu,w.cell? ⟨b,o,none⟩=some vv/\w.cell? ⟨b,o+1,none⟩=some vu/\DBodF d All w x [vv,vu]
theorem BodAt.up {d:Nat} {w w':World} {b o:Nat} {x:Bod} (h:BodAt d w b o x) (u:Up w w'):BodAt d w' b o x:=by
 obtain ⟨vv,vu,h1,h2,h3⟩:=h;exact ⟨vv,vu,u.cell_some h1,u.cell_some h2,stable_bod d _ _ _ _ _ _ (Keep.upS u) h3⟩
abbrev BodyC (k d:Nat) (f:Fil):Prop:=∀ (msg:Int) (x:Bod) (cb fb b o:Nat) (w:World),0<=msg->msg<f.msgs.length->ChkAt w cb fb f->BodAt d w b o x->Tabs w ->
 Calls Tryz.prog 28 #[.pointer (some ⟨cb,0,none⟩),.int .i64 msg,.pointer (some ⟨b,o,none⟩),.int .i64 (13 - k)] w fun e w'=>e=.returned (.int .i64 (wrongB f k msg x))/\Up w w'
theorem value_step (k d:Nat) (f:Fil) (ih:BodyC k d f) (hk:k<=12) (x:Fld) (v:Val) (cb fb bf of b o:Nat) (a1 a2 a3:Option Addr) (c1 c2 c3:Nat) (w:World) (hc:ChkAt w cb fb f) (hx:FldAt w bf of x) (hv:ValAt w b o v a1 a2 a3 c1 c2 c3)
  (hd:DValD d All w v [.int .i64 v.1,.slice a1 v.2.1.length c1,.slice a2 v.2.2.1.length c2,.slice a3 v.2.2.2.length c3]) (ht:typedN f x=0) (hT:Tabs w) :
  Calls Tryz.prog 64 #[.pointer (some ⟨cb,0,none⟩),.pointer (some ⟨bf,of,none⟩),.pointer (some ⟨b,o,none⟩),.int .i64 (12 - k)] w fun e w'=>e=.returned (.int .i64 (wrongVF (wrongB f k) f x v))/\Up w w':=by
 have Ih:=hid ih;obtain ⟨p1,g1,p2,g2,p3,g3,he,hn,hx1,hx2,hx3,zx⟩:=val_cells hd;simp only [List.cons.injEq,Value.slice.injEq,true_and,and_true] at he;obtain ⟨⟨rfl,rfl⟩,⟨rfl,rfl⟩,rfl,rfl⟩:=he;have Hc:=hid hc;have Hx:=hid hx;have Hv:=hid hv;have Hz:=hid zx;have HT:=hid hT;have Hx1:=hid hx1;have Hx2:=hid hx2;have Hx3:=hid hx3;have hzz:=zx;obtain ⟨zb,zy,zs⟩:=zx;have hkd:w.cell? ⟨bf,of+2,none⟩=some (.int .i64 x.kind):=hx.2.1.2.2.1;have hmn:w.cell? ⟨bf,of+4,none⟩=some (.bool x.many):=hx.2.1.2.2.2.2.1;have hch:w.cell? ⟨bf,of+5,none⟩=some (.int .i64 x.choice):=hx.2.1.2.2.2.2.2;have Hcn:=hid (fun W (u:Up w W)=>count_any x.kind b o v a1 a2 a3 c1 c2 c3 W (hv.up u) hzz);have Hpl:=hid (fun W (u:Up w W)=>plain_any x bf of b o v a1 a2 a3 c1 c2 c3 W (u.cell_some hkd) (u.cell_some hmn) (u.cell_some hch) (hv.up u) (hx1.up stable_u64 u) (hx2.up stable_bytes u));obtain ⟨ANS,hw⟩:∃ ANS,wrongVF (wrongB f k) f x v=ANS:=⟨_,rfl⟩;rw [hw];unfold wrongVF at hw
 have hcb:(countN x.kind v).1*8<=140737488355328:=by
  unfold countN;split
  ·simp only;omega
  ·split
   ·simp only;omega
   ·simp only;omega
 (have h16:IntKind.i64.wrap ((12:Int) - (k:Int)+1)=13 - (k:Int):=by rw [IntKind.wrap_i64];omega);have hty:=typed_facts ht
 have hk10:(countN x.kind v).2=true->0<v.2.2.2.length->0<=msgI f x.type:=by
  intro h1 h2;refine hty.2.2.1 ?_;unfold countN at h1;split at h1
  ·simp only [beq_iff_eq] at h1;omega
  ·split at h1
   ·assumption
   ·simp only [beq_iff_eq] at h1;omega
 have Hk10:=hid hk10;clear hk10;generalize countN x.kind v=cn at *;obtain ⟨n,ok⟩:=cn;generalize plainN x v=pl at *;clear hc hx hv hd hx1 hx2 hx3 hT hzz ih;simp only at hw hcb Hcn;have Hch:=hid hch;have Hkd:=hid hkd;clear hch
 go_enter Tryz.func64,Tryz.ntmps64
 (go_wp2_with fail);refine (Hcn.out _ (Up.refl _)).mono ?_;rintro e w1 ⟨rfl,hu1⟩;have hmn:=hu1.cell_some hmn;have hkd:=hu1.cell_some hkd
 cases ok with
 |false =>
  rw [if_pos rfl] at hw;go_wp2_with fail
  go_ret
  exact ⟨ret_int hw,hu1⟩
 |true =>
 rw [if_neg (by decide)] at hw
 by_cases hmc:n<1∨60<n∨(x.many=false/\1<n)
 ·rw [if_pos hmc] at hw;have Hu1:=hid hu1
  have hm3:(n:Int)<1∨(¬ (n:Int)<1/\(60:Int)<n)∨(¬ (n:Int)<1/\¬ (60:Int)<n/\x.many=false/\(1:Int)<n):=by
   by_cases g1:n<1
   ·exact .inl (by omega)
   ·by_cases g2:60<n
    ·exact .inr (.inl ⟨by omega,by omega⟩)
    ·rcases hmc with h|h|⟨h,h'⟩
     ·omega
     ·omega
     ·exact .inr (.inr ⟨by omega,by omega,h,by omega⟩)
  rcases hm3 with h|⟨h,h2⟩|⟨h,h2,h3,h4⟩
  ·clear hu1 hmc;go_wp2_with fail
   go_ret
   exact ⟨ret_int hw,Hu1.out⟩
  ·clear hu1 hmc;go_wp2_with fail
   go_ret
   exact ⟨ret_int hw,Hu1.out⟩
  ·clear hu1 hmc;rw [h3] at hmn;go_wp2_with fail
   go_ret
   exact ⟨ret_int hw,Hu1.out⟩
 rw [if_neg hmc] at hw;(have n1:¬ (n:Int)<1:=by omega);have n2:¬ (60:Int)<(n:Int):=by omega
 have n3:(x.many=true)∨(x.many=false/\¬ (1:Int)<(n:Int)):=by
  cases h:x.many with
  |true=>exact .inl rfl
  |false=>exact .inr ⟨rfl,fun g=>hmc (.inr (.inr ⟨h,by omega⟩))⟩
 clear hmc;have Hpl1:=hid (Hpl.out w1 hu1);have Hu1:=hid hu1;have Hw:=hid hw;clear hu1 hw;rcases n3 with h|⟨h,h2⟩
 all_goals
  rw [h] at hmn;(go_wp2_with fail);refine Hpl1.out.mono ?_;rintro e w2 ⟨rfl,hu2⟩;have hw:=Hw.out;have hu2:=Hu1.out.trans hu2
 all_goals
  have hv0:=Hv.out.up hu2;obtain ⟨v0,v1,v2,v3⟩:=hv0
  cases pl with
  |true =>
   rw [if_pos rfl] at hw;go_wp2_with fail
   go_ret
   exact ⟨ret_int hw,hu2⟩
  |false =>
  rw [if_neg (by decide)] at hw;have Hu2:=hid hu2;have Hw2:=hid hw;clear hu2 hw Hw hmn v0 v2 v3 hkd;(go_wp2_with fail);clear v1;(go_loopw [57] (fun i wr=>∃ k2:Nat,k2<=v.2.1.length/\i=.int .i64 k2/\Up w wr/\∀ j,(hj:j<v.2.1.length)->j<k2->fitsN x.kind v.2.1[j]=0) (fun i _=>v.2.1.length - (intOf i).toNat));case atStart=>exact ⟨0,by omega,rfl,Hu2.out,fun j _ h=>absurd h (by omega)⟩
  case round =>
   clear Hu2;obtain ⟨k2,hk2,rfl,hu,hg⟩:=hrel;have Hg:=hid hg;clear hg
   by_cases hlt:k2<v.2.1.length
   ·obtain ⟨b1,o1,cs,rfl,_,_,hcs,hd⟩:=(Hx1.out.up stable_u64 hu).at hlt;obtain ⟨rfl,hn64⟩:=hd;have n0:=hcs 0 _ rfl;simp only [Nat.add_zero,Nat.mul_one] at n0;have kd:=hu.cell_some Hkd.out;have Hfit:=hid (fits_any x.kind v.2.1[k2] wr hn64);have Hgg:=hid (fun e=>firstN_map_at (q:=fitsN x.kind) hlt Hg.out e);have Hgn:=hid (fun (e:fitsN x.kind v.2.1[k2]=0)=>zero_more' hlt Hg.out e);(have k20:(0:Int)<=(k2:Int):=by omega);(have k21:(k2:Int)<(v.2.1.length:Int):=by omega);have Hu:=hid hu;clear hcs hu;generalize v.2.1[k2]=q at *;(go_wp2_with fail);refine Hfit.out.mono ?_;rintro e w3 ⟨rfl,h3⟩;subst h3;clear n0 kd
    by_cases hf:fitsN x.kind q=0
    ·rw [hf];go_wp2_with fail
     go_roundw
     (case rel=>exact ⟨k2+1,by omega,by go_num,Hu.out,Hgn.out hf⟩);case measure=>simp [intOf];omega
    ·have hans:fitsN x.kind q=ANS:=by
      have:=Hgg.out hf;rw [←Hw2.out,if_pos (by rw [this];exact hf),this]
     generalize fitsN x.kind q=er at *;go_wp2_with fail
     go_ret
     exact ⟨ret_int (by first|rfl|exact hans),Hu.out⟩
   ·have hw:=Hw2.out;rw [if_neg (by rw [firstN_map_none (fun j hj=>Hg.out j hj (by omega))];decide)] at hw;have v2:=(Hv.out.up hu).2.2.1;have Hw3:=hid hw;have Hu:=hid hu;clear hw Hw2 Hg hu;(go_wp2_with fail);clear v2;(go_loopw [76] (fun i wr=>∃ k2:Nat,k2<=v.2.2.1.length/\i=.int .i64 k2/\Up w wr/\∀ j,(hj:j<v.2.2.1.length)->j<k2->byteN x.kind v.2.2.1[j]=0) (fun i _=>v.2.2.1.length - (intOf i).toNat));case atStart=>exact ⟨0,by omega,rfl,Hu.out,fun j _ h=>absurd h (by omega)⟩
    case round =>
     clear Hu;obtain ⟨k3,hk3,rfl,hu,hg⟩:=hrel;have Hg:=hid hg;clear hg
     by_cases hlt3:k3<v.2.2.1.length
     ·obtain ⟨b1,o1,cs,rfl,_,_,hcs,hd⟩:=(Hx2.out.up stable_bytes hu).at hlt3;obtain ⟨vy,hd,hr,hyz⟩:=hd;subst hd;obtain ⟨ya,yc,rfl,_,_⟩:=hr.val;have n0:=hcs 0 _ rfl;simp only [Nat.add_zero,Nat.mul_one] at n0;have kd:=hu.cell_some Hkd.out;have Hval:=hid (valid_b _ _ wr hr (HT.out.up hu));have Hgg:=hid (fun e=>firstN_map_at (q:=byteN x.kind) hlt3 Hg.out e);have Hgn:=hid (fun (e:byteN x.kind v.2.2.1[k3]=0)=>zero_more' hlt3 Hg.out e);(have k30:(0:Int)<=(k3:Int):=by omega);(have k31:(k3:Int)<(v.2.2.1.length:Int):=by omega);have Hu:=hid hu;clear hcs hu hr;generalize v.2.2.1[k3]=q at *
      by_cases hlong:(4000:Int)<(q.length:Int)
      ·have hb4:byteN x.kind q=4:=by unfold byteN;rw [if_pos (by omega)]
       have hans:(4:Int)=ANS:=by
        have:=Hgg.out (by rw [hb4];decide);rw [←Hw3.out,if_pos (by rw [this,hb4];decide),this,hb4]
       clear hb4;go_wp2_with fail
       go_ret
       exact ⟨ret_int hans,Hu.out⟩
      by_cases hk8:x.kind=8
      ·have hke:(x.kind==8)=true:=by simp [hk8]
       cases hvd:Lib.validD q with
       |true =>
        rw [hvd] at Hval;(have hb0:byteN x.kind q=0:=by unfold byteN;rw [if_neg (by omega),if_neg (by rw [hvd];simp)]);have Hb0:=hid hb0;clear hb0 hk8;(go_wp2_with fail);refine Hval.out.mono ?_;rintro e w3 ⟨rfl,hu3⟩;have Hu3:=hid (Hu.out.trans hu3);clear hu3;go_wp2_with fail
        go_roundw
        (case rel=>exact ⟨k3+1,by omega,by go_num,Hu3.out,Hgn.out Hb0.out⟩);case measure=>simp [intOf];omega
       |false =>
        rw [hvd] at Hval;have hb9:byteN x.kind q=9:=by unfold byteN;rw [if_neg (by omega),if_pos ⟨hk8,hvd⟩]
        have hans:(9:Int)=ANS:=by
         have:=Hgg.out (by rw [hb9];decide);rw [←Hw3.out,if_pos (by rw [this,hb9];decide),this,hb9]
        clear hb9 hk8;(go_wp2_with fail);refine Hval.out.mono ?_;rintro e w3 ⟨rfl,hu3⟩;have Hu3:=hid (Hu.out.trans hu3);clear hu3;go_wp2_with fail
        go_ret
        exact ⟨ret_int hans,Hu3.out⟩
      ·(have hke:(x.kind==8)=false:=by simpa using hk8);(have hb0:byteN x.kind q=0:=by unfold byteN;rw [if_neg (by omega),if_neg (fun h=>hk8 h.1)]);have Hb0:=hid hb0;clear hb0 hk8;go_wp2_with fail
       go_roundw
       (case rel=>exact ⟨k3+1,by omega,by go_num,Hu.out,Hgn.out Hb0.out⟩);case measure=>simp [intOf];omega
     ·have hw:=Hw3.out;rw [if_neg (by rw [firstN_map_none (fun j hj=>Hg.out j hj (by omega))];decide)] at hw;have v3:=(Hv.out.up hu).2.2.2;have Hw4:=hid hw;have Hu:=hid hu;clear hw Hw3 Hg hu;(go_wp2_with fail);clear v3;(go_loopw [99] (fun i wr=>∃ k2:Nat,k2<=v.2.2.2.length/\i=.int .i64 k2/\Up w wr/\∀ j,(hj:j<v.2.2.2.length)->j<k2->wrongB f k (msgI f x.type) v.2.2.2[j]=0) (fun i _=>v.2.2.2.length - (intOf i).toNat));case atStart=>exact ⟨0,by omega,rfl,Hu.out,fun j _ h=>absurd h (by omega)⟩
      case round =>
       clear Hu;obtain ⟨k4,hk4,rfl,hu,hg⟩:=hrel;have Hg:=hid hg;clear hg
       by_cases hlt4:k4<v.2.2.2.length
       ·have hmi:=Hk10.out trivial (by omega);have hmb:=msgI_bd f x.type;(have hmb2:msgI f x.type<f.msgs.length:=by omega);obtain ⟨b1,o1,cs,rfl,_,_,hcs,hd⟩:=(Hx3.out.up (stable_bod d) hu).at hlt4;obtain ⟨m1,r1,s1,m2,r2,s2,rfl⟩:=bod_two hd;have n0:=hcs 0 _ rfl;have n1':=hcs 1 _ rfl;simp only [Nat.add_zero] at n0;have hba:BodAt d wr b1 (o1+k4*2) v.2.2.2[k4]:=⟨_,_,n0,n1',hd⟩;obtain ⟨hcc,vm,ve,hcm,hce,hfv⟩:=Hc.out.up hu;obtain ⟨vm',ve',he',hm',he''⟩:=id hfv;simp only [Value.agg.injEq,Array.mk.injEq,List.cons.injEq,and_true] at he';obtain ⟨rfl,rfl⟩:=he';obtain ⟨ma,mc,rfl,_,_⟩:=hm'.val;obtain ⟨ea,ec,rfl,_,_⟩:=he''.val;clear hm' he'';have Hmsg:=hid (fun W (u:Up wr W)=>find_msg_l (.agg #[.slice ma f.msgs.length mc,.slice ea f.enums.length ec]) f x.type W (hfv.up u));have Hbc:=hid (fun W (u:Up wr W)=>Ih.out (msgI f x.type) v.2.2.2[k4] cb fb b1 (o1+k4*2) W hmi hmb2 (Hc.out.up (hu.trans u)) (hba.up u) (HT.out.up (hu.trans u)));have Hgg:=hid (fun e=>firstN_map_at (q:=wrongB f k (msgI f x.type)) hlt4 Hg.out e);have Hgn:=hid (fun (e:wrongB f k (msgI f x.type) v.2.2.2[k4]=0)=>zero_more' hlt4 Hg.out e);(have k40:(0:Int)<=(k4:Int):=by omega);(have k41:(k4:Int)<(v.2.2.2.length:Int):=by omega);have v3:=(Hv.out.up hu).2.2.2;have ty:=hu.cell_some Hx.out.2.1.2.2.2.1;have Hu:=hid hu;clear hcs hd hba hfv hu hmi hmb hmb2;generalize v.2.2.2[k4]=q at *;change Hid (∀ W,Up wr W->Calls _ _ _ _ fun e w'=>e=Ending.returned (.int .i64 (msgI f x.type))/\Up W w') at Hmsg;generalize msgI f x.type=mi at *;obtain ⟨wq,rfl⟩:∃ wq:World,wq=wr:=⟨_,rfl⟩;generalize hER:wrongB f k mi q=ER at *
        go_upto_region 26 with (fail)
        have dd:wq.drew.cell? ⟨cb,0,none⟩=some (.pointer (some ⟨fb,0,none⟩))/\wq.drew.cell? ⟨fb,0,none⟩=some (.slice ma f.msgs.length mc)/\wq.drew.cell? ⟨fb,1,none⟩=some (.slice ea f.enums.length ec)/\wq.drew.cell? ⟨b,o+3,none⟩=some (.slice (some ⟨b1,o1,none⟩) v.2.2.2.length c3)/\wq.drew.cell? ⟨bf,of+3,none⟩=some (.string ⟨x.type.toArray⟩):=⟨hcc,hcm,hce,v3,ty⟩;have DD:=hid (fun W (u:Up wq W)=>(⟨u.cell_some hcc,u.cell_some hcm,u.cell_some hce,u.cell_some v3,u.cell_some ty⟩:W.cell? ⟨cb,0,none⟩=some (.pointer (some ⟨fb,0,none⟩))/\W.cell? ⟨fb,0,none⟩=some (.slice ma f.msgs.length mc)/\W.cell? ⟨fb,1,none⟩=some (.slice ea f.enums.length ec)/\W.cell? ⟨b,o+3,none⟩=some (.slice (some ⟨b1,o1,none⟩) v.2.2.2.length c3)/\W.cell? ⟨bf,of+3,none⟩=some (.string ⟨x.type.toArray⟩)))
        go_region_held3 (fun w'=>w'.cell? ⟨cb,0,none⟩=some (.pointer (some ⟨fb,0,none⟩))/\w'.cell? ⟨fb,0,none⟩=some (.slice ma f.msgs.length mc)/\w'.cell? ⟨fb,1,none⟩=some (.slice ea f.enums.length ec)/\w'.cell? ⟨b,o+3,none⟩=some (.slice (some ⟨b1,o1,none⟩) v.2.2.2.length c3)/\w'.cell? ⟨bf,of+3,none⟩=some (.string ⟨x.type.toArray⟩))
         (first|with_reducible exact dd|with_reducible exact DD.out _ hu5|with_reducible exact DD.out _ hu6)
         (first|(go_at_call 69;refine (Hmsg.out _ (Up.refl wq).drew).mono ?_;rintro e w5 ⟨rfl,hu5'⟩;have hu5:=((Up.refl wq).drew).trans hu5')|(go_at_call 28;refine (Hbc.out _ hu5).mono ?_;rintro e w6 ⟨rfl,hu6'⟩;have hu6:=hu5.trans hu6'))
        all_goals
         have HU:=hid (Hu.out.trans hu6);clear hu6 hu6' hu5 hu5' dd DD hER
         by_cases hf:ER=0
         ·subst hf;go_wp2_with fail
          go_roundw
          (case rel=>exact ⟨k4+1,by omega,by go_num,HU.out,Hgn.out rfl⟩);case measure=>simp [intOf];omega
         ·(have hans:ER=ANS:=by rw [←Hw4.out];exact (Hgg.out hf).symm);go_wp2_with fail
          go_ret
          exact ⟨ret_int (by first|rfl|exact hans),HU.out⟩
       ·(have hans:0=ANS:=by rw [←Hw4.out,firstN_map_none (fun j hj=>Hg.out j hj (by omega))]);go_wp2_with fail
        go_ret
        exact ⟨ret_int hans,hu⟩
end Go.Proofs.YtbceccblepckhaaGreatDoor
