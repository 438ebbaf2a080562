/-
  pressref3.Set.
  A region that draws its order, and whose last operation waits for all the others: the last one by itself.
  body.join.
-/
import Derived.Test.YtbceccblepckhaaGreatDoorCt17
import Derived.StillTail
import Derived.Deep.CutBlock
import Derived.Laws.Rows
set_option maxHeartbeats 6400000
set_option linter.unusedVariables false
namespace Go.Proofs.YtbceccblepckhaaGreatDoor
open Go.RowKit
set_option maxRecDepth 100000
open Lib (hid)
theorem setr_b {S:Nat->Prop} (s vf vb vv vu:Value) (fs:List Fld) (l:List SV) (x:Val) (F:Fld) (a1 a2 a3:Option Addr) (c1 c2 c3:Nat) (w:World) (hs:∃ b,s=.string b) (hvb:IsS vb) (hvu:IsS vu) (hf:RdS DFld 6 All w vf fs) (hv:RdS DVal4 4 S w vv l) (hr:Rising l) (hz:(l.length+1)*80<=140737488355328)
  (hF:fldN fs x.1=some F) (hch:∀ z∈fs,0<=z.choice)
  (h1:RdS DU64 1 All w (.slice a1 x.2.1.length c1) x.2.1) (h2:RdS DBytes 1 All w (.slice a2 x.2.2.1.length c2) x.2.2.1) :
  Calls Tryz.prog 52 #[.agg #[s,vf,vb],.agg #[vv,vu],.agg #[.int .i64 x.1,.slice a1 x.2.1.length c1,.slice a2 x.2.2.1.length c2,.slice a3 x.2.2.2.length c3]] w fun e w' =>
   ∃ vv',e=.returned (.agg #[vv',vu])/\RdS DVal4 4 (Sx S w) w' vv' (setG (fun y:SV=>y.1) fs l (x.1,.slice a1 x.2.1.length c1,.slice a2 x.2.2.1.length c2,.slice a3 x.2.2.2.length c3) (fun f=>plainN f x))/\Up w w':=by
 obtain ⟨sb,rfl⟩:=hs;obtain ⟨b1,b2,b3,rfl⟩:=hvb;obtain ⟨u1,u2,u3,rfl⟩:=hvu;obtain ⟨ao,cap,rfl,hc1,hc2⟩:=hv.val;obtain ⟨fo,fcap,rfl,hfc1,hfc2⟩:=hf.val;have Hv:=hid hv;have Hf:=hid hf;have Hr:=hid hr;have H1:=hid h1;have H2:=hid h2;have Hok:=hid (rd4_ok hv);obtain ⟨X,hX⟩:∃ X:SV,X=(x.1,.slice a1 x.2.1.length c1,.slice a2 x.2.2.1.length c2,.slice a3 x.2.2.2.length c3):=⟨_,rfl⟩;(have hX1:X.1=x.1:=by rw [hX]);rw [←hX]
 have hset:setG (fun y:SV=>y.1) fs l X (fun f=>plainN f x)=(if plainN F x=true then l.filter (fun y=>keepN fs F X.1 y.1) else insG (fun y:SV=>y.1) (l.filter fun y=>keepN fs F X.1 y.1) X):=by
  unfold setG;rw [show fs.find? (fun z=>z.number==X.1)=some F by rw [hX1];exact hF]
 obtain ⟨RES,hRES⟩:∃ RES,setG (fun y:SV=>y.1) fs l X (fun f=>plainN f x)=RES:=⟨_,rfl⟩;rw [hRES] at hset ⊢;have Hset:=hid hset;clear hRES;have HX:=hid hX;have HX1:=hid hX1;have HokX:=hid (show Ok4 X by rw [hX];exact ⟨⟨_,_,_,rfl⟩,⟨_,_,_,rfl⟩,⟨_,_,_,rfl⟩⟩);have Hch:=hid hch;have HF:=hid hF;have hFc:0<=F.choice:=hch F (fldN_mem hF).1;clear hv hf hr h1 h2 hX hX1 hset hch hF
 go_enter Tryz.func52,Tryz.ntmps52
 go_upto_region 1 with (fail)
 generalize hW:(((w.alloc (.cells #[.string sb,.slice fo fs.length fcap,.slice b1 b2 b3] 35)).alloc (.cells #[.slice ao l.length cap,.slice u1 u2 u3] 29)).alloc (.cells #[.int .i64 x.1,.slice a1 x.2.1.length c1,.slice a2 x.2.2.1.length c2,.slice a3 x.2.2.2.length c3] 71)).alloc (.cells #[.slice none 0 0,.slice none 0 0] 29)=w1;(have hb0:w1.heap[w.heap.size]? = some (.cells #[.string sb,.slice fo fs.length fcap,.slice b1 b2 b3] 35 (0,0)):=by rw [←hW];exact blk_old _ (blk_old _ (blk_old _ (blk_new w _ rfl))));(have hb1:w1.heap[w.heap.size+1]? = some (.cells #[.slice ao l.length cap,.slice u1 u2 u3] 29 (0,0)):=by rw [←hW];exact blk_old _ (blk_old _ (blk_new (w.alloc _) _ (by simp))));(have hb2:w1.heap[w.heap.size+2]? = some (.cells #[.int .i64 x.1,.slice a1 x.2.1.length c1,.slice a2 x.2.2.1.length c2,.slice a3 x.2.2.2.length c3] 71 (0,0)):=by rw [←hW];exact blk_old _ (blk_new ((w.alloc _).alloc _) _ (by simp)));(have hb3:w1.heap[w.heap.size+3]? = some (.cells #[.slice none 0 0,.slice none 0 0] 29 (0,0)):=by rw [←hW];exact blk_new (((w.alloc _).alloc _).alloc _) _ (by simp));(have hu0:Up w w1:=by rw [←hW];exact ((((Up.refl w).alloc _).alloc _).alloc _).alloc _);clear hW;have Hfc:=hid (fun n W (k:Up w W)=>field_r (.string sb) (.slice fo fs.length fcap) (.slice b1 b2 b3) fs n W ⟨_,rfl⟩ ⟨_,_,_,rfl⟩ (Hf.out.up stable_fld k));have m0:=ro0 hb0;have m1:=ro1 hb0;have m2:=ro2 hb0;have x0:=ro0 hb2;have HB0:=hid hb0;have HB1:=hid hb1;have HB2:=hid hb2;have HB3:=hid hb3;have HU0:=hid hu0;clear hb0 hb1 hb2 hb3 hu0;(go_wp2_with fail);refine (Hfc.out x.1 w1 HU0.out).mono ?_;rintro e w2 ⟨⟨p,rfl,hp1,hp2⟩,hu2⟩;clear m0 m1 m2 x0;obtain ⟨hi,hfd⟩|⟨j,hj,hi,hfd⟩:=idxP_cases (fun z:Fld=>z.number==x.1) fs
 ·have:=HF.out;rw [show fldN fs x.1=none from hfd] at this;cases this
 (obtain rfl:fs[j]=F:=by have:=HF.out;rw [show fldN fs x.1=some fs[j] from hfd] at this;exact Option.some.inj this);obtain ⟨fb,fof,fc',hfe,rfl,hfa⟩:=hp2 j hj hi;have Hfa:=hid hfa;have Hu2:=hid (HU0.out.trans hu2);have Hb0:=hid (hu2.blk HB0.out);have Hb1:=hid (hu2.blk HB1.out);have Hb2:=hid (hu2.blk HB2.out);have Hb3:=hid (hu2.blk HB3.out);have hfz:fb<w2.heap.size:=hfa.1;clear hp1 hp2 hfa hfd hi hu2 hfe HB0 HB1 HB2 HB3 HU0;generalize fs[j]=F at *;have x0:=ro0 Hb2.out;have x1:=ro1 Hb2.out;have x2:=ro2 Hb2.out;have x3:=ro3 Hb2.out;have Hem:=hid (empty_any F fb (fof+j*6) x a1 a2 a3 c1 c2 c3 w2 Hfa.out.2.1.2.2.1 Hfa.out.2.1.2.2.2.2.1 Hfa.out.2.1.2.2.2.2.2 hfz (H1.out.up stable_u64 Hu2.out) (H2.out.up stable_bytes Hu2.out));(go_wp2_with fail);refine Hem.out.mono ?_;rintro e w3 ⟨rfl,hu3⟩;have Hu3:=hid (Hu2.out.trans hu3);have Hc0:=hid (hu3.blk Hb0.out);have Hc1:=hid (hu3.blk Hb1.out);have Hc2:=hid (hu3.blk Hb2.out);have Hc3:=hid (hu3.blk Hb3.out);have Hfa3:=hid (Hfa.out.up hu3);have hz3:w.heap.size+3<w3.heap.size:=lt_of_block Hc3.out;have e0:=ro0 Hc1.out;clear x0 x1 x2 x3 hu3 Hb0 Hb1 Hb2 Hb3 Hfa Hu2 hfz;generalize plainN F x=PL at *;(go_wp2_with fail);clear e0
 go_loopw [27,8,9] (fun i pv s wr=>∃ (k2:Nat) (L:List SV) (v:Value) (pb:Bool),k2<=l.length/\i=.int .i64 k2/\pv=.bool pb/\v=s/\SetSt (fun y=>keepN fs F X.1 y.1) X.1 X PL l k2 pb L/\(∀ y∈L,Ok4 y)/\wr.ownsRow w3.heap.size 71 4 v L.length (L.map c4).flatten/\Up w3 wr)
  (fun i _ _ _=>l.length - (intOf i).toNat)
 case atStart =>
  refine ⟨0,[],_,!PL,by omega,rfl,rfl,rfl,?_,(fun y h=>by cases h),World.ownsRow_nil _ _ _ _,Up.refl _⟩
  cases PL with
  |true=>exact .inr (.inl ⟨rfl,rfl,by simp⟩)
  |false=>exact .inl ⟨rfl,rfl,by simp,fun y h=>by simp at h⟩
 case round =>
  obtain ⟨k2,L,s,pb,hk2,rfl,rfl,rfl,hst,hokL,how,hu⟩:=hrel;have How:=hid how;have Hst:=hid hst;have HokL:=hid hokL;clear how hst hokL
  by_cases hlt:k2<l.length
  ·obtain ⟨b,o,cs,rfl,hb,hl,hcs,hd⟩:=(Hv.out.up stable_val4 (Hu3.out.trans hu)).at hlt;obtain ⟨hd,⟨d1,n1,g1,h1⟩,⟨d2,n2,g2,h2⟩,⟨d3,n3,g3,h3⟩⟩:=hd;have Hnx:=hid (fun (pb:Bool) (L:List SV) (h:SetSt (fun y=>keepN fs F X.1 y.1) X.1 X PL l k2 pb L) hn=>SetSt.next h hlt hn);have Hin:=hid (fun (L:List SV) (h:SetSt (fun y=>keepN fs F X.1 y.1) X.1 X PL l k2 true L) hn=>SetSt.ins h hlt hn);have Hoky:=hid (Hok.out l[k2] (List.getElem_mem hlt));generalize l[k2]=y at *;obtain ⟨yn,ya,yb,yc⟩:=y;simp only at h1 h2 h3 Hnx Hin;subst h1 h2 h3;subst hd;have p0:=hcs 0 _ rfl;have p1:=hcs 1 _ rfl;have p2:=hcs 2 _ rfl;have p3:=hcs 3 _ rfl;simp only [Nat.add_zero] at p0;(have i0:(0:Int)<=(k2:Int):=by omega);(have i1:(k2:Int)<(l.length:Int):=by omega);clear hcs hl;obtain ⟨wo,rfl⟩:∃ wo:World,wo=wr:=⟨_,rfl⟩;have Hu:=hid hu
   go_upto_region 9 with (fail)
   have hy:=blk_new wo (.cells #[.int .i64 yn,.slice d1 n1 g1,.slice d2 n2 g2,.slice d3 n3 g3] 71) (g:=wo.heap.size) rfl;have huy:=(Up.refl wo).alloc (.cells #[.int .i64 yn,.slice d1 n1 g1,.slice d2 n2 g2,.slice d3 n3 g3] 71);generalize hwy:wo.alloc (.cells #[.int .i64 yn,.slice d1 n1 g1,.slice d2 n2 g2,.slice d3 n3 g3] 71)=wy at *;clear hwy p0 p1 p2 p3;obtain ⟨Y,hY⟩:∃ Y,wo.heap.size=Y:=⟨_,rfl⟩;rw [hY] at hy ⊢;have hu2y:=Hu.out.trans huy;have How1:=hid (How.out.kept huy.to_none (by cases hv:s.ownBlock <;> simp));have x0:=ro0 (hu2y.blk Hc2.out);have x1:=ro1 (hu2y.blk Hc2.out);have x2:=ro2 (hu2y.blk Hc2.out);have x3:=ro3 (hu2y.blk Hc2.out);have y0:=ro0 hy;have Huy:=hid hu2y;have Hy:=hid hy;have hbw:=hu2y.size;clear huy hu2y hu hy
   go_cut [38] (fun bb wc=>bb=.bool (pb && decide (x.1<yn))/\wc=wy)
   case first =>
    cases pb with
    |true =>
     go_wp2_with fail
     go_meet
     exact ⟨rfl,rfl⟩
    |false =>
     go_wp2_with fail
     go_meet
     exact ⟨rfl,rfl⟩
   case rest =>
   obtain ⟨rfl,rfl⟩:=hcut;have hLl:=Hst.out.len
   have hcs:(pb=true/\x.1<yn/\(pb && decide (x.1<yn))=true)∨((pb=true->¬ x.1<yn)/\(pb && decide (x.1<yn))=false):=by
    cases pb with
    |true =>
     by_cases h:x.1<yn
     ·exact .inl ⟨rfl,h,by simp [h]⟩
     ·exact .inr ⟨fun _=>h,by simp [h]⟩
    |false=>exact .inr ⟨fun h=>(by cases h),rfl⟩
   rcases hcs with ⟨hpb,hn,hbb⟩|⟨hn,hbb⟩
   case' inl =>
    subst hpb;rw [hbb];have hL1:=hLl.2.1 rfl
    go_upto_region 12 with (at_builtin;go_must (refine wpList_app1 eVal _ (by rfl) _ _ (by rfl) w3.heap.size _ _ _ (by rfl) How1.out _ (by rfl) (by first|rfl|simp) (by rfl) (oc (by rfl)) (by omega) (by unfold maxLen;omega) (by first|omega|(simp;omega)) ?_;intro v6 w6 how6 hev6;have How6:=hid how6;have Hev6:=hid hev6;clear how6 hev6))
    have How7:=hid (show w6.ownsRow w3.heap.size 71 4 v6 (L++[X]).length ((L++[X]).map c4).flatten by
     rw [List.length_append,List.map_append,List.flatten_append,HX.out];simpa [c4] using How6.out)
    have Hst7:=hid (Hin.out L Hst.out (by rw [HX1.out];exact hn))
    have Hok7:=hid (show ∀ z∈L++[X],Ok4 z from fun z hz=>by
     rcases List.mem_append.1 hz with h|h
     ·exact HokL.out z h
     ·rw [List.mem_singleton.1 h];exact HokX.out)
    have Hu7:=hid (show Up w3 w6 from Up.evo Huy.out Hev6.out (fun j hj=>(How1.out.lt j hj).1));have Hy7:=hid (Hev6.out.blk Hy.out (fun e=>by have:=(How.out.lt _ e).2;omega));(have hn7:false=true->¬ X.1<yn:=fun h=>by cases h);have hpbv:(Value.bool false)=.bool false:=rfl;(have hL7:(L++[X]).length<=l.length:=by rw [List.length_append,List.length_singleton];omega);obtain ⟨w7,rfl⟩:∃ w7:World,w7=w6:=⟨_,rfl⟩;obtain ⟨v7,rfl⟩:∃ v7:Value,v7=v6:=⟨_,rfl⟩;clear x0 x1 x2 x3 y0 How1 hL1 Hev6 How6
   case' inr =>
    rw [hbb]
    go_upto_region 12 with (fail)
    have How7:=How1;have Hst7:=Hst;have Hok7:=HokL;have Hu7:=Huy;have Hy7:=Hy;(have hn7:pb=true->¬ X.1<yn:=fun h=>by rw [HX1.out];exact hn h);(have hL7:L.length<=l.length:=by have:=hLl.1;rcases Hst.out with ⟨_,_,h,_⟩|⟨_,_,h⟩|⟨_,_,_,_,_,_,_⟩ <;> omega);obtain ⟨w7,rfl⟩:∃ w7:World,w7=wc:=⟨_,rfl⟩;obtain ⟨v7,rfl⟩:∃ v7:Value,v7=s:=⟨_,rfl⟩;clear x0 x1 x2 x3 y0 How1
   all_goals
    have hm:=Hu7.out.blk Hc0.out;have m0:=ro0 hm;have m1:=ro1 hm;have m2:=ro2 hm;have y0:=ro0 Hy7.out;have Hn7:=hid hn7;clear hm hn7 hn hbb;(go_wp2_with fail);refine (Hfc.out yn w7 (Hu3.out.trans Hu7.out)).mono ?_;rintro e w8 ⟨⟨p,rfl,hp1,hp2⟩,hu8⟩;clear m0 m1 m2 y0;have Hu8:=hid (Hu7.out.trans hu8);have Hy8:=hid (hu8.blk Hy7.out);have How8:=hid (How7.out.kept hu8.to_none (by cases hv:v7.ownBlock <;> simp));have y0:=ro0 Hy8.out;have x0:=ro0 (Hu8.out.blk Hc2.out);have fc:w8.cell? ⟨fb,fof+j*6+5,none⟩=some (.int .i64 F.choice):=Hu8.out.cell_some Hfa3.out.2.1.2.2.2.2.2;obtain ⟨KP,hKP⟩:∃ KP,keepN fs F X.1 yn=KP:=⟨_,rfl⟩
    have hcs5:((yn==x.1)=true/\KP=false)∨((yn==x.1)=false/\decide ((0:Int)<F.choice)=false/\KP=true)∨((yn==x.1)=false/\decide ((0:Int)<F.choice)=true/\p=none/\KP=true) ∨
      ((yn==x.1)=false/\decide ((0:Int)<F.choice)=true/\∃ (qb qo:Nat) (G:Int),p=some ⟨qb,qo,none⟩/\w8.cell? ⟨qb,qo+5,none⟩=some (.int .i64 G)/\(G==F.choice)=true/\KP=false) ∨
      ((yn==x.1)=false/\decide ((0:Int)<F.choice)=true/\∃ (qb qo:Nat) (G:Int),p=some ⟨qb,qo,none⟩/\w8.cell? ⟨qb,qo+5,none⟩=some (.int .i64 G)/\(G==F.choice)=false/\KP=true):=by
     unfold keepN at hKP;rw [HX1.out] at hKP
     cases q1:(yn==x.1) with
     |true=>exact .inl ⟨rfl,by rw [←hKP];simp [bne,q1]⟩
     |false =>
      (have q1':(yn != x.1)=true:=by simp [bne,q1]);rw [q1'] at hKP
      by_cases h0:(0:Int)<F.choice
      ·(have h1:(F.choice==0)=false:=by rw [beq_eq_false_iff_ne];omega);rw [h1] at hKP;rcases idxP_cases (fun z:Fld=>z.number==yn) fs with ⟨g1,g2⟩|⟨jj,hjj,g1,g2⟩
       ·rw [g2] at hKP;exact .inr (.inr (.inl ⟨rfl,decide_eq_true h0,hp1 (by rw [g1];decide),by rw [←hKP];rfl⟩))
       ·rw [g2] at hKP;obtain ⟨qb,qo,qc,_,hpe,hqa⟩:=hp2 jj hjj g1;have hce:=hqa.2.1.2.2.2.2.2
        cases q3:(fs[jj].choice==F.choice) with
        |true=>exact .inr (.inr (.inr (.inl ⟨rfl,decide_eq_true h0,qb,qo+jj*6,fs[jj].choice,hpe,hce,q3,by rw [←hKP];simp [bne,q3]⟩)))
        |false=>exact .inr (.inr (.inr (.inr ⟨rfl,decide_eq_true h0,qb,qo+jj*6,fs[jj].choice,hpe,hce,q3,by rw [←hKP];simp [bne,q3]⟩)))
      ·(have h1:(F.choice==0)=true:=by rw [beq_iff_eq];omega);rw [h1] at hKP;exact .inr (.inl ⟨rfl,decide_eq_false h0,by rw [←hKP];rfl⟩)
    have HKP:=hid hKP;clear hp1 hp2 hu8 hKP
    go_upto_region 13 with (fail)
    go_cut [73] (fun bb wc=>bb=.bool (!KP)/\Up w8 wc)
    case first =>
     rcases hcs5 with ⟨q1,rfl⟩|⟨q1,q2,rfl⟩|⟨q1,q2,rfl,rfl⟩|⟨q1,q2,qb,qo,G,rfl,q3,q4,rfl⟩|⟨q1,q2,qb,qo,G,rfl,q3,q4,rfl⟩
     all_goals
      go_quiet (fail)
      go_wp2_with fail
      go_meet
      exact ⟨rfl,(Up.refl w8).drewN _⟩
    case rest =>
    clear hcs5 y0 x0 fc;obtain ⟨rfl,hu9⟩:=hcut;have Hu9:=hid (Hu8.out.trans hu9);have hy9:=hu9.blk Hy8.out;have How9:=hid (How8.out.kept hu9.to_none (by cases hv:v7.ownBlock <;> simp));have hy0:=ro0 hy9;have hy1:=ro1 hy9;have hy2:=ro2 hy9;have hy3:=ro3 hy9;have hbw9:=Hu9.out.size;have Hnx7:=hid (Hnx.out _ _ Hst7.out Hn7.out);clear hu9 hy9
    cases KP with
    |false =>
     go_wp2_with fail
     go_roundw
     case rel =>
      refine ⟨k2+1,_,v7,_,by omega,by go_num,rfl,rfl,Hnx7.out,?_,?_,Hu9.out⟩
      ·rw [if_neg (by rw [HKP.out];decide),List.append_nil];exact Hok7.out
      ·rw [if_neg (by rw [HKP.out];decide),List.append_nil];exact How9.out
     case measure=>simp [intOf];omega
    |true =>
     go_wp2_with (at_builtin;go_must (refine wpList_app1 eVal _ (by rfl) _ _ (by rfl) w3.heap.size _ _ _ (by rfl) How9.out _ (by rfl) (by first|rfl|simp) (by rfl) (oc (by rfl)) (by omega) (by unfold maxLen;omega) (by first|omega|(simp;omega)) ?_;intro v11 w11 how11 hev11;have How11:=hid how11;have Hev11:=hid hev11;clear how11 hev11))
     go_roundw
     case rel =>
      refine ⟨k2+1,_,v11,_,by omega,by go_num,rfl,rfl,Hnx7.out,?_,?_,Up.evo Hu9.out Hev11.out (fun j hj=>(How9.out.lt j hj).1)⟩
      ·rw [if_pos HKP.out];intro z hz;rcases List.mem_append.1 hz with h|h
       ·exact Hok7.out z h
       ·rw [List.mem_singleton.1 h];exact Hoky.out
      ·rw [if_pos HKP.out,List.length_append,List.map_append,List.flatten_append];simpa [c4] using How11.out
     case measure=>simp [intOf];omega
  ·have hlast:=SetSt.last (by omega) Hr.out Hst.out;have hLl:=Hst.out.len;obtain ⟨wo,rfl⟩:∃ wo:World,wo=wr:=⟨_,rfl⟩;have Hu:=hid hu;have hbw:=hu.size;have hB1:=hu.blk Hc1.out;have hB2:=hu.blk Hc2.out;have hB3:=hu.blk Hc3.out;have Hlast:=hid hlast;clear hlast hu
   cases pb with
   |false =>
    have b1':=ro1 hB1;have r0:=ro0 hB3;have r1:=ro1 hB3;have rf':∀ o,wo.frozen? ⟨w.heap.size+1+1+1,o,none⟩=false:=fun o=>frozen_of_row wo _ o _ _ hB3;have hz3':w.heap.size+1+1+1<wo.heap.size:=lt_of_block hB3;obtain ⟨so,sc,rfl⟩:=own_val How.out;(have hlo:∀ b,b<w3.heap.size->(Value.slice so L.length sc).ownBlock≠some b:=fun b hb e=>by have:=(How.out.lt _ e).1;omega);have how4:=own_set (own_set How.out (w.heap.size+1+1+1) 0 (hlo _ (by omega)) (.slice so L.length sc)) (w.heap.size+1+1+1) 1 (hlo _ (by omega)) (.slice u1 u2 u3);have Hfin:=hid (rd4_ownS (S:=Sx S w) rfl how4 HokL.out (fun b hb=>.inr (by omega)));have Huf:=hid (Up.setCell (Up.setCell (Hu3.out.trans Hu.out) (p:=⟨w.heap.size+1+1+1,0,none⟩) (show w.heap.size<=w.heap.size+3 by omega) (.slice so L.length sc)) (p:=⟨w.heap.size+1+1+1,1,none⟩) (show w.heap.size<=w.heap.size+3 by omega) (.slice u1 u2 u3));clear hlo how4 hB1 hB2 hB3;(go_wp2_with fail);refine bodyPost_ret (v:=.agg #[.slice so L.length sc,.slice u1 u2 u3]) (by simp [results,Tryz.results52,go_sem,r0,r1]) rfl ?_;refine ⟨_,rfl,?_,Huf.out⟩;rw [Hset.out,←Hlast.out,if_neg (by decide)];exact Hfin.out
   |true =>
    have hL1:=hLl.2.1 rfl;have x0:=ro0 hB2;have x1:=ro1 hB2;have x2:=ro2 hB2;have x3:=ro3 hB2
    go_upto_region 18 with (at_builtin;go_must (refine wpList_app1 eVal _ (by rfl) _ _ (by rfl) w3.heap.size _ _ _ (by rfl) How.out _ (by rfl) (by first|rfl|simp) (by rfl) (oc (by rfl)) (by omega) (by unfold maxLen;omega) (by first|omega|(simp;omega)) ?_;intro v6 w6 how6 hev6;have How6:=hid how6;have Hev6:=hid hev6;clear how6 hev6))
    have how7:w6.ownsRow w3.heap.size 71 4 v6 (L++[X]).length ((L++[X]).map c4).flatten:=by
     rw [List.length_append,List.map_append,List.flatten_append,HX.out];simpa [c4] using How6.out
    have Hok7:=hid (show ∀ z∈L++[X],Ok4 z from fun z hz=>by
     rcases List.mem_append.1 hz with h|h
     ·exact HokL.out z h
     ·rw [List.mem_singleton.1 h];exact HokX.out)
    have hu7:Up w3 w6:=Up.evo Hu.out Hev6.out (fun j hj=>(How.out.lt j hj).1);have hB1':=hu7.blk Hc1.out;have hB3':=hu7.blk Hc3.out;have b1':=ro1 hB1';have r0:=ro0 hB3';have r1:=ro1 hB3';have rf':∀ o,w6.frozen? ⟨w.heap.size+1+1+1,o,none⟩=false:=fun o=>frozen_of_row w6 _ o _ _ hB3';have hz3':w.heap.size+1+1+1<w6.heap.size:=lt_of_block hB3';obtain ⟨so,sc,rfl⟩:=own_val how7;(have hlo:∀ b,b<w3.heap.size->(Value.slice so (L++[X]).length sc).ownBlock≠some b:=fun b hb e=>by have:=(how7.lt _ e).1;omega);have how4:=own_set (own_set how7 (w.heap.size+1+1+1) 0 (hlo _ (by omega)) (.slice so (L++[X]).length sc)) (w.heap.size+1+1+1) 1 (hlo _ (by omega)) (.slice u1 u2 u3);have Hfin:=hid (rd4_ownS (S:=Sx S w) rfl how4 Hok7.out (fun b hb=>.inr (by omega)));have Huf:=hid (Up.setCell (Up.setCell (Hu3.out.trans hu7) (p:=⟨w.heap.size+1+1+1,0,none⟩) (show w.heap.size<=w.heap.size+3 by omega) (.slice so (L++[X]).length sc)) (p:=⟨w.heap.size+1+1+1,1,none⟩) (show w.heap.size<=w.heap.size+3 by omega) (.slice u1 u2 u3));clear hlo how4 hB1 hB2 hB3 hB1' hB3' how7 hu7 x0 x1 x2 x3 How6 Hev6;generalize (L++[X]).length=LN at *;(go_wp2_with fail);refine bodyPost_ret (v:=.agg #[.slice so LN sc,.slice u1 u2 u3]) (by simp [results,Tryz.results52,go_sem,r0,r1]) rfl ?_;refine ⟨_,rfl,?_,Huf.out⟩;rw [Hset.out,←Hlast.out];(first|rw [if_pos rfl]|rw [if_pos trivial]);exact Hfin.out
theorem setr_v (d:Nat) {S:Nat->Prop} (s vf vb vv vu:Value) (fs:List Fld) (l:List Val) (x:Val) (F:Fld) (a1 a2 a3:Option Addr) (c1 c2 c3:Nat) (w:World) (hs:∃ b,s=.string b) (hvb:IsS vb) (hvu:IsS vu) (hf:RdS DFld 6 All w vf fs) (hv:RdS (DValD d) 4 S w vv l) (hr:RisingV l) (hz:(l.length+1)*80<=140737488355328)
  (hF:fldN fs x.1=some F) (hch:∀ z∈fs,0<=z.choice)
  (hx:DValD d S w x [.int .i64 x.1,.slice a1 x.2.1.length c1,.slice a2 x.2.2.1.length c2,.slice a3 x.2.2.2.length c3]) :
  Calls Tryz.prog 52 #[.agg #[s,vf,vb],.agg #[vv,vu],.agg #[.int .i64 x.1,.slice a1 x.2.1.length c1,.slice a2 x.2.2.1.length c2,.slice a3 x.2.2.2.length c3]] w fun e w' =>
   ∃ vv',e=.returned (.agg #[vv',vu])/\RdS (DValD d) 4 (Sx S w) w' vv' (setV fs l x)/\Up w w':=by
 obtain ⟨l4,h1,h2,h3⟩:=rd4 hv;obtain ⟨L,e1,e2,e3⟩:=zip4 h2 h3;obtain ⟨p1,g1,p2,g2,p3,g3,he,hn,hx1,hx2,hx3,zx⟩:=val_cells hx;simp only [List.cons.injEq,Value.slice.injEq,true_and,and_true] at he;obtain ⟨⟨rfl,rfl⟩,⟨rfl,rfl⟩,rfl,rfl⟩:=he
 have hr4:Rising l4:=by
  rw [←e2];rw [←e1] at hr;have hq:L.Pairwise (fun p q=>p.1.1<q.1.1):=(List.pairwise_map (f:=Prod.fst) (R:=fun a b:Val=>a.1<b.1)).1 hr;exact (List.pairwise_map (f:=pv4) (R:=fun a b:SV=>a.1<b.1)).2 hq
 refine (setr_b (S:=S) s vf vb vv vu fs l4 x F a1 a2 a3 c1 c2 c3 w hs hvb hvu hf h1 hr4 (by rw [h2];exact hz) hF hch (hx1.keep stable_u64 Keep.all) (hx2.keep stable_bytes Keep.all)).mono ?_;rintro e w' ⟨vv',rfl,hrd,hu⟩;rw [←e2] at hrd;refine ⟨vv',rfl,?_,hu⟩;exact lift_set (vv:=vv) e1 e3 hx (fun k h=>.inl h) hu hrd
end Go.Proofs.YtbceccblepckhaaGreatDoor
namespace Go.Proofs.YtbceccblepckhaaGreatDoor
section
variable {P:Program} {ops:Array Oper} {md:Region.Mode} {Q:Exit->Act->World->Prop}
def AskLast (P:Program) (ops:Array Oper) (m:Nat) (Q:Exit->Act->World->Prop):Exit->Act->World->Prop:=fun e a w=>match e with
 |.normal=>wpOp P ops Q m (Q .normal) a w
 |e=>Q e a w
theorem AskLast.normal {m:Nat} {a:Act} {w:World} (h:wpOp P ops Q m (Q .normal) a w):AskLast P ops m Q .normal a w:=h
theorem wpOp_ask {m i:Nat} {K:Act->World->Prop} {a:Act} {w:World} (h:wpOp P ops (AskLast P ops m Q) i K a w):wpOp P ops Q i K a w:=by
 unfold wpOp at *;split
 ·rename_i hn;simp only [hn] at h;exact h
 ·rename_i o ho;simp only [ho] at h;split
  ·rename_i hw;simp only [hw,if_true] at h;rcases h with h|h
   ·refine .inl ?_;unfold Oper.wp at h ⊢;generalize (execOp a.eval o).run P w=r at *
    cases r with
    |ok n w'=>cases n <;> exact h
    |halt x w'=>cases x <;> exact h
   ·exact .inr h
  ·rename_i hw;rw [if_neg hw] at h;exact h
theorem unlisted_low {m:Nat} {listed:Array Bool} (hdep:∀ (j:Nat) (oj:Oper),ops[j]? = some oj->∀ e∈oj.after,Region.binds md e=true->e.on<j) (hsz:listed.size=ops.size)
  (hr:∀ i,i≠m->i ∉ Region.ready md ops listed) (hno:∀ (j:Nat) (oj:Oper),ops[j]? = some oj->∀ e∈oj.after,Region.binds md e=true->e.on≠m) :
  ∀ i,i<ops.size->i≠m->listed.getD i false=true:=by
 intro i
 induction i using Nat.strongRecOn with
 |_ i ih =>
  intro hi him
  cases hl:listed.getD i false with
  |true=>rfl
  |false =>
   refine absurd (mem_ready.2 ⟨getD_in (by omega) hl,ops[i],by simp [hi],fun e he hb=>?_⟩) (hr i him);have h1:=hdep i ops[i] (by simp [hi]) e he hb;exact ih e.on h1 (by omega) (hno i ops[i] (by simp [hi]) e he hb)
theorem wpAny_last {m:Nat} (hm:m+1=ops.size) (hs:Region.sinkB md ops m=true) (hc:Region.chainB md ops m=true) (hdep:∀ (j:Nat) (oj:Oper),ops[j]? = some oj->∀ e∈oj.after,Region.binds md e=true->e.on<j) :
  ∀ (f:Nat) (listed:Array Bool) (a:Act) (w:World),HeadInv md ops m listed->wpAny P md ops (AskLast P ops m Q) f (listed.setIfInBounds m true) a w->wpAny P md ops Q (f+1) listed a w:=by
 have hno:∀ (j:Nat) (oj:Oper),ops[j]? = some oj->∀ e∈oj.after,Region.binds md e=true->e.on≠m:=fun j oj hj e he hb=>by
  have h1:=hdep j oj hj e he hb;have h2:=(Array.getElem?_eq_some_iff.1 hj).1;omega
 have hback:∀ (listed:Array Bool) (i:Nat),i≠m->i∈Region.ready md ops (listed.setIfInBounds m true)->i∈Region.ready md ops listed:=fun listed i him h=>by
  obtain ⟨h0,o,ho,hall⟩:=mem_ready.1 h;refine mem_ready.2 ⟨by rw [getD_set_ne true (Ne.symm him)] at h0;exact h0,o,ho,fun e he hb=>?_⟩;have:=hall e he hb;rw [getD_set_ne false (Ne.symm (hno i o ho e he hb))] at this;exact this
 have hself:∀ (listed:Array Bool),listed.size=ops.size->m ∉ Region.ready md ops (listed.setIfInBounds m true):=fun listed hsz h=>by
  have h0:=(mem_ready.1 h).1;simp [show m<listed.size by omega] at h0
 have hdone:∀ (listed:Array Bool),HeadInv md ops m listed->m∈Region.ready md ops listed->Region.ready md ops (listed.setIfInBounds m true)=[]:=fun listed inv hmr=>by
  refine List.eq_nil_iff_forall_not_mem.2 fun i hi=>?_;have him:i≠m:=fun e=>hself listed inv.size (e ▸ hi);obtain ⟨hun,o,ho,_⟩:=mem_ready.1 (hback listed i him hi);have hlt:=(Array.getElem?_eq_some_iff.1 ho).1;exact tail_waits hs hc (by omega) inv _ i rfl (by omega) hun m (Nat.le_refl _) hmr
 have hall:∀ (listed:Array Bool),HeadInv md ops m listed->Region.ready md ops (listed.setIfInBounds m true)=[]->m∈Region.ready md ops listed:=fun listed inv hr=>by
  have hlow:=unlisted_low (listed:=listed) hdep inv.size (fun i him hi=>by
   have:=ready_mono hi him;rw [hr] at this;cases this) hno
  refine mem_ready.2 ⟨inv.tail m (Nat.le_refl _) (by omega),ops[m],by simp [show m<ops.size by omega],fun e he hb=>?_⟩;have h1:=hdep m ops[m] (by simp [show m<ops.size by omega]) e he hb;exact hlow e.on (by omega) (by omega)
 have hend:∀ (f:Nat) (listed:Array Bool) (a:Act) (w:World),HeadInv md ops m listed->m∈Region.ready md ops listed->wpAny P md ops (AskLast P ops m Q) f (listed.setIfInBounds m true) a w->wpOp P ops Q m (wpAny P md ops Q f (listed.setIfInBounds m true)) a w:=fun f listed a w inv hmr h=>by
  have hr:=hdone listed inv hmr
  have hq:AskLast P ops m Q .normal a w:=by
   cases f with
   |zero=>exact h.2
   |succ f=>exact h.1 hr
  refine wpOp_mono (fun a' w' h'=>?_) (show wpOp P ops Q m (Q .normal) a w from hq)
  cases f with
  |zero=>exact ⟨hr,h'⟩
  |succ f=>exact ⟨fun _=>h',fun i hi=>by rw [hr] at hi;cases hi⟩
 intro f
 induction f with
 |zero =>
  intro listed a w inv h;have hmr:=hall listed inv h.1;refine ⟨fun h0=>(by rw [h0] at hmr;cases hmr),fun i hi=>?_⟩
  by_cases him:i=m
  ·subst him;exact hend 0 listed a w inv hmr h
  ·have:=ready_mono hi him;rw [h.1] at this;cases this
 |succ f ih =>
  intro listed a w inv h;refine ⟨fun h0=>?_,fun i hi=>?_⟩
  ·have:Region.ready md ops (listed.setIfInBounds m true)=[]:=List.eq_nil_iff_forall_not_mem.2 fun i hi=>by
    have him:i≠m:=fun e=>hself listed inv.size (e ▸ hi);have:=hback listed i him hi;rw [h0] at this;cases this
   have:=hall listed inv this;rw [h0] at this;cases this
  ·by_cases him:i=m
   ·subst him;exact hend (f+1) listed a w inv hi h
   ·have hi2:=ready_mono hi him;(have hlt:i<ops.size:=by obtain ⟨_,o,ho,_⟩:=mem_ready.1 hi;exact (Array.getElem?_eq_some_iff.1 ho).1);refine wpOp_ask (m:=m) (wpOp_mono (fun a' w' h'=>ih _ a' w' (inv.set hi (by omega)) ?_) (h.2 i hi2));rw [Array.setIfInBounds_comm _ _ him];exact h'
theorem wp_region_last {S:World->Prop} {id m:Nat} {a:Act} {w:World} (hf:P.follows .mixedOrders=true) (hm:m+1=ops.size) (hs:Region.sinkB .any ops m=true) (hc:Region.chainB .any ops m=true)
  (hdep:(List.range ops.size).all (fun j=>match ops[j]? with|some oj=>oj.after.all (fun e=>!Region.binds .any e || decide (e.on<j))|none=>true)=true)
  (h:wpAnyH P .any ops (AskLast P ops m Q) S m ((Array.replicate ops.size false).setIfInBounds m true) a { w with drawn:=w.drawn+1 }):(Code.region id ops true).wp P Q a w:=by
 have hd:∀ (j:Nat) (oj:Oper),ops[j]? = some oj->∀ e∈oj.after,Region.binds .any e=true->e.on<j:=fun j oj hj e he hb=>by
  have h1:=List.all_eq_true.1 hdep j (List.mem_range.2 (Array.getElem?_eq_some_iff.1 hj).1);rw [hj] at h1;have h2:=(Array.all_eq_true_iff_forall_mem.1 h1) e he;simp only [hb,Bool.not_true,Bool.false_or,decide_eq_true_eq] at h2;exact h2
 refine wp_region_any hf ?_;rw [←hm];rw [←hm] at h;exact wpAny_last hm hs hc hd m _ a _ ⟨by simp [hm],fun j oj _ hl=>(by rw [getD_replicate_false] at hl;cases hl),fun t _ ht=>getD_in (by simp;omega) (getD_replicate_false _ _)⟩ (wpAny_of_held _ _ _ _ h)
end
end Go.Proofs.YtbceccblepckhaaGreatDoor
namespace Go.Proofs.YtbceccblepckhaaGreatDoor
open Go.RowKit
def SA (S:Nat->Prop) (B:Nat):Nat->Prop:=fun b=>(S b/\b<B)∨B+4<=b
def SB (S:Nat->Prop) (B T:Nat):Nat->Prop:=fun b=>(S b/\b<B)∨(B+4<=b/\b<T)
theorem SB.a {S:Nat->Prop} {B T b:Nat} (h:SB S B T b):SA S B b:=h.imp id (fun h=>h.1)
theorem SB.no {S:Nat->Prop} {B T:Nat} (h:B+3<T):¬ SB S B T T:=fun g=>by rcases g with ⟨_,h1⟩|⟨_,h1⟩ <;> omega
theorem SA.sx {S:Nat->Prop} {B:Nat} {w:World} (h:B+3<w.heap.size):∀ b,Sx (SA S B) w b->SA S B b:=fun b g=>by
 rcases g with g|g
 ·exact g
 ·exact .inr (by omega)
theorem SB.sx {S:Nat->Prop} {B T:Nat} {w:World} (h:B+3<w.heap.size):∀ b,Sx (SB S B T) w b->SA S B b:=fun b g=>by
 rcases g with g|g
 ·exact g.a
 ·exact .inr (by omega)
def SN (S:Nat->Prop) (B T:Nat):Nat->Prop:=fun b=>SA S B b/\b≠T
theorem SN.no {S:Nat->Prop} {B T:Nat}:¬ SN S B T T:=fun g=>g.2 rfl
theorem SBx.n {S:Nat->Prop} {B T:Nat} {w:World} (h:B+3<T) (hw:T<w.heap.size):∀ b,Sx (SB S B T) w b->SN S B T b:=fun b g=>⟨SB.sx (by omega) b g,by
 rintro rfl;rcases g with g|g
 ·exact SB.no h g
 ·omega⟩
theorem cell_set_ne {w:World} {b o T:Nat} (h:b≠T) (i:Nat) (z:Value):(w.setCell ⟨T,i,none⟩ z).cell? ⟨b,o,none⟩=w.cell? ⟨b,o,none⟩:=by
 have h2:=heap_setCell_other w ⟨T,i,none⟩ b z h;simp only [World.cell?,h2]
theorem rd_one {d:Nat} {S:Nat->Prop} {W:World} {g:Nat} {vv vu:Value} {x:Bod} {t:TypeId} (hb:W.heap[g]? = some (.cells #[vv,vu] t (0,0))) (hS:S g) (hx:DBodF d S W x [vv,vu]):RdS (DBodF d) 2 S W (.slice (some ⟨g,0,none⟩) 1 1) [x]:=by
 refine ⟨some ⟨g,0,none⟩,1,rfl,by simp,by unfold maxLen;omega,(fun h=>by cases h),fun i hi=>?_⟩;(have h0:i=0:=by simpa using hi);subst h0;refine ⟨g,0,[vv,vu],rfl,hS,lt_of_block hb,rfl,fun j u hu=>?_,hx⟩
 have hj:j<2:=by
  have:=(List.getElem?_eq_some_iff.1 hu).1;simpa using this
 rcases j with _|_|j
 ·simp at hu;subst hu;exact cell_of_row W g 0 _ _ _ hb
 ·simp at hu;subst hu;exact cell_of_row W g 1 _ _ _ hb
 ·omega
theorem box2_set {w:World} {g:Nat} {x y:Value} {t:TypeId} (h:w.heap[g]? = some (.cells #[x,y] t (0,0))) (u v:Value):((w.setCell ⟨g,0,none⟩ u).setCell ⟨g,1,none⟩ v).heap[g]? = some (.cells #[u,v] t (0,0)) :=
 heap_setCell_same _ g 1 _ t v (heap_setCell_same w g 0 _ t u h)
theorem box4_1 {w:World} {g:Nat} {a b c d:Value} {t:TypeId} (h:w.heap[g]? = some (.cells #[a,b,c,d] t (0,0))) (u:Value):(w.setCell ⟨g,1,none⟩ u).heap[g]? = some (.cells #[a,u,c,d] t (0,0)):=heap_setCell_same w g 1 _ t u h
theorem box4_2 {w:World} {g:Nat} {a b c d:Value} {t:TypeId} (h:w.heap[g]? = some (.cells #[a,b,c,d] t (0,0))) (u:Value):(w.setCell ⟨g,2,none⟩ u).heap[g]? = some (.cells #[a,b,u,d] t (0,0)):=heap_setCell_same w g 2 _ t u h
theorem box4_3 {w:World} {g:Nat} {a b c d:Value} {t:TypeId} (h:w.heap[g]? = some (.cells #[a,b,c,d] t (0,0))) (u:Value):(w.setCell ⟨g,3,none⟩ u).heap[g]? = some (.cells #[a,b,c,u] t (0,0)):=heap_setCell_same w g 3 _ t u h
theorem SBx.no {S:Nat->Prop} {B T:Nat} {w:World} (h:B+3<T) (hw:T<w.heap.size):¬ Sx (SB S B T) w T:=fun g=>by
 rcases g with g|g
 ·exact SB.no h g
 ·omega
theorem box2_other {w:World} {g k:Nat} (hk:k≠g) (u v:Value):((w.setCell ⟨g,0,none⟩ u).setCell ⟨g,1,none⟩ v).heap[k]? = w.heap[k]? :=
 (heap_setCell_other _ _ k v hk).trans (heap_setCell_other w _ k u hk)
theorem right_vals {f:Fil} {k:Nat} {m:Msg} {b:Bod} (h:wrongBF (wrongVF (wrongB f k) f) m b=0) :
  RisingV b.values/\b.values.length<=m.fields.length/\(∀ v∈b.values,∃ F,fldN m.fields v.1=some F/\wrongVF (wrongB f k) f F v=0):=by
 have h1:=(wrongBF_zero h).1;obtain ⟨g1,g2,_,_⟩:=valsN_zero h1;exact ⟨g2,vals_le h1,fun v hv=>by obtain ⟨x,e1,e2,_⟩:=g1 v hv;exact ⟨x,e1,e2⟩⟩
theorem take_snoc_fold {α β:Type} (g:β->α->β) (l:List α) (z:β) {k:Nat} (h:k<l.length):(l.take (k+1)).foldl g z=g ((l.take k).foldl g z) l[k]:=by
 rw [List.take_succ_eq_append_getElem h,List.foldl_append];rfl
theorem bothV_num (jb:Int->Bod->Bod->Bod) (f:Fil) (x:Fld) (o:Option Val) (v:Val):(bothV jb f x o v).1=v.1:=by
 unfold bothV;split
 ·rfl
 ·split
  ·rfl
  ·split <;> rfl
end Go.Proofs.YtbceccblepckhaaGreatDoor
