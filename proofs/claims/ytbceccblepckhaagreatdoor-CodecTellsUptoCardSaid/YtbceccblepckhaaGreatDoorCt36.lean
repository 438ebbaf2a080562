/-
  pressref1.Parse, walked.
-/
import Derived.Test.YtbceccblepckhaaGreatDoorCt30
set_option maxHeartbeats 25600000
set_option linter.unusedVariables false
namespace Go.Proofs.YtbceccblepckhaaGreatDoor
open Go.RowKit Go.Maps
set_option maxRecDepth 100000
open Lib (hid)
def SL (S:Nat->Prop) (B:Nat):Nat->Prop:=fun q=>S q/\q<B
theorem take_eq (l:List UInt8) (at_:Nat) (n m:Nat) (e:Int) (v:Value) (a:Int) (w:World) (h:takeC l at_=(n,m,e)) (ha:a=at_) (hv:RdB All w v l) (hat:at_<=l.length) :
  Calls Tryz.prog 107 #[v,.int .i64 a] w fun e' w'=>e'=.returned (.tuple #[.int .u64 (n:Int),.int .i64 (m:Int),.int .i64 e])/\w'=w:=by
 subst ha;have:=take_r v l at_ w hv hat;rw [h] at this;exact this
theorem high_eq (v:Value) (l:List UInt8) (k n:Nat) (w:World) (h:numB k l=(n,0)) (hv:RdB All w v (l.take k)) (hk:k<=8) :
  Calls Tryz.prog 108 #[v] w fun e w'=>e=.returned (.int .u64 (n:Int))/\w'=w:=by
 have:=high_r v (l.take k) w hv (by rw [List.length_take];omega);unfold numB at h;split at h
 ·simp at h
 ·simp only [Prod.mk.injEq,and_true] at h;rw [h] at this;exact this
theorem parse_r {S:Nat->Prop} (v:Value) (l:List UInt8) (w:World) (hv:RdB S w v l) :
  Calls Tryz.prog 48 #[v] w fun e w'=>∃ v',e=.returned (.tuple #[v',.agg #[.int .i64 (parse l).2.1,.int .i64 ((parse l).2.2:Int)]])/\OwnS DRec (w.heap.size+1) 87 4 (SL S w.heap.size) w' v' (parse l).1/\Up w w':=by
 obtain ⟨ao,cap,rfl,hc1,hc2⟩:=hv.val;have Hv:=hid (show RdB (SL S w.heap.size) w (.slice ao l.length cap) l from hv.keep stable_u8 (fun q hq hb=>⟨rfl,hq,hb⟩));clear hv;obtain ⟨RES,hRES⟩:∃ RES,parse l=RES:=⟨_,rfl⟩;rw [hRES];have HR:=hid hRES;have hmm:=@run_makeMap Tryz.prog
 by_cases h4:4000<l.length
 ·(have e4:RES=([],4,0):=by rw [←hRES];unfold parse;rw [if_pos h4]);subst e4;clear hRES HR
  go_enter Tryz.func48,Tryz.ntmps48
  (go_wp2_with fail);refine bodyPost_ret (v:=.tuple #[.slice none 0 0,.agg #[.int .i64 4,.int .i64 0]]) (by simp [results,Tryz.results48,go_sem]) rfl ?_;exact ⟨_,rfl,OwnS.nil _ _ _ _ _ _,Up.alloc (Up.refl w) _⟩
 (have h0c:parseC 0 [] (parseG (l.length+1) (l.drop 0))=parse l:=by rw [List.drop_zero,parseC_start];unfold parse;rw [if_neg h4]);have H0c:=hid h0c;clear h0c hRES
 go_enter Tryz.func48,Tryz.ntmps48
 go_wp2_with fail
 go_loopw [4,5] (fun o p wr=>∃ (k f g:Nat) (out:List Rec),k<=l.length/\l.length - k<f/\p=.pointer (some ⟨g,0,none⟩)/\w.heap.size<g/\wr.heap[g]? = some (.cells #[.int .i64 k] 3 (0,0))/\out.length<=k/\parseC k out (parseG f (l.drop k))=parse l/\OwnS DRec (w.heap.size+1) 87 4 (SL S w.heap.size) wr o out/\o.ownBlock≠some g/\Up w wr /\
   wr.heap[w.heap.size]? = some (.cells #[.int .i64 0,.int .i64 0] 60 (0,0)))
  (fun _ p wr=>l.length - (cellI wr p).toNat)
 case atStart=>exact ⟨0,l.length+1,w.heap.size+1,[],by omega,by omega,by simp,by omega,blk_new (w.alloc _) _ (by simp),by simp,H0c.out,OwnS.nil _ _ _ _ _ _,by simp [Value.ownBlock],((Up.refl w).alloc _).alloc _,blk_old _ (blk_new w _ rfl)⟩
 case round =>
  obtain ⟨k,f,g,out,hk,hf,rfl,hg0,hg,hok,hp,how,hng,hu,hbx⟩:=hrel;have hgc:=ro0 hg;have hgz:g<wr.heap.size:=lt_of_block hg;have Hgc:=hid hgc;have How:=hid how;have Hu:=hid hu;have Hbx:=hid hbx;have Hp:=hid hp;have Hg:=hid hg;have Hng:=hid hng;have Hf:=hid hf;have Hok:=hid hok;have Hg0:=hid hg0;have Hgz:=hid hgz;have HvA:=hid (fun W (u:Up wr W)=>(Hv.out.up stable_u8 (Hu.out.trans u)).keep stable_u8 (Keep.all (S:=SL S w.heap.size)));clear how hu hbx hp hg hng hf hok
  by_cases hlt:k<l.length
  ·have Hlt:=hid hlt;have Hbad:=hid (fun (ex:Int) (W:World) (u:Up wr W)=>(pbad_r ex k g W (u.cell_some Hgc.out)).mono (R':=fun e w'=>e=.returned (.tuple #[.slice none 0 0,.agg #[.int .i64 ex,.int .i64 k]])/\Up W w'/\w'.cell? ⟨w.heap.size,0,none⟩=some (.int .i64 0)/\w'.cell? ⟨w.heap.size,1,none⟩=some (.int .i64 0)/\(∀ o,w'.frozen? ⟨w.heap.size,o,none⟩=false)/\w.heap.size<w'.heap.size) (fun e w' h=>⟨h.1,h.2,cell_of_row w' _ 0 _ _ _ ((u.trans h.2).blk Hbx.out),cell_of_row w' _ 1 _ _ _ ((u.trans h.2).blk Hbx.out),(fun o=>frozen_of_row w' _ o _ _ ((u.trans h.2).blk Hbx.out)),lt_of_block ((u.trans h.2).blk Hbx.out)⟩))
   have Hend:=hid (fun (W W2:World) (x:Int) (u:Up wr W) (u2:Up W W2) (h1:(oneP (l.drop k)).1=x) (h0:x≠0)=>show ∃ v',Ending.returned (.tuple #[.slice none 0 0,.agg #[.int .i64 x,.int .i64 (k:Int)]])=.returned (.tuple #[v',.agg #[.int .i64 RES.2.1,.int .i64 (RES.2.2:Int)]])/\OwnS DRec (w.heap.size+1) 87 4 (SL S w.heap.size) ((W2.setCell ⟨w.heap.size,0,none⟩ (.int .i64 x)).setCell ⟨w.heap.size,1,none⟩ (.int .i64 k)) v' RES.1/\Up w ((W2.setCell ⟨w.heap.size,0,none⟩ (.int .i64 x)).setCell ⟨w.heap.size,1,none⟩ (.int .i64 k)) from by
    have e:=parse_bad hlt Hf.out Hp.out h1 h0;rw [HR.out] at e;rw [e];exact ⟨_,rfl,OwnS.nil _ _ _ _ _ _,Up.setCell (Up.setCell (Hu.out.trans (u.trans u2)) (p:=⟨w.heap.size,0,none⟩) (Nat.le_refl _) _) (p:=⟨w.heap.size,1,none⟩) (Nat.le_refl _) _⟩)
   obtain ⟨tg,m,e1,hgt⟩:∃ tg m e1,get (l.drop k)=(tg,m,e1):=⟨_,_,_,rfl⟩
   by_cases he:e1=0
   ·subst he;obtain ⟨k1,k2,k3,k4⟩:=get_ok (l:=l.drop k) (by rw [hgt]);rw [hgt] at k1 k2 k3 k4;rw [List.length_drop] at k2;simp only at k1 k2 k3 k4;(have htk:takeC l k=(tg,k+m,0):=by unfold takeC;rw [hgt];rfl);have Ht:=hid (take_eq l k _ _ _ _ _ wr htk rfl (HvA.out wr (Up.refl wr)) hk);have hr1:=@oneP_range _ _ _ hgt;have hone:=@oneP_how _ _ _ hgt;rw [List.drop_drop] at hone;clear htk;obtain ⟨nn,enn⟩:∃ nn,tg / 8=nn:=⟨_,rfl⟩;obtain ⟨hh,ehh⟩:∃ hh,tg % 8=hh:=⟨_,rfl⟩;(have en:(tg:Int) / 8=(nn:Int):=by omega);(have e8:(tg:Int) % 8=(hh:Int):=by omega);(have hh8:hh<8:=by omega);(have hnn:(nn:Int)<18446744073709551616:=by omega);rw [enn] at hr1 hone;rw [ehh] at hone;have K4:=hid k4;have K1:=hid k1;have K2:=hid k2;have K3:=hid k3;have Eh:=hid ehh;have En:=hid enn;clear k4 ehh enn hgt
    by_cases hz:nn=0
    ·
     have Ho:=hid (hr1 (.inl hz));subst hz;clear hr1 hone hmm
     go_wp2_with (first
      |(go_at_call 107;go_must (refine Ht.out.mono ?_;rintro e w1 ⟨rfl,hw1⟩;subst w1))
      |(go_at_call 106;go_must (refine (Hbad.out 3 _ (Up.refl _)).mono ?_;rintro e w2 ⟨rfl,hu2,p0,p1,g0,hz2⟩)))
     refine bodyPost_ret (v:=.tuple #[.slice none 0 0,.agg #[.int .i64 3,.int .i64 k]]) (by simp [results,Tryz.results48,go_sem,p0,p1]) rfl ?_;exact Hend.out _ _ 3 (Up.refl _) hu2 Ho.out (by decide)
    by_cases hbg:536870911<nn
    ·
     have Ho:=hid (hr1 (.inr hbg));(have hz0:((nn:Int)==0)=false:=by rw [beq_eq_false_iff_ne];omega);(have hz1:536870911<(nn:Int):=by omega);clear hr1 hone hmm hz hbg
     go_wp2_with (first
      |(go_at_call 107;go_must (refine Ht.out.mono ?_;rintro e w1 ⟨rfl,hw1⟩;subst w1))
      |(go_at_call 106;go_must (refine (Hbad.out 3 _ (Up.refl _)).mono ?_;rintro e w2 ⟨rfl,hu2,p0,p1,g0,hz2⟩)))
     refine bodyPost_ret (v:=.tuple #[.slice none 0 0,.agg #[.int .i64 3,.int .i64 k]]) (by simp [results,Tryz.results48,go_sem,p0,p1]) rfl ?_;exact Hend.out _ _ 3 (Up.refl _) hu2 Ho.out (by decide)
    have Hone:=hid (hone hz hbg);(have hz0:((nn:Int)==0)=false:=by rw [beq_eq_false_iff_ne];omega);have hz1:decide (536870911<(nn:Int))=false:=decide_eq_false (by omega);(have hz2:(nn:Int)<1000000000:=by omega);clear hr1 hone hz hbg
    have hwf:(Lit.int .i64 (hh:Int)).wf=true:=by
     rcases (by omega:hh=0∨hh=1∨hh=2∨hh=3∨hh=4∨hh=5∨hh=6∨hh=7) with rfl|rfl|rfl|rfl|rfl|rfl|rfl|rfl <;> rfl
    have hown0:=World.ownsMap_made (wr.alloc (.cells #[.int .i64 nn,.int .i64 hh,.int .u64 0,.slice none 0 0] 87)) Tryz.prog 3 (plainElem (H:=Unit) Tryz.prog 3);have hu0:Up (wr.alloc (.cells #[.int .i64 nn,.int .i64 hh,.int .u64 0,.slice none 0 0] 87)) ((wr.alloc (.cells #[.int .i64 nn,.int .i64 hh,.int .u64 0,.slice none 0 0] 87)).alloc (.map #[] 0)):=(Up.refl _).alloc _;have hbX:=blk_new wr (.cells #[.int .i64 nn,.int .i64 hh,.int .u64 0,.slice none 0 0] 87) rfl;have huX:=(Up.refl wr).alloc (.cells #[.int .i64 nn,.int .i64 hh,.int .u64 0,.slice none 0 0] 87);(have hsz:(wr.alloc (.cells #[.int .i64 nn,.int .i64 hh,.int .u64 0,.slice none 0 0] 87)).heap.size=wr.heap.size+1:=by simp);rw [hsz] at hown0;have Hown:=hid hown0;have Hux:=hid hu0;have HbX:=hid hbX;have HuX:=hid huX;have Hsz:=hid hsz;have Hwf:=hid hwf;have Hc1:=hid hgc;clear hown0 hu0 hbX huX hsz hwf hgz hg0
    go_upto_block 2 with (first
     |(go_at_call 107;go_must (refine Ht.out.mono ?_;rintro e w1 ⟨rfl,hw1⟩;subst w1))
     |(refine step_insert _ rfl _ _ _ 45 rfl 3 3 law_int Tryz.underlying45 (plainElem (H:=Unit) Tryz.prog 3) (wr.heap.size+1) _ _ rfl (by with_reducible exact Hown.out) (by unfold maxLen;omega) _ _ _ rfl rfl (keyOf_int_mk Tryz.underlying3 (by decide)) _ [] (plainElem_int Tryz.underlying3 (by decide)) ?_;intro w1 hown1 hgrow1;have hx1:Up (wr.alloc (.cells #[.int .i64 nn,.int .i64 hh,.int .u64 0,.slice none 0 0] 87)) w1:=Up.grown (by with_reducible exact Hux.out) hgrow1 (fun j hj=>by cases hj;rw [Hsz.out];exact Nat.le_refl _);have hc1:=ro1 (hx1.blk HbX.out);clear hgrow1;replace Hown:=hid hown1;replace Hux:=hid hx1;clear hown1 hx1)
     |(refine wpList_lookup_own_int _ rfl _ _ 45 rfl 3 3 .i64 law_int Tryz.underlying45 Tryz.underlying3 (zero_int _) (wr.heap.size+1) _ _ rfl (by with_reducible exact Hown.out) _ _ rfl (keyOf_int_mk Tryz.underlying3 Hwf.out) ?_;intro c hat hwc))
    rw [sizeM_eq] at hat;have hcs:=sizeM_at hh c hat;subst hcs;have hu2:Up wr w1:=HuX.out.trans Hux.out;have hbX2:=Hux.out.blk HbX.out;clear Hown Hux HbX HuX Hsz hat hwc hmm;have Hu2:=hid hu2;have HbX:=hid hbX2;clear hbX2 hu2;generalize hX:wr.heap.size=X at *
    go_cut [8] (fun p wc=>∃ (n:Nat) (r:Rec) (a3:Option Addr) (c3:Nat),oneP (l.drop k)=(0,r,n)/\p=.int .i64 ((k+n:Nat):Int)/\wc.heap[X]? = some (.cells #[.int .i64 r.number,.int .i64 r.how,.int .u64 (r.bits:Int),.slice a3 r.bytes.length c3] 87 (0,0))/\RdB (SL S w.heap.size) w (.slice a3 r.bytes.length c3) r.bytes/\Up wr wc)
    case first =>
     have hcX:=ro2 HbX.out;have hcX3:=ro3 HbX.out;have fX:=roz HbX.out;have zX:X<w1.heap.size:=lt_of_block HbX.out;have Hx:=hid (show wr.heap.size=X from hX);(have hgt0:(get (l.drop (k+m))).2.2≠0->takeC l (k+m)=(0,0,(get (l.drop (k+m))).2.2):=fun h=>by unfold takeC;rw [if_neg h]);(have hgt1:(get (l.drop (k+m))).2.2=0->takeC l (k+m)=((get (l.drop (k+m))).1,k+m+(get (l.drop (k+m))).2.1,0):=fun h=>by unfold takeC;rw [if_pos h]);have hgok:=@get_ok (l.drop (k+m));rw [List.length_drop] at hgok;have hone:=Hone.out;have Hkm:=hid (show k+m<=l.length by have:=K2.out;have:=Hlt.out;omega);rw [List.length_drop] at hone;obtain ⟨x,m2,e2,hg2⟩:∃ x m2 e2,get (l.drop (k+m))=(x,m2,e2):=⟨_,_,_,rfl⟩;rw [hg2] at hgt0 hgt1 hgok hone;simp only at hgt0 hgt1 hgok hone;clear hX Hone hg2
     by_cases h0:hh=0
     ·
      subst h0;rw [if_pos rfl] at hone
      by_cases he2:e2=0
      ·subst he2;rw [if_neg (by decide)] at hone;have Hone2:=hid hone;have Hok2:=hid (hgok rfl);have Ht2:=hid (fun (a:Int) (ha:a=((k+m:Nat):Int))=>take_eq l (k+m) _ _ _ (.slice ao l.length cap) a w1 (hgt1 rfl) ha (HvA.out w1 Hu2.out) Hkm.out);clear hone hgok hgt0 hgt1;go_wp2_with (go_at_call 107;go_must (refine (Ht2.out _ (by omega)).mono ?_;rintro e w3 ⟨rfl,hw3⟩;subst w3))
       go_meet
       exact ⟨m+m2,_,none,0,Hone2.out,by go_num,heap_setCell_same w1 X 2 _ _ _ HbX.out,rdB_nil _ _,Up.setCell Hu2.out (Nat.le_of_eq Hx.out) _⟩
      ·rw [if_pos he2] at hone;have Hone2:=hid (show (oneP (l.drop k)).1=e2 by rw [hone]);have Ht2:=hid (fun (a:Int) (ha:a=((k+m:Nat):Int))=>take_eq l (k+m) _ _ _ (.slice ao l.length cap) a w1 (hgt0 he2) ha (HvA.out w1 Hu2.out) Hkm.out);(have he2b:(e2 != 0)=true:=by rw [bne_iff_ne];exact he2);clear hone hgok hgt0 hgt1
       go_wp2_with (first
        |(go_at_call 107;go_must (refine (Ht2.out _ (by omega)).mono ?_;rintro e w3 ⟨rfl,hw3⟩;subst w3))
        |(go_at_call 106;go_must (refine (Hbad.out e2 _ (Up.setCell Hu2.out (Nat.le_of_eq Hx.out) _)).mono ?_;rintro e w4 ⟨rfl,hu4,p0,p1,g0,hz4⟩)))
       refine bodyPost_ret (v:=.tuple #[.slice none 0 0,.agg #[.int .i64 e2,.int .i64 k]]) (by simp [results,Tryz.results48,go_sem,p0,p1]) rfl ?_;exact Hend.out _ _ e2 (Up.setCell Hu2.out (Nat.le_of_eq Hx.out) _) hu4 Hone2.out he2
     by_cases h1:hh=1
     ·
      subst h1;rw [if_neg (by decide),if_pos rfl] at hone;have hs8:sizeC ((1:Nat):Int)=8:=rfl;rw [hs8];clear hgok hgt0 hgt1
      by_cases hs:l.length<k+m+8
      ·(have hnb:numB 8 (l.drop (k+m))=(0,2):=by unfold numB;rw [if_pos (by rw [List.length_drop];omega)]);rw [hnb,if_pos (by decide)] at hone;have Hone2:=hid (show (oneP (l.drop k)).1=2 by rw [hone]);(have hs2:(l.length:Int)<(k:Int)+m+8:=by omega);clear hone hnb
       go_wp2_with (first
        |(go_at_call 106;go_must (refine (Hbad.out 2 _ Hu2.out).mono ?_;rintro e w4 ⟨rfl,hu4,p0,p1,g0,hz4⟩)))
       refine bodyPost_ret (v:=.tuple #[.slice none 0 0,.agg #[.int .i64 2,.int .i64 k]]) (by simp [results,Tryz.results48,go_sem,p0,p1]) rfl ?_;exact Hend.out _ _ 2 Hu2.out hu4 Hone2.out (by decide)
      ·obtain ⟨y,hnb⟩:∃ y,numB 8 (l.drop (k+m))=(y,0):=⟨lowVal ((l.drop (k+m)).take 8),by unfold numB;rw [if_neg (by rw [List.length_drop];omega)]⟩;rw [hnb,if_neg (by simp)] at hone;(have hs2:¬ (l.length:Int)<(k:Int)+m+8:=by omega);have Hhi:=hid (fun v W (hv:RdB All W v ((l.drop (k+m)).take 8))=>high_eq v (l.drop (k+m)) 8 y W hnb hv (by omega));have Hone2:=hid hone;have Hrd:=hid (HvA.out w1 Hu2.out);clear hone hnb;go_wp2_with (go_at_call 108;go_must (refine (Hhi.out _ _ (RdB.take (RdB.drop Hrd.out (k+m) Hkm.out (fun h=>by first|rfl|(rw [if_neg h])) (by first|rfl|omega) (by first|rfl|omega)) 8 (by omega))).mono ?_;rintro e w3 ⟨rfl,hw3⟩;subst w3))
       all_goals
        go_meet
        exact ⟨m+8,_,none,0,Hone2.out,by go_num,heap_setCell_same w1 X 2 _ _ _ HbX.out,rdB_nil _ _,Up.setCell Hu2.out (Nat.le_of_eq Hx.out) _⟩
     by_cases h5:hh=5
     ·
      subst h5;rw [if_neg (by decide),if_neg (by decide),if_pos rfl] at hone;have hs8:sizeC ((5:Nat):Int)=4:=rfl;rw [hs8];clear hgok hgt0 hgt1
      by_cases hs:l.length<k+m+4
      ·(have hnb:numB 4 (l.drop (k+m))=(0,2):=by unfold numB;rw [if_pos (by rw [List.length_drop];omega)]);rw [hnb,if_pos (by decide)] at hone;have Hone2:=hid (show (oneP (l.drop k)).1=2 by rw [hone]);(have hs2:(l.length:Int)<(k:Int)+m+4:=by omega);clear hone hnb
       go_wp2_with (first
        |(go_at_call 106;go_must (refine (Hbad.out 2 _ Hu2.out).mono ?_;rintro e w4 ⟨rfl,hu4,p0,p1,g0,hz4⟩)))
       refine bodyPost_ret (v:=.tuple #[.slice none 0 0,.agg #[.int .i64 2,.int .i64 k]]) (by simp [results,Tryz.results48,go_sem,p0,p1]) rfl ?_;exact Hend.out _ _ 2 Hu2.out hu4 Hone2.out (by decide)
      ·obtain ⟨y,hnb⟩:∃ y,numB 4 (l.drop (k+m))=(y,0):=⟨lowVal ((l.drop (k+m)).take 4),by unfold numB;rw [if_neg (by rw [List.length_drop];omega)]⟩;rw [hnb,if_neg (by simp)] at hone;(have hs2:¬ (l.length:Int)<(k:Int)+m+4:=by omega);have Hhi:=hid (fun v W (hv:RdB All W v ((l.drop (k+m)).take 4))=>high_eq v (l.drop (k+m)) 4 y W hnb hv (by omega));have Hone2:=hid hone;have Hrd:=hid (HvA.out w1 Hu2.out);clear hone hnb;go_wp2_with (go_at_call 108;go_must (refine (Hhi.out _ _ (RdB.take (RdB.drop Hrd.out (k+m) Hkm.out (fun h=>by first|rfl|(rw [if_neg h])) (by first|rfl|omega) (by first|rfl|omega)) 4 (by omega))).mono ?_;rintro e w3 ⟨rfl,hw3⟩;subst w3))
       all_goals
        go_meet
        exact ⟨m+4,_,none,0,Hone2.out,by go_num,heap_setCell_same w1 X 2 _ _ _ HbX.out,rdB_nil _ _,Up.setCell Hu2.out (Nat.le_of_eq Hx.out) _⟩
     by_cases h2:hh=2
     ·
      subst h2;rw [if_neg (by decide),if_neg (by decide),if_neg (by decide),if_pos rfl] at hone
      by_cases he2:e2=0
      ·subst he2;rw [if_neg (by decide)] at hone;have hok2:=hgok rfl;have Ht2:=hid (fun (a:Int) (ha:a=((k+m:Nat):Int))=>take_eq l (k+m) _ _ _ (.slice ao l.length cap) a w1 (hgt1 rfl) ha (HvA.out w1 Hu2.out) Hkm.out)
       by_cases hfit:l.length - (k+m) - m2<x
       ·rw [if_pos hfit] at hone;have Hone2:=hid (show (oneP (l.drop k)).1=2 by rw [hone]);(have hk4:¬ 4000<x->¬ (k:Int)+m+m2+x<=l.length:=fun _=>by have:=Hkm.out;omega);clear hone hgok hgt0 hgt1
        by_cases hx4:4000<x
        ·have hx4':decide (4000<(x:Int))=true:=decide_eq_true (by omega);clear hk4
         go_wp2_with (first
          |(go_at_call 107;go_must (refine (Ht2.out _ (by omega)).mono ?_;rintro e w3 ⟨rfl,hw3⟩;subst w3))
          |(go_at_call 106;go_must (refine (Hbad.out 2 _ Hu2.out).mono ?_;rintro e w4 ⟨rfl,hu4,p0,p1,g0,hz4⟩)))
         refine bodyPost_ret (v:=.tuple #[.slice none 0 0,.agg #[.int .i64 2,.int .i64 k]]) (by simp [results,Tryz.results48,go_sem,p0,p1]) rfl ?_;exact Hend.out _ _ 2 Hu2.out hu4 Hone2.out (by decide)
        ·have hx4':decide (4000<(x:Int))=false:=decide_eq_false (by omega);have hx5:decide ((l.length:Int)<(k:Int)+m+m2+x)=true:=decide_eq_true (by have:=hk4 hx4;omega);(have hx7:(k:Int)+m+m2<=4000:=by have:=Hkm.out;omega);(have hx6:(x:Int)<=4000:=by omega);clear hk4
         go_wp2_with (first
          |(go_at_call 107;go_must (refine (Ht2.out _ (by omega)).mono ?_;rintro e w3 ⟨rfl,hw3⟩;subst w3))
          |(go_at_call 106;go_must (refine (Hbad.out 2 _ Hu2.out).mono ?_;rintro e w4 ⟨rfl,hu4,p0,p1,g0,hz4⟩)))
         refine bodyPost_ret (v:=.tuple #[.slice none 0 0,.agg #[.int .i64 2,.int .i64 k]]) (by simp [results,Tryz.results48,go_sem,p0,p1]) rfl ?_;exact Hend.out _ _ 2 Hu2.out hu4 Hone2.out (by decide)
       ·rw [if_neg hfit] at hone;have Hone2:=hid hone;have hx4':decide (4000<(x:Int))=false:=decide_eq_false (by omega);have hx5:decide ((l.length:Int)<(k:Int)+m+m2+x)=false:=decide_eq_false (by have:=Hkm.out;omega);(have hx7:(k:Int)+m+m2<=4000:=by have:=Hkm.out;omega);(have hx8:(k:Int)+m+m2+x<=l.length:=by have:=Hkm.out;omega);(have hx6:(x:Int)<=4000:=by omega);have Hm2:=hid (show k+m+m2+x<=l.length by have:=Hkm.out;omega);clear hone hgok hgt0 hgt1 hfit;obtain ⟨a2,c2,hsl,hsr⟩:=slice_rd Hv.out (k+m+m2) x ((k:Int)+m+m2) ((k:Int)+m+m2+x) Hm2.out (by omega) (by omega);have Hsr:=hid hsr;have Hlen:=hid (show ((l.drop (k+m+m2)).take x).length=x by rw [List.length_take,List.length_drop];have:=Hm2.out;omega);clear hsr;go_wp2_with (go_at_call 107;go_must (refine (Ht2.out _ (by omega)).mono ?_;rintro e w3 ⟨rfl,hw3⟩;subst w3))
        go_meet
        refine ⟨m+m2+x,_,a2,c2,Hone2.out,by go_num,?_,?_,Up.setCell Hu2.out (Nat.le_of_eq Hx.out) _⟩
        ·have:=heap_setCell_same w1 X 3 _ _ (.slice a2 x c2) HbX.out;rw [List.drop_drop,Hlen.out];exact this
        ·rw [List.drop_drop,Hlen.out];exact Hsr.out
      ·rw [if_pos he2] at hone;have Hone2:=hid (show (oneP (l.drop k)).1=e2 by rw [hone]);have Ht2:=hid (fun (a:Int) (ha:a=((k+m:Nat):Int))=>take_eq l (k+m) _ _ _ (.slice ao l.length cap) a w1 (hgt0 he2) ha (HvA.out w1 Hu2.out) Hkm.out);(have he2b:(e2 != 0)=true:=by rw [bne_iff_ne];exact he2);clear hone hgok hgt0 hgt1
       go_wp2_with (first
        |(go_at_call 107;go_must (refine (Ht2.out _ (by omega)).mono ?_;rintro e w3 ⟨rfl,hw3⟩;subst w3))
        |(go_at_call 106;go_must (refine (Hbad.out e2 _ Hu2.out).mono ?_;rintro e w4 ⟨rfl,hu4,p0,p1,g0,hz4⟩)))
       refine bodyPost_ret (v:=.tuple #[.slice none 0 0,.agg #[.int .i64 e2,.int .i64 k]]) (by simp [results,Tryz.results48,go_sem,p0,p1]) rfl ?_;exact Hend.out _ _ e2 Hu2.out hu4 Hone2.out he2
     ·
      rw [if_neg h0,if_neg h1,if_neg h5,if_neg h2] at hone;have Hone2:=hid (show (oneP (l.drop k)).1=1 by rw [hone]);(have b0:((hh:Int)==0)=false:=by rw [beq_eq_false_iff_ne];omega);(have b1:((hh:Int)==1)=false:=by rw [beq_eq_false_iff_ne];omega);(have b5:((hh:Int)==5)=false:=by rw [beq_eq_false_iff_ne];omega);(have b2:((hh:Int)==2)=false:=by rw [beq_eq_false_iff_ne];omega);clear hone hgok hgt0 hgt1 h0 h1 h5 h2
      go_wp2_with (first
       |(go_at_call 106;go_must (refine (Hbad.out 1 _ Hu2.out).mono ?_;rintro e w4 ⟨rfl,hu4,p0,p1,g0,hz4⟩)))
      refine bodyPost_ret (v:=.tuple #[.slice none 0 0,.agg #[.int .i64 1,.int .i64 k]]) (by simp [results,Tryz.results48,go_sem,p0,p1]) rfl ?_;exact Hend.out _ _ 1 Hu2.out hu4 Hone2.out (by decide)
    case rest =>
     obtain ⟨n,r,a3,c3,hone,rfl,hbx2,hrb,huc⟩:=hcut;obtain ⟨n1,n2,n64,f',hf',hp'⟩:=parse_next Hlt.out Hf.out Hp.out hone;have x0:=cell_of_row wc X 0 _ _ _ hbx2;have x1:=cell_of_row wc X 1 _ _ _ hbx2;have x2:=cell_of_row wc X 2 _ _ _ hbx2;have x3:=cell_of_row wc X 3 _ _ _ hbx2;have Hhow:=hid (How.out.up stable_rec huc);obtain ⟨xs,hxs⟩:=Hhow.out.own;have Hxs:=hid hxs;have Huc:=hid huc;have Hrb:=hid hrb;have Hn64:=hid n64;have Hf':=hid hf';have Hp':=hid hp';have N1:=hid n1;have N2:=hid n2;have hol:=Hok.out;(have hwz:w.heap.size+1<=wc.heap.size:=by have:=huc.size;have:=Hg0.out;have:=Hgz.out;omega);have Hcl:=hid (show cellI wr (.pointer (some ⟨g,0,none⟩))=k by unfold cellI;simp only;rw [Hgc.out];rfl);clear hxs huc hrb n64 hf' hp' n1 n2 hone hbx2 Hbad Hend Hone Ht HbX Hu2;go_wp2_with (at_builtin;go_must (refine wpList_app1 eRec _ (by rfl) _ _ (by rfl) (w.heap.size+1) _ _ _ (by rfl) Hxs.out _ (by rfl) (by first|rfl|simp) (by rfl) (oc (by rfl)) (by omega) (by unfold maxLen;omega) (by omega) ?_;intro v5 w5 how5 hev5;have hbg5:=hev5.blk (Huc.out.blk Hg.out) Hng.out;have g5:=ro0 hbg5;have f5:∀ o,w5.frozen? ⟨g,o,none⟩=false:=(fun o=>frozen_of_row w5 _ o _ _ hbg5);have z5:g<w5.heap.size:=lt_of_block hbg5;have Hhow5:=hid how5;have Hev5:=hid hev5;have Hbg5:=hid hbg5;clear how5 hev5 hbg5))
     go_roundw
     case rel =>
      have hev:=Hev5.out;have hlt4:=fun j (hj:u4.ownBlock=some j)=>Hxs.out.lt j hj;have hkeep:RdB (Av2 (SL S w.heap.size) u4) wc (.slice a3 r.bytes.length c3) r.bytes:=(Hrb.out.up stable_u8 (Hu.out.trans Huc.out)).keep stable_u8 (Keep.weak (fun q hq=>⟨hq,fun e=>by have:=(hlt4 q e).1;have:=hq.2;omega⟩));have hsn:=OwnS.snoc stable_rec Hhow.out Hxs.out Hhow5.out hev rfl ⟨_,rfl,hkeep,Hn64.out⟩
      have hvg:v5.ownBlock≠some g:=fun e=>by
       rcases hev.place g e with h|h
       ·exact Hng.out h
       ·have:=Huc.out.size;have:=Hgz.out;omega
      have hu5:=(Hu.out.trans Huc.out).evo hev (fun j hj=>by have:=(hlt4 j hj).1;omega);have hbx5:=hev.blk (Huc.out.blk Hbx.out) (fun e=>by have:=(hlt4 _ e).1;omega);refine ⟨k+n,f',w5.heap.size,out++[r],N2.out,Hf'.out,by simp,by have:=Hg0.out;omega,?_,by simp;have:=N1.out;omega,Hp'.out,?_,?_,?_,?_⟩
      ·have:=blk_new (w5.setCell ⟨g,0,none⟩ (.int .i64 ((k+n:Nat):Int))) (.cells #[.int .i64 ((k+n:Nat):Int)] 3) rfl;simpa using this
      ·exact (OwnS.setCell stable_rec hsn (p:=⟨g,0,none⟩) hvg (fun h=>by have:=h.2;have:=Hg0.out;simp at *;omega) _).up stable_rec ((Up.refl _).alloc _)
      ·intro e;have:=(Hhow5.out.lt _ e).2;omega
      ·exact (Up.setCell hu5 (p:=⟨g,0,none⟩) (Nat.le_of_lt Hg0.out) _).alloc _
      ·refine blk_old _ ?_;rw [heap_setCell_other _ ⟨g,0,none⟩ _ _ (by have:=Hg0.out;simp;omega)];exact hbx5
     case measure =>
      rw [Hcl.out];have hb:=blk_new (w5.setCell ⟨g,0,none⟩ (.int .i64 ((k:Int)+n))) (.cells #[.int .i64 ((k:Int)+n)] 3) (g:=w5.heap.size) (by simp)
      have e2:cellI ((w5.setCell ⟨g,0,none⟩ (.int .i64 ((k:Int)+n))).alloc (.cells #[.int .i64 ((k:Int)+n)] 3)) (.pointer (some ⟨w5.heap.size,0,none⟩))=(k:Int)+n:=by
       unfold cellI;simp only;rw [cell_of_row _ _ 0 _ _ _ hb];rfl
      rw [e2];have:=N1.out;have:=N2.out;omega
   ·
    (have htk:takeC l k=(0,0,e1):=by unfold takeC;rw [hgt];simp only;rw [if_neg he]);have Ht:=hid (take_eq l k _ _ _ _ _ wr htk rfl (HvA.out wr (Up.refl wr)) hk);(have heb:(e1 != 0)=true:=by rw [bne_iff_ne];exact he);have Ho:=hid (oneP_tag hgt he);clear htk hgt hmm
    go_wp2_with (first
     |(go_at_call 107;go_must (refine Ht.out.mono ?_;rintro e w1 ⟨rfl,hw1⟩;subst w1))
     |(go_at_call 106;go_must (refine (Hbad.out e1 _ (Up.refl _)).mono ?_;rintro e w2 ⟨rfl,hu2,p0,p1,g0,hz2⟩)))
    refine bodyPost_ret (v:=.tuple #[.slice none 0 0,.agg #[.int .i64 e1,.int .i64 k]]) (by simp [results,Tryz.results48,go_sem,p0,p1]) rfl ?_;exact Hend.out _ _ e1 (Up.refl _) hu2 Ho.out he
  ·
   have q0:=ro0 Hbx.out;have q1:=ro1 Hbx.out;have f0:∀ o,wr.frozen? ⟨w.heap.size,o,none⟩=false:=fun o=>frozen_of_row wr _ o _ _ Hbx.out;have hwz:w.heap.size<wr.heap.size:=lt_of_block Hbx.out;have hp:=Hp.out;obtain ⟨f',rfl⟩:∃ f',f=f'+1:=⟨f - 1,by have:=Hf.out;omega⟩;rw [List.drop_eq_nil_of_le (by omega),parseG,if_pos rfl,HR.out] at hp;(have hp':RES=(out,0,0):=by rw [←hp];simp [parseC]);clear hp;have HP:=hid hp';clear hp' hmm;(go_wp2_with fail);refine bodyPost_ret (v:=.tuple #[u4,.agg #[.int .i64 0,.int .i64 0]]) (by simp [results,Tryz.results48,go_sem,q0,q1]) rfl ?_;rw [HP.out]
   have hlo:u4.ownBlock≠some w.heap.size:=fun e=>by
    obtain ⟨xs,h⟩:=How.out.own;have:=(h.lt _ e).1;omega
   refine ⟨_,rfl,?_,?_⟩
   ·with_reducible refine OwnS.setCell stable_rec ?_ ?_ ?_ _
    ·with_reducible refine OwnS.setCell stable_rec How.out ?_ ?_ _
     ·exact hlo
     ·exact fun h=>absurd h.2 (Nat.lt_irrefl _)
    ·exact hlo
    ·exact fun h=>absurd h.2 (Nat.lt_irrefl _)
   ·repeat (with_reducible refine Up.setCell ?_ ?_ _)
    ·exact Hu.out
    all_goals simp
end Go.Proofs.YtbceccblepckhaaGreatDoor
