/-
  link.fields.
  link.Wrong.
-/
import Derived.Test.YtbceccblepckhaaGreatDoorCt24
set_option maxHeartbeats 6400000
set_option linter.unusedVariables false
namespace Go.Proofs.YtbceccblepckhaaGreatDoor
open Go.RowKit
set_option maxRecDepth 100000
open Lib (hid)
theorem fields_l (f:Fil) (m:Msg) (bf bm om:Nat) (vm ve vf vb:Value) (w:World) (hf:FilV All w (.agg #[vm,ve]) f) (h0:w.cell? ⟨bf,0,none⟩=some vm) (h1:w.cell? ⟨bf,1,none⟩=some ve)
  (m1:w.cell? ⟨bm,om+1,none⟩=some vf) (m2:w.cell? ⟨bm,om+2,none⟩=some vb) (hvf:RdS DFld 6 All w vf m.fields) (hvb:RdS DInt 1 All w vb m.barred) :
  Calls Tryz.prog 39 #[.pointer (some ⟨bf,0,none⟩),.pointer (some ⟨bm,om,none⟩)] w fun e w'=>e=.returned (.int .i64 (msgN f m))/\Up w w':=by
 generalize hl:m.fields=l at hvf;obtain ⟨fo,fc,rfl,hf1,hf2⟩:=hvf.val;obtain ⟨bo,bc,rfl,hb1,hb2⟩:=hvb.val;have Hf:=hid hf;have Hvf:=hid hvf;have Hvb:=hid hvb;clear hf hvf hvb
 by_cases hlen:16<l.length∨16<m.barred.length
 ·(have hr:msgN f m=5:=by rw [msgN,hl,if_pos hlen]);rw [hr];(have h2:16<(l.length:Int)∨((l.length:Int)<=16/\16<(m.barred.length:Int)):=by omega);clear hlen;rcases h2 with h2|⟨h2,h3⟩
  all_goals
   go_enter Tryz.func39,Tryz.ntmps39
   go_wp2_with fail
   go_ret
   exact ⟨rfl,Up.refl _⟩
 ·(have i1:(l.length:Int)<=16:=by omega);(have i2:(m.barred.length:Int)<=16:=by omega);have hcb:=containsF_int _ m.barred (fun n=>decide (n<0∨536870912<=n)) 84 (enters_of Tryz.func84 (by kernel_rfl) rfl) #[] w Hvb.out (fun n cs wq _ hwq hd=>fields1 n wq);(have hr:msgN f m=if m.barred.any (fun n=>decide (n<0∨536870912<=n))=true then 3 else firstN (l.mapIdx (fieldN f m)):=by rw [msgN,hl,if_neg hlen]);have Hcb:=hid hcb;have Hr:=hid hr;clear hcb hr hlen;cases hbb:m.barred.any (fun n=>decide (n<0∨536870912<=n))
  case true =>
   rw [hbb] at Hcb Hr
   go_enter Tryz.func39,Tryz.ntmps39
   go_wp2_with (first
    |(go_at_call 83;go_must (refine Hcb.out.mono ?_;rintro e w2 ⟨rfl,hu2⟩)))
   go_ret
   exact ⟨ret_int (by rw [Hr.out];rfl),hu2⟩
  case false =>
   rw [hbb] at Hcb Hr;have hr:msgN f m=firstN (l.mapIdx (fieldN f m)):=Hr.out;rw [hr];clear hr Hr
   go_enter Tryz.func39,Tryz.ntmps39
   (go_wp2_with fail);refine Hcb.out.mono ?_;rintro e w0 ⟨rfl,hu0⟩;have n1:=hu0.cell_some m1;have n2:=hu0.cell_some m2;have p0:=hu0.cell_some h0;have p1:=hu0.cell_some h1;(go_wp2_with fail);clear Hcb m1 m2 hbb h0 h1;(go_loopw [5,34] (fun c i wr=>∃ k:Nat,k<=l.length/\i=.int .i64 k/\c=.int .i64 (begun 0 (l.take k))/\Up w0 wr/\∀ j,(hj:j<l.length)->j<k->fieldN f m j l[j]=0) (fun _ i _=>l.length - (intOf i).toNat));case atStart=>exact ⟨0,by omega,rfl,rfl,Up.refl _,fun j _ h=>absurd h (by omega)⟩
   case round =>
    obtain ⟨k,hk,rfl,rfl,hu,hg⟩:=hrel;have Hg:=hid hg;clear hg
    by_cases hlt:k<l.length
    ·have Hvr:=hid (Hvf.out.up stable_fld (hu0.trans hu));obtain ⟨b,o,cs,rfl,hb,hcl,hcs,hd⟩:=Hvr.out.at hlt;obtain ⟨hd,hx1,hx2,hx3,hx4,hx5⟩:=hd;subst hd;have c0:=hcs 0 _ rfl;have c1:=hcs 1 _ rfl;have c2:=hcs 2 _ rfl;have c3:=hcs 3 _ rfl;have c4:=hcs 4 _ rfl;have c5:=hcs 5 _ rfl;simp only [Nat.add_zero] at c0;clear hcs hcl;(have j0:(0:Int)<=(k:Int):=by omega);(have j1:(k:Int)<(l.length:Int):=by omega);have Hgg:=hid (fun e=>firstN_idx_at (q:=fieldN f m) hlt Hg.out e);have Hgn:=hid (fun e=>zero_more (q:=fieldN f m) hlt Hg.out e)
     have hfN:fieldN f m k l[k]=if !named l[k].name || (l.take k).any (fun y=>l[k].name==y.name) then 7
       else if l[k].number<1∨536870912<=l[k].number∨(19000<=l[k].number/\l[k].number<20000) then 3
       else if m.barred.any (fun n=>l[k].number==n) || (l.take k).any (fun y=>l[k].number==y.number) then 8
       else if typedN f l[k]≠0 then typedN f l[k]
       else if l[k].choice≠0/\l[k].choice≠lastC (l.take k)/\l[k].choice≠begun 0 (l.take k)+1 then 2 else 0:=by
      unfold fieldN;rw [hl]
     have HfN:=hid hfN;clear hfN;have n1r:=hu.cell_some n1;have n2r:=hu.cell_some n2;generalize hxx:l[k]=x at *;have hu1:=hu.alloc (.cells #[.pointer (some ⟨b,o+k*6,none⟩)] 83);have hbk:=blk_new wr (.cells #[.pointer (some ⟨b,o+k*6,none⟩)] 83) rfl;have hN:=named_s ⟨x.name.toArray⟩ (wr.alloc (.cells #[.pointer (some ⟨b,o+k*6,none⟩)] 83));simp only at hN;have Hu:=hid hu;have Hu1:=hid hu1;have Hbk:=hid hbk;have Hxx:=hid hxx;clear hu hu1 hbk hxx
     cases hn:named x.name with
     |false =>
      rw [hn] at hN;have HN:=hid hN;clear hN
      go_wp2_with (first
       |(go_at_call 80;go_must (refine HN.out.mono ?_;rintro e w2 ⟨rfl,hu2⟩)))
      go_ret
      (have hi:fieldN f m k x=7:=by rw [HfN.out,hn];rfl);exact ⟨ret_int (by rw [Hgg.out (by rw [hi];decide),hi]),hu0.trans (Hu1.out.trans hu2)⟩
     |true =>
      rw [hn] at hN;have HN:=hid hN;clear hN
      go_wp2_with (first
       |(go_at_call 80;go_must (refine HN.out.mono ?_;rintro e w2 ⟨rfl,hu2⟩;have r1:=(((Up.refl wr).alloc (.cells #[.pointer (some ⟨b,o+k*6,none⟩)] 83)).trans hu2).cell_some n1r)))
      have hu12:=Hu1.out.trans hu2;have uw:Up wr w2:=(Up.alloc (Up.refl wr) _).trans hu2;have hb2:=hu2.blk Hbk.out;have pb:=ro0 hb2;have z2:=lt_of_block hb2;have zb:b<w2.heap.size:=Nat.lt_of_lt_of_le hb uw.size;have d0:=uw.cell_some c0;clear hb2 Hbk HN hu2 Hu1;refine (containsF_fld _ (l.take k) (fun y=>x.name==y.name) 86 (enters_of Tryz.func86 (by kernel_rfl) rfl) #[.pointer (some ⟨wr.heap.size,0,none⟩)] w2 ((Hvr.out.up stable_fld uw).take k (by omega)) (fun y cs wq _ hwq hd=>fields2 x wr.heap.size b (o+k*6) y cs wq (Nat.lt_of_lt_of_le zb hwq.size) (Nat.lt_of_lt_of_le z2 hwq.size) (hwq.cell_some pb) (hwq.cell_some d0) hd)).mono ?_;rintro e w3 ⟨rfl,hu3⟩;have U3:=hid (uw.trans hu3);have V3:=hid (hu12.trans hu3);have q:=hu3.cell_some pb;have z3:wr.heap.size<w3.heap.size:=Nat.lt_of_lt_of_le z2 hu3.size;clear pb z2 zb d0 hu12 uw hu3 n1r r1 c0;have r1:=U3.out.cell_some (Hu.out.cell_some n1);have r2:=U3.out.cell_some n2r;have e1:=U3.out.cell_some c1;have e5:=U3.out.cell_some c5;clear c1 n2r n2
      cases ha:(l.take k).any (fun y=>x.name==y.name) with
      |true =>
       go_wp2_with fail
       go_ret
       (have hi:fieldN f m k x=7:=by rw [HfN.out,hn,ha];rfl);exact ⟨ret_int (by rw [Hgg.out (by rw [hi];decide),hi]),hu0.trans V3.out⟩
      |false =>
       have hi1:fieldN f m k x=if x.number<1∨536870912<=x.number∨(19000<=x.number/\x.number<20000) then 3
         else if m.barred.any (fun n=>x.number==n) || (l.take k).any (fun y=>x.number==y.number) then 8
         else if typedN f x≠0 then typedN f x
         else if x.choice≠0/\x.choice≠lastC (l.take k)/\x.choice≠begun 0 (l.take k)+1 then 2 else 0:=by
        rw [HfN.out,hn,ha];rfl
       have Hi1:=hid hi1;clear hi1 HfN;(have hcs:x.number<1∨(1<=x.number/\536870912<=x.number)∨(1<=x.number/\x.number<536870912/\19000<=x.number/\x.number<20000)∨(1<=x.number/\x.number<536870912/\x.number<19000)∨(1<=x.number/\x.number<536870912/\19000<=x.number/\20000<=x.number):=by omega);have hbad:(x.number<1∨536870912<=x.number∨(19000<=x.number/\x.number<20000))->fieldN f m k x=3:=fun h=>by rw [Hi1.out,if_pos h]
       have hgood:¬ (x.number<1∨536870912<=x.number∨(19000<=x.number/\x.number<20000))->fieldN f m k x=if m.barred.any (fun n=>x.number==n) || (l.take k).any (fun y=>x.number==y.number) then 8
         else if typedN f x≠0 then typedN f x
         else if x.choice≠0/\x.choice≠lastC (l.take k)/\x.choice≠begun 0 (l.take k)+1 then 2 else 0:=fun h=>by rw [Hi1.out,if_neg h]
       have Hbad:=hid hbad;have Hgood:=hid hgood;clear hbad hgood Hi1;rcases hcs with h|⟨h,h2⟩|⟨h,h2,h3,h4⟩|⟨h,h2,h3⟩|⟨h,h2,h3,h4⟩
       case inl =>
        go_wp2_with fail
        go_ret
        have hi:=Hbad.out (by omega);exact ⟨ret_int (by rw [Hgg.out (by rw [hi];decide),hi]),hu0.trans V3.out⟩
       case inr.inl =>
        go_wp2_with fail
        go_ret
        have hi:=Hbad.out (by omega);exact ⟨ret_int (by rw [Hgg.out (by rw [hi];decide),hi]),hu0.trans V3.out⟩
       case inr.inr.inl =>
        go_wp2_with fail
        go_ret
        have hi:=Hbad.out (by omega);exact ⟨ret_int (by rw [Hgg.out (by rw [hi];decide),hi]),hu0.trans V3.out⟩
       all_goals
        have Hok:=hid (Hgood.out (by omega));clear Hgood Hbad;have HV:=hid (hu0.trans V3.out);have hzb:b<w3.heap.size:=Nat.lt_of_lt_of_le hb U3.out.size;have hcc:=fun w1 (hu:Up w3 w1)=>contains_int _ m.barred x.number w1 (Hvb.out.up stable_int (HV.out.trans hu));have hcf:=fun w1 (hu:Up w3 w1)=>containsF_fld _ (l.take k) (fun y=>x.number==y.number) 88 (enters_of Tryz.func88 (by kernel_rfl) rfl) #[.pointer (some ⟨wr.heap.size,0,none⟩)] w1 ((Hvr.out.up stable_fld (U3.out.trans hu)).take k (by omega)) (fun y cs wq _ hwq hd=>fields3 x wr.heap.size b (o+k*6) y cs wq (Nat.lt_of_lt_of_le hzb (hu.trans hwq).size) (Nat.lt_of_lt_of_le z3 (hu.trans hwq).size) ((hu.trans hwq).cell_some q) ((hu.trans hwq).cell_some e1) hd);have htt:=fun w1 (hu:Up w3 w1)=>typed_l f x bf b (o+k*6) vm ve w1 (Hf.out.up (HV.out.trans hu)) ((V3.out.trans hu).cell_some p0) ((V3.out.trans hu).cell_some p1) ((U3.out.trans hu).cell_some c2) ((U3.out.trans hu).cell_some c3) ((U3.out.trans hu).cell_some c4) ((U3.out.trans hu).cell_some c5);have Htt:=hid htt;clear htt
        cases hb8:m.barred.any (fun n=>x.number==n) with
        |true =>
         simp only [hb8] at hcc;have Hcc:=hid hcc;clear hcc hcf Htt;go_wp2_with fail
         go_quiet ((go_at_call 87;exact Calls.quiet_of_same (Hcc.out _ (Up.drewN (Up.refl _) _))))
         go_wp2_with fail
         go_ret
         (have hi:fieldN f m k x=8:=by rw [Hok.out,hb8];rfl);exact ⟨ret_int (by rw [Hgg.out (by rw [hi];decide),hi]),HV.out.drewN _⟩
        |false =>
         simp only [hb8] at hcc;have Hcc:=hid hcc;clear hcc;(have j2:(k:Int)<=(l.length:Int):=by omega);have j3:(k:Int)<=(fc:Int):=by omega
         cases hb9:(l.take k).any (fun y=>x.number==y.number) with
         |true =>
          simp only [hb9] at hcf;have Hcf:=hid hcf;clear hcf;go_wp2_with fail
          go_region_held3 (fun w'=>w'.cell? ⟨bm,om+1,none⟩=some (.slice (some ⟨b,o,none⟩) l.length fc)/\w'.cell? ⟨bm,om+2,none⟩=some (.slice bo m.barred.length bc)/\w'.cell? ⟨wr.heap.size,0,none⟩=some (.pointer (some ⟨b,o+k*6,none⟩))/\w'.cell? ⟨b,o+k*6+1,none⟩=some (.int .i64 x.number)) (first|go_keep|exact ⟨r1,r2,q,e1⟩|exact ⟨hx4.cell_some r1,hx4.cell_some r2,hx4.cell_some q,hx4.cell_some e1⟩)
           (first|(go_at_call 87;refine (Hcc.out _ (Up.drew (Up.refl _))).mono ?_;rintro e w4 ⟨rfl,rfl⟩)|(go_at_call 85;refine (Hcf.out _ (Up.drew (Up.refl _))).mono ?_;rintro e w4 ⟨rfl,hu4⟩;have hx4:=(Up.drew (Up.refl _)).trans hu4))
          go_wp2_with fail
          go_ret
          (have hi:fieldN f m k x=8:=by rw [Hok.out,hb8,hb9];rfl);exact ⟨ret_int (by rw [Hgg.out (by rw [hi];decide),hi]),HV.out.trans hx4⟩
         |false =>
          simp only [hb9] at hcf;have Hcf:=hid hcf;clear hcf;go_wp2_with fail
          go_region_held3 (fun w'=>w'.cell? ⟨bm,om+1,none⟩=some (.slice (some ⟨b,o,none⟩) l.length fc)/\w'.cell? ⟨bm,om+2,none⟩=some (.slice bo m.barred.length bc)/\w'.cell? ⟨wr.heap.size,0,none⟩=some (.pointer (some ⟨b,o+k*6,none⟩))/\w'.cell? ⟨b,o+k*6+1,none⟩=some (.int .i64 x.number)) (first|go_keep|exact ⟨r1,r2,q,e1⟩|exact ⟨hx4.cell_some r1,hx4.cell_some r2,hx4.cell_some q,hx4.cell_some e1⟩)
           (first|(go_at_call 87;refine (Hcc.out _ (Up.drew (Up.refl _))).mono ?_;rintro e w4 ⟨rfl,rfl⟩)|(go_at_call 85;refine (Hcf.out _ (Up.drew (Up.refl _))).mono ?_;rintro e w4 ⟨rfl,hu4⟩;have hx4:=(Up.drew (Up.refl _)).trans hu4))
          (have hok2:fieldN f m k x=if typedN f x≠0 then typedN f x else if x.choice≠0/\x.choice≠lastC (l.take k)/\x.choice≠begun 0 (l.take k)+1 then 2 else 0:=by rw [Hok.out,hb8,hb9];rfl);have s4:=hx4.cell_some q;have Hx4:=hid hx4;have Hok2:=hid hok2;clear hx4 hok2 hu4 Hok Hcc Hcf hb8 hb9;(go_wp2_with fail);refine (Htt.out _ Hx4.out).mono ?_;rintro e w5 ⟨rfl,hu5⟩;have H5:=hid (Hx4.out.trans hu5);clear hu5 s4 Htt;have r5:=H5.out.cell_some r1;have s5:=H5.out.cell_some q;have t5:=H5.out.cell_some e5
          by_cases ht:typedN f x=0
          ·have HT:=hid ht;rw [ht];clear ht;have hbt:=begun_take hlt;rw [Hxx.out] at hbt;have hbd:=begun_bd (l.take k) 0;(have hlt16:(l.take k).length<=16:=by rw [List.length_take];omega);have hlast:∃ lst,lst=lastC (l.take k):=⟨_,rfl⟩;obtain ⟨lst,hlst⟩:=hlast;(have hok3:fieldN f m k x=if x.choice≠0/\x.choice≠lst/\x.choice≠begun 0 (l.take k)+1 then 2 else 0:=by rw [Hok2.out,HT.out,hlst];rfl);rw [←hlst] at hbt;generalize begun 0 (l.take k)=g at *;generalize x.choice=c at *;(have hcase:c=0∨(c≠0/\c=lst)∨(c≠0/\c≠lst/\c=g+1)∨(c≠0/\c≠lst/\c≠g+1):=by omega);have g0:0<=g:=hbd.1;(have g16:g<=16:=by omega);have H0:=hid (fun e=>Hgn.out e);clear Hok2 Hgn;have Hbt:=hid hbt;have Hok3:=hid hok3;clear hbt hok3 hbd hlt16;have hrel:∀ wz,Up w3 wz->∀ g',g'=begun 0 (l.take (k+1))->fieldN f m k x=0->∃ k1:Nat,k1<=l.length/\Value.int .i64 ((k:Int)+1)=.int .i64 k1/\Value.int .i64 g'=.int .i64 (begun 0 (l.take k1))/\Up w0 wz/\∀ j,(hj:j<l.length)->j<k1->fieldN f m j l[j]=0:=fun wz hu g' hg hf0=>⟨k+1,by omega,by go_num,by rw [hg],V3.out.trans hu,H0.out hf0⟩;have Hrel:=hid hrel;clear hrel
           by_cases hk0:k=0
           ·(have hlst0:lst=0:=by rw [hlst,hk0];rfl);(have k00:(k:Int)<=0:=by omega);have Hk0:=hid hk0;have Hlst:=hid hlst;clear hk0 hlst;subst hlst0;rcases hcase with hc|⟨hc,hc2⟩|⟨hc,hc2,hc3⟩|⟨hc,hc2,hc3⟩
            ·(have n0:(c != 0)=false:=by simp [hc]);have Hc:=hid hc;clear hc;(go_wp2_with fail);exact ⟨Hrel.out _ H5.out g (by rw [Hbt.out,if_neg (fun h=>h.1 Hc.out),Int.add_zero]) (by rw [Hok3.out,if_neg (fun h=>h.1 Hc.out)]),by simp [intOf];omega⟩
            ·exact absurd hc2 hc
            ·(have n0:(c != 0)=true:=by simpa using hc);(have n2:(c != g+1)=false:=by simp [hc3]);have Hc:=hid hc;have Hc2:=hid hc2;have Hc3:=hid hc3;clear hc hc2 hc3;(go_wp2_with fail);exact ⟨Hrel.out _ H5.out (g+1) (by rw [Hbt.out,if_pos ⟨Hc.out,Hc2.out⟩]) (by rw [Hok3.out,if_neg (fun h=>h.2.2 Hc3.out)]),by simp [intOf];omega⟩
            ·(have n0:(c != 0)=true:=by simpa using hc);(have n2:(c != g+1)=true:=by simpa using hc3);have Hc:=hid hc;have Hc2:=hid hc2;have Hc3:=hid hc3;clear hc hc2 hc3;go_wp2_with fail
             go_ret
             (have hi:fieldN f m k x=2:=by rw [Hok3.out,if_pos ⟨Hc.out,Hc2.out,Hc3.out⟩]);exact ⟨ret_int (by rw [Hgg.out (by rw [hi];decide),hi]),HV.out.trans H5.out⟩
           ·(have k1:0<(k:Int):=by omega);have hl1:=lastC_take (l:=l) (k:=k) (by omega) (by omega);rw [←hlst] at hl1;obtain ⟨b',o',cs,he,_,hcl,hcs,hd⟩:=Hvr.out.at (i:=k - 1) (by omega);simp only [Option.some.injEq,Addr.mk.injEq,and_true] at he;obtain ⟨rfl,rfl⟩:=he;obtain ⟨hd,_⟩:=hd;have hp:=hcs 5 (.int .i64 lst) (by rw [hd,hl1];rfl);have p5:=(U3.out.trans H5.out).cell_some hp;have Hk0:=hid hk0;have Hlst:=hid hlst;clear hk0 hlst hd hcs hl1 hp;(have kz:((k:Int) - 1).toNat=k - 1:=by omega);(have kz0:0<=(k:Int) - 1:=by omega);(have kz1:(k:Int) - 1<l.length:=by omega);rcases hcase with hc|⟨hc,hc2⟩|⟨hc,hc2,hc3⟩|⟨hc,hc2,hc3⟩
            ·(have n0:(c != 0)=false:=by simp [hc]);have Hc:=hid hc;clear hc;(go_wp2_with fail);exact ⟨Hrel.out _ H5.out g (by rw [Hbt.out,if_neg (fun h=>h.1 Hc.out),Int.add_zero]) (by rw [Hok3.out,if_neg (fun h=>h.1 Hc.out)]),by simp [intOf];omega⟩
            ·(have n0:(c != 0)=true:=by simpa using hc);(have n1:(c != lst)=false:=by simp [hc2]);have Hc2:=hid hc2;clear hc hc2;(go_wp2_with fail);exact ⟨Hrel.out _ H5.out g (by rw [Hbt.out,if_neg (fun h=>h.2 Hc2.out),Int.add_zero]) (by rw [Hok3.out,if_neg (fun h=>h.2.1 Hc2.out)]),by simp [intOf];omega⟩
            ·(have n0:(c != 0)=true:=by simpa using hc);(have n1:(c != lst)=true:=by simpa using hc2);(have n2:(c != g+1)=false:=by simp [hc3]);have Hc:=hid hc;have Hc2:=hid hc2;have Hc3:=hid hc3;clear hc hc2 hc3;(go_wp2_with fail);exact ⟨Hrel.out _ H5.out (g+1) (by rw [Hbt.out,if_pos ⟨Hc.out,Hc2.out⟩]) (by rw [Hok3.out,if_neg (fun h=>h.2.2 Hc3.out)]),by simp [intOf];omega⟩
            ·(have n0:(c != 0)=true:=by simpa using hc);(have n1:(c != lst)=true:=by simpa using hc2);(have n2:(c != g+1)=true:=by simpa using hc3);have Hc:=hid hc;have Hc2:=hid hc2;have Hc3:=hid hc3;clear hc hc2 hc3;go_wp2_with fail
             go_ret
             (have hi:fieldN f m k x=2:=by rw [Hok3.out,if_pos ⟨Hc.out,Hc2.out,Hc3.out⟩]);exact ⟨ret_int (by rw [Hgg.out (by rw [hi];decide),hi]),HV.out.trans H5.out⟩
          ·
           (have hb:(typedN f x != 0)=true:=by simpa using ht);have Ht:=hid ht;clear ht;go_wp2_with fail
           go_ret
           (have hi:fieldN f m k x=typedN f x:=by rw [Hok2.out,if_pos Ht.out]);exact ⟨ret_int (by rw [Hgg.out (by rw [hi];exact Ht.out),hi]),HV.out.trans H5.out⟩
    ·go_wp2_with fail
     go_ret
     exact ⟨ret_int (firstN_idx_none (fun j hj=>Hg.out j hj (by omega))).symm,hu0.trans hu⟩
theorem wrong_l (v:Value) (f:Fil) (w:World) (hf:FilV All w v f) :
  Calls Tryz.prog 20 #[v] w fun e w'=>e=.returned (.agg #[.int .i64 (wrongN f).1,.int .i64 ((wrongN f).2:Int)])/\Up w w':=by
 have Hf:=hid hf;obtain ⟨vm,ve,rfl,hm,he⟩:=hf;obtain ⟨mo,mc,rfl,hm1,hm2⟩:=hm.val;obtain ⟨eo,ec,rfl,he1,he2⟩:=he.val;have Hm:=hid hm;have He:=hid he;clear hm he
 by_cases hlen:10<f.msgs.length+f.enums.length
 ·rw [wrong_many hlen];(have h2:10<(f.msgs.length:Int)∨((f.msgs.length:Int)<=10/\10 - (f.msgs.length:Int)<(f.enums.length:Int)):=by omega);clear hlen;rcases h2 with h2|⟨h2,h3⟩
  all_goals
   go_enter Tryz.func20,Tryz.ntmps20
   (go_wp2_with fail);exact bodyPost_ret (v:=.agg #[.int .i64 5,.int .i64 0]) (by simp [results,Tryz.results20,go_sem]) rfl ⟨rfl,((Up.refl w).alloc _).alloc _⟩
 ·(have i1:(f.msgs.length:Int)+f.enums.length<=10:=by omega);(have i2:(f.msgs.length:Int)<=10:=by omega);(have i3:(f.enums.length:Int)<=10 - (f.msgs.length:Int):=by omega);have Hlen:=hid hlen;clear hlen
  go_enter Tryz.func20,Tryz.ntmps20
  (go_wp2_with fail);(go_loopw [3,32] (fun h i wr=>∃ k:Nat,k<=f.msgs.length/\i=.int .i64 k/\OwnS DStr (w.heap.size+2) 9 1 All wr h ((f.msgs.take k).map (·.name))/\Up w wr/\wr.heap[w.heap.size]? = some (.cells #[.slice mo f.msgs.length mc,.slice eo f.enums.length ec] 25 (0,0))/\wr.heap[w.heap.size+1]? = some (.cells #[.int .i64 0,.int .i64 0] 60 (0,0))) (fun _ i _=>f.msgs.length - (intOf i).toNat));case atStart=>exact ⟨0,by omega,rfl,OwnS.nil _ _ _ _ _ _,((Up.refl w).alloc _).alloc _,blk_old _ (blk_new w _ rfl),blk_new (w.alloc _) _ (by simp)⟩
  case round =>
   obtain ⟨k,hk,rfl,how,hu,hb0,hb1⟩:=hrel
   by_cases hlt:k<f.msgs.length
   ·obtain ⟨b,o,cs,rfl,hb,hl,hcs,hd⟩:=(Hm.out.up stable_msg hu).at hlt;obtain ⟨vf,vb,hd,hf1,hb1',hn⟩:=hd;obtain ⟨fo,fc,rfl,_,_⟩:=hf1.val;obtain ⟨bo,bc,rfl,_,_⟩:=hb1'.val;subst hd;have c0:=hcs 0 _ rfl;have c1:=hcs 1 _ rfl;have c2:=hcs 2 _ rfl;simp only [Nat.add_zero] at c0;(have k0:(0:Int)<=(k:Int):=by omega);(have k1:(k:Int)<(f.msgs.length:Int):=by omega);(have hsn:(f.msgs.take (k+1)).map (·.name)=(f.msgs.take k).map (·.name)++[f.msgs[k].name]:=by rw [List.take_succ_eq_append_getElem hlt,List.map_append];rfl);have Hsn:=hid hsn;(have hll:((f.msgs.take k).map (·.name)).length<=10:=by rw [List.length_map,List.length_take];omega);have How:=hid how;have Hb0:=hid hb0;have Hb1:=hid hb1;have Hu:=hid hu;have Hn:=hid hn;clear hcs hl hsn how hb0 hb1 hf1 hb1' hu hn;generalize (f.msgs.take k).map (·.name)=L at *;generalize f.msgs[k]=x at *;obtain ⟨xs,hxs⟩:=How.out.own;have Hxs:=hid hxs;clear hxs;have hwz:w.heap.size+2<=wr.heap.size:=lt_of_block Hb1.out
    go_wp2_with (first
     |(at_builtin;go_must (refine wpList_app1 eStr _ (by rfl) _ _ (by rfl) (w.heap.size+2) _ _ _ (by rfl) (Hxs.out.alloc _) _ (by rfl) (by simp) (by rfl) (oc (by rfl)) (by omega) (by unfold maxLen;omega) (by simp;omega) ?_;intro v1 w1 how1 hev1)))
    go_roundw
    case rel =>
     have hev:=hev1.of_alloc;have hlt4:=fun j (hj:u3.ownBlock=some j)=>Hxs.out.lt j hj;exact ⟨k+1,by omega,by go_num,by rw [Hsn.out];exact OwnS.snoc stable_str How.out Hxs.out how1 hev (by rfl) ⟨rfl,Hn.out⟩,Hu.out.evo hev (fun j hj=>by have:=(hlt4 j hj).1;omega),hev.blk Hb0.out (fun e=>by have:=(hlt4 _ e).1;omega),hev.blk Hb1.out (fun e=>by have:=(hlt4 _ e).1;omega)⟩
    case measure=>simp [intOf];omega
   ·have hfin:f.msgs.take k=f.msgs:=List.take_of_length_le (by omega);rw [hfin] at how;clear hfin;obtain ⟨wa,rfl⟩:∃ wa:World,wa=wr:=⟨_,rfl⟩;have e0:=ro1 hb0;(go_wp2_with fail);clear e0;(go_loopw [3,45] (fun h i wr=>∃ k:Nat,k<=f.enums.length/\i=.int .i64 k/\OwnS DStr (w.heap.size+2) 9 1 All wr h (f.msgs.map (·.name)++(f.enums.take k).map (·.name))/\Up w wr/\wr.heap[w.heap.size]? = some (.cells #[.slice mo f.msgs.length mc,.slice eo f.enums.length ec] 25 (0,0))/\wr.heap[w.heap.size+1]? = some (.cells #[.int .i64 0,.int .i64 0] 60 (0,0))) (fun _ i _=>f.enums.length - (intOf i).toNat));case atStart=>exact ⟨0,by omega,rfl,by simpa using how,hu,hb0,hb1⟩
    case round =>
     clear how hu hb0 hb1 hlt hk;obtain ⟨k,hk,rfl,how,hu,hb0,hb1⟩:=hrel
     by_cases hlt:k<f.enums.length
     ·obtain ⟨b,o,cs,rfl,hb,hl,hcs,hd⟩:=(He.out.up stable_enu hu).at hlt;obtain ⟨vf,hd,hf1,hn⟩:=hd;obtain ⟨fo,fc,rfl,_,_⟩:=hf1.val;subst hd;have c0:=hcs 0 _ rfl;have c1:=hcs 1 _ rfl;simp only [Nat.add_zero] at c0;(have k0:(0:Int)<=(k:Int):=by omega);(have k1:(k:Int)<(f.enums.length:Int):=by omega);(have hsn:f.msgs.map (·.name)++(f.enums.take (k+1)).map (·.name)=(f.msgs.map (·.name)++(f.enums.take k).map (·.name))++[f.enums[k].name]:=by rw [List.take_succ_eq_append_getElem hlt,List.map_append,List.append_assoc];rfl);have Hsn:=hid hsn;(have hll:(f.msgs.map (·.name)++(f.enums.take k).map (·.name)).length<=10:=by rw [List.length_append,List.length_map,List.length_map,List.length_take];omega);have How:=hid how;have Hb0:=hid hb0;have Hb1:=hid hb1;have Hu:=hid hu;have Hn:=hid hn;clear hcs hl hsn how hb0 hb1 hf1 hu hn;generalize f.msgs.map (·.name)++(f.enums.take k).map (·.name)=L at *;generalize f.enums[k]=x at *;obtain ⟨xs,hxs⟩:=How.out.own;have Hxs:=hid hxs;clear hxs;have hwz:w.heap.size+2<=wr.heap.size:=lt_of_block Hb1.out
      go_wp2_with (first
       |(at_builtin;go_must (refine wpList_app1 eStr _ (by rfl) _ _ (by rfl) (w.heap.size+2) _ _ _ (by rfl) (Hxs.out.alloc _) _ (by rfl) (by simp) (by rfl) (oc (by rfl)) (by omega) (by unfold maxLen;omega) (by simp;omega) ?_;intro v1 w1 how1 hev1)))
      go_roundw
      case rel =>
       have hev:=hev1.of_alloc;have hlt4:=fun j (hj:u3.ownBlock=some j)=>Hxs.out.lt j hj;exact ⟨k+1,by omega,by go_num,by rw [Hsn.out];exact OwnS.snoc stable_str How.out Hxs.out how1 hev (by rfl) ⟨rfl,Hn.out⟩,Hu.out.evo hev (fun j hj=>by have:=(hlt4 j hj).1;omega),hev.blk Hb0.out (fun e=>by have:=(hlt4 _ e).1;omega),hev.blk Hb1.out (fun e=>by have:=(hlt4 _ e).1;omega)⟩
      case measure=>simp [intOf];omega
     ·have hfin:f.enums.take k=f.enums:=List.take_of_length_le (by omega);rw [hfin,show f.msgs.map (·.name)++f.enums.map (·.name)=hadN f from rfl] at how;have hrd:=how.rd stable_str (S':=All) (fun _ h=>h) (fun _ _=>trivial);(have hll:(hadN f).length=f.msgs.length+f.enums.length:=by unfold hadN;rw [List.length_append,List.length_map,List.length_map]);obtain ⟨ho,hc,rfl,hc1,hc2⟩:=hrd.val;clear hfin how;obtain ⟨wb,rfl⟩:∃ wb:World,wb=wr:=⟨_,rfl⟩;have Hrd:=hid hrd;have Hb0:=hid hb0;have Hb1:=hid hb1;have Hu:=hid hu;clear hrd hb0 hb1 hu;(have l10:((hadN f).length:Int)<=10:=by omega);have Hll:=hid hll;clear hll;(go_wp2_with fail);generalize hH:hadN f=L at *;have HH:=hid hH;clear hH;(go_loopw [57] (fun i wr=>∃ k:Nat,k<=L.length/\i=.int .i64 k/\Up wb wr/\∀ j,(hj:j<L.length)->j<k->nameN L j L[j]=0) (fun i _=>L.length - (intOf i).toNat));case atStart=>exact ⟨0,by omega,rfl,Up.refl _,fun j _ h=>absurd h (by omega)⟩
      case round =>
       clear hlt hk;obtain ⟨k,hk,rfl,hu,hg⟩:=hrel;have Hg:=hid hg;have Huq:=hid hu;clear hg
       by_cases hlt:k<L.length
       ·obtain ⟨b,o,cs,rfl,hb,hl,hcs,hd⟩:=(Hrd.out.up stable_str hu).at hlt;obtain ⟨hd,hn⟩:=hd;subst hd;have c0:=hcs 0 _ rfl;simp only [Nat.add_zero,Nat.mul_one] at c0;(have k0:(0:Int)<=(k:Int):=by omega);(have k1:(k:Int)<(L.length:Int):=by omega);(have k2:(k:Int)<=(L.length:Int):=by omega);(have k3:(k:Int)<=(hc:Int):=by omega);have Hgn:=hid (fun e=>zero_more (q:=nameN L) hlt Hg.out e);have Hgw:=hid (fun e=>by have h:=wrong_name (f:=f) Hlen.out (k:=k) (by rw [HH.out];exact hlt) (fun j hj hjk=>by simp only [HH.out] at hj ⊢;exact Hg.out j hj hjk) (by simp only [HH.out];exact e);exact h);have hnm:=name_cases L k L[k];clear hcs hl;generalize L[k]=x at *;have hfr:=free_l x wr
        cases hfx:freeN x with
        |false =>
         rw [hfx] at hfr;have Hfr:=hid hfr;have Hi:=hid (show nameN L k x=7 by rw [hnm,hfx];rfl);clear hnm hfr hfx hu
         go_wp2_with (first
          |(go_at_call 37;go_must ((with_reducible refine Hfr.out.mono ?_);rintro e w4 ⟨rfl,hu4⟩;have hbx:=(Huq.out.trans hu4).blk Hb1.out;have q0:=ro0 hbx;have q1:=ro1 hbx;have g0:∀ o,w4.frozen? ⟨w.heap.size+1,o,none⟩=false:=(fun o=>frozen_of_row w4 _ o _ _ hbx);have hz:w.heap.size+1<w4.heap.size:=lt_of_block hbx;clear hbx)))
         refine bodyPost_ret (v:=.agg #[.int .i64 7,.int .i64 k]) (by simp [results,Tryz.results20,go_sem,q0,q1]) rfl ?_;rw [Hgw.out Hi.out];refine ⟨by first|rfl|simp,?_⟩;repeat (with_reducible refine Up.setCell ?_ ?_ _)
         ·exact Hu.out.trans (Huq.out.trans hu4)
         all_goals simp
        |true =>
         rw [hfx] at hfr;have hct:=fun w4 (hu4:Up wr w4)=>contains_str _ (L.take k) x w4 ((Hrd.out.up stable_str (hu.trans hu4)).take k hk)
         cases hcx:(L.take k).any (fun y=>x==y) with
         |true =>
          simp only [hcx] at hct;have Hi:=hid (show nameN L k x=7 by rw [hnm,hfx,hcx];rfl);have Hfr:=hid hfr;have Hct:=hid hct;clear hnm hfr hfx hu hct hcx
          go_wp2_with (first
           |(go_at_call 37;go_must ((with_reducible refine Hfr.out.mono ?_);rintro e w4 ⟨rfl,hu4⟩;have hbx:=(Huq.out.trans hu4).blk Hb1.out;have q0:=ro0 hbx;have q1:=ro1 hbx;have g0:∀ o,w4.frozen? ⟨w.heap.size+1,o,none⟩=false:=(fun o=>frozen_of_row w4 _ o _ _ hbx);have hz:w.heap.size+1<w4.heap.size:=lt_of_block hbx;clear hbx))
           |(go_at_call 38;go_must ((with_reducible refine (Hct.out w4 hu4).mono ?_);rintro e w5 ⟨rfl,rfl⟩)))
          refine bodyPost_ret (v:=.agg #[.int .i64 7,.int .i64 k]) (by simp [results,Tryz.results20,go_sem,q0,q1]) rfl ?_;rw [Hgw.out Hi.out];refine ⟨by first|rfl|simp,?_⟩;repeat (with_reducible refine Up.setCell ?_ ?_ _)
          ·exact Hu.out.trans (Huq.out.trans hu4)
          all_goals simp
         |false =>
          simp only [hcx] at hct;have Hi:=hid (show nameN L k x=0 by rw [hnm,hfx,hcx];rfl);have Hfr:=hid hfr;have Hct:=hid hct;clear hnm hfr hfx hu hct hcx
          go_wp2_with (first
           |(go_at_call 37;go_must ((with_reducible refine Hfr.out.mono ?_);rintro e w4 ⟨rfl,hu4⟩))
           |(go_at_call 38;go_must ((with_reducible refine (Hct.out w4 hu4).mono ?_);rintro e w5 ⟨rfl,hw5⟩;subst hw5)))
          go_roundw
          (case rel=>exact ⟨k+1,by omega,by go_num,Huq.out.trans hu4,Hgn.out Hi.out⟩);case measure=>simp [intOf];omega
       ·(have hnok:namesOk f:=fun j hj=>by simp only [HH.out] at hj ⊢;exact Hg.out j hj (by omega));have Hnok:=hid hnok;clear hnok Hg;obtain ⟨wd,rfl⟩:∃ wd:World,wd=wr:=⟨_,rfl⟩;have Ud:=hid (Hu.out.trans hu);have Hd0:=hid (hu.blk Hb0.out);have Hd1:=hid (hu.blk Hb1.out);have e0:=ro0 Hd0.out;clear hu Huq Hb0 Hb1 Hu;(go_wp2_with fail);clear e0 hlt hk;(go_loopw [78] (fun i wr=>∃ k:Nat,k<=f.msgs.length/\i=.int .i64 k/\Up wd wr/\∀ j,(hj:j<f.msgs.length)->j<k->msgN f f.msgs[j]=0) (fun i _=>f.msgs.length - (intOf i).toNat));case atStart=>exact ⟨0,by omega,rfl,Up.refl _,fun j _ h=>absurd h (by omega)⟩
        case round =>
         obtain ⟨k,hk,rfl,hu,hg⟩:=hrel;have Hg:=hid hg;have Huq:=hid hu;clear hg
         by_cases hlt:k<f.msgs.length
         ·obtain ⟨b',o',cs,rfl,hb',hl,hcs,hd⟩:=(Hm.out.up stable_msg (Ud.out.trans hu)).at hlt;obtain ⟨vf,vb,hd,hf1,hb1',hn⟩:=hd;subst hd;have c0:=hcs 0 _ rfl;have c1:=hcs 1 _ rfl;have c2:=hcs 2 _ rfl;simp only [Nat.add_zero] at c0;(have k0:(0:Int)<=(k:Int):=by omega);(have k1:(k:Int)<(f.msgs.length:Int):=by omega);have e0:wr.cell? ⟨w.heap.size,0,none⟩=some (.slice (some ⟨b',o',none⟩) f.msgs.length mc):=cell_of_row wr _ 0 _ _ _ (hu.blk Hd0.out);have e1:=ro1 (hu.blk Hd0.out);have Hgn:=hid (fun e=>zero_more' (q:=msgN f) hlt Hg.out e);have Hgw:=hid (fun e=>wrong_msg (f:=f) Hlen.out Hnok.out hlt Hg.out e);have Hfl:=hid (fields_l f f.msgs[k] w.heap.size b' (o'+k*3) _ _ vf vb wr (Hf.out.up (Ud.out.trans hu)) e0 e1 c1 c2 hf1 hb1');clear hcs hl hf1 hb1' c0 c1 c2 e1 hu;generalize f.msgs[k]=x at *;go_wp2_with fail
          (with_reducible refine Hfl.out.mono ?_)
          rintro e w4 ⟨rfl,hu4⟩
          by_cases hx:msgN f x=0
          ·have Hx:=hid hx;rw [hx];clear hx;go_wp2_with fail
           go_roundw
           (case rel=>exact ⟨k+1,by omega,by go_num,Huq.out.trans hu4,Hgn.out Hx.out⟩);case measure=>simp [intOf];omega
          ·(have hxb:(msgN f x != 0)=true:=by simpa using hx);have Hx:=hid hx;clear hx;have hbx:=(Huq.out.trans hu4).blk Hd1.out;have q0:=ro0 hbx;have q1:=ro1 hbx;have g0:∀ o,w4.frozen? ⟨w.heap.size+1,o,none⟩=false:=(fun o=>frozen_of_row w4 _ o _ _ hbx);have hz:w.heap.size+1<w4.heap.size:=lt_of_block hbx;clear hbx;generalize hgx:msgN f x=ex at *;(go_wp2_with fail);refine bodyPost_ret (v:=.agg #[.int .i64 ex,.int .i64 k]) (by simp [results,Tryz.results20,go_sem,q0,q1]) rfl ?_;rw [Hgw.out Hx.out];refine ⟨by first|rfl|simp,?_⟩;repeat (with_reducible refine Up.setCell ?_ ?_ _)
           ·exact Ud.out.trans (Huq.out.trans hu4)
           all_goals simp
         ·have Hmok:=hid (show msgsOk f from fun j hj=>Hg.out j hj (by omega));clear Hg;obtain ⟨we,rfl⟩:∃ we:World,we=wr:=⟨_,rfl⟩;have Ue:=hid (Ud.out.trans hu);have He0:=hid (hu.blk Hd0.out);have He1:=hid (hu.blk Hd1.out);have e0:=ro1 He0.out;clear hu Huq Hd0 Hd1 Ud;(go_wp2_with fail);clear e0 hlt hk;(go_loopw [95] (fun i wr=>∃ k:Nat,k<=f.enums.length/\i=.int .i64 k/\Up we wr/\∀ j,(hj:j<f.enums.length)->j<k->itemsN f.enums[j].items=0) (fun i _=>f.enums.length - (intOf i).toNat));case atStart=>exact ⟨0,by omega,rfl,Up.refl _,fun j _ h=>absurd h (by omega)⟩
          case round =>
           obtain ⟨k,hk,rfl,hu,hg⟩:=hrel;have Hg:=hid hg;have Huq:=hid hu;clear hg
           by_cases hlt:k<f.enums.length
           ·obtain ⟨b',o',cs,rfl,hb',hl,hcs,hd⟩:=(He.out.up stable_enu (Ue.out.trans hu)).at hlt;obtain ⟨vf,hd,hf1,hn⟩:=hd;subst hd;have c1:=hcs 1 _ rfl;(have k0:(0:Int)<=(k:Int):=by omega);(have k1:(k:Int)<(f.enums.length:Int):=by omega);have e0:=ro0 (hu.blk He0.out);have e1:wr.cell? ⟨w.heap.size,1,none⟩=some (.slice (some ⟨b',o',none⟩) f.enums.length ec):=cell_of_row wr _ 1 _ _ _ (hu.blk He0.out);have Hgn:=hid (fun e=>zero_more' (q:=fun e:Enu=>itemsN e.items) hlt Hg.out e);have Hgw:=hid (fun e=>wrong_enum (f:=f) Hlen.out Hnok.out Hmok.out hlt Hg.out e);have Hfl:=hid (items_l vf f.enums[k].items wr hf1);clear hcs hl hf1 hu;generalize f.enums[k]=x at *;go_wp2_with fail
            (with_reducible refine Hfl.out.mono ?_)
            rintro e w4 ⟨rfl,hu4⟩
            by_cases hx:itemsN x.items=0
            ·have Hx:=hid hx;rw [hx];clear hx;go_wp2_with fail
             go_roundw
             (case rel=>exact ⟨k+1,by omega,by go_num,Huq.out.trans hu4,Hgn.out Hx.out⟩);case measure=>simp [intOf];omega
            ·(have hxb:(itemsN x.items != 0)=true:=by simpa using hx);have Hx:=hid hx;have d0:=hu4.cell_some e0;clear hx;have hbx:=(Huq.out.trans hu4).blk He1.out;have q0:=ro0 hbx;have q1:=ro1 hbx;have g0:∀ o,w4.frozen? ⟨w.heap.size+1,o,none⟩=false:=(fun o=>frozen_of_row w4 _ o _ _ hbx);have hz:w.heap.size+1<w4.heap.size:=lt_of_block hbx;clear hbx;generalize hgx:itemsN x.items=ex at *;(go_wp2_with fail);refine bodyPost_ret (v:=.agg #[.int .i64 ex,.int .i64 (f.msgs.length+k)]) (by simp [results,Tryz.results20,go_sem,q0,q1]) rfl ?_;rw [Hgw.out Hx.out];refine ⟨by first|rfl|simp,?_⟩;repeat (with_reducible refine Up.setCell ?_ ?_ _)
             ·exact Ue.out.trans (Huq.out.trans hu4)
             all_goals simp
           ·have Hnone:=hid (wrong_none (f:=f) Hlen.out Hnok.out Hmok.out (fun j hj=>Hg.out j hj (by omega)));have hbx:=(hu).blk He1.out;have q0:=ro0 hbx;have q1:=ro1 hbx;have g0:∀ o,wr.frozen? ⟨w.heap.size+1,o,none⟩=false:=(fun o=>frozen_of_row wr _ o _ _ hbx);have hz:w.heap.size+1<wr.heap.size:=lt_of_block hbx;clear hbx;(go_wp2_with fail);refine bodyPost_ret (v:=.agg #[.int .i64 0,.int .i64 0]) (by simp [results,Tryz.results20,go_sem,q0,q1]) rfl ?_;rw [Hnone.out];refine ⟨by first|rfl|simp,?_⟩;repeat (with_reducible refine Up.setCell ?_ ?_ _)
            ·exact Ue.out.trans hu
            all_goals simp
end Go.Proofs.YtbceccblepckhaaGreatDoor
