/-
  pressref3.Plus (written by gen_plusr.py).
-/
import Derived.Test.YtbceccblepckhaaGreatDoorCt21
set_option maxHeartbeats 12800000
set_option linter.unusedVariables false
namespace Go.Proofs.YtbceccblepckhaaGreatDoor
open Go.RowKit
set_option maxRecDepth 100000
open Lib (hid)
theorem plus_step (N k:Nat) (hN:N*2*48<=140737488355328) (f:Fil) (ih:PlusC N k f) (hright:(wrongN f).1=0):PlusC N (k+1) f:=by
 intro d S msg a b fv va ua vb ub w hm0 hm1 hfv hda hdb hwa hwb hna hnb
 cases d with
 |zero=>exact hda.elim
 |succ d =>
 have hrgt:=hright;obtain ⟨av1,ac1,au1,ac2,rfl,rfl,hav,hau,haz⟩:=bod_cells hda;obtain ⟨bv1,bc1,bu1,bc2,rfl,rfl,hbv,hbu,hbz⟩:=bod_cells hdb;obtain ⟨mi,rfl⟩:∃ mi:Nat,msg=mi:=⟨msg.toNat,by omega⟩;have hmi:mi<f.msgs.length:=by omega
 have hj:joinB f (k+1) (mi:Int) a b=.mk (b.values.foldl (joinV (joinB f k) f f.msgs[mi].fields) a.values) (a.unknown++b.unknown):=by
  rw [joinB,Int.toNat_natCast,List.getElem?_eq_getElem hmi]
 rw [hj]
 have hga:∀ x:Bod,wrongB f (k+1) (mi:Int) x=0->wrongBF (wrongVF (wrongB f k) f) f.msgs[mi] x=0:=fun x h=>by
  rw [wrongB,Int.toNat_natCast,List.getElem?_eq_getElem hmi] at h;exact h
 obtain ⟨ra1,ra2,ra3⟩:=right_vals (hga a hwa);obtain ⟨rb1,rb2,rb3⟩:=right_vals (hga b hwb);have hmr:=right_msg hright f.msgs[mi] (List.getElem_mem hmi);have h16:=(msg_field hmr).1;have Hch:=hid (show ∀ z∈f.msgs[mi].fields,0<=z.choice from fun z hz=>(choice_16 hmr hz).1);obtain ⟨vm,ve,rfl,hm',he''⟩:=id hfv;obtain ⟨ma,mc,rfl,_,_⟩:=hm'.val;obtain ⟨ea,ec,rfl,_,_⟩:=he''.val;obtain ⟨mb,mo,cs,rfl,_,_,hcs,hd⟩:=hm'.at hmi;obtain ⟨vf,vb,hd,hfs,hbs,hnm⟩:=hd;subst hd;obtain ⟨fa,fc,rfl,_,_⟩:=hfs.val;obtain ⟨ba,bc,rfl,_,_⟩:=hbs.val;have s0:=hcs 0 _ rfl;have s1:=hcs 1 _ rfl;have s2:=hcs 2 _ rfl;simp only [Nat.add_zero] at s0;have Hav:=hid hav;have Hau:=hid hau;have Hbv:=hid hbv;have Hbu:=hid hbu;have Hfs:=hid hfs;have Hfv:=hid hfv;have Hih:=hid ih;have Hna:=hid hna;have Hnb:=hid hnb;have Hra1:=hid ra1;have Hra3:=hid ra3;have Hrb1:=hid rb1;have Hrb3:=hid rb3;(have hal:a.values.length<=16:=by omega);(have hbl:b.values.length<=16:=by omega);have hau':=hna.top;have hbu':=hnb.top
 have Hftp:=hid (fun (F:Fld) (n:Int) (h:fldN f.msgs[mi].fields n=some F)=>show typedN f F=0 from by
  obtain ⟨h1,_⟩:=fldN_mem h;obtain ⟨i,hi,rfl⟩:=List.getElem_of_mem h1;exact (field_facts ((msg_field hmr).2.2 i hi)).2.2.2.1)
 clear hcs hm' he'' hfv hda hdb hj hga hright ih hav hau hbv hbu hfs hwa hwb hna hnb ra1 ra3 rb1 rb3 ra2 rb2 hrgt haz hbz hmr h16;generalize f.msgs[mi]=m at *;(have hm2:(mi:Int)<(f.msgs.length:Int):=by omega);have Hbu':=hid hbu';have Hau':=hid hau';clear hbu' hau'
 go_enter Tryz.func111,Tryz.ntmps111
 go_upto_region 1 with (fail)
 generalize hW:(((w.alloc (.cells #[.slice (some ⟨mb,mo,none⟩) f.msgs.length mc,.slice ea f.enums.length ec] 25)).alloc (.cells #[.slice av1 a.values.length ac1,.slice au1 a.unknown.length ac2] 29)).alloc (.cells #[.slice bv1 b.values.length bc1,.slice bu1 b.unknown.length bc2] 29)).alloc (.cells #[.slice none 0 0,.slice none 0 0] 29)=w1;(have hb0:w1.heap[w.heap.size]? = some (.cells #[.slice (some ⟨mb,mo,none⟩) f.msgs.length mc,.slice ea f.enums.length ec] 25 (0,0)):=by rw [←hW];exact blk_old _ (blk_old _ (blk_old _ (blk_new w _ rfl))));(have hb1:w1.heap[w.heap.size+1]? = some (.cells #[.slice av1 a.values.length ac1,.slice au1 a.unknown.length ac2] 29 (0,0)):=by rw [←hW];exact blk_old _ (blk_old _ (blk_new (w.alloc _) _ (by simp))));(have hb2:w1.heap[w.heap.size+2]? = some (.cells #[.slice bv1 b.values.length bc1,.slice bu1 b.unknown.length bc2] 29 (0,0)):=by rw [←hW];exact blk_old _ (blk_new ((w.alloc _).alloc _) _ (by simp)));(have hb3:w1.heap[w.heap.size+3]? = some (.cells #[.slice none 0 0,.slice none 0 0] 29 (0,0)):=by rw [←hW];exact blk_new (((w.alloc _).alloc _).alloc _) _ (by simp));(have hu1:Up w w1:=by rw [←hW];exact ((((Up.refl w).alloc _).alloc _).alloc _).alloc _);(have hz1:w1.heap.size=w.heap.size+4:=by rw [←hW];simp);clear hW;have s0:=hu1.cell_some s0;have s1:=hu1.cell_some s1;have s2:=hu1.cell_some s2;have f0:=ro0 hb0
 go_upto_region 2 with (fail)
 have hb4:(w1.alloc (.cells #[.string ⟨m.name.toArray⟩,.slice fa m.fields.length fc,.slice ba m.barred.length bc] 35)).heap[w.heap.size+4]? = some (.cells #[.string ⟨m.name.toArray⟩,.slice fa m.fields.length fc,.slice ba m.barred.length bc] 35 (0,0)):=blk_new w1 _ (by omega);have hb0:=blk_old (.cells #[.string ⟨m.name.toArray⟩,.slice fa m.fields.length fc,.slice ba m.barred.length bc] 35) hb0;have hb1:=blk_old (.cells #[.string ⟨m.name.toArray⟩,.slice fa m.fields.length fc,.slice ba m.barred.length bc] 35) hb1;have hb2:=blk_old (.cells #[.string ⟨m.name.toArray⟩,.slice fa m.fields.length fc,.slice ba m.barred.length bc] 35) hb2;have hb3:=blk_old (.cells #[.string ⟨m.name.toArray⟩,.slice fa m.fields.length fc,.slice ba m.barred.length bc] 35) hb3;have hu2:=hu1.alloc (.cells #[.string ⟨m.name.toArray⟩,.slice fa m.fields.length fc,.slice ba m.barred.length bc] 35);(have hz2:(w1.alloc (.cells #[.string ⟨m.name.toArray⟩,.slice fa m.fields.length fc,.slice ba m.barred.length bc] 35)).heap.size=w.heap.size+5:=by simp [hz1]);generalize hw2:w1.alloc (.cells #[.string ⟨m.name.toArray⟩,.slice fa m.fields.length fc,.slice ba m.barred.length bc] 35)=w2 at *;clear hw2 s0 s1 s2 hz1 hu1 f0;have Hb0:=hid hb0;have Hb1:=hid hb1;have Hb2:=hid hb2;have Hb3:=hid hb3;have Hb4:=hid hb4;have Hu2:=hid hu2;have Hz2:=hid hz2;have l0:=ro0 hb2;clear hb0 hb1 hb2 hb3 hb4 hu2 hz2;(go_wp2_with fail);clear l0
 go_loopw [22] (fun i wr=>∃ (k2:Nat) (l:List Val) (vv:Value),k2<=b.values.length/\i=.int .i64 k2/\(b.values.take k2).foldl (joinV (joinB f k) f m.fields) a.values=l/\RisingV l/\l.length<=16+k2/\(∀ n,(∀ x∈b.values.take k2,x.1≠n)->∀ o,findV l n=some o->findV a.values n=some o) /\
  wr.heap[w.heap.size]? = some (.cells #[.slice (some ⟨mb,mo,none⟩) f.msgs.length mc,.slice ea f.enums.length ec] 25 (0,0))/\wr.heap[w.heap.size+1]? = some (.cells #[vv,.slice au1 a.unknown.length ac2] 29 (0,0)) /\
  wr.heap[w.heap.size+2]? = some (.cells #[.slice bv1 b.values.length bc1,.slice bu1 b.unknown.length bc2] 29 (0,0)) /\
  wr.heap[w.heap.size+3]? = some (.cells #[.slice none 0 0,.slice none 0 0] 29 (0,0))/\wr.heap[w.heap.size+4]? = some (.cells #[.string ⟨m.name.toArray⟩,.slice fa m.fields.length fc,.slice ba m.barred.length bc] 35 (0,0)) /\
  RdS (DValD d) 4 (SA S w.heap.size) wr vv l/\Up w wr) (fun i _=>b.values.length - (intOf i).toNat)
 case atStart=>exact ⟨0,a.values,_,by omega,rfl,rfl,Hra1.out,by omega,fun n _ o h=>h,Hb0.out,Hb1.out,Hb2.out,Hb3.out,Hb4.out,(Hav.out.keep (stable_val d) (S':=SA S w.heap.size) (w':=w2) (fun k hs hk=>⟨Hu2.out.block k hk,.inl ⟨hs,hk⟩⟩)),Hu2.out⟩
 case round =>
  clear Hb0 Hb1 Hb2 Hb3 Hb4 Hu2 Hz2;obtain ⟨k2,l,vv,hk2,rfl,hl,hris,hll,hfind,hb0,hb1,hb2,hb3,hb4,hrd,hu⟩:=hrel;obtain ⟨vva,vvc,rfl,_,_⟩:=hrd.val;have Hl:=hid hl;have Hris:=hid hris;have Hfind:=hid hfind;have Hb0:=hid hb0;have Hb1:=hid hb1;have Hb2:=hid hb2;have Hb3:=hid hb3;have Hb4:=hid hb4;have Hrd:=hid hrd;have Hu:=hid hu;have hbz:w.heap.size+4<wr.heap.size:=lt_of_block hb4
  by_cases hlt:k2<b.values.length
  ·obtain ⟨b1,o1,cs,rfl,hsb,hb1lt,hl4,hcs,hd⟩:∃ b1 o1 cs,bv1=some ⟨b1,o1,none⟩/\S b1/\b1<w.heap.size/\cs.length=4/\CellsAt w b1 (o1+k2*4) cs/\DValD d S w b.values[k2] cs:=by
    obtain ⟨ao,cap,e,_,_,_,g4⟩:=Hbv.out;obtain ⟨b1,o1,cs,e1,e2,e3,e4,e5,e6⟩:=g4 k2 hlt;simp only [Value.slice.injEq] at e;exact ⟨b1,o1,cs,by rw [e.1];exact e1,e2,e3,e4,e5,e6⟩
   obtain ⟨p1,g1,p2,g2,p3,g3,rfl,hn,hx1,hx2,hx3,zx⟩:=val_cells hd;have q0:=hu.cell_some (hcs 0 _ rfl);have q1:=hu.cell_some (hcs 1 _ rfl);have q2:=hu.cell_some (hcs 2 _ rfl);have q3:=hu.cell_some (hcs 3 _ rfl);simp only [Nat.add_zero] at q0;obtain ⟨F,hF,hwF⟩:=Hrb3.out _ (List.getElem_mem hlt)
   have hnew:∀ x∈b.values.take k2,x.1≠b.values[k2].1:=by
    intro x hx;obtain ⟨i,hi,rfl⟩:=List.getElem_of_mem hx;rw [List.length_take] at hi;rw [List.getElem_take];have:=List.pairwise_iff_getElem.1 Hrb1.out i k2 (by omega) hlt (by omega);omega
   have Hfo:=hid (Hfind.out _ hnew);have Htk:=hid (take_snoc_fold (joinV (joinB f k) f m.fields) b.values a.values hlt);have Hsub:=hid (show ∀ x∈b.values[k2].2.2.2,UnkLe N k x from Hnb.out.2 _ (List.getElem_mem hlt));(have i0:(0:Int)<=(k2:Int):=by omega);(have i1:(k2:Int)<(b.values.length:Int):=by omega);have Hd:=hid hd;have HF:=hid hF;have HwF:=hid hwF;clear hl hris hfind hb0 hb1 hb2 hb3 hb4 hrd hu hcs hd hF hwF hnew hx1 hx2 hx3;generalize hq:b.values[k2]=q at *;obtain ⟨qn,qb,qy,qs⟩:=q;simp only at q0 q1 q2 q3 Hd hn HF HwF Hfo zx Hsub;obtain ⟨wq,rfl⟩:∃ wq:World,wq=wr:=⟨_,rfl⟩
   go_upto_region 5 with (fail)
   obtain ⟨T,hT⟩:∃ T,wq.heap.size=T:=⟨_,rfl⟩;have hbx:=blk_new wq (.cells #[.int .i64 qn,.slice p1 qb.length g1,.slice p2 qy.length g2,.slice p3 qs.length g3] 71) (g:=wq.heap.size) rfl;have hux:=(Up.refl wq).alloc (.cells #[.int .i64 qn,.slice p1 qb.length g1,.slice p2 qy.length g2,.slice p3 qs.length g3] 71);generalize hwx:wq.alloc (.cells #[.int .i64 qn,.slice p1 qb.length g1,.slice p2 qy.length g2,.slice p3 qs.length g3] 71)=wx at *;clear hwx q0 q1 q2 q3;rw [hT] at hbx ⊢;have v0:=ro0 hbx;have Hbx:=hid hbx;have Hux:=hid hux;have hTx:T<wx.heap.size:=lt_of_block hbx;have a0:wx.cell? ⟨w.heap.size+1,0,none⟩=some (.slice vva l.length vvc):=cell_of_row wx _ 0 _ _ _ (hux.blk Hb1.out);have a1:=ro1 (hux.blk Hb1.out);clear hbx hux;obtain ⟨hi,hfd⟩|⟨j,hj,hi,hfd⟩:=idxP_cases (fun z:Fld=>z.number==qn) m.fields
   ·have:=HF.out;rw [show fldN m.fields qn=none from hfd] at this;cases this
   (obtain rfl:m.fields[j]=F:=by have:=HF.out;rw [show fldN m.fields qn=some m.fields[j] from hfd] at this;exact Option.some.inj this);obtain ⟨xb,xo,rfl,hxa⟩:=fld_at Hfs.out hj;have Hxa:=hid hxa
   have Hfc:=hid (fun W (u:Up w W)=>(field_r (.string ⟨m.name.toArray⟩) (.slice (some ⟨xb,xo,none⟩) m.fields.length fc) (.slice ba m.barred.length bc) m.fields qn W ⟨_,rfl⟩ ⟨_,_,_,rfl⟩ (Hfs.out.up stable_fld u)).mono (R':=fun e w'=>e=.returned (.pointer (some ⟨xb,xo+j*6,none⟩))/\Up W w') (fun e w' h=>by
    obtain ⟨⟨p,h1,_,h3⟩,h4⟩:=h;obtain ⟨b,o,c,h5,h6,_⟩:=h3 j hj hi;simp only [Value.slice.injEq,Option.some.injEq,Addr.mk.injEq,and_true,true_and] at h5;obtain ⟨⟨rfl,rfl⟩,_⟩:=h5;exact ⟨by rw [h1,h6],h4⟩))
   clear hxa hfd hi;generalize m.fields[j]=F at *;have Hrdb:=hid (Hrd.out.keep (stable_val d) (S':=SB S w.heap.size T) (w':=wq) (fun k hs hk=>⟨rfl,by rcases hs with h|h;exact .inl h;exact .inr ⟨h,by omega⟩⟩));have Hget:=hid (find_v d (.slice vva l.length vvc) (.slice au1 a.unknown.length ac2) l qn wx (Hrdb.out.up (stable_val d) Hux.out) ⟨_,_,_,rfl⟩);(go_wp2_with fail);refine Hget.out.mono ?_;rintro e w6 ⟨y1,z1,y2,z2,y3,z3,rfl,hod,hu6⟩;clear a0 a1 v0 Hget Hrdb;have Hbx6:=hid (hu6.blk Hbx.out);have Hu6:=hid (Hux.out.trans hu6);have Hod:=hid hod;have hT6:T<w6.heap.size:=lt_of_block Hbx6.out;clear hod hu6 Hbx Hux;obtain ⟨OV,hOV⟩:∃ OV,(findV l qn).getD val0=OV:=⟨_,rfl⟩;obtain ⟨ok,hok⟩:∃ ok,(findV l qn).isSome=ok:=⟨_,rfl⟩;rw [hOV] at Hod ⊢;rw [hok];have HOV:=hid hOV;have Hok:=hid hok;clear hOV hok;obtain ⟨on,ob,oy,os⟩:=OV;simp only at Hod ⊢
   go_upto_if 33 with (fail)
   have hbo:=blk_new w6 (.cells #[.int .i64 on,.slice y1 ob.length z1,.slice y2 oy.length z2,.slice y3 os.length z3] 71) (g:=w6.heap.size) rfl;have hu7:=(Up.refl w6).alloc (.cells #[.int .i64 on,.slice y1 ob.length z1,.slice y2 oy.length z2,.slice y3 os.length z3] 71);generalize hw7:w6.alloc (.cells #[.int .i64 on,.slice y1 ob.length z1,.slice y2 oy.length z2,.slice y3 os.length z3] 71)=w7 at *;clear hw7;have Hbo:=hid hbo;have Hbx7:=hid (hu7.blk Hbx6.out);have Hu7:=hid (Hu6.out.trans hu7);have Hod7:=hid (stable_val d _ _ _ _ _ _ (Keep.upS hu7) Hod.out);have Hd7:=hid (stable_val d _ _ _ _ _ _ ((show Keep S w (SB S w.heap.size T) w from fun k hs hk=>⟨rfl,.inl ⟨hs,hk⟩⟩).trans (Keep.upS (Hu.out.trans (Hu6.out.trans hu7)))) Hd.out);obtain ⟨O,hO⟩:∃ O,w6.heap.size=O:=⟨_,rfl⟩;(have hO7:O<w7.heap.size:=by rw [←hO];exact lt_of_block hbo);(have hTO:T<O:=by omega);rw [hO] at Hbo ⊢;clear hbo hu7 Hbx6 Hu6 Hod hO
   go_cut [] (fun wc=>∃ (x:Val) (e1 e2 e3:Option Addr) (h1 h2 h3:Nat),bothV (joinB f k) f F (findV l qn) (qn,qb,qy,qs)=x/\wc.heap[T]? = some (.cells #[.int .i64 qn,.slice e1 x.2.1.length h1,.slice e2 x.2.2.1.length h2,.slice e3 x.2.2.2.length h3] 71 (0,0))/\DValD d (SA S w.heap.size) wc x [.int .i64 qn,.slice e1 x.2.1.length h1,.slice e2 x.2.2.1.length h2,.slice e3 x.2.2.2.length h3]/\Up wq wc)
   case first =>
    have Hsame:=hid (show bothV (joinB f k) f F (findV l qn) (qn,qb,qy,qs)=(qn,qb,qy,qs)->∃ (x:Val) (e1 e2 e3:Option Addr) (h1 h2 h3:Nat),bothV (joinB f k) f F (findV l qn) (qn,qb,qy,qs)=x/\w7.heap[T]? = some (.cells #[.int .i64 qn,.slice e1 x.2.1.length h1,.slice e2 x.2.2.1.length h2,.slice e3 x.2.2.2.length h3] 71 (0,0))/\DValD d (SA S w.heap.size) w7 x [.int .i64 qn,.slice e1 x.2.1.length h1,.slice e2 x.2.2.1.length h2,.slice e3 x.2.2.2.length h3]/\Up wq w7 from
     fun h=>⟨_,p1,p2,p3,g1,g2,g3,h,Hbx7.out,DVal.weak Hd7.out (fun _ h=>h.a),Hu7.out⟩)
    cases ok with
    |false =>
     (have hnone:findV l qn=none:=by have:=Hok.out;simpa using this);have Hb:=hid (show bothV (joinB f k) f F (findV l qn) (qn,qb,qy,qs)=(qn,qb,qy,qs) by rw [hnone];rfl);clear hnone;go_wp2_with fail
     go_meet
     exact Hsame.out Hb.out
    |true =>
    have hsome:findV l qn=some (on,ob,oy,os):=by
     have h1:=Hok.out;have h2:=HOV.out
     cases hf:findV l qn with
     |none=>rw [hf] at h1;cases h1
     |some o=>rw [hf] at h2;exact congrArg some h2
    have Hsome:=hid hsome;obtain rfl:on=qn:=(findV_mem hsome).2;have hmemA:(on,ob,oy,os)∈a.values:=(findV_mem (Hfo.out _ hsome)).1
    have hov:wrongVF (wrongB f k) f F (on,ob,oy,os)=0:=by
     obtain ⟨F',e1,e2⟩:=Hra3.out _ hmemA;rw [show fldN m.fields (on,ob,oy,os).1=some F from HF.out] at e1;rw [Option.some.inj e1];exact e2
    have HmA2:=hid (Hna.out.2 _ hmemA);have Hbr:=hid (fun W (u:Up w7 W)=>both_r N k d f Hih.out (SB S w.heap.size T) F (on,ob,oy,os) (on,qb,qy,qs) (.agg #[.slice (some ⟨mb,mo,none⟩) f.msgs.length mc,.slice ea f.enums.length ec]) xb (xo+j*6) y1 y2 y3 p1 p2 p3 z1 z2 z3 g1 g2 g3 W (Hfv.out.up (Hu.out.trans (Hu7.out.trans u))) (Hxa.out.up (Hu.out.trans (Hu7.out.trans u))) (Hftp.out F on HF.out) hov HwF.out rfl HmA2.out Hsub.out (stable_val d _ _ _ _ _ _ (Keep.upS u) Hod7.out) (stable_val d _ _ _ _ _ _ (Keep.upS u) Hd7.out));rw [←Hsome.out] at Hbr;clear hsome hov hmemA HmA2;generalize bothV (joinB f k) f F (findV l on) (on,qb,qy,qs)=BV at *;obtain ⟨bn,bb2,by2,bs2⟩:=BV;simp only at Hbr ⊢;have f0:=ro0 (Hu7.out.blk Hb0.out);have f1:=ro1 (Hu7.out.blk Hb0.out);have m0:=ro0 (Hu7.out.blk Hb4.out);have m1:w7.cell? ⟨w.heap.size+4,1,none⟩=some (.slice (some ⟨xb,xo,none⟩) m.fields.length fc):=cell_of_row w7 _ 1 _ _ _ (Hu7.out.blk Hb4.out);have m2:=ro2 (Hu7.out.blk Hb4.out);have o0:=ro0 Hbo.out;have o1:=ro1 Hbo.out;have o2:=ro2 Hbo.out;have o3:=ro3 Hbo.out;have t0:=ro0 Hbx7.out;have t1:=ro1 Hbx7.out;have t2:=ro2 Hbx7.out;have t3:=ro3 Hbx7.out
    go_upto_region 7 with (fail)
    have DD:=hid (fun W (u:Up w7 W)=>(⟨u.cell_some f0,u.cell_some f1,u.cell_some m0,u.cell_some m1,u.cell_some m2,u.cell_some o0,u.cell_some o1,u.cell_some o2,u.cell_some o3,u.cell_some t0,u.cell_some t1,u.cell_some t2,u.cell_some t3⟩:W.cell? ⟨w.heap.size,0,none⟩=some (.slice (some ⟨mb,mo,none⟩) f.msgs.length mc)/\W.cell? ⟨w.heap.size,1,none⟩=some (.slice ea f.enums.length ec)/\W.cell? ⟨w.heap.size+4,0,none⟩=some (.string ⟨m.name.toArray⟩)/\W.cell? ⟨w.heap.size+4,1,none⟩=some (.slice (some ⟨xb,xo,none⟩) m.fields.length fc)/\W.cell? ⟨w.heap.size+4,2,none⟩=some (.slice ba m.barred.length bc)/\W.cell? ⟨O,0,none⟩=some (.int .i64 on)/\W.cell? ⟨O,1,none⟩=some (.slice y1 ob.length z1)/\W.cell? ⟨O,2,none⟩=some (.slice y2 oy.length z2)/\W.cell? ⟨O,3,none⟩=some (.slice y3 os.length z3)/\W.cell? ⟨T,0,none⟩=some (.int .i64 on)/\W.cell? ⟨T,1,none⟩=some (.slice p1 qb.length g1)/\W.cell? ⟨T,2,none⟩=some (.slice p2 qy.length g2)/\W.cell? ⟨T,3,none⟩=some (.slice p3 qs.length g3)));refine wp_region_last (m:=8) (by kernel_rfl) (by rfl) (by kernel_rfl) (by kernel_rfl) (by kernel_rfl) (S:=fun w'=>w'.cell? ⟨w.heap.size,0,none⟩=some (.slice (some ⟨mb,mo,none⟩) f.msgs.length mc)/\w'.cell? ⟨w.heap.size,1,none⟩=some (.slice ea f.enums.length ec)/\w'.cell? ⟨w.heap.size+4,0,none⟩=some (.string ⟨m.name.toArray⟩)/\w'.cell? ⟨w.heap.size+4,1,none⟩=some (.slice (some ⟨xb,xo,none⟩) m.fields.length fc)/\w'.cell? ⟨w.heap.size+4,2,none⟩=some (.slice ba m.barred.length bc)/\w'.cell? ⟨O,0,none⟩=some (.int .i64 on)/\w'.cell? ⟨O,1,none⟩=some (.slice y1 ob.length z1)/\w'.cell? ⟨O,2,none⟩=some (.slice y2 oy.length z2)/\w'.cell? ⟨O,3,none⟩=some (.slice y3 os.length z3)/\w'.cell? ⟨T,0,none⟩=some (.int .i64 on)/\w'.cell? ⟨T,1,none⟩=some (.slice p1 qb.length g1)/\w'.cell? ⟨T,2,none⟩=some (.slice p2 qy.length g2)/\w'.cell? ⟨T,3,none⟩=some (.slice p3 qs.length g3)) ?_;have hHeld:(fun w':World=>w'.cell? ⟨w.heap.size,0,none⟩=some (.slice (some ⟨mb,mo,none⟩) f.msgs.length mc)/\w'.cell? ⟨w.heap.size,1,none⟩=some (.slice ea f.enums.length ec)/\w'.cell? ⟨w.heap.size+4,0,none⟩=some (.string ⟨m.name.toArray⟩)/\w'.cell? ⟨w.heap.size+4,1,none⟩=some (.slice (some ⟨xb,xo,none⟩) m.fields.length fc)/\w'.cell? ⟨w.heap.size+4,2,none⟩=some (.slice ba m.barred.length bc)/\w'.cell? ⟨O,0,none⟩=some (.int .i64 on)/\w'.cell? ⟨O,1,none⟩=some (.slice y1 ob.length z1)/\w'.cell? ⟨O,2,none⟩=some (.slice y2 oy.length z2)/\w'.cell? ⟨O,3,none⟩=some (.slice y3 os.length z3)/\w'.cell? ⟨T,0,none⟩=some (.int .i64 on)/\w'.cell? ⟨T,1,none⟩=some (.slice p1 qb.length g1)/\w'.cell? ⟨T,2,none⟩=some (.slice p2 qy.length g2)/\w'.cell? ⟨T,3,none⟩=some (.slice p3 qs.length g3)) w7.drew:=⟨f0,f1,m0,m1,m2,o0,o1,o2,o3,t0,t1,t2,t3⟩;change wpAnyH _ _ _ _ _ _ _ _ w7.drew;refine wtk 0 (v:=?_) rfl ?_ ?_
    rotate_left
    ·(intro w hSw;(try dsimp only at hSw);go_simp)
     try with_reducible rfl
    (try simp only [Act.put,List.setIfInBounds_toArray]);refine wtk 1 (v:=?_) rfl ?_ ?_
    rotate_left
    ·(intro w hSw;(try dsimp only at hSw);go_simp)
     try with_reducible rfl
    (try simp only [Act.put]);refine wtk 2 (v:=?_) rfl ?_ ?_
    rotate_left
    ·(intro w hSw;(try dsimp only at hSw);go_simp)
     try with_reducible rfl
    (try simp only [Act.put]);refine wtk 3 (v:=?_) rfl ?_ ?_
    rotate_left
    ·(intro w hSw;(try dsimp only at hSw);go_simp)
     try with_reducible rfl
    (try simp only [Act.put]);refine wtk 5 (v:=?_) rfl ?_ ?_
    rotate_left
    ·(intro w hSw;(try dsimp only at hSw);go_simp)
     try with_reducible rfl
    (try simp only [Act.put]);refine wtk 6 (v:=?_) rfl ?_ ?_
    rotate_left
    ·(intro w hSw;(try dsimp only at hSw);go_simp)
     try with_reducible rfl
    (try simp only [Act.put]);refine wpAnyH_ready (rs:=[4]) (by kernel_rfl) (by simp) ?_;refine AllReadyH.cons rfl (fun K hK=>?_) AllReadyH.nil;go_simp;refine (Hfc.out _ (Hu.out.trans (Hu7.out.trans (Up.refl w7).drew))).mono ?_;rintro e w8 ⟨rfl,hu8'⟩;have hu8:=((Up.refl w7).drew).trans hu8';refine hK.out _ _ (DD.out _ hu8) (fun hHeld=>?_);clear hK K hHeld;have hHeld:=DD.out _ hu8;(try simp only [Act.put,List.setIfInBounds_toArray,List.set_cons_zero,List.set_cons_succ]);refine wpAnyH_ready (rs:=[7]) (by kernel_rfl) (by simp) ?_;refine AllReadyH.cons rfl (fun K hK=>?_) AllReadyH.nil;go_simp;refine (Hbr.out _ hu8).mono ?_;rintro e w9 ⟨e1,e2,e3,h1,h2,h3,rfl,hbd,hu9'⟩;have hu9:=hu8.trans hu9';have Hbd:=hid hbd;have Hu9:=hid hu9;have Hu8:=hid hu8;refine hK.out _ _ (DD.out _ hu9) (fun hHeld=>?_);clear hK K hHeld hbd;(try simp only [Act.put,List.setIfInBounds_toArray,List.set_cons_zero,List.set_cons_succ]);refine wpAnyH_done (by kernel_rfl) ?_ _;have tf9:=roz (hu9.blk Hbx7.out);have tz9:T<w9.heap.size:=lt_of_block (hu9.blk Hbx7.out);have q0:=hu9.cell_some t0;have q1:=hu9.cell_some t1;have q2:=hu9.cell_some t2;have q3:=hu9.cell_some t3;have hT8:T<w8.heap.size:=lt_of_block (hu8.blk Hbx7.out);clear hu9 hu9' hu8 hu8' DD f0 f1 m0 m1 m2 o0 o1 o2 o3 t0 t1 t2 t3 Hbr;refine AskLast.normal (wpOp_step rfl (fun K' hK'=>?_));go_simp;refine hK' _ _ ?_;clear hK';go_wp2_with fail
    go_meet
    refine ⟨_,e1,e2,e3,h1,h2,h3,rfl,box4_all (Hu9.out.blk Hbx7.out) _ _ _ _,?_,up4 (Hu7.out.trans Hu9.out) (Nat.le_of_eq hT) _ _ _ _⟩;exact stable_val d _ _ _ _ _ _ ((keep4 (SBx.no (by omega) hT8) _ _ _ _).trans (Keep.weak (SB.sx (by omega)))) Hbd.out
   case rest =>
   obtain ⟨x,e1,e2,e3,h1,h2,h3,hbv,hbT,hdx,hux2⟩:=hcut;(have hx1:x.1=qn:=by rw [←hbv];exact bothV_num _ _ _ _ _);obtain ⟨xn,xb2,xy2,xs2⟩:=x;simp only at hx1 hbT hdx;subst hx1;have hb1:=hux2.blk Hb1.out;have hb4:=hux2.blk Hb4.out;have m0:=ro0 hb4;have m1:wc.cell? ⟨w.heap.size+4,1,none⟩=some (.slice (some ⟨xb,xo,none⟩) m.fields.length fc):=cell_of_row wc _ 1 _ _ _ hb4;have m2:=ro2 hb4;have a0:wc.cell? ⟨w.heap.size+1,0,none⟩=some (.slice vva l.length vvc):=cell_of_row wc _ 0 _ _ _ hb1;have a1:=ro1 hb1;have t0:wc.cell? ⟨T,0,none⟩=some (.int .i64 xn):=cell_of_row wc _ 0 _ _ _ hbT;have t1:wc.cell? ⟨T,1,none⟩=some (.slice e1 xb2.length h1):=cell_of_row wc _ 1 _ _ _ hbT;have t2:wc.cell? ⟨T,2,none⟩=some (.slice e2 xy2.length h2):=cell_of_row wc _ 2 _ _ _ hbT;have t3:wc.cell? ⟨T,3,none⟩=some (.slice e3 xs2.length h3):=cell_of_row wc _ 3 _ _ _ hbT;have hset:=setr_v d (.string ⟨m.name.toArray⟩) (.slice (some ⟨xb,xo,none⟩) m.fields.length fc) (.slice ba m.barred.length bc) (.slice vva l.length vvc) (.slice au1 a.unknown.length ac2) m.fields l (xn,xb2,xy2,xs2) F e1 e2 e3 h1 h2 h3 wc ⟨_,rfl⟩ ⟨_,_,_,rfl⟩ ⟨_,_,_,rfl⟩ (Hfs.out.up stable_fld (Hu.out.trans hux2)) (Hrd.out.up (stable_val d) hux2) Hris.out (by omega) HF.out Hch.out hdx;have Hset:=hid hset;have Hb1c:=hid hb1;have Hux2:=hid hux2;have Hbv':=hid hbv;have hTc:T<wc.heap.size:=lt_of_block hbT;clear hset hb1 hb4 hux2 hbT hdx hbv;(go_wp2_with fail);refine Hset.out.mono ?_;rintro e w8 ⟨vv',rfl,hrd8,hu8⟩;obtain ⟨v8a,v8c,rfl,_,_⟩:=hrd8.val;have Hrd8:=hid hrd8;have Hu8:=hid (Hux2.out.trans hu8);have Hb18:=hid (hu8.blk Hb1c.out);have r0:w8.cell? ⟨w.heap.size+1,0,none⟩=some (.slice vva l.length vvc):=cell_of_row w8 _ 0 _ _ _ Hb18.out;have r1:=ro1 Hb18.out;have rf':∀ o,w8.frozen? ⟨w.heap.size+1,o,none⟩=false:=fun o=>frozen_of_row w8 _ o _ _ Hb18.out;have hw8:=hu8.size;have hz18:w.heap.size+1<w8.heap.size:=lt_of_block Hb18.out;clear m0 m1 m2 a0 a1 t0 t1 t2 t3 hrd8 hu8 Hset;go_wp2_with fail
   have hcall:setV m.fields l (xn,xb2,xy2,xs2)=joinV (joinB f k) f m.fields l (xn,qb,qy,qs):=by
    unfold joinV;rw [show fldN m.fields (xn,qb,qy,qs).1=some F from HF.out];simp only;rw [Hbv'.out]
   have hxf:fldN m.fields (xn,xb2,xy2,xs2).1=some F:=HF.out
   have hnS:¬ Sx (SA S w.heap.size) wc (w.heap.size+1):=by
    rintro (h|h)
    ·rcases h with ⟨_,h⟩|h <;> omega
    ·omega
   go_roundw
   case rel =>
    refine ⟨k2+1,setV m.fields l (xn,xb2,xy2,xs2),_,by omega,by go_num,?_,rising_set Hris.out _,?_,?_,?_,box2_set Hb18.out _ _,?_,?_,?_,?_,?_⟩
    ·rw [Htk.out,Hl.out,hcall]
    ·have:=set_len m.fields l (xn,xb2,xy2,xs2);omega
    ·intro n hn o ho;have hn1:n≠(xn,xb2,xy2,xs2).1:=fun e=>hn (xn,qb,qy,qs) (by rw [List.take_succ_eq_append_getElem hlt,hq];simp) e.symm;rw [find_set Hris.out hxf,if_neg hn1] at ho;split at ho
     ·exact Hfind.out n (fun y hy=>hn y (by rw [List.take_succ_eq_append_getElem hlt];exact List.mem_append_left _ hy)) o ho
     ·cases ho
    ·rw [box2_other (by omega)];exact Hu8.out.blk Hb0.out
    ·rw [box2_other (by omega)];exact Hu8.out.blk Hb2.out
    ·rw [box2_other (by omega)];exact Hu8.out.blk Hb3.out
    ·rw [box2_other (by omega)];exact Hu8.out.blk Hb4.out
    ·exact ((Hrd8.out.keep (stable_val d) (Keep.setCell (p:=⟨w.heap.size+1,0,none⟩) hnS _)).keep (stable_val d) (Keep.setCell (p:=⟨w.heap.size+1,1,none⟩) hnS _)).keep (stable_val d) (Keep.weak (SA.sx (by omega)))
    ·exact Up.setCell (Up.setCell (Hu.out.trans Hu8.out) (by simp) _) (by simp) _
   case measure=>simp [intOf];omega
  ·(have hk2':k2=b.values.length:=by omega);(have hfl:b.values.foldl (joinV (joinB f k) f m.fields) a.values=l:=by rw [←hl,hk2',List.take_length]);have Hfl:=hid hfl;have hkw:Keep S w (SO S w.heap.size) wr:=fun k hs hk=>⟨hu.block k hk,hs,hk⟩;have Hua:=hid (Hau.out.keep stable_recz hkw);have Hub:=hid (Hbu.out.keep stable_recz hkw);(have hnS1:¬ SA S w.heap.size (w.heap.size+1):=by rintro (⟨_,h⟩|h) <;> omega);(have hnS3:¬ SA S w.heap.size (w.heap.size+1+1+1):=by rintro (⟨_,h⟩|h) <;> omega);have hzo:w.heap.size+4<wr.heap.size:=hbz;obtain ⟨wo,rfl⟩:∃ wo:World,wo=wr:=⟨_,rfl⟩;clear hl hris hfind hb0 hb1 hb2 hb3 hb4 hrd hu hkw hfl;have Hb1V:=Hb2
   go_upto_region 10 with (fail)
   obtain ⟨_,nx,cx,lx,ex,fx,gx⟩:=RdS.css (by decide) (Hua.out.keep stable_recz (S':=fun k=>SO S w.heap.size k/\k<wo.heap.size) (fun k hs hk=>⟨rfl,hs,hk⟩));obtain ⟨_,ny,cy,ly,ey,fy,gy⟩:=RdS.css (by decide) (Hub.out.keep stable_recz (S':=fun k=>SO S w.heap.size k/\k<wo.heap.size) (fun k hs hk=>⟨rfl,hs,hk⟩));have onx:=ones_of (D:=DRecZ) (S:=fun k=>SO S w.heap.size k/\k<wo.heap.size) (w:=wo) (l:=a.unknown) (size:=4) one_recz lx ex;have ony:=ones_of (D:=DRecZ) (S:=fun k=>SO S w.heap.size k/\k<wo.heap.size) (w:=wo) (l:=b.unknown) (size:=4) one_recz ly ey;have Hnx:=hid nx;have Hlx:=hid lx;have Hex:=hid ex;have Hfx:=hid fx;have Hgx:=hid gx;have Hny:=hid ny;have Hly:=hid ly;have Hey:=hid ey;have Hfy:=hid fy;have Hgy:=hid gy;have Honx:=hid onx;have Hony:=hid ony;clear nx lx ex fx gx ny ly ey fy gy onx ony;have ddA:=ro1 Hb1.out;have ddV:=ro1 Hb1V.out;have DD:=hid (fun Wd (u:Up wo Wd)=>(⟨u.cell_some ddA,u.cell_some ddV⟩:Wd.cell? ⟨w.heap.size+1,1,none⟩=some (.slice au1 a.unknown.length ac2)/\Wd.cell? ⟨w.heap.size+1+1,1,none⟩=some (.slice bu1 b.unknown.length bc2)));refine wp_region_last (m:=8) (by kernel_rfl) (by rfl) (by kernel_rfl) (by kernel_rfl) (by kernel_rfl) (S:=fun w'=>w'.cell? ⟨w.heap.size+1,1,none⟩=some (.slice au1 a.unknown.length ac2)/\w'.cell? ⟨w.heap.size+1+1,1,none⟩=some (.slice bu1 b.unknown.length bc2)) ?_;have hHeld:(fun w':World=>w'.cell? ⟨w.heap.size+1,1,none⟩=some (.slice au1 a.unknown.length ac2)/\w'.cell? ⟨w.heap.size+1+1,1,none⟩=some (.slice bu1 b.unknown.length bc2)) wo.drew:=⟨ddA,ddV⟩;change wpAnyH _ _ _ _ _ _ _ _ wo.drew;clear ddA ddV;refine wtk 1 (v:=?_) rfl ?_ ?_
   rotate_left
   ·(intro w hSw;(try dsimp only at hSw);go_simp)
    try with_reducible rfl
   (try simp only [Act.put,List.setIfInBounds_toArray]);refine wtk 2 (v:=?_) rfl ?_ ?_
   rotate_left
   ·(intro w hSw;(try dsimp only at hSw);go_simp)
    try with_reducible rfl
   (try simp only [Act.put]);refine wtk 4 (v:=?_) rfl ?_ ?_
   rotate_left
   ·(intro w hSw;(try dsimp only at hSw);go_simp)
    try with_reducible rfl
   (try simp only [Act.put]);refine wtk 5 (v:=?_) rfl ?_ ?_
   rotate_left
   ·(intro w hSw;(try dsimp only at hSw);go_simp)
    try with_reducible rfl
   (try simp only [Act.put]);refine wpAnyH_ready (rs:=[0]) (by kernel_rfl) (by simp) ?_;refine AllReadyH.cons rfl (fun K hK=>?_) AllReadyH.nil;go_simp;refine hK.out _ _ (DD.out _ (((Up.refl wo).drew).alloc _)) (fun hHeld=>?_);clear hK K;try simp only [Act.put,List.setIfInBounds_toArray,List.set_cons_zero,List.set_cons_succ]
   have how0:(wo.drew.alloc (.cells #[] 87)).ownsRow wo.heap.size 87 4 (.slice (some ⟨wo.heap.size,0,none⟩) 0 0) 0 []:=by
    have:=World.ownsRow_lit (e:=87) (size:=4) wo.drew #[] 0 (Nat.le_refl _) (by unfold maxLen;omega) (by simp);simpa using this
   refine wpAnyH_ready (rs:=[3]) (by kernel_rfl) (by simp) ?_;refine AllReadyH.cons rfl (fun K hK=>?_) AllReadyH.nil;refine step_app eRec' _ (by rfl) _ _ (by rfl) wo.heap.size _ 0 [] (by rfl) how0 au1 a.unknown.length ac2 (by rfl) cx.flatten Hfx.out Hnx.out (fun ad h j u hu=>(((Up.refl wo).drew).alloc (.cells #[] 87)).cell_some (Hgx.out ad h j u hu)) Honx.out (by have:=Hau'.out;have:=Hbu'.out;omega) (by unfold maxLen;have:=Hau'.out;have:=Hbu'.out;omega) (by simp) ?_;intro v9a w9a how9a hev9a;have hu9a:=Up.evo (((Up.refl wo).drew).alloc (.cells #[] 87)) hev9a (fun j hj=>by simp [Value.ownBlock] at hj;subst hj;exact Nat.le_refl _);simp only [Nat.zero_add,List.nil_append] at how9a;obtain ⟨s9a,n9a,rfl⟩:=own_val how9a;refine hK.out _ _ (DD.out _ hu9a) (fun hHeld=>?_);clear hK K;(try simp only [Act.put,List.setIfInBounds_toArray]);have hz9a:=hu9a.size;refine wpAnyH_ready (rs:=[6]) (by kernel_rfl) (by simp) ?_;refine AllReadyH.cons rfl (fun K hK=>?_) AllReadyH.nil;refine step_app eRec' _ (by rfl) _ _ (by rfl) wo.heap.size _ a.unknown.length cx.flatten (by rfl) how9a bu1 b.unknown.length bc2 (by rfl) cy.flatten Hfy.out Hny.out (fun ad h j u hu=>hu9a.cell_some (Hgy.out ad h j u hu)) Hony.out (by have:=Hau'.out;have:=Hbu'.out;omega) (by unfold maxLen;have:=Hau'.out;have:=Hbu'.out;omega) hz9a ?_;intro v9b w9b how9b hev9b;have hu9b:=Up.evo hu9a hev9b (fun j hj=>(how9a.lt j hj).1);have hj9:=rdS_joinS stable_recz hu9b Hlx.out Hex.out Hly.out Hey.out how9b;obtain ⟨s9b,n9b,rfl⟩:=own_val how9b;refine hK.out _ _ (DD.out _ hu9b) (fun hHeld=>?_);clear hK K;(try simp only [Act.put]);refine wtk 7 (v:=?_) rfl ?_ ?_
   rotate_left
   ·(intro w hSw;(try dsimp only at hSw);go_simp)
    try with_reducible rfl
   (try simp only [Act.put]);refine wpAnyH_done (by kernel_rfl) ?_ _;have Hj9:=hid hj9;have Hu9b:=hid hu9b;have rA9:=(DD.out _ hu9b).1;have rF9:=frozen_of_row w9b (w.heap.size+1) 1 _ _ (hu9b.blk Hb1.out);have rZ9:w.heap.size+1<w9b.heap.size:=lt_of_block (hu9b.blk Hb1.out);clear how9a how9b hev9a hev9b hu9a hu9b hj9 hz9a how0 hHeld DD Hnx Hlx Hex Hfx Hgx Hny Hly Hey Hfy Hgy Honx Hony;refine AskLast.normal (wpOp_step rfl (fun K' hK'=>?_));go_simp;refine hK' _ _ ?_;clear hK'
   go_upto_region 11 with (fail)
   have hbA:=heap_setCell_same w9b (w.heap.size+1) 1 _ _ (.slice s9b (a.unknown.length+b.unknown.length) n9b) (Hu9b.out.blk Hb1.out);have hbR:=(heap_setCell_other w9b ⟨w.heap.size+1,1,none⟩ (w.heap.size+1+1+1) (.slice s9b (a.unknown.length+b.unknown.length) n9b) (show w.heap.size+1+1+1≠w.heap.size+1 by omega)).trans (Hu9b.out.blk Hb3.out);have huz:=Up.setCell (Hu.out.trans Hu9b.out) (p:=⟨w.heap.size+1,1,none⟩) (show w.heap.size<=w.heap.size+1 by omega) (.slice s9b (a.unknown.length+b.unknown.length) n9b);have Hcat:=hid ((Hj9.out.keep stable_recz (Keep.weak (S':=SA S w.heap.size) (fun b h=>by rcases h with h|h;exact .inl h;exact .inr (by omega)))).keep stable_recz (Keep.setCell (p:=⟨w.heap.size+1,1,none⟩) hnS1 (.slice s9b (a.unknown.length+b.unknown.length) n9b)));have Hrd9:=hid ((Hrd.out.up (stable_val d) Hu9b.out).keep (stable_val d) (Keep.setCell (p:=⟨w.heap.size+1,1,none⟩) hnS1 (.slice s9b (a.unknown.length+b.unknown.length) n9b)));simp only [Array.setIfInBounds] at hbA;generalize w9b.setCell ⟨w.heap.size+1,1,none⟩ (.slice s9b (a.unknown.length+b.unknown.length) n9b)=wz at *;have c0:wz.cell? ⟨w.heap.size+1,0,none⟩=some (.slice vva l.length vvc):=cell_of_row wz _ 0 _ _ _ hbA;have c1:wz.cell? ⟨w.heap.size+1,1,none⟩=some (.slice s9b (a.unknown.length+b.unknown.length) n9b):=cell_of_row wz _ 1 _ _ _ hbA;have r0:=ro0 hbR;have r1:=ro1 hbR;have rf':∀ o,wz.frozen? ⟨w.heap.size+1+1+1,o,none⟩=false:=fun o=>frozen_of_row wz _ o _ _ hbR;have rz:w.heap.size+1+1+1<wz.heap.size:=lt_of_block hbR;have Huz:=hid huz;clear hbA hbR huz rA9 rF9 rZ9;(go_wp2_with fail);refine bodyPost_ret (v:=.agg #[.slice vva l.length vvc,.slice s9b (a.unknown.length+b.unknown.length) n9b]) (by simp [results,Tryz.results111,go_sem,r0,r1]) rfl ?_
   have hsx:∀ b,SA S w.heap.size b->Sx S w b:=fun b h=>by
    rcases h with ⟨h,_⟩|h
    ·exact .inl h
    ·exact .inr (by omega)
   have k3:Keep (SA S w.heap.size) wz (SA S w.heap.size) ((wz.setCell ⟨w.heap.size+1+1+1,0,none⟩ (.slice vva l.length vvc)).setCell ⟨w.heap.size+1+1+1,1,none⟩ (.slice s9b (a.unknown.length+b.unknown.length) n9b)):=(Keep.setCell (p:=⟨w.heap.size+1+1+1,0,none⟩) hnS3 _).trans (Keep.setCell (p:=⟨w.heap.size+1+1+1,1,none⟩) hnS3 _);refine ⟨_,_,rfl,⟨_,_,rfl,?_,?_,?_⟩,Up.setCell (Up.setCell Huz.out (p:=⟨w.heap.size+1+1+1,0,none⟩) (show w.heap.size<=w.heap.size+1+1+1 by omega) _) (p:=⟨w.heap.size+1+1+1,1,none⟩) (show w.heap.size<=w.heap.size+1+1+1 by omega) _⟩
   ·show RdS (DValD d) 4 _ _ _ (b.values.foldl (joinV (joinB f k) f m.fields) a.values);rw [Hfl.out];exact (Hrd9.out.keep (stable_val d) k3).keep (stable_val d) (Keep.weak hsx)
   ·show RdS DRecZ 4 _ _ _ (a.unknown++b.unknown);exact (Hcat.out.keep stable_recz k3).keep stable_recz (Keep.weak hsx)
   ·unfold BodSz;show (b.values.foldl (joinV (joinB f k) f m.fields) a.values).length*80<=_/\(a.unknown++b.unknown).length*48<=_;rw [Hfl.out,List.length_append];have:=Hau'.out;have:=Hbu'.out;omega
theorem plus_c (N:Nat) (hN:N*2*48<=140737488355328) (f:Fil) (hright:(wrongN f).1=0):∀ k,PlusC N k f:=by
 intro k
 induction k with
 |zero=>exact fun d S msg a b fv va ua vb ub w _ _ _ _ _ hwa=>by cases hwa
 |succ k ih=>exact plus_step N k hN f ih hright
end Go.Proofs.YtbceccblepckhaaGreatDoor
