/-
  pressref3.Records.
-/
import Derived.Test.YtbceccblepckhaaGreatDoorCt30
set_option maxHeartbeats 25600000
set_option linter.unusedVariables false
namespace Go.Proofs.YtbceccblepckhaaGreatDoor
open Go.RowKit
set_option maxRecDepth 100000
open Lib (hid)
abbrev RecsC (k:Nat) (f:Fil):Prop:=∀ (d:Nat) (msg:Int) (b:Bod) (fv vv vu:Value) (w:World),0<=msg->msg<f.msgs.length->FilV All w fv f->DBodF d All w b [vv,vu]->wrongB f k msg b=0->(rawB f k msg b).length<=1099511627776 ->
 Calls Tryz.prog 19 #[fv,.int .i64 msg,.agg #[vv,vu]] w fun e w'=>∃ v',e=.returned v'/\RdS DRec 4 All w' v' (recsB f k msg b)/\Up w w'
theorem recs_len : ∀ {l:List Rec},l.length<=(l.flatMap oneB).length
 |[]=>by simp
 |r::l=>by
  rw [List.flatMap_cons,List.length_append,List.length_cons];have:=oneB_pos r;have:=recs_len (l:=l);omega
theorem slice_fr {S:Nat->Prop} {w:World} {ao:Option Addr} {cap:Nat} {l:List UInt8} (h:RdB S w (.slice ao l.length cap) l) (lo:Nat) (a:Int) (hn:lo<=l.length) (ea:a=lo) :
  ∃ a2 c2,(∀ wx,(Instr.slice 30 (.slice ao l.length cap) (some (.int .i64 a)) none none).run Tryz.prog wx=.ok (.slice a2 (l.length - lo) c2) wx)/\RdB S w (.slice a2 (l.length - lo) c2) (l.drop lo):=by
 subst ea;obtain ⟨ao',cap',e,hc,hm,_⟩:=id h;simp only [Value.slice.injEq] at e;obtain ⟨rfl,_,rfl⟩:=e;refine ⟨if cap=lo then ao else ao.map (·.add lo),cap - lo,fun wx=>?_,RdB.drop h lo (by omega) (fun h=>by rw [if_neg h]) rfl rfl⟩;(have ht:Tryz.prog.underlying 30=some (.slice (Tryz.prog.elem 30)):=by kernel_rfl);(have hz:((sizeOf (Tryz.prog.elem 30)).run Tryz.prog wx)=.ok 1 wx:=by kernel_rfl);rw [run_slice_l (P:=Tryz.prog) wx 30 ao l.length cap ht .i64 (lo:Int) (by omega) (by omega),hz];show Result.ok _ _=_;unfold sliced;rw [Int.toNat_natCast,Nat.mul_one]
theorem own_ne2 {base base2 n m:Nat} {w:World} {v u:Value} {l l2:List Value} (h:w.ownsRow base 5 1 v n l) (h2:w.ownsRow base2 87 4 u m l2):∀ q,v.ownBlock=some q->u.ownBlock≠some q:=by
 intro q hq e;rcases h2.2 with ⟨rfl,_⟩|⟨g',cap',cur,rfl,_,hg',_⟩
 ·cases e
 ·simp only [Value.ownBlock,Option.some.injEq] at e;subst e;exact own_ne h hg' (by decide) hq
theorem own_neR {base g n:Nat} {w:World} {v:Value} {l:List Value} {cs:Array Value} {t:TypeId} (h:w.ownsRow base 87 4 v n l) (hg:w.heap[g]? = some (.cells cs t (0,0))) (ht:t≠87):v.ownBlock≠some g:=fun e=>by
 rcases h.2 with ⟨rfl,_⟩|⟨g',cap',cur,rfl,_,hg',_⟩
 ·cases e
 ·simp only [Value.ownBlock,Option.some.injEq] at e;subst e;rw [hg] at hg';simp only [Option.some.injEq,Obj.cells.injEq] at hg';exact ht hg'.2.1
theorem recs_okS {f:Fil} (hright:(wrongN f).1=0) {k:Nat} {msg:Int} {b:Bod} (hb:wrongB f k msg b=0) (h64:B64 k b) {M:Nat} (hM:(rawB f k msg b).length<=M) (h4:M<=1099511627776):∀ r∈recsB f k msg b,OkR r:=by
 obtain ⟨k',m,rfl,hm,_⟩:=wrongB_zero hb;exact (recs_okR hright hm hb h64 hM h4).1
theorem records_step (k:Nat) (f:Fil) (hright:(wrongN f).1=0) (ih:RecsC k f):RecsC (k+1) f:=by
 intro d msg b fv vv vu w hm0 hm1 hfv hdb hwb hraw
 cases d with
 |zero=>exact hdb.elim
 |succ d =>
 have h64:=b64_of (d+1) hdb (k+1);obtain ⟨bv1,bc1,bu1,bc2,rfl,rfl,hbv,hbu,hbz⟩:=bod_cells hdb;obtain ⟨mi,rfl⟩:∃ mi:Nat,msg=mi:=⟨msg.toNat,by omega⟩;(have hmi:mi<f.msgs.length:=by omega);(have hm:f.msgs[(mi:Int).toNat]? = some f.msgs[mi]:=by rw [Int.toNat_natCast,List.getElem?_eq_getElem hmi]);have hmr:=right_msg hright f.msgs[mi] (List.getElem_mem hmi);have hch:∀ z∈f.msgs[mi].fields,0<=z.choice:=fun z hz=>(choice_16 hmr hz).1;obtain ⟨hall,hunk⟩:=(wrongB_is hm hch b).1 hwb;have hty:=field_typed hmr;have hokr:=recs_okR hright hm hwb h64 hraw (Nat.le_refl _);obtain ⟨RES,hRES⟩:∃ RES,recsB f (k+1) (mi:Int) b=RES:=⟨_,rfl⟩;rw [raw_succ hm,List.length_append] at hraw;rw [hRES];rw [recsB_succ hm] at hRES;obtain ⟨vm,ve,rfl,hm',he''⟩:=id hfv;obtain ⟨ma,mc,rfl,_,_⟩:=hm'.val;obtain ⟨ea,ec,rfl,_,_⟩:=he''.val;obtain ⟨mb,mo,cs,rfl,_,_,hcs,hd⟩:=hm'.at hmi;obtain ⟨vf,vb,hd,hfs,hbs,hnm⟩:=hd;subst hd;obtain ⟨fa,fc,rfl,_,_⟩:=hfs.val;obtain ⟨ba,bc,rfl,_,_⟩:=hbs.val;have s0:=hcs 0 _ rfl;have s1:=hcs 1 _ rfl;have s2:=hcs 2 _ rfl;simp only [Nat.add_zero] at s0;(have hbvl:b.values.length<=1759218604441:=by have:=hbz.1;omega);have HRES:=hid hRES;have Hfv:=hid hfv;have Hfs:=hid hfs;have Hbv:=hid hbv;have Hbu:=hid hbu;have Hall:=hid hall;have Hty:=hid hty;have Hih:=hid ih;have Hright:=hid hright;have H64:=hid h64;have Hsub:=hid hokr.2;have Hraw:=hid hraw;have Hms:=hid (⟨s0,s1,s2⟩:w.cell? ⟨mb,mo+mi*3,none⟩=some (.string ⟨f.msgs[mi].name.toArray⟩)/\w.cell? ⟨mb,mo+mi*3+1,none⟩=some (.slice fa f.msgs[mi].fields.length fc)/\w.cell? ⟨mb,mo+mi*3+2,none⟩=some (.slice ba f.msgs[mi].barred.length bc));clear hRES hfv hfs hbv hbu hall hty ih hright h64 hokr hraw hunk hch hmr hm hwb hdb hcs hm' he'' s0 s1 s2 hnm hbz;(have hm2:(mi:Int)<(f.msgs.length:Int):=by omega);generalize f.msgs[mi]=m at *
 go_enter Tryz.func19,Tryz.ntmps19
 go_upto_region 1 with (fail)
 generalize hW:(w.alloc (.cells #[.slice (some ⟨mb,mo,none⟩) f.msgs.length mc,.slice ea f.enums.length ec] 25)).alloc (.cells #[.slice bv1 b.values.length bc1,.slice bu1 b.unknown.length bc2] 29)=w1;(have hb0:w1.heap[w.heap.size]? = some (.cells #[.slice (some ⟨mb,mo,none⟩) f.msgs.length mc,.slice ea f.enums.length ec] 25 (0,0)):=by rw [←hW];exact blk_old _ (blk_new w _ rfl));(have hb1:w1.heap[w.heap.size+1]? = some (.cells #[.slice bv1 b.values.length bc1,.slice bu1 b.unknown.length bc2] 29 (0,0)):=by rw [←hW];exact blk_new (w.alloc _) _ (by simp));(have hu1:Up w w1:=by rw [←hW];exact ((Up.refl w).alloc _).alloc _);(have hz1:w1.heap.size=w.heap.size+2:=by rw [←hW];simp);clear hW;have l0:=ro0 hb1;have Hb0:=hid hb0;have Hb1:=hid hb1;have Hu1:=hid hu1;have Hz1:=hid hz1;clear hb0 hb1 hu1 hz1;(go_wp2_with fail);clear l0
 go_loopw [7,22] (fun ov i wr=>∃ j:Nat,j<=b.values.length/\i=.int .i64 j/\OwnS DRec (w.heap.size+2) 87 4 All wr ov (valsRecs (fun x s=>rawB f k (msgI f x.type) s) m.fields (b.values.take j)) /\
   wr.heap[w.heap.size]? = some (.cells #[.slice (some ⟨mb,mo,none⟩) f.msgs.length mc,.slice ea f.enums.length ec] 25 (0,0))/\wr.heap[w.heap.size+1]? = some (.cells #[.slice bv1 b.values.length bc1,.slice bu1 b.unknown.length bc2] 29 (0,0))/\Up w wr)
  (fun _ i _=>b.values.length - (intOf i).toNat)
 case atStart=>exact ⟨0,by omega,rfl,OwnS.nil _ _ _ _ _ _,Hb0.out,Hb1.out,Hu1.out⟩
 case round =>
  clear Hb0 Hb1 Hu1;obtain ⟨j,hj,rfl,how,hb0,hb1,hu⟩:=hrel;have How:=hid how;have Hb0:=hid hb0;have Hb1:=hid hb1;have Hu:=hid hu;have Hwz:=hid (show w.heap.size+2<=wr.heap.size by have:=lt_of_block hb1;omega);clear how hb0 hb1 hu
  by_cases hlt:j<b.values.length
  ·obtain ⟨b1,o1,cs,rfl,hb1lt,hl4,hcs,hd⟩:∃ b1 o1 cs,bv1=some ⟨b1,o1,none⟩/\b1<w.heap.size/\cs.length=4/\CellsAt w b1 (o1+j*4) cs/\DValD d All w b.values[j] cs:=by
    obtain ⟨ao,cap,e,_,_,_,g4⟩:=Hbv.out;obtain ⟨b1,o1,cs,e1,e2,e3,e4,e5,e6⟩:=g4 j hlt;simp only [Value.slice.injEq] at e;exact ⟨b1,o1,cs,by rw [e.1];exact e1,e3,e4,e5,e6⟩
   obtain ⟨p1,g1,p2,g2,p3,g3,rfl,hn,hx1,hx2,hx3,zx⟩:=val_cells hd;have q0:=Hu.out.cell_some (hcs 0 _ rfl);have q1:=Hu.out.cell_some (hcs 1 _ rfl);have q2:=Hu.out.cell_some (hcs 2 _ rfl);have q3:=Hu.out.cell_some (hcs 3 _ rfl);simp only [Nat.add_zero] at q0;obtain ⟨F,hF,hwF⟩:=Hall.out.fld _ (List.getElem_mem hlt);have hfit:=(wrongVF_iff.1 hwF);have h60:=count_sum hfit.1.cnt;have h61:=hfit.2.1;have htyF:=Hty.out F (fldN_mem hF).1;have Hpart:=hid (valRecs_parts (sub:=fun s=>rawB f k (msgI f F.type) s) htyF hfit.1)
   have Htk:=hid (show valsRecs (fun x s=>rawB f k (msgI f x.type) s) m.fields (b.values.take (j+1))=valsRecs (fun x s=>rawB f k (msgI f x.type) s) m.fields (b.values.take j)++valRecs (fun s=>rawB f k (msgI f F.type) s) F b.values[j] by
    unfold valsRecs;rw [List.take_succ_eq_append_getElem hlt,List.flatMap_append,List.flatMap_singleton,hF])
   have Hhow3:=hid (show 0<b.values[j].2.1.length->howC F.kind≠2 from fun h e=>by
    have ht:=typed_facts htyF;rcases fit_shape hfit.1 ht.1 ht.2.1 with ⟨g,_⟩|⟨_,_,e,_⟩|⟨_,_,e,_⟩
    ·exact g e
    ·rw [e] at h;simp at h
    ·rw [e] at h;simp at h)
   have Hk10:=hid (show 0<b.values[j].2.2.2.length->0<=msgI f F.type from fun h=>by
    have ht:=typed_facts htyF;rcases fit_shape hfit.1 ht.1 ht.2.1 with ⟨_,_,e,_⟩|⟨_,_,e,_⟩|⟨_,g,_⟩
    ·rw [e] at h;simp at h
    ·rw [e] at h;simp at h
    ·exact ht.2.2.1 g)
   have Hsv:=hid (Hsub.out _ (List.getElem_mem hlt) F hF);have Hws:=hid (hfit.1.subs);have H6v:=hid (H64.out.1 _ (List.getElem_mem hlt)).1
   have hL0:(valsRecs (fun x s=>rawB f k (msgI f x.type) s) m.fields (b.values.take j)).length<=1099511627776:=by
    refine Nat.le_trans recs_len (Nat.le_trans ?_ (Nat.le_trans (Nat.le_add_right _ _) Hraw.out));unfold valsRecs;rw [List.flatMap_assoc,List.flatMap_assoc];exact flat_le _ _ _
   (have i0:(0:Int)<=(j:Int):=by omega);(have i1:(j:Int)<(b.values.length:Int):=by omega);have Hd:=hid hd;have HF:=hid hF;have Hlt:=hid hlt;clear hcs hd hwF hfit Hsub hl4 hb1lt;generalize hq:b.values[j]=q at *;clear hq;obtain ⟨qn,qb,qy,qs⟩:=q;simp only at q0 q1 q2 q3 Hd hn HF zx Hpart h60 Hsv Hws H6v hx1 hx2 hx3 Hhow3 Hk10;(have hq1:qb.length<=60:=by omega);(have hq2:qy.length<=60:=by omega);(have hq3:qs.length<=60:=by omega);clear h60 h61 zx;generalize hL:valsRecs (fun x s=>rawB f k (msgI f x.type) s) m.fields (b.values.take j)=L0 at *;clear hL;have Hx1:=hid hx1;have Hx2:=hid (hx2.lt stable_bytes);have Hx3:=hid hx3;clear hx1 hx2 hx3;obtain ⟨hi,hfd⟩|⟨jj,hjj,hi,hfd⟩:=idxP_cases (fun z:Fld=>z.number==qn) m.fields
   ·have:=HF.out;rw [show fldN m.fields qn=none from hfd] at this;cases this
   (obtain rfl:m.fields[jj]=F:=by have:=HF.out;rw [show fldN m.fields qn=some m.fields[jj] from hfd] at this;exact Option.some.inj this);obtain ⟨xb,xo,rfl,hxa⟩:=fld_at Hfs.out hjj;have Hxa:=hid hxa
   have Hfc:=hid (fun W (u:Up w W)=>(field_r (.string ⟨m.name.toArray⟩) (.slice (some ⟨xb,xo,none⟩) m.fields.length fc) (.slice ba m.barred.length bc) m.fields qn W ⟨_,rfl⟩ ⟨_,_,_,rfl⟩ (Hfs.out.up stable_fld u)).mono (R':=fun e w'=>e=.returned (.pointer (some ⟨xb,xo+jj*6,none⟩))/\Up W w') (fun e w' h=>by
    obtain ⟨⟨p,h1,_,h3⟩,h4⟩:=h;obtain ⟨b,o,c,h5,h6,_⟩:=h3 jj hjj hi;simp only [Value.slice.injEq,Option.some.injEq,Addr.mk.injEq,and_true,true_and] at h5;obtain ⟨⟨rfl,rfl⟩,_⟩:=h5;exact ⟨by rw [h1,h6],h4⟩))
   have Hnum:=hid (show m.fields[jj].number=qn from (fldN_mem HF.out).2);clear hxa hfd hi HF;generalize m.fields[jj]=F at *;generalize xo+jj*6=XO at *;obtain ⟨wq,rfl⟩:∃ wq:World,wq=wr:=⟨_,rfl⟩;obtain ⟨T,hT⟩:∃ T,wq.heap.size=T:=⟨_,rfl⟩;have HT:=hid hT
   go_upto_region 5 with (fail)
   have hbx:=blk_new wq (.cells #[.int .i64 qn,.slice p1 qb.length g1,.slice p2 qy.length g2,.slice p3 qs.length g3] 71) (g:=wq.heap.size) rfl;have hux:=(Up.refl wq).alloc (.cells #[.int .i64 qn,.slice p1 qb.length g1,.slice p2 qy.length g2,.slice p3 qs.length g3] 71);generalize hwx:wq.alloc (.cells #[.int .i64 qn,.slice p1 qb.length g1,.slice p2 qy.length g2,.slice p3 qs.length g3] 71)=wx at *;clear hwx q0 q1 q2 q3;rw [hT] at hbx;have v0:=ro0 hbx;have f0:=ro0 (hux.blk Hb0.out);have s0:=(Hu.out.trans hux).cell_some Hms.out.1;have s1:=(Hu.out.trans hux).cell_some Hms.out.2.1;have s2:=(Hu.out.trans hux).cell_some Hms.out.2.2;have Hbx:=hid hbx;have Hux:=hid hux;clear hbx hux hT;have dd:wx.drew.cell? ⟨T,0,none⟩=some (.int .i64 qn)/\wx.drew.cell? ⟨w.heap.size,0,none⟩=some (.slice (some ⟨mb,mo,none⟩) f.msgs.length mc)/\wx.drew.cell? ⟨mb,mo+mi*3,none⟩=some (.string ⟨m.name.toArray⟩)/\wx.drew.cell? ⟨mb,mo+mi*3+1,none⟩=some (.slice (some ⟨xb,xo,none⟩) m.fields.length fc)/\wx.drew.cell? ⟨mb,mo+mi*3+2,none⟩=some (.slice ba m.barred.length bc):=⟨v0,f0,s0,s1,s2⟩;have DD:=hid (fun W (u:Up wx W)=>(⟨u.cell_some v0,u.cell_some f0,u.cell_some s0,u.cell_some s1,u.cell_some s2⟩:W.cell? ⟨T,0,none⟩=some (.int .i64 qn)/\W.cell? ⟨w.heap.size,0,none⟩=some (.slice (some ⟨mb,mo,none⟩) f.msgs.length mc)/\W.cell? ⟨mb,mo+mi*3,none⟩=some (.string ⟨m.name.toArray⟩)/\W.cell? ⟨mb,mo+mi*3+1,none⟩=some (.slice (some ⟨xb,xo,none⟩) m.fields.length fc)/\W.cell? ⟨mb,mo+mi*3+2,none⟩=some (.slice ba m.barred.length bc)))
   go_cut [10] (fun p wc=>p=.pointer (some ⟨xb,XO,none⟩)/\Up wx wc)
   case first =>
    go_region_held3 (fun w'=>w'.cell? ⟨T,0,none⟩=some (.int .i64 qn)/\w'.cell? ⟨w.heap.size,0,none⟩=some (.slice (some ⟨mb,mo,none⟩) f.msgs.length mc)/\w'.cell? ⟨mb,mo+mi*3,none⟩=some (.string ⟨m.name.toArray⟩)/\w'.cell? ⟨mb,mo+mi*3+1,none⟩=some (.slice (some ⟨xb,xo,none⟩) m.fields.length fc)/\w'.cell? ⟨mb,mo+mi*3+2,none⟩=some (.slice ba m.barred.length bc))
     (first|with_reducible exact dd|with_reducible exact DD.out _ hw5)
     (first|(go_at_call 34;refine (Hfc.out _ ((Hu.out.trans Hux.out).trans (Up.refl wx).drew)).mono ?_;rintro e w6 ⟨rfl,hu6'⟩;have hw5:=(Up.refl wx).drew.trans hu6'))
    all_goals
     go_wp2_with fail
     go_meet
     exact ⟨rfl,hw5⟩
   case rest =>
   obtain ⟨rfl,huc⟩:=hcut;obtain ⟨w0,rfl⟩:∃ w0:World,w0=wc:=⟨_,rfl⟩;have Huw:=hid (Hu.out.trans (Hux.out.trans huc));have Huq:=hid (Hux.out.trans huc);replace Hbx:=hid (huc.blk Hbx.out);have Hb0':=hid (Huq.out.blk Hb0.out);have Hb1':=hid (Huq.out.blk Hb1.out);have Hhow:=hid (How.out.up stable_rec Huq.out);clear v0 f0 s0 s1 s2 dd DD huc Hfc How Hu Hux Hb0 Hb1 Hms;have Hxc:=hid (fun W (u:Up w W)=>(⟨u.cell_some Hxa.out.2.1.2.1,u.cell_some Hxa.out.2.1.2.2.2.2.1,u.cell_some Hxa.out.2.1.2.2.2.1,Nat.lt_of_lt_of_le Hxa.out.1 u.size⟩:W.cell? ⟨xb,XO+1,none⟩=some (.int .i64 F.number)/\W.cell? ⟨xb,XO+4,none⟩=some (.bool F.many)/\W.cell? ⟨xb,XO+3,none⟩=some (.string ⟨F.type.toArray⟩)/\xb<W.heap.size));have hwz0:w.heap.size+2<=w0.heap.size:=Nat.le_trans Hwz.out Huq.out.size;have hTz:T<w0.heap.size:=lt_of_block Hbx.out;have HwT:=hid (show w.heap.size+2<=T by rw [←HT.out];exact Hwz.out);have b1c:=ro1 Hbx.out
   go_upto_block 2 with (fail)
   clear b1c
   go_cut [7,11] (fun ov av wc2=>∃ (all:List UInt8) (aa:Option Addr) (ac:Nat),av=.slice aa all.length ac/\OwnS DRec (w.heap.size+2) 87 4 All wc2 ov (L0++(if F.many=true then [] else qb.map fun n=>(⟨F.number,howC F.kind,toldC F.kind n,[]⟩:Rec)))/\RdB (fun q=>ov.ownBlock≠some q) wc2 (.slice aa all.length ac) all/\(F.many=true->all=packC F.kind qb) /\
    wc2.heap[w.heap.size]? = some (.cells #[.slice (some ⟨mb,mo,none⟩) f.msgs.length mc,.slice ea f.enums.length ec] 25 (0,0))/\wc2.heap[w.heap.size+1]? = some (.cells #[.slice (some ⟨b1,o1,none⟩) b.values.length bc1,.slice bu1 b.unknown.length bc2] 29 (0,0)) /\
    wc2.heap[T]? = some (.cells #[.int .i64 qn,.slice p1 qb.length g1,.slice p2 qy.length g2,.slice p3 qs.length g3] 71 (0,0))/\Up w wc2)
   case first =>
    cases hmany:F.many with
    |true =>
     have hpz:packC F.kind ([]:List Nat)=[]:=rfl;have Hall64:=hid (fun n (h:n∈qb)=>show n<18446744073709551616 from H6v.out n h);go_wp2_with fail
     go_loopw [7,11,37] (fun ov av i wr2=>∃ j2:Nat,ov=u7/\j2<=qb.length/\i=.int .i64 j2/\wr2.ownsRow w0.heap.size 5 1 av (packC F.kind (qb.take j2)).length (B8 (packC F.kind (qb.take j2)))/\Up w0 wr2)
      (fun _ _ i _=>qb.length - (intOf i).toNat)
     case atStart=>exact ⟨0,rfl,by omega,rfl,World.ownsRow_nil _ _ _ _,Up.refl _⟩
     case round =>
      obtain ⟨j2,rfl,hj2,rfl,how2,hu2⟩:=hrel;have How2:=hid how2;have Hu2:=hid hu2;clear how2 hu2
      by_cases hlt2:j2<qb.length
      ·obtain ⟨bq,oq,cq,rfl,hbq,hlq,hcq,hdq⟩:=(Hx1.out.up stable_u64 (Huw.out.trans Hu2.out)).at hlt2;obtain ⟨rfl,hn64⟩:=hdq;have n0:=hcq 0 _ rfl;simp only [Nat.mul_one,Nat.add_zero] at n0;have hk2:=Hhow3.out (by omega);have hsn:packC F.kind (qb.take (j2+1))=packC F.kind (qb.take j2)++(oneB ⟨1,howC F.kind,toldC F.kind qb[j2],[]⟩).drop 1:=take_flat (fun n=>(oneB ⟨1,howC F.kind,toldC F.kind n,[]⟩).drop 1) hlt2;have hpl:=pack_len hk2 (qb.take j2) (fun n hn=>Hall64.out n (List.mem_of_mem_take hn));rw [List.length_take] at hpl;generalize qb[j2]=n at *;have h64n:=told_64 (k:=F.kind) hn64;have hol:=num_len (k:=F.kind) (num:=1) (by omega) (by omega) hk2 h64n;have hop:=oneB_pos ⟨1,howC F.kind,toldC F.kind n,[]⟩;have hh3:=howC_three hk2;obtain ⟨OB,hOB⟩:∃ OB,oneB ⟨1,howC F.kind,toldC F.kind n,[]⟩=OB:=⟨_,rfl⟩;rw [hOB] at hsn hol hop;have Hone:=hid (fun W=>one_r ⟨1,howC F.kind,toldC F.kind n,[]⟩ (.slice none 0 0) W (rdB_nil _ _) (by simp) (by simp) (by rcases hh3 with h|h|h;exact .inl h;exact .inr (.inl h);exact .inr (.inr (.inl h))) h64n (by simp));rw [hOB] at Hone;have Hrec:=hid (fun W (u:Up w W)=>record_r F xb XO n W (Hxa.out.up u) (by omega));have Hsn:=hid hsn;(have i2:(0:Int)<=(j2:Int):=by omega);(have i3:(j2:Int)<(qb.length:Int):=by omega);have Hu02:=hid (Huw.out.trans Hu2.out);have hz02:=Hu2.out.size;clear hcq hsn hOB hh3 h64n hn64 hk2 hlq hbq;(go_wp2_with fail);refine (Hrec.out _ Hu02.out).mono ?_;rintro e w3 ⟨rfl,hu3⟩;have m4:=(Hxc.out _ (Hu02.out.trans hu3)).2.1;rw [hmany] at m4;have hxz:=(Hxc.out _ (Hu02.out.trans hu3)).2.2.2;(have hne:xb≠w3.heap.size:=by omega);have hz3:=hu3.size;(go_wp2_with fail);refine (Hone.out _).mono ?_;rintro e w5 ⟨v5,rfl,how5,hu5⟩;obtain ⟨a5,c5,rfl,_,_⟩:=own_news how5;obtain ⟨a6,c6,hsl,hsr⟩:=slice_fr (rdB_of_owns (S:=All) how5 (fun _ _=>trivial)) 1 1 hop rfl;have hn6:=RdB.news hsr;have hu35:=(hu3.alloc (.cells #[.int .i64 1,.int .i64 (howC F.kind),.int .u64 (toldC F.kind n:Int),.slice none 0 0] 87)).trans hu5;have hz5:=hu35.size;(have hdl:(OB.drop 1).length<=15:=by rw [List.length_drop];omega);have Hn6:=hid hn6;have Hu35:=hid hu35;clear hsr how5 hn6 m4 hxz hne hu3 hu5 hu35;go_wp2_with (at_builtin;go_must (refine wpList_app eU8 _ (by rfl) _ _ (by rfl) w0.heap.size u11 _ _ (by rfl) (How2.out.kept Hu35.out.to_none (by cases u11.ownBlock <;> simp)) a6 _ c6 (by rfl) (B8 (OB.drop 1)) (by simp [B8]) Hn6.out.2.1 Hn6.out.2.2 (B8_one _) (by omega) (by unfold maxLen;omega) (by omega) ?_;intro v7 w7 how7 hev7))
       go_roundw
       case rel =>
        refine ⟨j2+1,rfl,by omega,by go_num,?_,(Hu2.out.trans Hu35.out).evo hev7 (fun q e=>(How2.out.lt q e).1)⟩;rw [Hsn.out,List.length_append,B8_append,List.length_drop];exact how7
       case measure=>simp [intOf];omega
      ·go_wp2_with fail
       go_meet
       have e:qb.take j2=qb:=List.take_of_length_le (by omega);have how:=How2.out;rw [e] at how;obtain ⟨aa,ac,rfl,_,_⟩:=own_news how;obtain ⟨xs,hxs⟩:=(Hhow.out.up stable_rec Hu2.out).own;exact ⟨_,aa,ac,rfl,by rw [if_pos hmany,List.append_nil];exact Hhow.out.up stable_rec Hu2.out,rdB_of_owns how (own_ne2 how hxs),fun _=>rfl,Hu2.out.blk Hb0'.out,Hu2.out.blk Hb1'.out,Hu2.out.blk Hbx.out,Huw.out.trans Hu2.out⟩
    |false =>
     go_wp2_with fail
     go_loopw [7,11,37] (fun ov av i wr2=>∃ j2:Nat,av=.slice none 0 0/\j2<=qb.length/\i=.int .i64 j2/\OwnS DRec (w.heap.size+2) 87 4 All wr2 ov (L0++(qb.take j2).map fun n=>(⟨F.number,howC F.kind,toldC F.kind n,[]⟩:Rec)) /\
       wr2.heap[w.heap.size]? = some (.cells #[.slice (some ⟨mb,mo,none⟩) f.msgs.length mc,.slice ea f.enums.length ec] 25 (0,0))/\wr2.heap[w.heap.size+1]? = some (.cells #[.slice (some ⟨b1,o1,none⟩) b.values.length bc1,.slice bu1 b.unknown.length bc2] 29 (0,0)) /\
       wr2.heap[T]? = some (.cells #[.int .i64 qn,.slice p1 qb.length g1,.slice p2 qy.length g2,.slice p3 qs.length g3] 71 (0,0))/\Up w wr2)
      (fun _ _ i _=>qb.length - (intOf i).toNat)
     case atStart=>exact ⟨0,rfl,by omega,rfl,by simpa using Hhow.out,Hb0'.out,Hb1'.out,Hbx.out,Huw.out⟩
     case round =>
      obtain ⟨j2,rfl,hj2,rfl,how2,hk0,hk1,hkT,hu2⟩:=hrel;have How2:=hid how2;have Hu2:=hid hu2;have Hk0:=hid hk0;have Hk1:=hid hk1;have HkT:=hid hkT;clear how2 hu2 hk0 hk1 hkT
      by_cases hlt2:j2<qb.length
      ·obtain ⟨bq,oq,cq,rfl,hbq,hlq,hcq,hdq⟩:=(Hx1.out.up stable_u64 Hu2.out).at hlt2;obtain ⟨rfl,hn64⟩:=hdq;have n0:=hcq 0 _ rfl;simp only [Nat.mul_one,Nat.add_zero] at n0;have Hsn:=hid (show (qb.take (j2+1)).map (fun n=>(⟨F.number,howC F.kind,toldC F.kind n,[]⟩:Rec))=(qb.take j2).map (fun n=>(⟨F.number,howC F.kind,toldC F.kind n,[]⟩:Rec))++[⟨F.number,howC F.kind,toldC F.kind qb[j2],[]⟩] by rw [List.take_succ_eq_append_getElem hlt2,List.map_append];rfl);(have hLl:(L0++(qb.take j2).map fun n=>(⟨F.number,howC F.kind,toldC F.kind n,[]⟩:Rec)).length<=1099511627876:=by rw [List.length_append,List.length_map,List.length_take];omega);generalize qb[j2]=n at *;generalize hLX:(L0++(qb.take j2).map fun n=>(⟨F.number,howC F.kind,toldC F.kind n,[]⟩:Rec))=LX at *;have HLX:=hid hLX;have h64n:=hid (told_64 (k:=F.kind) hn64);have Hrec:=hid (fun W (u:Up w W)=>record_r F xb XO n W (Hxa.out.up u) (by omega));(have i2:(0:Int)<=(j2:Int):=by omega);(have i3:(j2:Int)<(qb.length:Int):=by omega);(have hwz2:w.heap.size+2<=wr.heap.size:=by have:=lt_of_block HkT.out;have:=HwT.out;omega);clear hcq hn64 hlq hbq hLX;(go_wp2_with fail);refine (Hrec.out _ Hu2.out).mono ?_;rintro e w3 ⟨rfl,hu3⟩;have m4:=(Hxc.out _ (Hu2.out.trans hu3)).2.1;rw [hmany] at m4;have hxz:=(Hxc.out _ (Hu2.out.trans hu3)).2.2.2;(have hne:xb≠w3.heap.size:=by omega);have hz3:=hu3.size;have How3:=hid ((How2.out.up stable_rec hu3).up stable_rec ((Up.refl w3).alloc (.cells #[.int .i64 F.number,.int .i64 (howC F.kind),.int .u64 (toldC F.kind n:Int),.slice none 0 0] 87)));obtain ⟨xs,hxs⟩:=How3.out.own;have Hxs:=hid hxs;have Hu3:=hid hu3;clear hxs hu3;go_wp2_with (at_builtin;go_must (refine wpList_app1 eRec _ (by rfl) _ _ (by rfl) (w.heap.size+2) u7 _ _ (by rfl) Hxs.out _ (by rfl) (by first|rfl|simp) (by rfl) (oc (by rfl)) (by omega) (by unfold maxLen;omega) (by simp;omega) ?_;intro v7 w7 how7 hev7))
       go_roundw
       case rel =>
        have hlo:∀ q,u7.ownBlock=some q->w.heap.size+2<=q:=fun q e=>(Hxs.out.lt q e).1;have hsn:=OwnS.snoc stable_rec How3.out Hxs.out how7 hev7 rfl (a:=⟨F.number,howC F.kind,toldC F.kind n,[]⟩) ⟨_,rfl,rdB_nil _ _,h64n.out⟩;refine ⟨j2+1,rfl,by omega,by go_num,?_,?_,?_,?_,((Hu2.out.trans Hu3.out).alloc _).evo hev7 (fun q e=>by have:=hlo q e;omega)⟩
        ·rw [Hsn.out,←List.append_assoc,HLX.out];exact hsn
        ·exact hev7.blk ((Hu3.out.alloc _).blk Hk0.out) (fun e=>by have:=hlo _ e;omega)
        ·exact hev7.blk ((Hu3.out.alloc _).blk Hk1.out) (fun e=>by have:=hlo _ e;omega)
        ·exact hev7.blk ((Hu3.out.alloc _).blk HkT.out) (own_neR Hxs.out ((Hu3.out.alloc _).blk HkT.out) (by decide))
       case measure=>simp [intOf];omega
      ·go_wp2_with fail
       go_meet
       have e:qb.take j2=qb:=List.take_of_length_le (by omega);have how:=How2.out;rw [e] at how;exact ⟨[],none,0,rfl,by rw [if_neg (by rw [hmany];decide)];exact how,rdB_nil _ _,(fun h=>by rw [hmany] at h;cases h),Hk0.out,Hk1.out,HkT.out,Hu2.out⟩
   case rest =>
   obtain ⟨all,aa,ac,rfl,how,hav,hall,hk0,hk1,hkT,hu⟩:=hcut;obtain ⟨w2,rfl⟩:∃ w2:World,w2=wc:=⟨_,rfl⟩;clear Hbx Hb0' Hb1' Hhow Huw Huq hwz0 hTz;generalize hL1:L0++(if F.many=true then [] else qb.map fun n=>(⟨F.number,howC F.kind,toldC F.kind n,[]⟩:Rec))=L1 at how
   have hLl1:L1.length<=1099511627776+60:=by
    rw [←hL1,List.length_append];split
    ·simp;omega
    ·rw [List.length_map];omega
   have HL1:=hid hL1;have How:=hid how;have Hav:=hid hav;have HAll:=hid hall;have Hk0:=hid hk0;have Hk1:=hid hk1;have HkT:=hid hkT;have Hu:=hid hu;have b1c:=ro1 hkT;have m4:=(Hxc.out _ hu).2.1;have m1:=(Hxc.out _ hu).1;clear how hav hall hk0 hk1 hkT hu hL1
   go_upto_region 16 with (fail)
   go_cut [69] (fun tv wx=>tv=.bool (F.many && decide (0<qb.length))/\wx=w2)
   case first =>
    cases hmany:F.many with
    |true =>
     rw [hmany] at m4
     by_cases hp:0<qb.length
     ·have hp2:decide (0<(qb.length:Int))=true:=decide_eq_true (by omega);have hp3:decide (0<qb.length)=true:=decide_eq_true hp;go_wp2_with fail
      go_meet
      exact ⟨by simp [hmany,hp3],rfl⟩
     ·have hp2:decide (0<(qb.length:Int))=false:=decide_eq_false (by omega);have hp3:decide (0<qb.length)=false:=decide_eq_false hp;go_wp2_with fail
      go_meet
      exact ⟨by simp [hmany,hp3],rfl⟩
    |false =>
     rw [hmany] at m4;go_wp2_with fail
     go_meet
     exact ⟨by simp [hmany],rfl⟩
   case rest =>
   obtain ⟨rfl,hwc⟩:=hcut;subst wc;obtain ⟨TB,hTB⟩:∃ TB,(F.many && decide (0<qb.length))=TB:=⟨_,rfl⟩;rw [hTB];have HTB:=hid hTB;clear hTB b1c
   go_upto_if 69 with (fail)
   go_cut [7] (fun ov wc3=>OwnS DRec (w.heap.size+2) 87 4 All wc3 ov (L1++(if F.many=true/\0<qb.length then [(⟨F.number,2,0,packC F.kind qb⟩:Rec)] else []))/\wc3.heap[w.heap.size]? = some (.cells #[.slice (some ⟨mb,mo,none⟩) f.msgs.length mc,.slice ea f.enums.length ec] 25 (0,0))/\wc3.heap[w.heap.size+1]? = some (.cells #[.slice (some ⟨b1,o1,none⟩) b.values.length bc1,.slice bu1 b.unknown.length bc2] 29 (0,0)) /\
    wc3.heap[T]? = some (.cells #[.int .i64 qn,.slice p1 qb.length g1,.slice p2 qy.length g2,.slice p3 qs.length g3] 71 (0,0))/\Up w wc3)
   case first =>
    cases TB with
    |true =>
     (have hmp:F.many=true/\0<qb.length:=by have:=HTB.out;simpa using this);have ha:=HAll.out hmp.1;subst ha;have Hmp:=hid hmp;obtain ⟨xs,hxs⟩:=How.out.own;have Hxs:=hid hxs;(have hwz2:w.heap.size+2<=w2.heap.size:=by have:=lt_of_block HkT.out;have:=HwT.out;omega);clear hxs hmp;go_wp2_with (at_builtin;go_must (refine wpList_app1 eRec _ (by rfl) _ _ (by rfl) (w.heap.size+2) u7 _ _ (by rfl) Hxs.out _ (by rfl) (by first|rfl|simp) (by rfl) (oc (by rfl)) (by omega) (by unfold maxLen;omega) (by omega) ?_;intro v7 w7 how7 hev7))
     go_meet
     rw [if_pos Hmp.out];have hlo:∀ q,u7.ownBlock=some q->w.heap.size+2<=q:=fun q e=>(Hxs.out.lt q e).1;have hsn:=OwnS.snoc stable_rec How.out Hxs.out how7 hev7 rfl (a:=⟨F.number,2,0,packC F.kind qb⟩) ⟨_,rfl,Hav.out.keep stable_u8 (Keep.weak (fun q h=>⟨trivial,h⟩)),(show (0:Nat)<2 ^ 64 by decide)⟩;refine ⟨hsn,hev7.blk Hk0.out (fun e=>by have:=hlo _ e;omega),hev7.blk Hk1.out (fun e=>by have:=hlo _ e;omega),hev7.blk HkT.out (own_neR Hxs.out HkT.out (by decide)),Hu.out.evo hev7 (fun q e=>by have:=hlo q e;omega)⟩
    |false =>
     (have hmp:¬ (F.many=true/\0<qb.length):=by have:=HTB.out;simpa using this);have Hmp:=hid hmp;clear hmp;go_wp2_with fail
     go_meet
     rw [if_neg Hmp.out,List.append_nil];exact ⟨How.out,Hk0.out,Hk1.out,HkT.out,Hu.out⟩
   case rest =>
   obtain ⟨how,hk0,hk1,hkT,hu⟩:=hcut;obtain ⟨w3,rfl⟩:∃ w3:World,w3=wc:=⟨_,rfl⟩;clear How Hav HAll Hk0 Hk1 HkT Hu m4 m1 HTB;generalize hL2:L1++(if F.many=true/\0<qb.length then [(⟨F.number,2,0,packC F.kind qb⟩:Rec)] else [])=L2 at how
   have hLl2:L2.length<=1099511627776+61:=by
    rw [←hL2,List.length_append];split
    ·simp;omega
    ·simp;omega
   have HL2:=hid hL2;have How:=hid how;have Hk0:=hid hk0;have Hk1:=hid hk1;have HkT:=hid hkT;have Hu:=hid hu;have b2c:=ro2 hkT;clear how hk0 hk1 hkT hu hL2 hLl1
   go_upto_block 4 with (fail)
   clear b2c
   go_cut [7] (fun ov wc4=>OwnS DRec (w.heap.size+2) 87 4 All wc4 ov (L2++qy.map fun t=>(⟨F.number,2,0,t⟩:Rec))/\wc4.heap[w.heap.size]? = some (.cells #[.slice (some ⟨mb,mo,none⟩) f.msgs.length mc,.slice ea f.enums.length ec] 25 (0,0))/\wc4.heap[w.heap.size+1]? = some (.cells #[.slice (some ⟨b1,o1,none⟩) b.values.length bc1,.slice bu1 b.unknown.length bc2] 29 (0,0)) /\
    wc4.heap[T]? = some (.cells #[.int .i64 qn,.slice p1 qb.length g1,.slice p2 qy.length g2,.slice p3 qs.length g3] 71 (0,0))/\Up w wc4)
   case first =>
    go_wp2_with fail
    go_loopw [7,82] (fun ov i wr2=>∃ j2:Nat,j2<=qy.length/\i=.int .i64 j2/\OwnS DRec (w.heap.size+2) 87 4 All wr2 ov (L2++(qy.take j2).map fun t=>(⟨F.number,2,0,t⟩:Rec))/\wr2.heap[w.heap.size]? = some (.cells #[.slice (some ⟨mb,mo,none⟩) f.msgs.length mc,.slice ea f.enums.length ec] 25 (0,0))/\wr2.heap[w.heap.size+1]? = some (.cells #[.slice (some ⟨b1,o1,none⟩) b.values.length bc1,.slice bu1 b.unknown.length bc2] 29 (0,0)) /\
    wr2.heap[T]? = some (.cells #[.int .i64 qn,.slice p1 qb.length g1,.slice p2 qy.length g2,.slice p3 qs.length g3] 71 (0,0))/\Up w wr2)
     (fun _ i _=>qy.length - (intOf i).toNat)
    case atStart=>exact ⟨0,by omega,rfl,by simpa using How.out,Hk0.out,Hk1.out,HkT.out,Hu.out⟩
    case round =>
     obtain ⟨j2,hj2,rfl,how2,hk0,hk1,hkT,hu2⟩:=hrel;have How2:=hid how2;have Hu2:=hid hu2;have Hk0:=hid hk0;have Hk1:=hid hk1;have HkT:=hid hkT;clear how2 hu2 hk0 hk1 hkT
     by_cases hlt2:j2<qy.length
     ·obtain ⟨bq,oq,cq,rfl,hbq,hlq,hcq,hdq⟩:=(Hx2.out.up stable_bytes Hu2.out).at hlt2;obtain ⟨tv,rfl,htv,htl⟩:=hdq;obtain ⟨ta,tc,rfl,_,_⟩:=htv.val;have n0:=hcq 0 _ rfl;simp only [Nat.mul_one,Nat.add_zero] at n0;have Hsn:=hid (show (qy.take (j2+1)).map (fun t=>(⟨F.number,2,0,t⟩:Rec))=(qy.take j2).map (fun t=>(⟨F.number,2,0,t⟩:Rec))++[⟨F.number,2,0,qy[j2]⟩] by rw [List.take_succ_eq_append_getElem hlt2,List.map_append];rfl);(have hLl:(L2++(qy.take j2).map fun t=>(⟨F.number,2,0,t⟩:Rec)).length<=1099511627976:=by rw [List.length_append,List.length_map,List.length_take];omega);generalize qy[j2]=t at *;generalize hLX:(L2++(qy.take j2).map fun t=>(⟨F.number,2,0,t⟩:Rec))=LX at *;have HLX:=hid hLX;have Htv:=hid htv;obtain ⟨xs,hxs⟩:=How2.out.own;have Hxs:=hid hxs;(have i2:(0:Int)<=(j2:Int):=by omega);(have i3:(j2:Int)<(qy.length:Int):=by omega);(have hwz2:w.heap.size+2<=wr.heap.size:=by have:=lt_of_block HkT.out;have:=HwT.out;omega);have m1:=(Hxc.out _ Hu2.out).1;clear hcq hlq hbq hLX htv hxs;go_wp2_with (at_builtin;go_must (refine wpList_app1 eRec _ (by rfl) _ _ (by rfl) (w.heap.size+2) u7 _ _ (by rfl) Hxs.out _ (by rfl) (by first|rfl|simp) (by rfl) (oc (by rfl)) (by omega) (by unfold maxLen;omega) (by omega) ?_;intro v7 w7 how7 hev7))
      go_roundw
      case rel =>
       have hlo:∀ q,u7.ownBlock=some q->w.heap.size+2<=q:=fun q e=>(Hxs.out.lt q e).1;have hsn:=OwnS.snoc stable_rec How2.out Hxs.out how7 hev7 rfl (a:=⟨F.number,2,0,t⟩) ⟨_,rfl,Htv.out.keep stable_u8 (Keep.weak (fun q h=>⟨trivial,fun e=>by have:=hlo q e;unfold Lt at h;omega⟩)),(show (0:Nat)<2 ^ 64 by decide)⟩;refine ⟨j2+1,by omega,by go_num,?_,hev7.blk Hk0.out (fun e=>by have:=hlo _ e;omega),hev7.blk Hk1.out (fun e=>by have:=hlo _ e;omega),hev7.blk HkT.out (own_neR Hxs.out HkT.out (by decide)),Hu2.out.evo hev7 (fun q e=>by have:=hlo q e;omega)⟩;rw [Hsn.out,←List.append_assoc,HLX.out];exact hsn
      case measure=>simp [intOf];omega
     ·go_wp2_with fail
      go_meet
      have e:qy.take j2=qy:=List.take_of_length_le (by omega);have how:=How2.out;rw [e] at how;exact ⟨how,Hk0.out,Hk1.out,HkT.out,Hu2.out⟩
   case rest =>
   obtain ⟨how,hk0,hk1,hkT,hu⟩:=hcut;obtain ⟨w4,rfl⟩:∃ w4:World,w4=wc:=⟨_,rfl⟩;clear How Hk0 Hk1 HkT Hu;generalize hL3:(L2++qy.map fun t=>(⟨F.number,2,0,t⟩:Rec))=L3 at how;(have hLl3:L3.length<=1099511627776+121:=by rw [←hL3,List.length_append,List.length_map];omega);have HL3:=hid hL3;have How:=hid how;have Hk0:=hid hk0;have Hk1:=hid hk1;have HkT:=hid hkT;have Hu:=hid hu;have b3c:=ro3 hkT;clear how hk0 hk1 hkT hu hL3 hLl2;have Hmsg:=hid (fun W (u:Up w W)=>find_msg_r (.agg #[.slice (some ⟨mb,mo,none⟩) f.msgs.length mc,.slice ea f.enums.length ec]) f F.type W (Hfv.out.up u));change Hid (∀ W,Up w W->Calls _ _ _ _ fun e w'=>e=Ending.returned (.int .i64 (msgI f F.type))/\Up W w') at Hmsg;have hmb:=msgI_bd f F.type;have Hmb:=hid hmb;clear hmb;(go_wp2_with fail);clear b3c
   go_loopw [7,99] (fun ov i wr2=>∃ j2:Nat,j2<=qs.length/\i=.int .i64 j2/\OwnS DRec (w.heap.size+2) 87 4 All wr2 ov (L3++(qs.take j2).map fun s=>(⟨F.number,2,0,rawB f k (msgI f F.type) s⟩:Rec))/\wr2.heap[w.heap.size]? = some (.cells #[.slice (some ⟨mb,mo,none⟩) f.msgs.length mc,.slice ea f.enums.length ec] 25 (0,0))/\wr2.heap[w.heap.size+1]? = some (.cells #[.slice (some ⟨b1,o1,none⟩) b.values.length bc1,.slice bu1 b.unknown.length bc2] 29 (0,0)) /\
    wr2.heap[T]? = some (.cells #[.int .i64 qn,.slice p1 qb.length g1,.slice p2 qy.length g2,.slice p3 qs.length g3] 71 (0,0))/\Up w wr2)
    (fun _ i _=>qs.length - (intOf i).toNat)
   case atStart=>exact ⟨0,by omega,rfl,by simpa using How.out,Hk0.out,Hk1.out,HkT.out,Hu.out⟩
   case round =>
    clear How Hk0 Hk1 HkT Hu;obtain ⟨j2,hj2,rfl,how2,hk0,hk1,hkT,hu2⟩:=hrel;have How2:=hid how2;have Hu2:=hid hu2;have Hk0:=hid hk0;have Hk1:=hid hk1;have HkT:=hid hkT;clear how2 hu2 hk0 hk1 hkT
    by_cases hlt2:j2<qs.length
    ·
     obtain ⟨bq,oq,cq,rfl,hbq,hlq,hcq,hdq⟩:=Hx3.out.at hlt2;obtain ⟨sa1,sn1,sc1,sa2,sn2,sc2,rfl⟩:=bod_two hdq;have n0:=Hu2.out.cell_some (hcq 0 _ rfl);have n1:=Hu2.out.cell_some (hcq 1 _ rfl);simp only [Nat.add_zero] at n0;have Hsn:=hid (show (qs.take (j2+1)).map (fun s=>(⟨F.number,2,0,rawB f k (msgI f F.type) s⟩:Rec))=(qs.take j2).map (fun s=>(⟨F.number,2,0,rawB f k (msgI f F.type) s⟩:Rec))++[⟨F.number,2,0,rawB f k (msgI f F.type) qs[j2]⟩] by rw [List.take_succ_eq_append_getElem hlt2,List.map_append];rfl);(have hLl:(L3++(qs.take j2).map fun s=>(⟨F.number,2,0,rawB f k (msgI f F.type) s⟩:Rec)).length<=1099511627976:=by rw [List.length_append,List.length_map,List.length_take];omega);have hmsg0:=Hk10.out (by omega);have hws:=Hws.out _ (List.getElem_mem hlt2);have hsl:=Hsv.out _ (List.getElem_mem hlt2);have h64s:=b64_of d hdq k;generalize qs[j2]=s at *;generalize hLX:(L3++(qs.take j2).map fun s=>(⟨F.number,2,0,rawB f k (msgI f F.type) s⟩:Rec))=LX at *;have HLX:=hid hLX;(have hmsg1:msgI f F.type<f.msgs.length:=by have:=Hmb.out;omega);have Hok:=hid (recs_okS Hright.out hws h64s hsl (Nat.le_refl _));have Hrc:=hid (fun W (u:Up w W)=>Hih.out d (msgI f F.type) s (.agg #[.slice (some ⟨mb,mo,none⟩) f.msgs.length mc,.slice ea f.enums.length ec]) (.slice sa1 sn1 sc1) (.slice sa2 sn2 sc2) W hmsg0 hmsg1 (Hfv.out.up u) (stable_bod d _ _ _ _ _ _ (Keep.upS u) hdq) hws hsl);obtain ⟨RB,hRB⟩:∃ RB,rawB f k (msgI f F.type) s=RB:=⟨_,rfl⟩;obtain ⟨RL,hRL⟩:∃ RL,recsB f k (msgI f F.type) s=RL:=⟨_,rfl⟩
     have Hrw:=hid (fun v W (hv:RdS DRec 4 All W v RL)=>show Calls Tryz.prog 18 #[v] W fun e w'=>∃ v',e=.returned v'/\w'.ownsRow W.heap.size 5 1 v' RB.length (B8 RB)/\Up W w' from by
      have h:=raw_r v RL W hv (by rw [←hRL];exact Hok.out) (by rw [←hRL];exact hsl);(have e:RL.flatMap oneB=RB:=by rw [←hRL];exact hRB);rw [e] at h;exact h)
     have HRB:=hid hRB;(have i2:(0:Int)<=(j2:Int):=by omega);(have i3:(j2:Int)<(qs.length:Int):=by omega);(have hwz2:w.heap.size+2<=wr.heap.size:=by have:=lt_of_block HkT.out;have:=HwT.out;omega);clear hcq hlq hbq hLX hdq hws hsl h64s hmsg0 hmsg1;change Hid (∀ W,Up w W->Calls _ _ _ _ _) at Hrc;rw [hRL] at Hrc;clear hRL hRB;obtain ⟨wy,rfl⟩:∃ wy:World,wy=wr:=⟨_,rfl⟩;obtain ⟨T4,hT4⟩:∃ T4,wy.heap.size=T4:=⟨_,rfl⟩
     go_upto_region 26 with (fail)
     have hbx4:=blk_new wy (.cells #[.slice sa1 sn1 sc1,.slice sa2 sn2 sc2] 29) (g:=wy.heap.size) rfl;have hux4:=(Up.refl wy).alloc (.cells #[.slice sa1 sn1 sc1,.slice sa2 sn2 sc2] 29);generalize hwx:wy.alloc (.cells #[.slice sa1 sn1 sc1,.slice sa2 sn2 sc2] 29)=wx at *;clear hwx n0 n1;rw [hT4] at hbx4;have HT4:=hid hT4;have hxc:=Hxc.out _ (Hu2.out.trans hux4);have g1c:=hxc.1;have g3c:=hxc.2.2.1;have f0:=ro0 (hux4.blk Hk0.out);have f1:=ro1 (hux4.blk Hk0.out);have t0:=ro0 hbx4;have t1:=ro1 hbx4;have Hux4:=hid hux4;have Hwx:=hid (Hu2.out.trans hux4);have Hhow:=hid (How2.out.up stable_rec hux4);clear hxc hT4 hux4;have dd:wx.drew.cell? ⟨xb,XO+1,none⟩=some (.int .i64 F.number)/\wx.drew.cell? ⟨xb,XO+3,none⟩=some (.string ⟨F.type.toArray⟩)/\wx.drew.cell? ⟨w.heap.size,0,none⟩=some (.slice (some ⟨mb,mo,none⟩) f.msgs.length mc)/\wx.drew.cell? ⟨w.heap.size,1,none⟩=some (.slice ea f.enums.length ec)/\wx.drew.cell? ⟨T4,0,none⟩=some (.slice sa1 sn1 sc1)/\wx.drew.cell? ⟨T4,1,none⟩=some (.slice sa2 sn2 sc2):=⟨g1c,g3c,f0,f1,t0,t1⟩;have DD:=hid (fun W (u:Up wx W)=>(⟨u.cell_some g1c,u.cell_some g3c,u.cell_some f0,u.cell_some f1,u.cell_some t0,u.cell_some t1⟩:W.cell? ⟨xb,XO+1,none⟩=some (.int .i64 F.number)/\W.cell? ⟨xb,XO+3,none⟩=some (.string ⟨F.type.toArray⟩)/\W.cell? ⟨w.heap.size,0,none⟩=some (.slice (some ⟨mb,mo,none⟩) f.msgs.length mc)/\W.cell? ⟨w.heap.size,1,none⟩=some (.slice ea f.enums.length ec)/\W.cell? ⟨T4,0,none⟩=some (.slice sa1 sn1 sc1)/\W.cell? ⟨T4,1,none⟩=some (.slice sa2 sn2 sc2)))
     have Hne4:=hid (show u7.ownBlock≠some xb/\u7.ownBlock≠some w.heap.size/\u7.ownBlock≠some T4 from by
      obtain ⟨xs,hxs⟩:=Hhow.out.own;exact ⟨fun e=>by have:=(hxs.lt _ e).1;have:=Hxa.out.1;omega,fun e=>by have:=(hxs.lt _ e).1;omega,own_neR hxs hbx4 (by decide)⟩)
     clear g1c g3c f0 f1 t0 t1 hbx4;have hwzx:w.heap.size+2<=wx.heap.size:=Nat.le_trans hwz2 Hux4.out.size
     go_region_held3 (fun w'=>w'.cell? ⟨xb,XO+1,none⟩=some (.int .i64 F.number)/\w'.cell? ⟨xb,XO+3,none⟩=some (.string ⟨F.type.toArray⟩)/\w'.cell? ⟨w.heap.size,0,none⟩=some (.slice (some ⟨mb,mo,none⟩) f.msgs.length mc)/\w'.cell? ⟨w.heap.size,1,none⟩=some (.slice ea f.enums.length ec)/\w'.cell? ⟨T4,0,none⟩=some (.slice sa1 sn1 sc1)/\w'.cell? ⟨T4,1,none⟩=some (.slice sa2 sn2 sc2))
      (first|with_reducible exact dd|with_reducible exact DD.out _ hw5|with_reducible exact DD.out _ hw6|with_reducible exact DD.out _ hw7|with_reducible exact DD.out _ (hw7.alloc _)|with_reducible exact ⟨evo_cell hev8 (DD.out _ hw7).1 Hne4.out.1,evo_cell hev8 (DD.out _ hw7).2.1 Hne4.out.1,evo_cell hev8 (DD.out _ hw7).2.2.1 Hne4.out.2.1,evo_cell hev8 (DD.out _ hw7).2.2.2.1 Hne4.out.2.1,evo_cell hev8 (DD.out _ hw7).2.2.2.2.1 Hne4.out.2.2,evo_cell hev8 (DD.out _ hw7).2.2.2.2.2 Hne4.out.2.2⟩)
      (first
       |(go_at_call 36;refine (Hmsg.out _ (Hwx.out.trans (Up.refl wx).drew)).mono ?_;rintro e w5 ⟨rfl,hu5'⟩;have hw5:=(Up.refl wx).drew.trans hu5';clear hu5')
       |(go_at_call 19;refine (Hrc.out _ (Hwx.out.trans hw5)).mono ?_;rintro e w6 ⟨v6,rfl,hrd6,hu6'⟩;have hw6:=hw5.trans hu6';obtain ⟨a6,c6,rfl,_,_⟩:=hrd6.val;have Hrd6:=hid hrd6;clear hrd6 hu6')
       |(go_at_call 18;refine (Hrw.out _ _ Hrd6.out).mono ?_;rintro e w7 ⟨v7,rfl,how7,hu7'⟩;have hw7:=hw6.trans hu7';obtain ⟨a7,c7,rfl,_,_⟩:=own_news how7;have Hown7:=hid how7;obtain ⟨xs7,hxs7⟩:=(Hhow.out.up stable_rec hw7).own;have Hxs7:=hid hxs7;have hz7:=hw7.size;clear how7 hxs7 hu7')
       |(refine step_app1 eRec _ (by rfl) _ _ (by rfl) (w.heap.size+2) u7 _ _ (by rfl) Hxs7.out _ (by rfl) (by first|rfl|simp) (by rfl) (oc (by rfl)) (by omega) (by unfold maxLen;omega) (by omega) ?_;intro v8 w8 how8 hev8))
     all_goals
      go_wp2_with fail
      go_roundw
      case rel =>
       have hlo:∀ q,u7.ownBlock=some q->w.heap.size+2<=q:=fun q e=>(Hxs7.out.lt q e).1;have hsn:=OwnS.snoc stable_rec (Hhow.out.up stable_rec hw7) Hxs7.out how8 hev8 rfl (a:=⟨F.number,2,0,RB⟩) ⟨_,rfl,rdB_of_owns Hown7.out (fun q e=>⟨trivial,own_ne2 Hown7.out Hxs7.out q e⟩),(show (0:Nat)<2 ^ 64 by decide)⟩;have hu4:=Hux4.out.trans hw7;refine ⟨j2+1,by omega,by go_num,?_,hev8.blk (hu4.blk Hk0.out) (fun e=>by have:=hlo _ e;omega),hev8.blk (hu4.blk Hk1.out) (fun e=>by have:=hlo _ e;omega),hev8.blk (hu4.blk HkT.out) (own_neR Hxs7.out (hu4.blk HkT.out) (by decide)),(Hwx.out.trans hw7).evo hev8 (fun q e=>by have:=hlo q e;omega)⟩;rw [Hsn.out,←List.append_assoc,HLX.out,HRB.out];exact hsn
      case measure=>simp [intOf];omega
    ·
     have e:qs.take j2=qs:=List.take_of_length_le (by omega);have how:=How2.out;rw [e] at how;have Hhw:=hid how;clear e how;go_wp2_with fail
     go_roundw
     case rel =>
      (refine ⟨j+1,by have:=Hlt.out;omega,by have:=Hlt.out;go_num,?_,Hk0.out,Hk1.out,Hu2.out⟩);have h:=Hhw.out;rw [←HL3.out,←HL2.out,←HL1.out] at h;rw [Htk.out,Hpart.out];simpa only [List.append_assoc] using h
     case measure=>have:=Hlt.out;simp [intOf];omega
  ·
   have e:b.values.take j=b.values:=List.take_of_length_le (by omega);have how:=How.out;rw [e] at how;obtain ⟨css,c1,c2,c3⟩:=how;obtain ⟨_,ux,cm,lm,em,fm,gm⟩:=RdS.css (by decide) ((((rec_of_z Hbu.out).lt stable_rec).up stable_rec Hu.out));have onm:=ones_rec lm em
   have hsum:(valsRecs (fun x s=>rawB f k (msgI f x.type) s) m.fields b.values).length+b.unknown.length<=1099511627776:=by
    refine Nat.le_trans (Nat.add_le_add recs_len recs_len) Hraw.out
   have b1u:=ro1 Hb1.out;have hwz:=Hwz.out;have C1:=hid c1;have C2:=hid c2;have C3:=hid c3;have Ux:=hid ux;have Lm:=hid lm;have Em:=hid em;have Fm:=hid fm;have Gm:=hid gm;have Onm:=hid onm;clear e c1 c2 c3 ux lm em fm gm onm;obtain ⟨VR,hVR⟩:∃ VR,valsRecs (fun x s=>rawB f k (msgI f x.type) s) m.fields b.values=VR:=⟨_,rfl⟩;rw [hVR] at C1 C2 C3 hsum HRES;clear hVR;go_wp2_with (at_builtin;go_must (refine wpList_app eRec _ (by rfl) _ _ (by rfl) (w.heap.size+2) u7 _ _ (by rfl) C2.out bu1 _ bc2 (by rfl) cm.flatten Fm.out Ux.out Gm.out Onm.out (by omega) (by unfold maxLen;omega) (by omega) ?_;intro v5 w5 how5 hev5))
   go_ret
   have hlo:∀ q,u7.ownBlock=some q->w.heap.size+2<=q:=fun q e=>(C2.out.lt q e).1;refine ⟨_,rfl,?_,Hu.out.evo hev5 (fun q e=>by have:=hlo q e;omega)⟩;rw [←HRES.out];have hkA:Keep (Av2 All u7) wr (Av2 All v5) w5:=Keep.evoS hev5
   have hkB:Keep (Lt w) wr (Av2 All v5) w5:=fun q hq hb=>by
    have hn:u7.ownBlock≠some q:=fun e=>by have:=hlo q e;unfold Lt at hq;omega
    exact ⟨hev5.grown.block q hb (fun e=>hn e.symm),trivial,fun e=>by
     rcases hev5.place q e with h|h
     ·exact hn h
     ·omega⟩
   refine OwnS.rd (S:=All) (base:=w.heap.size+2) (e:=87) stable_rec ⟨css++cm,by simp [C1.out,Lm.out],by rw [List.length_append,List.flatten_append];exact how5,fun i hi=>?_⟩ (fun _ _=>trivial) (fun _ _=>trivial);rw [List.length_append] at hi;have hc1:=C1.out
   by_cases h:i<VR.length
   ·obtain ⟨cs,h1,h2,h3⟩:=C3.out i h;refine ⟨cs,by rw [List.getElem?_append_left (by omega)];exact h1,h2,?_⟩;rw [List.getElem_append_left h];exact stable_rec _ _ _ _ _ _ hkA h3
   ·obtain ⟨cs,h1,h2,h3⟩:=Em.out (i - VR.length) (by omega);refine ⟨cs,by rw [List.getElem?_append_right (by omega),hc1];exact h1,h2,?_⟩;rw [List.getElem_append_right (by omega)];exact stable_rec _ _ _ _ _ _ hkB h3
theorem records_c (f:Fil) (hright:(wrongN f).1=0):∀ k,RecsC k f
 |0=>fun d msg b fv vv vu w _ _ _ _ h _=>by cases h
 |k+1=>records_step k f hright (records_c f hright k)
end Go.Proofs.YtbceccblepckhaaGreatDoor
