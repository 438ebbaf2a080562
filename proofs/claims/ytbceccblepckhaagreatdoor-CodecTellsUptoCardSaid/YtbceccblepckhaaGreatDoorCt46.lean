/-
  (*reader).add: a value comes to a body.
  (*reader).join: two messages put together.
-/
import Derived.Test.YtbceccblepckhaaGreatDoorCt44
import Derived.Test.YtbceccblepckhaaGreatDoorCt45
set_option maxHeartbeats 12800000
set_option linter.unusedVariables false
namespace Go.Proofs.YtbceccblepckhaaGreatDoor
open Go.RowKit
theorem radd_n (k A B:Nat) (d:Nat) (S:Nat->Prop) (f:Fil) (fs:List Fld) (b:Bod) (x:Fld) (v:Val) (sm:ByteArray) (fa ba va ua e1 e2 e3:Option Addr) (nf fc nb bc vc uc h1 h2 h3 cb fb bf fo:Nat) (w:World) (ih:RJoinC k f)
  (chk:ChkAt w cb fb f) (flds:RdS DFld 6 All w (.slice fa nf fc) fs) (vals:RdS (DValD d) 4 S w (.slice va b.values.length vc) b.values) (bsz:BodSz b) (fld:FldAt w bf fo x)
  (val:DValD d S w v [.int .i64 v.1,.slice e1 v.2.1.length h1,.slice e2 v.2.2.1.length h2,.slice e3 v.2.2.2.length h3]) (num:v.1=x.number) (vlen:v.2.1.length<=5000/\v.2.2.1.length<=5000/\v.2.2.2.length<=5000) (b16:b.values.length<=16)
  (hall:AllV (wrongB f k) f fs b.values) (hx:fldN fs x.number=some x) (ht:typedN f x=0) (hv:FitV (wrongB f k) f x v) (uo:∀ o,findV b.values x.number=some o->∀ s∈o.2.2.2,UnkLe A k s) (uv:∀ s∈v.2.2.2,UnkLe B k s) (hAB:A+B<=100000) :
  Calls Tryz.prog 43 #[.pointer (some ⟨cb,0,none⟩),.agg #[.string sm,.slice fa nf fc,.slice ba nb bc],.agg #[.slice va b.values.length vc,.slice ua b.unknown.length uc],.pointer (some ⟨bf,fo,none⟩),.agg #[.int .i64 v.1,.slice e1 v.2.1.length h1,.slice e2 v.2.2.1.length h2,.slice e3 v.2.2.2.length h3]] w fun e w'=>∃ vv vu,e=.returned (.tuple #[.agg #[vv,vu],.int .i64 (addC (joinK f 12) f fs b x v).2])/\((addC (joinK f 12) f fs b x v).2=0->vu=.slice ua b.unknown.length uc)/\RdS (DValD d) 4 (Sx S w) w' vv (addC (joinK f 12) f fs b x v).1.values/\((addC (joinK f 12) f fs b x v).2≠0->vu=.slice none 0 0)/\Up w w':=by
 have hfit:∀ o,findV b.values x.number=some o->wrongVF (wrongB f k) f x o=0:=fun o ho=>by
  obtain ⟨hom,hon⟩:=findV_mem ho;obtain ⟨y,hy,hwo⟩:=hall.fld o hom;rw [hon,hx] at hy;obtain rfl:=Option.some.inj hy;exact hwo
 have H:AddH d S f fs b x v sm fa ba va ua e1 e2 e3 nf fc nb bc vc uc h1 h2 h3 cb fb bf fo w:=⟨chk,flds,vals,bsz,fld,val,num,vlen,fun o ho=>by
  obtain ⟨g1,g2,g3⟩:=wrongVF_iff.1 (hfit o ho);have:=count_sum g1.cnt;omega,hall.ris,b16⟩
 unfold addC
 cases ho:findV b.values x.number with
 |none=>exact radd_plain d S f fs b x v sm fa ba va ua e1 e2 e3 nf fc nb bc vc uc h1 h2 h3 cb fb bf fo w H (.inl ho)
 |some o =>
  simp only
  cases hm:x.many with
  |true =>
   rw [if_pos rfl];exact radd_many d S f fs b x v sm fa ba va ua e1 e2 e3 nf fc nb bc vc uc h1 h2 h3 cb fb bf fo w H o ho hm
  |false =>
   rw [if_neg (by decide)]
   by_cases hk:x.kind=10
   ·rw [if_pos hk];exact radd_sub k A B d S f fs b x v sm fa ba va ua e1 e2 e3 nf fc nb bc vc uc h1 h2 h3 cb fb bf fo w ih H o ho hm hk (wrongVF_iff.1 (hfit o ho)).1 hv (uo o ho) uv hAB ((typed_facts ht).2.2.1 hk)
   ·rw [if_neg hk];exact radd_plain d S f fs b x v sm fa ba va ua e1 e2 e3 nf fc nb bc vc uc h1 h2 h3 cb fb bf fo w H (.inr ⟨hm,hk⟩)
theorem radd_c (k A B:Nat) (d:Nat) (S:Nat->Prop) (f:Fil) (fs:List Fld) (b:Bod) (x:Fld) (v:Val) (sm:ByteArray) (fa ba va ua e1 e2 e3:Option Addr) (nf fc nb bc vc uc h1 h2 h3 cb fb bf fo:Nat) (w:World) (ih:RJoinC k f) (hjn:JnOk (wrongB f k) (joinB f k) (joinK f 12))
  (chk:ChkAt w cb fb f) (flds:RdS DFld 6 All w (.slice fa nf fc) fs) (vals:RdS (DValD d) 4 S w (.slice va b.values.length vc) b.values) (unks:RdS DRecZ 4 S w (.slice ua b.unknown.length uc) b.unknown) (bsz:BodSz b) (fld:FldAt w bf fo x)
  (val:DValD d S w v [.int .i64 v.1,.slice e1 v.2.1.length h1,.slice e2 v.2.2.1.length h2,.slice e3 v.2.2.2.length h3]) (num:v.1=x.number) (vlen:v.2.1.length<=5000/\v.2.2.1.length<=5000/\v.2.2.2.length<=5000) (b16:b.values.length<=16)
  (hall:AllV (wrongB f k) f fs b.values) (hx:fldN fs x.number=some x) (ht:typedN f x=0) (hv:FitV (wrongB f k) f x v) (uo:∀ o,findV b.values x.number=some o->∀ s∈o.2.2.2,UnkLe A k s) (uv:∀ s∈v.2.2.2,UnkLe B k s) (hAB:A+B<=100000) :
  Calls Tryz.prog 43 #[.pointer (some ⟨cb,0,none⟩),.agg #[.string sm,.slice fa nf fc,.slice ba nb bc],.agg #[.slice va b.values.length vc,.slice ua b.unknown.length uc],.pointer (some ⟨bf,fo,none⟩),.agg #[.int .i64 v.1,.slice e1 v.2.1.length h1,.slice e2 v.2.2.1.length h2,.slice e3 v.2.2.2.length h3]] w fun e w'=>∃ vv vu,e=.returned (.tuple #[.agg #[vv,vu],.int .i64 (addC (joinK f 12) f fs b x v).2])/\((addC (joinK f 12) f fs b x v).2=0->vu=.slice ua b.unknown.length uc)/\DBodF (d+1) (Sx S w) w' (addC (joinK f 12) f fs b x v).1 [vv,vu]/\Up w w':=by
 refine (radd_n k A B d S f fs b x v sm fa ba va ua e1 e2 e3 nf fc nb bc vc uc h1 h2 h3 cb fb bf fo w ih chk flds vals bsz fld val num vlen b16 hall hx ht hv uo uv hAB).mono ?_;rintro e w' ⟨vv,vu,rfl,g1,g2,g3,hu⟩;(have hx2:fldN fs v.1=some x:=by rw [num];exact hx);refine ⟨vv,vu,rfl,g1,?_,hu⟩;rcases add_ok hjn hall hx2 hv with ⟨k1,k2,k3⟩|⟨k1,k2⟩
 ·rw [k3] at g1 g2 ⊢;obtain rfl:=g1 rfl;refine ⟨_,_,rfl,g2,unks.keep stable_recz (fun q hs hq=>⟨hu.block q hq,.inl hs⟩),?_,bsz.2⟩;have:=set_len fs b.values (bothV (joinB f k) f x (findV b.values v.1) v);show (setV fs b.values _).length*80<=_;omega
 ·rw [k2] at g2 g3 ⊢;obtain rfl:=g3 (by simp);exact ⟨_,_,rfl,g2,rdS_nil _ _ _ _,by simp [bod0,Bod.values],by simp [bod0,Bod.unknown]⟩
theorem joinK_loop {f:Fil} (hright:(wrongN f).1=0) {k:Nat} (hk:k+1<=12) {msg:Int} {m:Msg} (hm:f.msgs[msg.toNat]? = some m) {a b:Bod} (ha:wrongB f (k+1) msg a=0) (hb:wrongB f (k+1) msg b=0) :
  joinK f 12 msg a b=(if (joinL (addC (joinK f 12) f m.fields) m.fields b.values a).2≠0 then (bod0,(joinL (addC (joinK f 12) f m.fields) m.fields b.values a).2) else (.mk (joinL (addC (joinK f 12) f m.fields) m.fields b.values a).1.values ((joinL (addC (joinK f 12) f m.fields) m.fields b.values a).1.unknown++b.unknown),0)):=by
 have hmr:=right_msg hright m (List.mem_of_getElem? hm);have hch:∀ z∈m.fields,0<=z.choice:=fun z hz=>(choice_16 hmr hz).1;obtain ⟨hA,uA⟩:=(wrongB_is (k:=k) hm hch a).1 ha;obtain ⟨hB,uB⟩:=(wrongB_is (k:=k) hm hch b).1 hb
 have e:joinK f 12 msg a b=(if (joinL (addC (joinK f 11) f m.fields) m.fields b.values a).2≠0 then (bod0,(joinL (addC (joinK f 11) f m.fields) m.fields b.values a).2) else (.mk (joinL (addC (joinK f 11) f m.fields) m.fields b.values a).1.values ((joinL (addC (joinK f 11) f m.fields) m.fields b.values a).1.unknown++b.unknown),0)):=by
  rw [show (12:Nat)=11+1 from rfl,joinK,hm]
 have h1:=joinL_ok hch (joinK_ok hright k 11 (by omega)) b.values a hA hB;have h2:=joinL_ok hch (joinK_ok hright k 12 (by omega)) b.values a hA hB
 have h3:joinL (addC (joinK f 11) f m.fields) m.fields b.values a=joinL (addC (joinK f 12) f m.fields) m.fields b.values a:=by
  rcases h1 with ⟨g1,g2⟩|⟨g1,g2⟩
  ·rcases h2 with ⟨k1,k2⟩|⟨k1,k2⟩
   ·rw [g2,k2]
   ·exact absurd g1 k1
  ·rcases h2 with ⟨k1,k2⟩|⟨k1,k2⟩
   ·exact absurd k1 g1
   ·rw [g2,k2]
 rw [e,h3]
theorem all_len {wb:Int->Bod->Int} {f:Fil} {fs:List Fld} {l:List Val} (hch:∀ z∈fs,0<=z.choice) (h:AllV wb f fs l):l.length<=fs.length:=vals_le ((allV_iff hch).2 h)
set_option maxRecDepth 100000
open Lib (hid)
theorem add_left {wb:Int->Bod->Int} {jb:Int->Bod->Bod->Bod} {jn:Int->Bod->Bod->Bod × Int} {f:Fil} {fs:List Fld} (hch:∀ z∈fs,0<=z.choice) (hjn:JnOk wb jb jn) {b:Bod} (h:AllV wb f fs b.values) {x:Fld} {v:Val} (hx:fldN fs v.1=some x) (hv:FitV wb f x v) (h0:(addC jn f fs b x v).2=0) :
  AllV wb f fs (addC jn f fs b x v).1.values/\(addC jn f fs b x v).1.unknown=b.unknown/\∀ n,n≠v.1->∀ o,findV (addC jn f fs b x v).1.values n=some o->findV b.values n=some o:=by
 have hbn:=fun o=>bothV_num jb f x o v;rcases add_ok hjn h hx hv with ⟨g1,g2,g3⟩|⟨g1,g2⟩
 ·rw [g3];refine ⟨set_right hch h (by rw [hbn];exact hx) g1 g2,rfl,fun n hn o ho=>?_⟩;show findV b.values n=some o;have ho:findV (setV fs b.values (bothV jb f x (findV b.values v.1) v)) n=some o:=ho;rw [find_set h.ris (by rw [hbn];exact hx),hbn,if_neg hn] at ho;split at ho
  ·exact ho
  ·cases ho
 ·rw [g2] at h0;cases h0
theorem rjoin_step (k:Nat) (hk12:k+1<=12) (f:Fil) (hright:(wrongN f).1=0) (ih:RJoinC k f):RJoinC (k+1) f:=by
 intro A B d S msg a b va ua vb ub cb fb w hm0 hm1 hchk hda hdb hwa hwb hna hnb hAB
 cases d with
 |zero=>exact hda.elim
 |succ d =>
 obtain ⟨av1,ac1,au1,ac2,rfl,rfl,hav,hau,haz⟩:=bod_cells hda;obtain ⟨bv1,bc1,bu1,bc2,rfl,rfl,hbv,hbu,hbz⟩:=bod_cells hdb;obtain ⟨mi,rfl⟩:∃ mi:Nat,msg=mi:=⟨msg.toNat,by omega⟩;(have hmi:mi<f.msgs.length:=by omega);(have hm:f.msgs[(mi:Int).toNat]? = some f.msgs[mi]:=by rw [Int.toNat_natCast,List.getElem?_eq_getElem hmi]);have hmr:=right_msg hright f.msgs[mi] (List.getElem_mem hmi);have hch:∀ z∈f.msgs[mi].fields,0<=z.choice:=fun z hz=>(choice_16 hmr hz).1;obtain ⟨hA,uA⟩:=(wrongB_is (k:=k) hm hch a).1 hwa;obtain ⟨hB,uB⟩:=(wrongB_is (k:=k) hm hch b).1 hwb;rw [joinK_loop hright hk12 hm hwa hwb];have h16:=(msg_field hmr).1;have ha16:a.values.length<=16:=Nat.le_trans (all_len hch hA) h16;have hb16:b.values.length<=16:=Nat.le_trans (all_len hch hB) h16;have hty:=field_typed hmr;have hself:∀ z∈f.msgs[mi].fields,fldN f.msgs[mi].fields z.number=some z:=fun z hz=>fld_self hmr hz;obtain ⟨hcc,vm,ve,hcm,hce,hfv⟩:=id hchk;obtain ⟨vm',ve',he',hm',he''⟩:=id hfv;simp only [Value.agg.injEq,Array.mk.injEq,List.cons.injEq,and_true] at he';obtain ⟨rfl,rfl⟩:=he';obtain ⟨ma,mc,rfl,_,_⟩:=hm'.val;obtain ⟨ea,ec,rfl,_,_⟩:=he''.val;obtain ⟨mb,mo,cs,rfl,_,_,hcs,hd⟩:=hm'.at hmi;obtain ⟨vf,vb,hd,hfs,hbs,hnm⟩:=hd;subst hd;obtain ⟨fa,fc,rfl,_,_⟩:=hfs.val;obtain ⟨ba,bc,rfl,_,_⟩:=hbs.val;have s0:=hcs 0 _ rfl;have s1:=hcs 1 _ rfl;have s2:=hcs 2 _ rfl;simp only [Nat.add_zero] at s0;have hjn:=joinK_ok hright k 12 (by omega);have hau':=hna.1;have hbu':=hnb.1;have Hav:=hid hav;have Hau:=hid hau;have Hbv:=hid hbv;have Hbu:=hid hbu;have Hfs:=hid hfs;have Hchk:=hid hchk;have Hih:=hid ih;have Hna:=hid hna.2;have Hnb:=hid hnb.2;have HA:=hid hA;have HB:=hid hB;have Haz:=hid haz;have Hbz:=hid hbz;have Hjn:=hid hjn;have Hch:=hid hch;have Hty:=hid hty;have Hself:=hid hself;have H16:=hid h16;have Ha16:=hid ha16;have Hb16:=hid hb16;have Hau':=hid hau';have Hbu':=hid hbu';clear hcs hm' he'' hfv hda hdb hright ih hav hau hbv hbu hfs hchk hwa hwb hna hnb hA hB uA uB haz hbz hmr hjn hch hty hself h16 ha16 hb16 hm hau' hbu';generalize f.msgs[mi]=m at *;(have hm2:(mi:Int)<(f.msgs.length:Int):=by omega);obtain ⟨ANS,hANS⟩:∃ ANS,joinL (addC (joinK f 12) f m.fields) m.fields b.values a=ANS:=⟨_,rfl⟩;rw [hANS];obtain ⟨RES,hRES⟩:∃ RES,(if ANS.2≠0 then (bod0,ANS.2) else (.mk ANS.1.values (ANS.1.unknown++b.unknown),0):Bod × Int)=RES:=⟨_,rfl⟩;rw [hRES];have HANS:=hid hANS;have HRES:=hid hRES;clear hANS hRES
 go_enter Tryz.func100,Tryz.ntmps100
 go_upto_region 1 with (fail)
 generalize hW:((w.alloc (.cells #[.slice av1 a.values.length ac1,.slice au1 a.unknown.length ac2] 29)).alloc (.cells #[.slice bv1 b.values.length bc1,.slice bu1 b.unknown.length bc2] 29)).alloc (.cells #[.slice none 0 0,.slice none 0 0] 29)=w1;(have hb0:w1.heap[w.heap.size]? = some (.cells #[.slice av1 a.values.length ac1,.slice au1 a.unknown.length ac2] 29 (0,0)):=by rw [←hW];exact blk_old _ (blk_old _ (blk_new w _ rfl)));(have hb1:w1.heap[w.heap.size+1]? = some (.cells #[.slice bv1 b.values.length bc1,.slice bu1 b.unknown.length bc2] 29 (0,0)):=by rw [←hW];exact blk_old _ (blk_new (w.alloc _) _ (by simp)));(have hb2:w1.heap[w.heap.size+1+1]? = some (.cells #[.slice none 0 0,.slice none 0 0] 29 (0,0)):=by rw [←hW];exact blk_new ((w.alloc _).alloc _) _ (by simp));(have hu1:Up w w1:=by rw [←hW];exact (((Up.refl w).alloc _).alloc _).alloc _);(have hz1:w1.heap.size=w.heap.size+3:=by rw [←hW];simp);clear hW;have s0:=hu1.cell_some s0;have s1:=hu1.cell_some s1;have s2:=hu1.cell_some s2;have hcm:=hu1.cell_some hcm;have hce:=hu1.cell_some hce;have hcc:=hu1.cell_some hcc
 go_upto_region 2 with (fail)
 have hb3:(w1.alloc (.cells #[.string ⟨m.name.toArray⟩,.slice fa m.fields.length fc,.slice ba m.barred.length bc] 35)).heap[w.heap.size+3]? = some (.cells #[.string ⟨m.name.toArray⟩,.slice fa m.fields.length fc,.slice ba m.barred.length bc] 35 (0,0)):=blk_new w1 _ (by omega);have hb0:=blk_old (.cells #[.string ⟨m.name.toArray⟩,.slice fa m.fields.length fc,.slice ba m.barred.length bc] 35) hb0;have hb1:=blk_old (.cells #[.string ⟨m.name.toArray⟩,.slice fa m.fields.length fc,.slice ba m.barred.length bc] 35) hb1;have hb2:=blk_old (.cells #[.string ⟨m.name.toArray⟩,.slice fa m.fields.length fc,.slice ba m.barred.length bc] 35) hb2;have hu2:=hu1.alloc (.cells #[.string ⟨m.name.toArray⟩,.slice fa m.fields.length fc,.slice ba m.barred.length bc] 35);(have hz2:(w1.alloc (.cells #[.string ⟨m.name.toArray⟩,.slice fa m.fields.length fc,.slice ba m.barred.length bc] 35)).heap.size=w.heap.size+4:=by simp [hz1]);generalize hw2:w1.alloc (.cells #[.string ⟨m.name.toArray⟩,.slice fa m.fields.length fc,.slice ba m.barred.length bc] 35)=w2 at *;clear hw2 s0 s1 s2 hcm hce hcc hz1 hu1;have Hb0:=hid hb0;have Hb1:=hid hb1;have Hb2:=hid hb2;have Hb3:=hid hb3;have Hu2:=hid hu2;have Hz2:=hid hz2;have l0:=ro0 hb1;clear hb0 hb1 hb2 hb3 hu2 hz2;(go_wp2_with fail);clear l0;have Hfc:=hid (fun n W (u:Up w W)=>field_any (.string ⟨m.name.toArray⟩) (.slice fa m.fields.length fc) (.slice ba m.barred.length bc) m.fields n W ⟨_,rfl⟩ ⟨_,_,_,rfl⟩ (Hfs.out.up stable_fld u))
 go_loopw [28] (fun i wr=>∃ (k2:Nat) (acc:Bod) (p1 p2:Option Addr) (c1 c2:Nat),k2<=b.values.length/\i=.int .i64 k2/\joinL (addC (joinK f 12) f m.fields) m.fields (b.values.drop k2) acc=ANS/\AllV (wrongB f k) f m.fields acc.values/\acc.unknown=a.unknown/\(∀ n,(∀ x∈b.values.take k2,x.1≠n)->∀ o,findV acc.values n=some o->findV a.values n=some o) /\
  wr.heap[w.heap.size]? = some (.cells #[.slice p1 acc.values.length c1,.slice p2 acc.unknown.length c2] 29 (0,0))/\wr.heap[w.heap.size+1]? = some (.cells #[.slice bv1 b.values.length bc1,.slice bu1 b.unknown.length bc2] 29 (0,0)) /\
  wr.heap[w.heap.size+1+1]? = some (.cells #[.slice none 0 0,.slice none 0 0] 29 (0,0))/\wr.heap[w.heap.size+3]? = some (.cells #[.string ⟨m.name.toArray⟩,.slice fa m.fields.length fc,.slice ba m.barred.length bc] 35 (0,0)) /\
  RdS (DValD d) 4 (SA S w.heap.size) wr (.slice p1 acc.values.length c1) acc.values/\RdS DRecZ 4 (SA S w.heap.size) wr (.slice p2 acc.unknown.length c2) acc.unknown/\Up w wr) (fun i _=>b.values.length - (intOf i).toNat)
 case atStart =>
  have kp:Keep S w (SA S w.heap.size) w2:=fun k hs hk=>⟨Hu2.out.block k hk,.inl ⟨hs,hk⟩⟩;exact ⟨0,a,av1,au1,ac1,ac2,by omega,rfl,HANS.out,HA.out,rfl,fun n _ o h=>h,Hb0.out,Hb1.out,Hb2.out,Hb3.out,Hav.out.keep (stable_val d) kp,Hau.out.keep stable_recz kp,Hu2.out⟩
 case round =>
  clear Hb0 Hb1 Hb2 Hb3 Hu2 Hz2;obtain ⟨k2,acc,p1,p2,c1,c2,hk2,rfl,hl,hall,hun,hfind,hb0,hb1,hb2,hb3,hrv,hru,hu⟩:=hrel;have Hl:=hid hl;have Hall:=hid hall;have Hun:=hid hun;have Hfind:=hid hfind;have Hb0:=hid hb0;have Hb1:=hid hb1;have Hb2:=hid hb2;have Hb3:=hid hb3;have Hrv:=hid hrv;have Hru:=hid hru;have Hu:=hid hu;have hbz:w.heap.size+3<wr.heap.size:=lt_of_block hb3
  by_cases hlt:k2<b.values.length
  ·obtain ⟨b1,o1,cs,rfl,hsb,hb1lt,hl4,hcs,hd⟩:∃ b1 o1 cs,bv1=some ⟨b1,o1,none⟩/\S b1/\b1<w.heap.size/\cs.length=4/\CellsAt w b1 (o1+k2*4) cs/\DValD d S w b.values[k2] cs:=by
    obtain ⟨ao,cap,e,_,_,_,g4⟩:=Hbv.out;obtain ⟨b1,o1,cs,e1,e2,e3,e4,e5,e6⟩:=g4 k2 hlt;simp only [Value.slice.injEq] at e;exact ⟨b1,o1,cs,by rw [e.1];exact e1,e2,e3,e4,e5,e6⟩
   obtain ⟨x1,g1,x2,g2,x3,g3,rfl,hn,_,_,_,zx⟩:=val_cells hd;have q0:=hu.cell_some (hcs 0 _ rfl);have q1:=hu.cell_some (hcs 1 _ rfl);have q2:=hu.cell_some (hcs 2 _ rfl);have q3:=hu.cell_some (hcs 3 _ rfl);simp only [Nat.add_zero] at q0;obtain ⟨F,hF,hwF⟩:=HB.out.fld _ (List.getElem_mem hlt)
   have hnew:∀ x∈b.values.take k2,x.1≠b.values[k2].1:=by
    intro x hx;obtain ⟨i,hi,rfl⟩:=List.getElem_of_mem hx;rw [List.length_take] at hi;rw [List.getElem_take];have:=List.pairwise_iff_getElem.1 HB.out.ris i k2 (by omega) hlt (by omega);omega
   have Hfo:=hid (Hfind.out _ hnew);have Hdr:=hid (show joinL (addC (joinK f 12) f m.fields) m.fields (b.values[k2]::b.values.drop (k2+1)) acc=ANS by rw [←List.drop_eq_getElem_cons hlt];exact hl);have Hmk:=hid (show ∀ x,x∈b.values.take k2->x∈b.values.take (k2+1) from fun x hx=>by rw [List.take_succ_eq_append_getElem hlt];exact List.mem_append_left _ hx);have Hmk2:=hid (show b.values[k2]∈b.values.take (k2+1) by rw [List.take_succ_eq_append_getElem hlt];exact List.mem_append_right _ (List.mem_singleton_self _));have Hsub:=hid (show ∀ x∈b.values[k2].2.2.2,UnkLe B k x from Hnb.out _ (List.getElem_mem hlt));(have i0:(0:Int)<=(k2:Int):=by omega);(have i1:(k2:Int)<(b.values.length:Int):=by omega);have Hd:=hid hd;have HF:=hid hF;have HwF:=hid hwF;have Hlt:=hid hlt;clear hl hall hun hfind hb0 hb1 hb2 hb3 hrv hru hu hcs hd hF hwF hnew hk2;generalize b.values[k2]=q at *;have Hfit:=hid (wrongVF_iff.1 HwF.out).1
   have Hq60:=hid (show q.2.1.length<=5000/\q.2.2.1.length<=5000/\q.2.2.2.length<=5000 by
    obtain ⟨h1,h2,_⟩:=wrongVF_iff.1 HwF.out;have:=count_sum h1.cnt;omega)
   obtain ⟨wq,rfl⟩:∃ wq:World,wq=wr:=⟨_,rfl⟩
   go_upto_region 5 with (fail)
   obtain ⟨T,hT⟩:∃ T,wq.heap.size=T:=⟨_,rfl⟩;have hbx:=blk_new wq (.cells #[.int .i64 q.1,.slice x1 q.2.1.length g1,.slice x2 q.2.2.1.length g2,.slice x3 q.2.2.2.length g3] 71) (g:=wq.heap.size) rfl;have hux:=(Up.refl wq).alloc (.cells #[.int .i64 q.1,.slice x1 q.2.1.length g1,.slice x2 q.2.2.1.length g2,.slice x3 q.2.2.2.length g3] 71);generalize hwx:wq.alloc (.cells #[.int .i64 q.1,.slice x1 q.2.1.length g1,.slice x2 q.2.2.1.length g2,.slice x3 q.2.2.2.length g3] 71)=wx at *;clear hwx q0 q1 q2 q3;rw [hT] at hbx ⊢;have HT:=hid hT;have hbm:=hux.blk Hb3.out;have hba:=hux.blk Hb0.out;have v0:=ro0 hbx;have v1:=ro1 hbx;have v2:=ro2 hbx;have v3:=ro3 hbx;have m0:=ro0 hbm;have m1:=ro1 hbm;have m2:=ro2 hbm;have a0:=ro0 hba;have a1:=ro1 hba;have Hux:=hid hux;have hTx:T<wx.heap.size:=lt_of_block hbx;clear hbx hux hbm hba hT;obtain ⟨hi,hfd⟩|⟨j,hj,hi,hfd⟩:=idxP_cases (fun z:Fld=>z.number==q.1) m.fields
   ·have:=HF.out;rw [show fldN m.fields q.1=none from hfd] at this;cases this
   (obtain rfl:m.fields[j]=F:=by have:=HF.out;rw [show fldN m.fields q.1=some m.fields[j] from hfd] at this;exact Option.some.inj this);obtain ⟨xb,xo,rfl,hxa⟩:=fld_at Hfs.out hj;(have j0:(0:Int)<=(j:Int):=by omega);(have j1:(j:Int)<(m.fields.length:Int):=by omega);have Hfc5:=hid (fun W (u:Up wx W)=>Hfc.out q.1 W (Hu.out.trans (Hux.out.trans u)));rw [hi] at Hfc5;have hFm:=(fldN_mem HF.out)
   have Hadd:=hid (fun W (u:Up wx W)=>radd_c k A B d (fun k=>SA S w.heap.size k/\k<wq.heap.size) f m.fields acc m.fields[j] q ⟨m.name.toArray⟩ (some ⟨xb,xo,none⟩) ba p1 p2 x1 x2 x3 m.fields.length fc m.barred.length bc c1 c2 g1 g2 g3 cb fb xb (xo+j*6) W Hih.out Hjn.out
    (Hchk.out.up (Hu.out.trans (Hux.out.trans u))) (Hfs.out.up stable_fld (Hu.out.trans (Hux.out.trans u))) (Hrv.out.keep (stable_val d) (fun k hs hk=>⟨(Hux.out.trans u).block k hk,hs,hk⟩)) (Hru.out.keep stable_recz (fun k hs hk=>⟨(Hux.out.trans u).block k hk,hs,hk⟩))
    ⟨by have:=Nat.le_trans (all_len Hch.out Hall.out) H16.out;omega,by rw [Hun.out];exact Haz.out.2⟩ (hxa.up (Hu.out.trans (Hux.out.trans u))) (stable_val d _ _ _ _ _ _ (fun k hs hk=>⟨(Hu.out.trans (Hux.out.trans u)).block k hk,.inl ⟨hs,hk⟩,Nat.lt_of_lt_of_le hk Hu.out.size⟩) Hd.out) hFm.2.symm Hq60.out
    (Nat.le_trans (all_len Hch.out Hall.out) H16.out) Hall.out (Hself.out _ hFm.1) (Hty.out _ hFm.1) Hfit.out (fun o ho s hs=>Hna.out o (findV_mem (Hfo.out o (by rw [←hFm.2];exact ho))).1 s hs) Hsub.out hAB)
   have hleft:=add_left Hch.out Hjn.out Hall.out HF.out Hfit.out;have Hleft:=hid hleft
   have Hstep:=hid (show (if (addC (joinK f 12) f m.fields acc m.fields[j] q).2≠0 then (bod0,(addC (joinK f 12) f m.fields acc m.fields[j] q).2) else joinL (addC (joinK f 12) f m.fields) m.fields (b.values.drop (k2+1)) (addC (joinK f 12) f m.fields acc m.fields[j] q).1)=ANS by
    have:=Hdr.out;rw [joinL,HF.out] at this;exact this)
   clear hleft hxa hfd hi hFm Hdr HF HwF;generalize addC (joinK f 12) f m.fields acc m.fields[j] q=RC at *;generalize m.fields[j]=F at *;have dd:wx.drew.cell? ⟨w.heap.size+3,0,none⟩=some (.string ⟨m.name.toArray⟩)/\wx.drew.cell? ⟨w.heap.size+3,1,none⟩=some (.slice (some ⟨xb,xo,none⟩) m.fields.length fc)/\wx.drew.cell? ⟨w.heap.size+3,2,none⟩=some (.slice ba m.barred.length bc)/\wx.drew.cell? ⟨w.heap.size,0,none⟩=some (.slice p1 acc.values.length c1)/\wx.drew.cell? ⟨w.heap.size,1,none⟩=some (.slice p2 acc.unknown.length c2)/\wx.drew.cell? ⟨T,0,none⟩=some (.int .i64 q.1)/\wx.drew.cell? ⟨T,1,none⟩=some (.slice x1 q.2.1.length g1)/\wx.drew.cell? ⟨T,2,none⟩=some (.slice x2 q.2.2.1.length g2)/\wx.drew.cell? ⟨T,3,none⟩=some (.slice x3 q.2.2.2.length g3):=⟨m0,m1,m2,a0,a1,v0,v1,v2,v3⟩;have DD:=hid (fun W (u:Up wx W)=>(⟨u.cell_some m0,u.cell_some m1,u.cell_some m2,u.cell_some a0,u.cell_some a1,u.cell_some v0,u.cell_some v1,u.cell_some v2,u.cell_some v3⟩:W.cell? ⟨w.heap.size+3,0,none⟩=some (.string ⟨m.name.toArray⟩)/\W.cell? ⟨w.heap.size+3,1,none⟩=some (.slice (some ⟨xb,xo,none⟩) m.fields.length fc)/\W.cell? ⟨w.heap.size+3,2,none⟩=some (.slice ba m.barred.length bc)/\W.cell? ⟨w.heap.size,0,none⟩=some (.slice p1 acc.values.length c1)/\W.cell? ⟨w.heap.size,1,none⟩=some (.slice p2 acc.unknown.length c2)/\W.cell? ⟨T,0,none⟩=some (.int .i64 q.1)/\W.cell? ⟨T,1,none⟩=some (.slice x1 q.2.1.length g1)/\W.cell? ⟨T,2,none⟩=some (.slice x2 q.2.2.1.length g2)/\W.cell? ⟨T,3,none⟩=some (.slice x3 q.2.2.2.length g3)));clear m0 m1 m2 a0 a1 v0 v1 v2 v3
   go_cut [13,14] (fun p e wt=>∃ (G:Nat) (s1 s2:Option Addr) (n1 z1 n2 z2:Nat),p=.pointer (some ⟨G,0,none⟩)/\e=.int .i64 RC.2/\wt.heap[G]? = some (.cells #[.slice s1 n1 z1,.slice s2 n2 z2] 29 (0,0))/\DBodF (d+1) (fun k=>(SA S w.heap.size k/\k<wq.heap.size)∨(wx.heap.size<=k/\k≠G)) wt RC.1 [.slice s1 n1 z1,.slice s2 n2 z2]/\wx.heap.size<=G/\Up wx wt)
   case first =>
    go_region_held3 (fun w'=>w'.cell? ⟨w.heap.size+3,0,none⟩=some (.string ⟨m.name.toArray⟩)/\w'.cell? ⟨w.heap.size+3,1,none⟩=some (.slice (some ⟨xb,xo,none⟩) m.fields.length fc)/\w'.cell? ⟨w.heap.size+3,2,none⟩=some (.slice ba m.barred.length bc)/\w'.cell? ⟨w.heap.size,0,none⟩=some (.slice p1 acc.values.length c1)/\w'.cell? ⟨w.heap.size,1,none⟩=some (.slice p2 acc.unknown.length c2)/\w'.cell? ⟨T,0,none⟩=some (.int .i64 q.1)/\w'.cell? ⟨T,1,none⟩=some (.slice x1 q.2.1.length g1)/\w'.cell? ⟨T,2,none⟩=some (.slice x2 q.2.2.1.length g2)/\w'.cell? ⟨T,3,none⟩=some (.slice x3 q.2.2.2.length g3))
     (first|with_reducible exact dd|with_reducible exact DD.out _ (Up.setCell (Up.setCell (hw6.alloc _) (show wx.heap.size<=w6.heap.size from hw6.size) _) (show wx.heap.size<=w6.heap.size from hw6.size) _)|with_reducible exact DD.out _ (Up.setCell (Up.setCell hw6 (show wx.heap.size<=w5.heap.size from hw5.size) _) (show wx.heap.size<=w5.heap.size from hw5.size) _)|with_reducible exact DD.out _ (Up.setCell (Up.setCell hw6 (Nat.le_refl wx.heap.size) _) (Nat.le_refl wx.heap.size) _)|with_reducible exact DD.out _ (hw6.alloc _)|with_reducible exact DD.out _ hw6|with_reducible exact DD.out _ (hw5.alloc _)|with_reducible exact DD.out _ hw5|with_reducible exact DD.out _ ((Up.refl wx).alloc _).drew|with_reducible exact DD.out _ ((Up.refl wx).drew.alloc _))
     (first
      |(go_at_call 30
        first
         |(refine (Hfc5.out _ (Up.refl wx).drew).mono ?_;rintro e w5 ⟨rfl,hu5'⟩;have hw5:=(Up.refl wx).drew.trans hu5')
         |(refine (Hfc5.out _ ((Up.refl wx).alloc _).drew).mono ?_;rintro e w5 ⟨rfl,hu5'⟩;have hw5:=((Up.refl wx).alloc _).drew.trans hu5';have hg5:w5.heap[wx.heap.size]? = some (.cells #[.slice none 0 0,.slice none 0 0] 29 (0,0)):=hu5'.blk (blk_new wx _ rfl)))
      |(go_at_call 43
        first
         |(refine (Hadd.out _ hw5).mono ?_;rintro e w6 ⟨vv,vu,rfl,-,hd6,hu6'⟩;obtain ⟨s1,n1,z1,s2,n2,z2,hbt⟩:=bod_two hd6;simp only [List.cons.injEq,and_true] at hbt;obtain ⟨rfl,rfl⟩:=hbt;have hw6:=hw5.trans hu6';try (have hg6:w6.heap[wx.heap.size]? = some (.cells #[.slice none 0 0,.slice none 0 0] 29 (0,0)):=hu6'.blk hg5;have q0:=ro0 hg6;have q1:=ro1 hg6;have qf:∀ o,w6.frozen? ⟨wx.heap.size,o,none⟩=false:=(fun o=>frozen_of_row w6 _ o _ _ hg6);have qz:wx.heap.size<w6.heap.size:=lt_of_block hg6))
         |(refine (Hadd.out _ (hw5.alloc _)).mono ?_;rintro e w6 ⟨vv,vu,rfl,-,hd6,hu6'⟩;obtain ⟨s1,n1,z1,s2,n2,z2,hbt⟩:=bod_two hd6;simp only [List.cons.injEq,and_true] at hbt;obtain ⟨rfl,rfl⟩:=hbt;have hw6:=(hw5.alloc _).trans hu6';have hg6:w6.heap[w5.heap.size]? = some (.cells #[.slice none 0 0,.slice none 0 0] 29 (0,0)):=hu6'.blk (blk_new w5 _ rfl);have q0:=ro0 hg6;have q1:=ro1 hg6;have qf:∀ o,w6.frozen? ⟨w5.heap.size,o,none⟩=false:=(fun o=>frozen_of_row w6 _ o _ _ hg6);have qz:w5.heap.size<w6.heap.size:=lt_of_block hg6)))
    all_goals
     go_wp2_with fail
     go_meet
    ·exact ⟨w6.heap.size,s1,s2,n1,z1,n2,z2,rfl,rfl,blk_new w6 _ rfl,stable_bod _ _ _ _ _ _ _ (fun k hs hk=>⟨((Up.refl w6).alloc _).block k hk,by
      have:=hw5.size;rcases hs with hs|hs
      ·exact .inl hs
      ·exact .inr ⟨by omega,by omega⟩⟩) hd6,hw6.size,hw6.alloc _⟩
    ·exact ⟨w5.heap.size,s1,s2,n1,z1,n2,z2,rfl,rfl,box2_set hg6 _ _,stable_bod _ _ _ _ _ _ _ (fun k hs hk=>by
      have:=hw5.size;have:=Hux.out.size;rcases hs with hs|hs
      ·exact ⟨box2_other (by have:=hs.2;omega) _ _,.inl hs⟩
      ·(have hs':w5.heap.size+1<=k:=by simpa using hs);exact ⟨box2_other (by omega) _ _,.inr ⟨by omega,by omega⟩⟩) hd6,hw5.size,Up.setCell (Up.setCell hw6 (show wx.heap.size<=w5.heap.size from hw5.size) _) (show wx.heap.size<=w5.heap.size from hw5.size) _⟩
    ·exact ⟨wx.heap.size,s1,s2,n1,z1,n2,z2,rfl,rfl,box2_set hg6 _ _,stable_bod _ _ _ _ _ _ _ (fun k hs hk=>by
      have h5:=lt_of_block hg5;have:=Hux.out.size;rcases hs with hs|hs
      ·exact ⟨box2_other (by have:=hs.2;omega) _ _,.inl hs⟩
      ·exact ⟨box2_other (by omega) _ _,.inr ⟨by omega,by omega⟩⟩) hd6,Nat.le_refl _,Up.setCell (Up.setCell hw6 (Nat.le_refl wx.heap.size) _) (Nat.le_refl wx.heap.size) _⟩
   case rest =>
   obtain ⟨G,s1,s2,n1,z1,n2,z2,rfl,rfl,hG,hdG,hGz,huc⟩:=hcut;obtain ⟨wt,rfl⟩:∃ y:World,y=wc:=⟨_,rfl⟩;obtain ⟨a1',n1',a2',n2',e1',e2',hdv,hdu,hdz⟩:=bod_cells hdG;simp only [Value.slice.injEq] at e1' e2';obtain ⟨rfl,rfl,rfl⟩:=e1';obtain ⟨rfl,rfl,rfl⟩:=e2';have Huq:=hid (Hux.out.trans huc);have HG:=hid hG;have Hdv:=hid hdv;have Hdu:=hid hdu;have HGz:=hid hGz;have hz3:w.heap.size+4<=wq.heap.size:=hbz;have Hz3:=hid hz3;clear hG hdG hGz huc hdv hdu hdz dd DD Hfc5 Hadd hz3;have hba:=Huq.out.blk Hb0.out;have hbr:=Huq.out.blk Hb2.out;obtain ⟨RB,re⟩:=RC;simp only at HG Hdv Hdu Hleft Hstep ⊢
   by_cases hre:re=0
   ·subst hre;have hl:=Hleft.out rfl;have Hleft':=hid hl;have Hstep':=hid (show joinL (addC (joinK f 12) f m.fields) m.fields (b.values.drop (k2+1)) RB=ANS by have:=Hstep.out;rw [if_neg (by simp)] at this;exact this);have g0:wt.cell? ⟨G,0,none⟩=some (.slice s1 RB.values.length z1):=cell_of_row wt _ 0 _ _ _ HG.out;have g1':wt.cell? ⟨G,1,none⟩=some (.slice s2 RB.unknown.length z2):=cell_of_row wt _ 1 _ _ _ HG.out;have r0:=ro0 hba;have r1:=ro1 hba;have rf':∀ o,wt.frozen? ⟨w.heap.size,o,none⟩=false:=fun o=>frozen_of_row wt _ o _ _ hba;have rz:w.heap.size<wt.heap.size:=lt_of_block hba;have Hba:=hid hba;have hbl:b.values.length<=16:=Hb16.out;clear hl Hleft Hstep hba hbr;go_wp2_with fail
    have hnS:¬ ((SA S w.heap.size w.heap.size/\w.heap.size<wq.heap.size)∨(wx.heap.size<=w.heap.size/\w.heap.size≠G)):=by
     have:=Hz3.out;have:=Hux.out.size;rintro (⟨h,_⟩|h)
     ·rcases h with ⟨_,h⟩|h <;> omega
     ·omega
    have hwk:∀ q,((SA S w.heap.size q/\q<wq.heap.size)∨(wx.heap.size<=q/\q≠G))->SA S w.heap.size q:=fun q h=>by
     have:=Hz3.out;have:=Hux.out.size;rcases h with h|h
     ·exact h.1
     ·exact .inr (by omega)
    go_roundw
    case rel =>
     refine ⟨k2+1,RB,s1,s2,z1,z2,by have:=Hlt.out;omega,by go_num,Hstep'.out,Hleft'.out.1,Hleft'.out.2.1.trans Hun.out,?_,box2_set Hba.out _ _,?_,?_,?_,?_,?_,?_⟩
     ·intro n hn o ho;have hn1:n≠q.1:=fun e=>hn q Hmk2.out e.symm;exact Hfind.out n (fun y hy=>hn y (Hmk.out y hy)) o (Hleft'.out.2.2 n hn1 o ho)
     ·rw [box2_other (by omega)];exact Huq.out.blk Hb1.out
     ·rw [box2_other (by omega)];exact Huq.out.blk Hb2.out
     ·rw [box2_other (by omega)];exact Huq.out.blk Hb3.out
     ·exact ((Hdv.out.keep (stable_val d) (Keep.setCell (p:=⟨w.heap.size,0,none⟩) hnS _)).keep (stable_val d) (Keep.setCell (p:=⟨w.heap.size,1,none⟩) hnS _)).keep (stable_val d) (Keep.weak hwk)
     ·exact ((Hdu.out.keep stable_recz (Keep.setCell (p:=⟨w.heap.size,0,none⟩) hnS _)).keep stable_recz (Keep.setCell (p:=⟨w.heap.size,1,none⟩) hnS _)).keep stable_recz (Keep.weak hwk)
     ·exact Up.setCell (Up.setCell (Hu.out.trans Huq.out) (by simp) _) (by simp) _
    case measure=>simp [intOf];omega
   ·(have hne:(re != 0)=true:=by rw [bne_iff_ne];exact hre);have Hans:=hid (show ANS=(bod0,re) by rw [←Hstep.out,if_pos hre]);have Hre:=hid hre;have r0:=ro0 hbr;have r1:=ro1 hbr;have rf':∀ o,wt.frozen? ⟨w.heap.size+1+1,o,none⟩=false:=fun o=>frozen_of_row wt _ o _ _ hbr;have rz:w.heap.size+1+1<wt.heap.size:=lt_of_block hbr;clear hre Hstep Hleft hba hbr;(go_wp2_with fail);refine bodyPost_ret (v:=.tuple #[.agg #[.slice none 0 0,.slice none 0 0],.int .i64 re]) (by simp [results,Tryz.results100,go_sem,r0,r1]) rfl ?_;rw [←HRES.out,Hans.out,if_pos Hre.out];refine ⟨_,_,rfl,⟨_,_,rfl,rdS_nil _ _ _ _,rdS_nil _ _ _ _,?_⟩,?_⟩
    ·exact ⟨by simp [bod0,Bod.values],by simp [bod0,Bod.unknown]⟩
    ·exact Up.setCell (Up.setCell (Hu.out.trans Huq.out) (p:=⟨w.heap.size+1+1,0,none⟩) (show w.heap.size<=w.heap.size+1+1 by omega) _) (p:=⟨w.heap.size+1+1,1,none⟩) (show w.heap.size<=w.heap.size+1+1 by omega) _
  ·(have hk2':k2=b.values.length:=by omega);have Hans:=hid (show ANS=(acc,0) by rw [←hl,hk2',List.drop_length,joinL]);have a1:=ro1 hb0;have b1:=ro1 hb1;have hub:=Hbu.out.keep stable_recz (S':=SA S w.heap.size) (w':=wr) (fun k hs hk=>⟨Hu.out.block k hk,.inl ⟨hs,hk⟩⟩);have Hcon:=hid (fun (g:Nat) (t:TypeId) (W:World) (u:Up wr W) (hg:W.heap[g]? = some (.cells #[.slice p2 acc.unknown.length c2,.slice bu1 b.unknown.length bc2] t (0,0)))=>concat_rec (.slice p2 acc.unknown.length c2) (.slice bu1 b.unknown.length bc2) acc.unknown b.unknown g t W (hru.up stable_recz u) (hub.up stable_recz u) hg (by rw [hun];have:=Hau'.out;have:=Hbu'.out;omega));(have hnS0:¬ SA S w.heap.size w.heap.size:=by rintro (⟨_,h⟩|h) <;> omega);(have hnS2:¬ SA S w.heap.size (w.heap.size+1+1):=by rintro (⟨_,h⟩|h) <;> omega);obtain ⟨wo,rfl⟩:∃ wo:World,wo=wr:=⟨_,rfl⟩;clear hl hall hun hfind hb0 hb1 hb2 hb3 hrv hru hu hub hk2' hk2;(go_wp2_with fail);refine (Hcon.out wo.heap.size _ _ ((Up.refl wo).alloc _) (blk_new wo _ rfl)).mono ?_;rintro e w5 ⟨v5,rfl,hc5,hu5⟩;obtain ⟨s5,n5,rfl,_,_⟩:=hc5.val;have hu05:=((Up.refl wo).alloc _).trans hu5;have Hu05:=hid hu05;have hb05:=hu05.blk Hb0.out;have hb25:=hu05.blk Hb2.out;have Hb05:=hid hb05;have Hb25:=hid hb25;have Hc5:=hid hc5;clear a1 b1 hc5 hu5 hu05 Hcon;have r0:=ro0 hb05;have r1:=ro1 hb05;have rf0:∀ o,w5.frozen? ⟨w.heap.size,o,none⟩=false:=fun o=>frozen_of_row w5 _ o _ _ hb05;have z0:w.heap.size<w5.heap.size:=lt_of_block hb05;have q0:=ro0 hb25;have q1:=ro1 hb25;have rf2:∀ o,w5.frozen? ⟨w.heap.size+1+1,o,none⟩=false:=fun o=>frozen_of_row w5 _ o _ _ hb25;have z2:w.heap.size+1+1<w5.heap.size:=lt_of_block hb25;clear hb05 hb25;(go_wp2_with fail);refine bodyPost_ret (v:=.tuple #[.agg #[.slice p1 acc.values.length c1,.slice s5 (acc.unknown.length+b.unknown.length) n5],.int .i64 0]) (by simp [results,Tryz.results100,go_sem,q0,q1]) rfl ?_;have huf:=Up.setCell (Up.setCell (Up.setCell (Hu.out.trans Hu05.out) (p:=⟨w.heap.size,1,none⟩) (Nat.le_refl _) (.slice s5 (acc.unknown.length+b.unknown.length) n5)) (p:=⟨w.heap.size+1+1,0,none⟩) (show w.heap.size<=w.heap.size+1+1 by omega) (.slice p1 acc.values.length c1)) (p:=⟨w.heap.size+1+1,1,none⟩) (show w.heap.size<=w.heap.size+1+1 by omega) (.slice s5 (acc.unknown.length+b.unknown.length) n5);have hzo:w.heap.size+3<wo.heap.size:=lt_of_block Hb3.out
   have hsx:∀ b,SA S w.heap.size b->Sx S w b:=fun b h=>by
    rcases h with ⟨h,_⟩|h
    ·exact .inl h
    ·exact .inr (by omega)
   have ks:∀ (W:World) (i:Nat) (u:Value),Keep (SA S w.heap.size) W (SA S w.heap.size) (W.setCell ⟨w.heap.size,i,none⟩ u):=fun W i u=>Keep.setCell (p:=⟨w.heap.size,i,none⟩) hnS0 u;have ks2:∀ (W:World) (i:Nat) (u:Value),Keep (SA S w.heap.size) W (SA S w.heap.size) (W.setCell ⟨w.heap.size+1+1,i,none⟩ u):=fun W i u=>Keep.setCell (p:=⟨w.heap.size+1+1,i,none⟩) hnS2 u;have k3:=((ks w5 1 (.slice s5 (acc.unknown.length+b.unknown.length) n5)).trans (ks2 _ 0 (.slice p1 acc.values.length c1))).trans (ks2 _ 1 (.slice s5 (acc.unknown.length+b.unknown.length) n5));rw [←HRES.out,Hans.out,if_neg (by simp)];refine ⟨_,_,rfl,⟨_,_,rfl,?_,?_,?_⟩,huf⟩
   ·exact ((Hrv.out.up (stable_val d) Hu05.out).keep (stable_val d) k3).keep (stable_val d) (Keep.weak hsx)
   ·have hr:=(((Hc5.out.keep stable_recz (Keep.weak (SA.sx (by simp;omega)))).keep stable_recz k3)).keep stable_recz (Keep.weak hsx);rw [List.length_append] at hr;exact hr
   ·have h1:=Nat.le_trans (all_len Hch.out Hall.out) H16.out;have h2:=Hau'.out;have h3:=Hbu'.out;refine ⟨by show acc.values.length*80<=_;omega,?_⟩;show (acc.unknown++b.unknown).length*48<=_;rw [List.length_append,Hun.out];omega
theorem rjoin_c (f:Fil) (hright:(wrongN f).1=0):∀ k,k<=12->RJoinC k f:=by
 intro k
 induction k with
 |zero=>exact fun _ A B d S msg a b va ua vb ub cb fb w _ _ _ _ _ hwa=>by cases hwa
 |succ k ih=>exact fun hk=>rjoin_step k hk f hright (ih (by omega))
end Go.Proofs.YtbceccblepckhaaGreatDoor
