/-
  (*reader).body: the body of bytes.
-/
import Derived.Test.YtbceccblepckhaaGreatDoorCt46
set_option maxHeartbeats 12800000
set_option linter.unusedVariables false
namespace Go.Proofs.YtbceccblepckhaaGreatDoor
open Go.RowKit
set_option maxRecDepth 100000
open Lib (hid)
theorem val_len {rd:List UInt8->Bod × Int} {x:Fld} {r:Rec} (h1:1<=x.kind) (h2:x.kind<=10):(valueC rd x r).1.2.1.length<=r.bytes.length+1/\(valueC rd x r).1.2.2.1.length<=1/\(valueC rd x r).1.2.2.2.length<=1:=by
 unfold valueC;split
 ·rename_i hk;(have h7:x.kind<=7:=by rcases kind_how h1 h2 with h|h|h;exact h.2;exact absurd h.1 hk;exact absurd h.1 hk);exact ⟨numbers_len h1 h7,by simp,by simp⟩
 split
 ·exact ⟨by simp,by simp,by simp⟩
 split
 ·split
  ·exact ⟨by simp,by simp,by simp⟩
  ·exact ⟨by simp,by simp,by simp⟩
 split
 ·exact ⟨by simp,by simp,by simp⟩
 split
 ·exact ⟨by simp,by simp,by simp⟩
 ·exact ⟨by simp,by simp,by simp⟩
def SR (B M:Nat):Nat->Prop:=fun q=>(B+2<=q/\q<M)∨M+3<=q
theorem len_flat : ∀ {l:List Rec},l.length<=(l.flatMap oneB).length
 |[]=>by simp
 |r::l=>by
  rw [List.flatMap_cons,List.length_append,List.length_cons];have:=oneB_pos r;have:=len_flat (l:=l);omega
theorem rbody_zero (f:Fil):RBodC 0 f:=by
 intro msg l v cb fb w hm0 hm1 hchk hr hll hT;clear hchk hr hll hT;have e13:(13:Int) - ((0:Nat):Int)=13:=rfl;rw [e13]
 go_enter Tryz.func21,Tryz.ntmps21
 (go_wp2_with fail);refine bodyPost_ret (v:=.tuple #[.agg #[.slice none 0 0,.slice none 0 0],.int .i64 10]) (by simp [results,Tryz.results21,go_sem]) rfl ?_;exact ⟨_,_,rfl,⟨_,_,rfl,rdS_nil _ _ _ _,rdS_nil _ _ _ _,by simp [readC,bod0,Bod.values],by simp [readC,bod0,Bod.unknown]⟩,(Up.refl w).alloc _⟩
theorem rbody_step (k:Nat) (hk12:k+1<=12) (f:Fil) (hright:(wrongN f).1=0) (ih:RBodC k f):RBodC (k+1) f:=by
 intro msg l v cb fb w hm0 hm1 hchk hr hll hT;obtain ⟨la,lc,rfl,_,_⟩:=hr.val;obtain ⟨mi,rfl⟩:∃ mi:Nat,msg=mi:=⟨msg.toNat,by omega⟩;(have hmi:mi<f.msgs.length:=by omega);(have hm:f.msgs[(mi:Int).toNat]? = some f.msgs[mi]:=by rw [Int.toNat_natCast,List.getElem?_eq_getElem hmi]);have hmr:=right_msg hright f.msgs[mi] (List.getElem_mem hmi);have hch:∀ z∈f.msgs[mi].fields,0<=z.choice:=fun z hz=>(choice_16 hmr hz).1;have h16:=(msg_field hmr).1;have hty:=field_typed hmr;have hself:∀ z∈f.msgs[mi].fields,fldN f.msgs[mi].fields z.number=some z:=fun z hz=>fld_self hmr hz
 have hnum:∀ z∈f.msgs[mi].fields,1<=z.number/\z.number<536870912:=fun z hz=>by
  obtain ⟨i,hi,rfl⟩:=List.getElem_of_mem hz;have:=field_facts ((msg_field hmr).2.2 i hi);exact ⟨this.1,this.2.1⟩
 obtain ⟨hcc,vm,ve,hcm,hce,hfv⟩:=id hchk;obtain ⟨vm',ve',he',hm',he''⟩:=id hfv;simp only [Value.agg.injEq,Array.mk.injEq,List.cons.injEq,and_true] at he';obtain ⟨rfl,rfl⟩:=he';obtain ⟨ma,mc,rfl,_,_⟩:=hm'.val;obtain ⟨ea,ec,rfl,_,_⟩:=he''.val;obtain ⟨mb,mo,cs,rfl,_,_,hcs,hd⟩:=hm'.at hmi;obtain ⟨vf,vb,hd,hfs,hbs,hnm⟩:=hd;subst hd;obtain ⟨fa,fc,rfl,_,_⟩:=hfs.val;obtain ⟨ba,bc,rfl,_,_⟩:=hbs.val;have s0:=hcs 0 _ rfl;have s1:=hcs 1 _ rfl;have s2:=hcs 2 _ rfl;simp only [Nat.add_zero] at s0;have Hjn:=hid (joinK_ok hright k 12 (by omega));have Hrj:=hid (rjoin_c f hright k (by omega));have Hunk:=hid (read_unkLe hright k (by omega))
 have Hrd:=hid (show ∀ (x:Fld) (r:Rec),x∈f.msgs[mi].fields->x.kind=10->(readC f k (msgI f x.type) r.bytes).2=0->wrongB f k (msgI f x.type) (readC f k (msgI f x.type) r.bytes).1=0 from fun x r hx h10 hz=>by
  have hmb:=msgI_bd f x.type;have hm0:=(typed_facts (hty x hx)).2.2.1 h10;exact read_right hright k (by omega) _ _ hm0 (by omega) hz)
 have Hright:=hid hright;have Hfs:=hid hfs;have Hchk:=hid hchk;have Hih:=hid ih;have Hr:=hid hr;have HT:=hid hT;have Hch:=hid hch;have Hty:=hid hty;have Hself:=hid hself;have H16:=hid h16;have Hnum:=hid hnum;obtain ⟨RES,hRES⟩:∃ RES,readC f (k+1) (mi:Int) l=RES:=⟨_,rfl⟩;rw [hRES];rw [readC,hm] at hRES;have HRES:=hid hRES;clear hcs hm' he'' hfv hright ih hfs hchk hmr hch hty hself h16 hm hr hT hRES hnum;generalize f.msgs[mi]=m at *;(have hm2:(mi:Int)<(f.msgs.length:Int):=by omega);(have hdeep:¬ ((12:Int)<13 - ((k+1:Nat):Int)):=by omega);(have hde:(13:Int) - ((k+1:Nat):Int)=12 - (k:Int):=by omega);rw [hde] at hdeep ⊢;have Hpar:=hid (fun W (u:Up w W)=>parse_any (.slice la l.length lc) l W (Hr.out.up stable_u8 u));clear hde
 go_enter Tryz.func21,Tryz.ntmps21
 by_cases hp0:(parse l).2.1=0
 ·obtain ⟨hp1,hp2,hp3⟩:=parse_right hp0;have hres:=HRES.out;rw [if_neg (by simpa using hp0)] at hres;simp only at hres;(have hL4:(parse l).1.length<=4000:=by have:=len_flat (l:=(parse l).1);omega);have Hres:=hid hres;have Hp2:=hid hp2;have Hp3:=hid (show ((parse l).1.flatMap oneB).length<=4000 by omega);have HL4:=hid hL4;clear hres HRES hp1 hp2 hp3;rw [hp0] at Hpar;clear hp0;generalize (parse l).1=L at *;generalize (parse l).2.2=at' at *
  go_upto_region 4 with (go_at_call 41;go_must (refine (Hpar.out _ ((Up.refl w).alloc _)).mono ?_;rintro e w2 ⟨v2,rfl,how2,hu2⟩))
  obtain ⟨ra,rc,rfl,_,_⟩:=(how2.rd (S':=fun _=>True) stable_rec (fun _ _=>trivial) (fun _ _=>trivial)).val;have hz1:(w.alloc (.cells #[.slice none 0 0,.slice none 0 0] 29)).heap.size+1=w.heap.size+2:=by simp
  have hrl0:=how2.rd (S':=fun q=>w.heap.size+2<=q) stable_rec (fun q hq=>by rw [←hz1];exact hq) (fun q hq=>by
   have:=(how2.lo q hq).1;rw [hz1] at this;exact this)
  have Hrl:=hid (hrl0.keep stable_rec (S':=fun q=>w.heap.size+2<=q/\q<w2.heap.size) (w':=w2) (fun q hs hq=>⟨rfl,hs,hq⟩));have hbR:=hu2.blk (blk_new w (.cells #[.slice none 0 0,.slice none 0 0] 29) (g:=w.heap.size) rfl);have hu02:=((Up.refl w).alloc _).trans hu2;(have hM2:w.heap.size+1<=w2.heap.size:=by have:=hu2.size;simpa using this);obtain ⟨M,hM⟩:∃ M,w2.heap.size=M:=⟨_,rfl⟩;have u3:=hu02.alloc (.cells #[.int .i64 0,.int .i64 (at':Int)] 60);have s0:=u3.cell_some s0;have s1:=u3.cell_some s1;have s2:=u3.cell_some s2;have hcm:=u3.cell_some hcm;have hce:=u3.cell_some hce;have hcc:=u3.cell_some hcc;clear how2 hz1 hrl0 hu2
  go_upto_region 8 with (fail)
  generalize hW:((w2.alloc (.cells #[.int .i64 0,.int .i64 (at':Int)] 60)).alloc (.cells #[.string ⟨m.name.toArray⟩,.slice fa m.fields.length fc,.slice ba m.barred.length bc] 35)).alloc (.cells #[.slice none 0 0,.slice none 0 0] 29)=w5;(have hu25:Up w2 w5:=by rw [←hW];exact (((Up.refl w2).alloc _).alloc _).alloc _);(have hbm:w5.heap[M+1]? = some (.cells #[.string ⟨m.name.toArray⟩,.slice fa m.fields.length fc,.slice ba m.barred.length bc] 35 (0,0)):=by rw [←hW];exact blk_old _ (blk_new (w2.alloc _) _ (by simp [hM])));(have hbN:w5.heap[M+1+1]? = some (.cells #[.slice none 0 0,.slice none 0 0] 29 (0,0)):=by rw [←hW];exact blk_new ((w2.alloc _).alloc _) _ (by simp [hM]));have hbR:=hu25.blk hbR;(have hz5:w5.heap.size=M+3:=by rw [←hW];simp [hM]);have hu5:=hu02.trans hu25;rw [hM] at Hrl hM2 ⊢;have Hu02:=hid hu02;clear hW s0 s1 s2 hcm hce hcc u3 hu02;have HbR:=hid hbR;have Hbm:=hid hbm;have HbN:=hid hbN;have Hz5:=hid hz5;have Hu5:=hid hu5;have HM2:=hid hM2;have Hu25:=hid hu25;have HMs:=hid hM;clear hbR hbm hbN hz5 hu5 hM2 hM hu25 Hpar;have Hfc:=hid (fun n W (u:Up w W)=>field_any (.string ⟨m.name.toArray⟩) (.slice fa m.fields.length fc) (.slice ba m.barred.length bc) m.fields n W ⟨_,rfl⟩ ⟨_,_,_,rfl⟩ (Hfs.out.up stable_fld u));(have hSR0:¬ SR w.heap.size M w.heap.size:=by rintro (⟨h,_⟩|h) <;> (have:=HM2.out;omega));(have hSR1:¬ SR w.heap.size M (M+1+1):=by rintro (⟨_,h⟩|h) <;> omega);have HSR0:=hid hSR0;have HSR1:=hid hSR1;clear hSR0 hSR1;go_wp2_with fail
  go_loopw [46] (fun i wr=>∃ (j:Nat) (out:Bod) (p1 p2:Option Addr) (c1 c2:Nat),j<=L.length/\i=.int .i64 j/\readL (fun x r=>valueC (fun bs=>readC f k (msgI f x.type) bs) x r) (addC (joinK f 12) f m.fields) m.fields (L.drop j) out=RES/\AllV (wrongB f k) f m.fields out.values/\UnkLe ((L.take j).flatMap oneB).length (k+1) out /\
   wr.heap[M+1+1]? = some (.cells #[.slice p1 out.values.length c1,.slice p2 out.unknown.length c2] 29 (0,0))/\wr.heap[w.heap.size]? = some (.cells #[.slice none 0 0,.slice none 0 0] 29 (0,0))/\wr.heap[M+1]? = some (.cells #[.string ⟨m.name.toArray⟩,.slice fa m.fields.length fc,.slice ba m.barred.length bc] 35 (0,0)) /\
   RdS (DValD (k+1)) 4 (fun q=>SR w.heap.size M q/\(Value.slice p2 out.unknown.length c2).ownBlock≠some q) wr (.slice p1 out.values.length c1) out.values/\OwnS DRecZ (M+3) 87 4 (SR w.heap.size M) wr (.slice p2 out.unknown.length c2) out.unknown/\Up w2 wr) (fun i _=>L.length - (intOf i).toNat)
  case atStart=>exact ⟨0,bod0,none,none,0,0,by omega,rfl,Hres.out,AllV.nil,unk_none0 _ _,HbN.out,HbR.out,Hbm.out,rdS_nil _ _ _ _,OwnS.nil _ _ _ _ _ _,Hu25.out⟩
  case round =>
   clear HbN HbR Hbm;obtain ⟨j,out,p1,p2,c1,c2,hj,rfl,hl,hall,hun,hbN,hbR,hbm,hrv,how,hu⟩:=hrel;have Hl:=hid hl;have Hall:=hid hall;have Hun:=hid hun;have HbN:=hid hbN;have HbR:=hid hbR;have Hbm:=hid hbm;have Hrv:=hid hrv;have How:=hid how;have Hu:=hid hu;have Hz:=hid (show M+3<=wr.heap.size by have:=lt_of_block hbN;omega)
   by_cases hlt:j<L.length
   ·obtain ⟨rb,ro,a3,c3,rfl,hrb,h64,r0,r1,r2,r3⟩:=rdRec_cell (Hrl.out.up stable_rec hu) hlt
    have HrbM:=hid (show rb<M by
     obtain ⟨ao,cap,e,_,_,_,g4⟩:=Hrl.out;obtain ⟨b1,o1,cs1,e1,e2,_⟩:=g4 j hlt;simp only [Value.slice.injEq] at e;rw [←e.1] at e1;simp only [Option.some.injEq,Addr.mk.injEq] at e1;rw [e1.1];exact e2.2)
    have Hdr:=hid (show readL (fun x r=>valueC (fun bs=>readC f k (msgI f x.type) bs) x r) (addC (joinK f 12) f m.fields) m.fields (L[j]::L.drop (j+1)) out=RES by rw [←List.drop_eq_getElem_cons hlt];exact hl);have Htk:=hid (show ((L.take (j+1)).flatMap oneB).length=((L.take j).flatMap oneB).length+(oneB L[j]).length by rw [take_flat oneB hlt,List.length_append]);have Htl:=hid (show ((L.take j).flatMap oneB).length<=4000 from Nat.le_trans (flat_le oneB L j) Hp3.out);have Hr1:=hid (Hp2.out _ (List.getElem_mem hlt));(have i0:(0:Int)<=(j:Int):=by omega);(have i1:(j:Int)<(L.length:Int):=by omega);have hL4:L.length<=4000:=HL4.out;have Hrb:=hid hrb;have H64:=hid h64;have Hlt:=hid hlt;clear hl hall hun hbN hbR hbm hrv how hu hj hrb h64;generalize L[j]=r at *
    have Hrlen:=hid (show r.bytes.length<=4000/\r.bytes.length+1<=(oneB r).length from ⟨by
     obtain ⟨_,_,_,_,h5⟩:=wrongRec_ok Hr1.out.1;rcases h5 with h|h
     ·exact h.2.2
     ·rw [h.2];simp,rec_len Hr1.out.1⟩)
    obtain ⟨wq,rfl⟩:∃ wq:World,wq=wr:=⟨_,rfl⟩;have m0:=ro0 Hbm.out;have m1:=ro1 Hbm.out;have m2:=ro2 Hbm.out;have dd:wq.drew.cell? ⟨M+1,0,none⟩=some (.string ⟨m.name.toArray⟩)/\wq.drew.cell? ⟨M+1,1,none⟩=some (.slice fa m.fields.length fc)/\wq.drew.cell? ⟨M+1,2,none⟩=some (.slice ba m.barred.length bc)/\wq.drew.cell? ⟨rb,ro+j*4,none⟩=some (.int .i64 r.number):=⟨m0,m1,m2,r0⟩;have DD:=hid (fun W (u:Up wq W)=>(⟨u.cell_some m0,u.cell_some m1,u.cell_some m2,u.cell_some r0⟩:W.cell? ⟨M+1,0,none⟩=some (.string ⟨m.name.toArray⟩)/\W.cell? ⟨M+1,1,none⟩=some (.slice fa m.fields.length fc)/\W.cell? ⟨M+1,2,none⟩=some (.slice ba m.barred.length bc)/\W.cell? ⟨rb,ro+j*4,none⟩=some (.int .i64 r.number)));have HR:=hid (⟨r0,r1,r2,r3⟩:wq.cell? ⟨rb,ro+j*4,none⟩=some (.int .i64 r.number)/\wq.cell? ⟨rb,ro+j*4+1,none⟩=some (.int .i64 r.how)/\wq.cell? ⟨rb,ro+j*4+2,none⟩=some (.int .u64 (r.bits:Int))/\wq.cell? ⟨rb,ro+j*4+3,none⟩=some (.slice a3 r.bytes.length c3));have Hfc5:=hid (fun W (u:Up wq W)=>Hfc.out r.number W (Hu02.out.trans (Hu.out.trans u)));clear m0 m1 m2 r0 r1 r2 r3
    go_upto_region 11 with (fail)
    go_cut [15] (fun p wc=>p=.int .i64 (idxP (fun x:Fld=>x.number==r.number) m.fields)/\Up wq wc)
    case first =>
     go_region_held3 (fun w'=>w'.cell? ⟨M+1,0,none⟩=some (.string ⟨m.name.toArray⟩)/\w'.cell? ⟨M+1,1,none⟩=some (.slice fa m.fields.length fc)/\w'.cell? ⟨M+1,2,none⟩=some (.slice ba m.barred.length bc)/\w'.cell? ⟨rb,ro+j*4,none⟩=some (.int .i64 r.number))
      (first|with_reducible exact dd|with_reducible exact DD.out _ hw5)
      (first|(go_at_call 30;refine (Hfc5.out _ (Up.refl wq).drew).mono ?_;rintro e w6 ⟨rfl,hu6'⟩;have hw5:=(Up.refl wq).drew.trans hu6'))
     all_goals
      go_wp2_with fail
      go_meet
      exact ⟨rfl,hw5⟩
    case rest =>
    obtain ⟨rfl,huc⟩:=hcut;obtain ⟨wd,rfl⟩:∃ wd:World,wd=wc:=⟨_,rfl⟩;have Huc:=hid huc;have Hbm2:=hid (huc.blk Hbm.out);have HbN2:=hid (huc.blk HbN.out);have HbR2:=hid (huc.blk HbR.out);clear dd DD huc Hfc5;have Hsl:Hid (∀ q,(w.heap.size+2<=q/\q<M)->(fun q=>SR w.heap.size M q/\(Value.slice p2 out.unknown.length c2).ownBlock≠some q) q):=hid (fun q hq=>⟨.inl hq,fun e=>by have:=(How.out.lo q e).1;omega⟩);obtain ⟨hi,hfd⟩|⟨jj,hjj,hi,hfd⟩:=idxP_cases (fun z:Fld=>z.number==r.number) m.fields
    ·rw [hi];have hdr:=Hdr.out;rw [readL,show fldN m.fields r.number=none from hfd] at hdr;simp only at hdr;have Hdr2:=hid hdr;have hul:out.unknown.length<=4000:=Nat.le_trans Hun.out.1 Htl.out;have HowD:=hid (How.out.up stable_recz (Huc.out.trans (Up.refl wd).drew));obtain ⟨xs,hxs⟩:=HowD.out.own;have Hxs:=hid hxs;have hM3:M+3<=wd.heap.size:=Nat.le_trans Hz.out Huc.out.size;have n1:=ro1 HbN2.out;have q0:=Huc.out.cell_some HR.out.1;have q1:=Huc.out.cell_some HR.out.2.1;have q2:=Huc.out.cell_some HR.out.2.2.1;have q3:=Huc.out.cell_some HR.out.2.2.2;clear hdr hxs Hdr hi hfd
     go_upto_region 13 with (fail)
     have DD2:=hid (fun W (u:Up wd W)=>(⟨u.cell_some n1,u.cell_some q0,u.cell_some q1,u.cell_some q2,u.cell_some q3⟩:W.cell? ⟨M+1+1,1,none⟩=some (.slice p2 out.unknown.length c2)/\W.cell? ⟨rb,ro+j*4,none⟩=some (.int .i64 r.number)/\W.cell? ⟨rb,ro+j*4+1,none⟩=some (.int .i64 r.how)/\W.cell? ⟨rb,ro+j*4+2,none⟩=some (.int .u64 (r.bits:Int))/\W.cell? ⟨rb,ro+j*4+3,none⟩=some (.slice a3 r.bytes.length c3)));refine wp_region_last (m:=9) (by kernel_rfl) (by rfl) (by kernel_rfl) (by kernel_rfl) (by kernel_rfl) (S:=fun w'=>w'.cell? ⟨M+1+1,1,none⟩=some (.slice p2 out.unknown.length c2)/\w'.cell? ⟨rb,ro+j*4,none⟩=some (.int .i64 r.number)/\w'.cell? ⟨rb,ro+j*4+1,none⟩=some (.int .i64 r.how)/\w'.cell? ⟨rb,ro+j*4+2,none⟩=some (.int .u64 (r.bits:Int))/\w'.cell? ⟨rb,ro+j*4+3,none⟩=some (.slice a3 r.bytes.length c3)) ?_;have hHeld:(fun w':World=>w'.cell? ⟨M+1+1,1,none⟩=some (.slice p2 out.unknown.length c2)/\w'.cell? ⟨rb,ro+j*4,none⟩=some (.int .i64 r.number)/\w'.cell? ⟨rb,ro+j*4+1,none⟩=some (.int .i64 r.how)/\w'.cell? ⟨rb,ro+j*4+2,none⟩=some (.int .u64 (r.bits:Int))/\w'.cell? ⟨rb,ro+j*4+3,none⟩=some (.slice a3 r.bytes.length c3)) wd.drew:=⟨n1,q0,q1,q2,q3⟩;change wpAnyH _ _ _ _ _ _ _ _ wd.drew;clear n1 q0 q1 q2 q3;refine wtk 0 (v:=?_) rfl ?_ ?_
     rotate_left
     ·(intro w hSw;(try dsimp only at hSw);go_simp)
      try with_reducible rfl
     (try simp only [Act.put,List.setIfInBounds_toArray]);refine wtk 1 (v:=?_) rfl ?_ ?_
     rotate_left
     ·(intro w hSw;(try dsimp only at hSw);go_simp)
      try with_reducible rfl
     (try simp only [Act.put]);refine wtk 2 (v:=?_) rfl ?_ ?_
     rotate_left
     ·(intro w hSw;(try dsimp only at hSw);go_simp)
      try with_reducible rfl
     (try simp only [Act.put]);refine wtk 3 (v:=?_) rfl ?_ ?_
     rotate_left
     ·(intro w hSw;(try dsimp only at hSw);go_simp)
      try with_reducible rfl
     (try simp only [Act.put]);refine wtk 4 (v:=?_) rfl ?_ ?_
     rotate_left
     ·(intro w hSw;(try dsimp only at hSw);go_simp)
      try with_reducible rfl
     (try simp only [Act.put]);refine wtk 5 (v:=?_) rfl ?_ ?_
     rotate_left
     ·(intro w hSw;(try dsimp only at hSw);go_simp)
      try with_reducible rfl
     (try simp only [Act.put]);refine wpAnyH_ready (rs:=[6]) (by kernel_rfl) (by simp) ?_;refine AllReadyH.cons rfl (fun K hK=>?_) AllReadyH.nil;go_simp;refine hK.out _ _ (DD2.out _ ((Up.refl wd).alloc _).drew) (fun hHeld=>?_);clear hK K;(try simp only [Act.put,List.setIfInBounds_toArray,List.set_cons_zero,List.set_cons_succ]);have ew:(wd.alloc (.cells #[.int .i64 r.number,.int .i64 r.how,.int .u64 (r.bits:Int),.slice a3 r.bytes.length c3] 87)).drew=wd.drew.alloc (.cells #[.int .i64 r.number,.int .i64 r.how,.int .u64 (r.bits:Int),.slice a3 r.bytes.length c3] 87):=rfl;rw [ew] at hHeld ⊢;clear ew;refine wpAnyH_ready (rs:=[7]) (by kernel_rfl) (by simp) ?_;refine AllReadyH.cons rfl (fun K hK=>?_) AllReadyH.nil;refine step_app1 eRec' _ (by rfl) _ _ (by rfl) (M+3) _ _ _ (by rfl) Hxs.out _ (by rfl) (by first|rfl|simp) (by rfl) (oc (by rfl)) (by omega) (by unfold maxLen;omega) (show M+3<=wd.drew.heap.size from hM3) ?_;intro v9 w9 how9 hev9;obtain ⟨a9,c9,rfl⟩:=own_val how9;have hlo:∀ q,(Value.slice p2 out.unknown.length c2).ownBlock=some q->M+3<=q/\q<wd.heap.size:=fun q e=>HowD.out.lo q e;have hb9:=hev9.blk ((Up.refl wd).drew.blk HbN2.out) (fun e=>by have:=(hlo _ e).1;omega);(have hne:∀ q,q<M+3->(Value.slice p2 out.unknown.length c2).ownBlock≠some q:=fun q hq e=>by have:=(hlo _ e).1;omega);(have hrbM:rb<M+3:=by have:=HrbM.out;omega);have hD:=DD2.out _ (Up.refl wd).drew;refine hK.out _ _ ⟨evo_cell hev9 hD.1 (hne _ (by simp)),evo_cell hev9 hD.2.1 (hne _ hrbM),evo_cell hev9 hD.2.2.1 (hne _ hrbM),evo_cell hev9 hD.2.2.2.1 (hne _ hrbM),evo_cell hev9 hD.2.2.2.2 (hne _ hrbM)⟩ (fun hHeld=>?_);clear hD;clear hK K;(try simp only [Act.put,List.setIfInBounds_toArray]);refine wtk 8 (v:=?_) rfl ?_ ?_
     rotate_left
     ·(intro w hSw;(try dsimp only at hSw);go_simp)
      try with_reducible rfl
     (try simp only [Act.put]);refine wpAnyH_done (by kernel_rfl) ?_ _;have n1':=ro1 hb9;have nf:∀ o,w9.frozen? ⟨M+1+1,o,none⟩=false:=fun o=>frozen_of_row w9 _ o _ _ hb9;have nz:M+1+1<w9.heap.size:=lt_of_block hb9;have hu59:Up w2 w9:=Up.evo ((Hu.out.trans Huc.out).trans (Up.refl wd).drew) hev9 (fun q e=>by have:=(hlo _ e).1;have:=HMs.out;omega)
     have hdr:DRecZ (Av2 (SR w.heap.size M) (.slice p2 out.unknown.length c2)) wd.drew r [.int .i64 r.number,.int .i64 r.how,.int .u64 (r.bits:Int),.slice a3 r.bytes.length c3]:=by
      refine ⟨⟨_,rfl,Hrb.out.keep stable_u8 (fun q hq hq2=>⟨(Huc.out.trans (Up.refl wd).drew).block q hq2,(Hsl.out q hq).1,(Hsl.out q hq).2⟩),H64.out⟩,?_⟩;have:=Hrlen.out.1;omega
     have hsn:=OwnS.snoc stable_recz HowD.out Hxs.out how9 hev9 (by rfl) hdr;have hplace:∀ q,(Value.slice a9 (out.unknown.length+1) c9).ownBlock=some q->(Value.slice p2 out.unknown.length c2).ownBlock=some q∨wd.heap.size<=q:=fun q e=>hev9.place q e;have hblk:∀ q,q<wq.heap.size->(Value.slice p2 out.unknown.length c2).ownBlock≠some q->w9.heap[q]? = wq.heap[q]? := fun q hq hn=>(hev9.grown.block q (Nat.lt_of_lt_of_le hq Huc.out.size) (fun e=>hn e.symm)).trans (Huc.out.block q hq);have Hhsn:=hid hsn;have Hb9:=hid hb9;have Hhu59:=hid hu59;have Hplace:=hid hplace;have Hblk:=hid hblk;have Hne:=hid hne;clear hsn hb9 hu59 hplace hblk hne hdr how9 hev9 hlo hHeld DD2;refine AskLast.normal (wpOp_step rfl (fun K' hK'=>?_));go_simp;refine hK' _ _ ?_;clear hK';go_wp2_with fail
     go_roundw
     case rel =>
      have hoN:(Value.slice a9 (out.unknown.length+1) c9).ownBlock≠some (M+1+1):=fun e=>by
       rcases Hplace.out _ e with h|h
       ·exact Hne.out _ (by omega) h
       ·have:=hM3;omega
      have hold:∀ q,q<M+3->q≠M+1+1->(w9.setCell ⟨M+1+1,1,none⟩ (.slice a9 (out.unknown.length+1) c9)).heap[q]? = wq.heap[q]? := fun q hq hn=>by
       rw [heap_setCell_other _ ⟨M+1+1,1,none⟩ q _ hn];exact Hblk.out q (by have:=Hz.out;omega) (Hne.out q hq)
      refine ⟨j+1,.mk out.values (out.unknown++[r]),p1,a9,c1,c9,by have:=Hlt.out;omega,by have:=Hlt.out;go_num,Hdr2.out,Hall.out,⟨?_,fun v hv s hs=>(Hun.out.2 v hv s hs).mono (by rw [Htk.out];omega)⟩,?_,?_,?_,?_,?_,?_⟩
      ·rw [Htk.out];show (out.unknown++[r]).length<=_;rw [List.length_append];have:=Hun.out.1;have:=Hrlen.out.2;simp only [List.length_cons,List.length_nil];omega
      ·have h:=heap_setCell_same w9 (M+1+1) 1 _ _ (.slice a9 (out.unknown.length+1) c9) Hb9.out;show _=some (Obj.cells #[.slice p1 out.values.length c1,.slice a9 (out.unknown++[r]).length c9] _ (0,0));rw [List.length_append];exact h
      ·exact (hold _ (by have:=HM2.out;omega) (by have:=HM2.out;omega)).trans HbR.out
      ·exact (hold _ (by omega) (by omega)).trans Hbm.out
      ·refine Hrv.out.keep (stable_val (k+1)) (fun q hq hq2=>⟨?_,hq.1,fun e=>?_⟩)
       ·rw [heap_setCell_other _ ⟨M+1+1,1,none⟩ q _ (fun e=>HSR1.out (by have e':q=M+1+1:=e;rw [←e'];exact hq.1))];exact Hblk.out q hq2 hq.2
       ·have e:(Value.slice a9 (out.unknown.length+1) c9).ownBlock=some q:=by
         rw [show (Bod.mk out.values (out.unknown++[r])).unknown.length=out.unknown.length+1 from by show (out.unknown++[r]).length=_;simp] at e;exact e
        rcases Hplace.out _ e with h|h
        ·exact hq.2 h
        ·have:=Huc.out.size;omega
      ·have h:=OwnS.setCell stable_recz Hhsn.out (p:=⟨M+1+1,1,none⟩) hoN HSR1.out (.slice a9 (out.unknown.length+1) c9);show OwnS _ _ _ _ _ _ (.slice a9 (out.unknown++[r]).length c9) (out.unknown++[r]);rw [List.length_append];exact h
      ·exact Up.setCell Hhu59.out (p:=⟨M+1+1,1,none⟩) (by have:=HMs.out;show w2.heap.size<=M+1+1;omega) _
     case measure=>have:=Hlt.out;simp [intOf];omega
    ·obtain ⟨xb,xo,rfl,hxa⟩:=fld_at Hfs.out hjj;have hFm:m.fields[jj]∈m.fields:=List.getElem_mem hjj;have hFn:(m.fields[jj]).number=r.number:=(fldN_mem (show fldN m.fields r.number=some m.fields[jj] from hfd)).2;(have j0:(0:Int)<=(jj:Int):=by omega);(have j1:(jj:Int)<(m.fields.length:Int):=by omega);(have jn:¬ (jj:Int)<0:=by omega);have hdr:=Hdr.out;rw [readL,show fldN m.fields r.number=some m.fields[jj] from hfd] at hdr;simp only at hdr;have Hself':=hid (Hself.out _ hFm);have Hty':=hid (Hty.out _ hFm);have Hnum':=hid (Hnum.out _ hFm);have Hrd':=hid (Hrd.out (m.fields[jj]'hjj) r hFm);have Hxa:=hid hxa;rw [hi];clear hi hfd hxa hFm Hdr Hself Hty Hnum Hrd;generalize m.fields[jj]=F at *
     have Hval:=hid (rvalue_c (fun q=>SR w.heap.size M q/\(Value.slice p2 out.unknown.length c2).ownBlock≠some q) k f Hih.out F r cb fb xb (xo+jj*6) rb (ro+j*4) c3 a3 wd (by omega) (Hchk.out.up (Hu02.out.trans (Hu.out.trans Huc.out))) (Hxa.out.up (Hu02.out.trans (Hu.out.trans Huc.out))) (Huc.out.cell_some HR.out.2.1) (Huc.out.cell_some HR.out.2.2.1) (Huc.out.cell_some HR.out.2.2.2)
      (Hrb.out.keep stable_u8 (fun q hq hq2=>⟨Huc.out.block q hq2,Hsl.out q hq⟩)) Hrlen.out.1 H64.out (HT.out.up (Hu02.out.trans (Hu.out.trans Huc.out))) Hty'.out Hnum'.out.1 Hnum'.out.2)
     have hvn:(valueC (fun bs=>readC f k (msgI f F.type) bs) F r).1.1=F.number:=value_num;have hvl:=val_len (rd:=fun bs=>readC f k (msgI f F.type) bs) (x:=F) (r:=r) (typed_facts Hty'.out).1 (typed_facts Hty'.out).2.1;have hvu:=unk_value (wb:=wrongB f k) (rd:=fun bs=>readC f k (msgI f F.type) bs) (x:=F) (r:=r) (k:=k) (fun l=>Hunk.out (msgI f F.type) l);have hvf:=value_fit (wb:=wrongB f k) (f:=f) (rd:=fun bs=>readC f k (msgI f F.type) bs) (x:=F) (r:=r) Hty'.out Hr1.out.1 H64.out (fun h10 _ hz=>Hrd'.out h10 hz);generalize valueC (fun bs=>readC f k (msgI f F.type) bs) F r=VC at *;obtain ⟨V,sm,er⟩:=VC;simp only at hvn hvl hvu hvf hdr;have Hvn:=hid hvn;have Hvl:=hid hvl;have Hvu:=hid hvu;have Hvf:=hid hvf;have HdrA:=hid hdr;have HFn:=hid hFn;clear hvn hvl hvu hvf hdr hFn;have m1:wd.cell? ⟨M+1,1,none⟩=some (.slice (some ⟨xb,xo,none⟩) m.fields.length fc):=cell_of_row wd _ 1 _ _ _ Hbm2.out
     go_upto_region 16 with (go_at_call 42;go_must (refine Hval.out.mono ?_;rintro e w6 ⟨e1,g1,e2,g2,e3,g3,rfl,hdv,hu6⟩))
     have Hdv:=hid hdv;have hux:=hu6.alloc (.cells #[.int .i64 F.number,.slice e1 V.2.1.length g1,.slice e2 V.2.2.1.length g2,.slice e3 V.2.2.2.length g3] 71);have hbV:=blk_new w6 (.cells #[.int .i64 F.number,.slice e1 V.2.1.length g1,.slice e2 V.2.2.1.length g2,.slice e3 V.2.2.2.length g3] 71) (g:=w6.heap.size) rfl;obtain ⟨X,hX⟩:∃ X,w6.heap.size=X:=⟨_,rfl⟩;(have hXz:wd.heap.size<=X:=by rw [←hX];exact hu6.size);have hkv:DValD (k+1) (SVal (fun q=>SR w.heap.size M q/\(Value.slice p2 out.unknown.length c2).ownBlock≠some q) wd.heap.size) (w6.alloc (.cells #[.int .i64 F.number,.slice e1 V.2.1.length g1,.slice e2 V.2.2.1.length g2,.slice e3 V.2.2.2.length g3] 71)) V [.int .i64 F.number,.slice e1 V.2.1.length g1,.slice e2 V.2.2.1.length g2,.slice e3 V.2.2.2.length g3]:=stable_val (k+1) _ _ _ _ _ _ (Keep.upS ((Up.refl w6).alloc _)) hdv;generalize w6.alloc (.cells #[.int .i64 F.number,.slice e1 V.2.1.length g1,.slice e2 V.2.2.1.length g2,.slice e3 V.2.2.2.length g3] 71)=w7 at *;rw [hX] at hbV ⊢;have HbV:=hid hbV;have Hux:=hid (Huc.out.trans hux);have Hkv:=hid hkv;have HXz:=hid hXz;clear hdv hux hbV hXz hkv hX hu6 m1 Hdv Hval
     by_cases her:er=0
     rotate_left
     ·(have hne:(er != 0)=true:=by rw [bne_iff_ne];exact her);have Hans:=hid (show RES=(bod0,er) by rw [←HdrA.out,if_pos her]);clear her HdrA;have z0:=ro0 (Hux.out.blk HbR.out);have z1:=ro1 (Hux.out.blk HbR.out);have zf:∀ o,w7.frozen? ⟨w.heap.size,o,none⟩=false:=fun o=>frozen_of_row w7 _ o _ _ (Hux.out.blk HbR.out);have zz:w.heap.size<w7.heap.size:=lt_of_block (Hux.out.blk HbR.out);(go_wp2_with fail);refine bodyPost_ret (v:=.tuple #[.agg #[.slice none 0 0,.slice none 0 0],.int .i64 er]) (by simp [results,Tryz.results21,go_sem,z0,z1]) rfl ?_;rw [Hans.out];refine ⟨_,_,rfl,⟨_,_,rfl,rdS_nil _ _ _ _,rdS_nil _ _ _ _,by simp [bod0,Bod.values],by simp [bod0,Bod.unknown]⟩,?_⟩;exact Up.setCell (Up.setCell ((Hu02.out.trans Hu.out).trans Hux.out) (p:=⟨w.heap.size,0,none⟩) (Nat.le_refl _) _) (p:=⟨w.heap.size,1,none⟩) (Nat.le_refl _) _
     subst her;have hdr:=HdrA.out;rw [if_neg (by simp)] at hdr
     cases sm with
     |false =>
      rw [if_pos rfl] at hdr;have HdrS:=hid hdr;clear hdr HdrA;go_wp2_with fail
      go_roundw
      case rel =>
       refine ⟨j+1,out,p1,p2,c1,c2,by have:=Hlt.out;omega,by have:=Hlt.out;go_num,HdrS.out,Hall.out,Hun.out.mono (by rw [Htk.out];omega),(Hux.out).blk HbN.out,(Hux.out).blk HbR.out,(Hux.out).blk Hbm.out,?_,?_,Hu.out.trans (Hux.out)⟩
       ·exact Hrv.out.up (stable_val (k+1)) (Hux.out)
       ·exact How.out.up stable_recz (Hux.out)
      case measure=>have:=Hlt.out;simp [intOf];omega
     |true =>
      rw [if_neg (by simp)] at hdr;obtain ⟨hfit,hnm⟩:=Hvf.out rfl rfl;(have hx2:fldN m.fields V.1=some F:=by rw [hnm];exact Hself'.out);have hleft:=add_left Hch.out Hjn.out Hall.out hx2 hfit;have hua:=unk_add Hright.out Hjn.out Hall.out hx2 hfit (A:=((L.take j).flatMap oneB).length) (B:=r.bytes.length) Hun.out.2 Hvu.out;have Hn:=hid (show ∀ q,(fun q=>SR w.heap.size M q/\(Value.slice p2 out.unknown.length c2).ownBlock≠some q) q->q<w7.heap.size->True from fun _ _ _=>trivial)
      have hSv:∀ q,SVal (fun q=>SR w.heap.size M q/\(Value.slice p2 out.unknown.length c2).ownBlock≠some q) wd.heap.size q->(fun q=>SR w.heap.size M q/\(Value.slice p2 out.unknown.length c2).ownBlock≠some q) q:=fun q h=>by
       rcases h with h|h
       ·exact h.1
       ·refine ⟨.inr (by have:=Hz.out;have:=Huc.out.size;omega),fun e=>by have:=(How.out.lo q e).2;have:=Huc.out.size;omega⟩
      have hrv7:=Hrv.out.up (stable_val (k+1)) Hux.out;have hv16:=Nat.le_trans (all_len Hch.out Hall.out) H16.out;have hul:out.unknown.length<=4000:=Nat.le_trans Hun.out.1 Htl.out
      have hadd:=radd_n k ((L.take j).flatMap oneB).length r.bytes.length (k+1) (fun q=>SR w.heap.size M q/\(Value.slice p2 out.unknown.length c2).ownBlock≠some q) f m.fields out F V ⟨m.name.toArray⟩ (some ⟨xb,xo,none⟩) ba p1 p2 e1 e2 e3 m.fields.length fc m.barred.length bc c1 c2 g1 g2 g3 cb fb xb (xo+jj*6) w7 Hrj.out
       (Hchk.out.up (Hu02.out.trans (Hu.out.trans Hux.out))) (Hfs.out.up stable_fld (Hu02.out.trans (Hu.out.trans Hux.out))) hrv7 ⟨by omega,by omega⟩ (Hxa.out.up (Hu02.out.trans (Hu.out.trans Hux.out))) (by rw [Hvn.out];exact stable_val (k+1) _ _ _ _ _ _ (Keep.weak hSv) Hkv.out) Hvn.out (by have:=Hvl.out;have:=Hrlen.out.1;omega) hv16
       Hall.out Hself'.out Hty'.out hfit (fun o ho s hs=>Hun.out.2 o (findV_mem ho).1 s hs) Hvu.out (by have:=Htl.out;have:=Hrlen.out.1;omega)
      rw [Hvn.out] at hadd;generalize addC (joinK f 12) f m.fields out F V=RC at *;have Hadd:=hid hadd;have Hleft:=hid hleft;have Hua:=hid hua;have HdrB:=hid hdr;clear hadd hleft hua hdr hSv hrv7 Hn hx2 hfit hnm HdrA;have v0:=ro0 HbV.out;have v1:=ro1 HbV.out;have v2:=ro2 HbV.out;have v3:=ro3 HbV.out;have n0:=ro0 (Hux.out.blk HbN.out);have n1:=ro1 (Hux.out.blk HbN.out);have m0:=ro0 (Hux.out.blk Hbm.out);have m1:w7.cell? ⟨M+1,1,none⟩=some (.slice (some ⟨xb,xo,none⟩) m.fields.length fc):=cell_of_row w7 _ 1 _ _ _ (Hux.out.blk Hbm.out);have m2:=ro2 (Hux.out.blk Hbm.out);obtain ⟨RB,re⟩:=RC;simp only at Hadd Hleft Hua HdrB
      by_cases hre:re=0
      ·subst hre;have hl:=Hleft.out rfl;rw [if_neg (by simp)] at HdrB;have Hl2:=hid hl;clear hl Hleft
       go_upto_region 20 with (go_at_call 43;go_must (refine Hadd.out.mono ?_;rintro e w8 ⟨vv,vu,rfl,hvu8,hrv8,-,hu8⟩;obtain rfl:=hvu8 rfl;obtain ⟨s1,z1,rfl,_,_⟩:=hrv8.val;have Hrv8:=hid hrv8;have Hu8:=hid (Hux.out.trans hu8);have hbN8:=(Hux.out.trans hu8).blk HbN.out;have nn0:=cell_of_row w8 _ 0 _ _ _ hbN8;have nn1:=cell_of_row w8 _ 1 _ _ _ hbN8;have nnf:=(fun o=>frozen_of_row w8 _ o _ _ hbN8);have nnz:=lt_of_block hbN8;have HbN8:=hid hbN8;have Hu78:=hid hu8;clear v0 v1 v2 v3 n0 n1 m0 m1 m2 hrv8 hu8 hbN8 hvu8))
       go_wp2_with fail
       go_roundw
       case rel =>
        have hue:RB.unknown=out.unknown:=Hl2.out.2.1;refine ⟨j+1,RB,s1,p2,z1,c2,by have:=Hlt.out;omega,by have:=Hlt.out;go_num,HdrB.out,Hl2.out.1,⟨?_,fun v hv s hs=>(Hua.out v hv s hs).mono (by rw [Htk.out];have:=Hrlen.out.2;omega)⟩,?_,?_,?_,?_,?_,?_⟩
        ·rw [hue];exact Nat.le_trans Hun.out.1 (by rw [Htk.out];omega)
        ·rw [hue];exact box2_set HbN8.out _ _
        ·rw [box2_other (by have:=HM2.out;omega)];exact Hu8.out.blk HbR.out
        ·rw [box2_other (by omega)];exact Hu8.out.blk Hbm.out
        ·rw [hue];refine Hrv8.out.keep (stable_val (k+1)) (fun q hq hq2=>?_)
         have hq':(fun q=>SR w.heap.size M q/\(Value.slice p2 out.unknown.length c2).ownBlock≠some q) q:=by
          rcases hq with hq|hq
          ·exact hq
          ·exact ⟨.inr (by have:=Hz.out;have:=Hux.out.size;omega),fun e=>by have:=(How.out.lo q e).2;have:=Hux.out.size;omega⟩
         exact ⟨box2_other (fun e=>HSR1.out (by have e':q=M+1+1:=e;rw [←e'];exact hq'.1)) _ _,hq'⟩
        ·rw [hue];exact OwnS.setCell stable_recz (OwnS.setCell stable_recz (How.out.up stable_recz Hu8.out) (p:=⟨M+1+1,0,none⟩) (fun e=>by have h:=(How.out.lo _ e).1;have h:M+3<=M+1+1:=h;omega) HSR1.out _) (p:=⟨M+1+1,1,none⟩) (fun e=>by have h:=(How.out.lo _ e).1;have h:M+3<=M+1+1:=h;omega) HSR1.out _
        ·exact Up.setCell (Up.setCell (Hu.out.trans Hu8.out) (p:=⟨M+1+1,0,none⟩) (by have:=HMs.out;show w2.heap.size<=M+1+1;omega) _) (p:=⟨M+1+1,1,none⟩) (by have:=HMs.out;show w2.heap.size<=M+1+1;omega) _
       case measure=>have:=Hlt.out;simp [intOf];omega
      ·(have hne:(re != 0)=true:=by rw [bne_iff_ne];exact hre);have Hans:=hid (show RES=(bod0,re) by rw [←HdrB.out,if_pos hre]);have Hre:=hid hre;clear HdrB hre Hleft;have hnb1:w.heap.size≠M+1+1:=by have:=HM2.out;omega
       go_upto_region 21 with (go_at_call 43;go_must (refine Hadd.out.mono ?_;rintro e w8 ⟨vv,vu,rfl,-,hrv8,hvu8,hu8⟩;obtain rfl:=hvu8 Hre.out;obtain ⟨s1,z1,rfl,_,_⟩:=hrv8.val;have Hu8:=hid (Hux.out.trans hu8);have hbN8:=(Hux.out.trans hu8).blk HbN.out;have nn0:=cell_of_row w8 _ 0 _ _ _ hbN8;have nn1:=cell_of_row w8 _ 1 _ _ _ hbN8;have nnf:=(fun o=>frozen_of_row w8 _ o _ _ hbN8);have nnz:=lt_of_block hbN8;clear v0 v1 v2 v3 n0 n1 m0 m1 m2 hrv8 hu8 hbN8 hvu8))
       have hMs:=HMs.out;have hM2':=HM2.out;have hb9:=(box2_other (w:=w8) (g:=M+1+1) hnb1 (.slice s1 RB.values.length z1) (.slice none 0 0)).trans (Hu8.out.blk HbR.out);have hu9:=Up.setCell (Up.setCell (Hu02.out.trans (Hu.out.trans Hu8.out)) (p:=⟨M+1+1,0,none⟩) (show w.heap.size<=M+1+1 by omega) (.slice s1 RB.values.length z1)) (p:=⟨M+1+1,1,none⟩) (show w.heap.size<=M+1+1 by omega) (.slice none 0 0);generalize (w8.setCell ⟨M+1+1,0,none⟩ (.slice s1 RB.values.length z1)).setCell ⟨M+1+1,1,none⟩ (.slice none 0 0)=w9 at *;have Hu9:=hid hu9;have z0:=ro0 hb9;have z1':=ro1 hb9;have zf:∀ o,w9.frozen? ⟨w.heap.size,o,none⟩=false:=fun o=>frozen_of_row w9 _ o _ _ hb9;have zz:w.heap.size<w9.heap.size:=lt_of_block hb9;clear nn0 nn1 nnf nnz hnb1 hMs hM2' hb9 hu9;(go_wp2_with fail);refine bodyPost_ret (v:=.tuple #[.agg #[.slice none 0 0,.slice none 0 0],.int .i64 re]) (by simp [results,Tryz.results21,go_sem,z0,z1']) rfl ?_;rw [Hans.out];refine ⟨_,_,rfl,⟨_,_,rfl,rdS_nil _ _ _ _,rdS_nil _ _ _ _,by simp [bod0,Bod.values],by simp [bod0,Bod.unknown]⟩,?_⟩;exact Up.setCell (Up.setCell Hu9.out (p:=⟨w.heap.size,0,none⟩) (Nat.le_refl _) _) (p:=⟨w.heap.size,1,none⟩) (Nat.le_refl _) _
   ·(have hj':j=L.length:=by omega);(have hres:RES=(out,0):=by rw [←hl,hj',List.drop_length,readL]);have Hres2:=hid hres
    have hul:out.unknown.length<=4000:=by
     have:=hun.1;rw [hj',List.take_length] at this;exact Nat.le_trans this Hp3.out
    have hv16:=Nat.le_trans (all_len Hch.out hall) H16.out;have n0:=ro0 hbN;have n1:=ro1 hbN;have z0:=ro0 hbR;have z1:=ro1 hbR;have zf:∀ o,wr.frozen? ⟨w.heap.size,o,none⟩=false:=fun o=>frozen_of_row wr _ o _ _ hbR;have zz:w.heap.size<wr.heap.size:=lt_of_block hbR;clear hl hall hun hbN hbR hbm hrv how hu hj hj' hres;(go_wp2_with fail);refine bodyPost_ret (v:=.tuple #[.agg #[.slice p1 out.values.length c1,.slice p2 out.unknown.length c2],.int .i64 0]) (by simp [results,Tryz.results21,go_sem,z0,z1]) rfl ?_;rw [Hres2.out];have hur:=How.out.rd (S':=SR w.heap.size M) stable_recz (fun _ h=>h) (fun q hq=>.inr (How.out.lo q hq).1);have kp:∀ (X:World) (i:Nat) (u:Value),Keep (SR w.heap.size M) X (SR w.heap.size M) (X.setCell ⟨w.heap.size,i,none⟩ u):=fun X i u=>Keep.setCell (p:=⟨w.heap.size,i,none⟩) HSR0.out u
    have k2:=((kp wr 0 (.slice p1 out.values.length c1)).trans (kp _ 1 (.slice p2 out.unknown.length c2))).trans (Keep.weak (S':=From w.heap.size) (fun q (hq:SR w.heap.size M q)=>by
     have:=HM2.out;rcases hq with hq|hq
     ·exact Nat.le_trans (by omega) hq.1
     ·exact Nat.le_trans (by omega) hq))
    refine ⟨_,_,rfl,⟨_,_,rfl,?_,hur.keep stable_recz k2,by show out.values.length*80<=_;omega,by show out.unknown.length*48<=_;omega⟩,?_⟩
    ·exact (Hrv.out.keep (stable_val (k+1)) (Keep.weak (fun q hq=>hq.1))).keep (stable_val (k+1)) k2
    ·exact Up.setCell (Up.setCell (Hu02.out.trans Hu.out) (p:=⟨w.heap.size,0,none⟩) (Nat.le_refl _) _) (p:=⟨w.heap.size,1,none⟩) (Nat.le_refl _) _
 ·have hres:=HRES.out;rw [if_pos hp0] at hres;have Hres:=hid hres.symm;clear hres HRES;generalize hpe:(parse l).2.1=pe at *;generalize (parse l).2.2=at' at *;(have hne:(pe != 0)=true:=by rw [bne_iff_ne];exact hp0);clear hpe hp0
  go_upto_region 5 with (go_at_call 41;go_must (refine (Hpar.out _ ((Up.refl w).alloc _)).mono ?_;rintro e w2 ⟨v2,rfl,how2,hu2⟩))
  have hbR:=blk_old (.cells #[.int .i64 pe,.int .i64 (at':Int)] 60) (hu2.blk (blk_new w (.cells #[.slice none 0 0,.slice none 0 0] 29) (g:=w.heap.size) rfl));have hbX:=blk_new w2 (.cells #[.int .i64 pe,.int .i64 (at':Int)] 60) (g:=w2.heap.size) rfl;have hu3:=(((Up.refl w).alloc _).trans hu2).alloc (.cells #[.int .i64 pe,.int .i64 (at':Int)] 60);(have hXB:w2.heap.size≠w.heap.size:=by have:=hu2.size;simp at this;omega);generalize w2.alloc (.cells #[.int .i64 pe,.int .i64 (at':Int)] 60)=w3 at *;generalize w2.heap.size=X at *;have z0:=ro0 hbR;have z1:=ro1 hbR;have zf:∀ o,w3.frozen? ⟨w.heap.size,o,none⟩=false:=fun o=>frozen_of_row w3 _ o _ _ hbR;have zz:w.heap.size<w3.heap.size:=lt_of_block hbR;have dd:w3.drew.cell? ⟨X,0,none⟩=some (.int .i64 pe):=cell_of_row w3 _ 0 _ _ _ hbX;have Hu3:=hid hu3;clear hbR hbX how2 hu2 hu3
  go_region_held3 (fun w'=>w'.cell? ⟨X,0,none⟩=some (.int .i64 pe))
   (first|with_reducible exact dd|exact Eq.trans (cell_set_ne (w:=w3.setCell ⟨w.heap.size,0,none⟩ (.slice none 0 0)) hXB 1 (.slice none 0 0)) (Eq.trans (cell_set_ne (w:=w3) hXB 0 (.slice none 0 0)) dd))
   (fail)
  all_goals
   (go_wp2_with fail);refine bodyPost_ret (v:=.tuple #[.agg #[.slice none 0 0,.slice none 0 0],.int .i64 pe]) (by simp [results,Tryz.results21,go_sem,z0,z1]) rfl ?_;rw [Hres.out];refine ⟨_,_,rfl,⟨_,_,rfl,rdS_nil _ _ _ _,rdS_nil _ _ _ _,by simp [bod0,Bod.values],by simp [bod0,Bod.unknown]⟩,?_⟩;exact (Up.setCell (Up.setCell Hu3.out (p:=⟨w.heap.size,0,none⟩) (Nat.le_refl _) _) (p:=⟨w.heap.size,1,none⟩) (Nat.le_refl _) _).drew
theorem rbody_c (f:Fil) (hright:(wrongN f).1=0):∀ k,k<=12->RBodC k f:=by
 intro k
 induction k with
 |zero=>exact fun _=>rbody_zero f
 |succ k ih=>exact fun hk=>rbody_step k hk f hright (ih (by omega))
end Go.Proofs.YtbceccblepckhaaGreatDoor
