/-
  pressref3.Read.
-/
import Derived.Test.YtbceccblepckhaaGreatDoorCt41
import Derived.Test.YtbceccblepckhaaGreatDoorCt42
import Derived.Test.YtbceccblepckhaaGreatDoorCt47
set_option maxHeartbeats 51200000
set_option linter.unusedVariables false
namespace Go.Proofs.YtbceccblepckhaaGreatDoor
open Go.RowKit
set_option maxRecDepth 100000
open Lib (hid)
theorem len_flatR : ∀ {l:List Rec},l.length<=(l.flatMap oneB).length
 |[]=>by simp
 |r::l=>by
  rw [List.flatMap_cons,List.length_append,List.length_cons];have:=oneB_pos r;have:=len_flatR (l:=l);omega
theorem read_zero (f:Fil):ReadC 0 f:=by
 intro S msg l fv v w hm0 hm1 hf hr hll;obtain ⟨vm,ve,rfl,hm',he''⟩:=id hf;obtain ⟨ma,mc,rfl,_,_⟩:=hm'.val;obtain ⟨ea,ec,rfl,_,_⟩:=he''.val;clear hf hr hll hm' he'';have e13:(13:Int) - ((0:Nat):Int)=13:=rfl;rw [e13]
 go_enter Tryz.func23,Tryz.ntmps23
 (go_wp2_with fail);refine bodyPost_ret (v:=.tuple #[.agg #[.slice none 0 0,.slice none 0 0],.int .i64 10]) (by simp [results,Tryz.results23,go_sem]) rfl ?_;exact ⟨_,_,rfl,⟨_,_,rfl,rdS_nil _ _ _ _,rdS_nil _ _ _ _,by simp [readC,bod0,Bod.values],by simp [readC,bod0,Bod.unknown]⟩,((Up.refl w).alloc _).alloc _⟩
theorem sum3_eq {a b c:Nat} {t:Bool} (h:t=decide (0<a+b+c)):(((a:Int)+(b:Int)+(c:Int))==0) = !t:=by
 rw [h]
 by_cases h0:0<a+b+c
 ·rw [decide_eq_true h0,Bool.not_true,beq_eq_false_iff_ne];omega
 ·rw [decide_eq_false h0,Bool.not_false,beq_iff_eq];omega
theorem count_up {kind:Int} {v:Val}:(countN kind v).1<=v.2.1.length+v.2.2.1.length+v.2.2.2.length:=by
 unfold countN;split
 ·simp only;omega
 ·split
  ·simp only;omega
  ·simp only;omega
theorem value_sum {rd:List UInt8->Bod × Int} {x:Fld} {r:Rec}:(valueC rd x r).2.2=0->(valueC rd x r).2.1=decide (0<(valueC rd x r).1.2.1.length+(valueC rd x r).1.2.2.1.length+(valueC rd x r).1.2.2.2.length):=by
 unfold valueC;intro h;split at h <;> rename_i h1
 ·rw [if_pos h1];simp
 ·rw [if_neg h1];split at h <;> rename_i h2
  ·cases h
  ·rw [if_neg h2];split at h <;> rename_i h3
   ·rw [if_pos h3];split at h <;> rename_i h4
    ·cases h
    ·rw [if_neg h4];rfl
   ·rw [if_neg h3];split at h <;> rename_i h4
    ·rw [if_pos h4];rfl
    ·rw [if_neg h4];split at h <;> rename_i h5
     ·exact absurd h h5
     ·rw [if_neg h5];rfl
def SX (S:Nat->Prop) (B Z G:Nat):Nat->Prop:=fun q=>(S q/\q<B)∨(Z<=q/\q≠G)
theorem out_stored {S:Nat->Prop} {d B Z M X g:Nat} {a w8:World} {T:TypeId} {p1 p2 va:Option Addr} {n c1 u c2 vc:Nat} {NV:List Val} {UN:List Rec} {R Q:Obj} (hM:a.heap.size=M) (hMz:Z<=M) (hzB:B+1<Z) (hgz:M+2<=g) (hu:Up a w8)
  (hb:w8.heap[M+1]? = some (.cells #[.slice p1 n c1,.slice p2 u c2] T (0,0)))
  (hrd:RdS (DValD d) 4 (fun q=>(SX S B Z (M+1) q/\q≠X)∨g<=q) w8 (.slice va NV.length vc) NV)
  (hru:RdS DRecZ 4 (SX S B Z (M+1)) w8 (.slice p2 UN.length c2) UN) (hbR:w8.heap[B+1]? = some R) (hbf:w8.heap[B]? = some Q) :
  ∃ w10,(w8.setCell ⟨M+1,0,none⟩ (.slice va NV.length vc)).setCell ⟨M+1,1,none⟩ (.slice p2 UN.length c2)=w10 /\
   w10.heap[M+1]? = some (.cells #[.slice va NV.length vc,.slice p2 UN.length c2] T (0,0))/\w10.heap[B+1]? = some R/\w10.heap[B]? = some Q /\
   RdS (DValD d) 4 (SX S B Z (M+1)) w10 (.slice va NV.length vc) NV/\RdS DRecZ 4 (SX S B Z (M+1)) w10 (.slice p2 UN.length c2) UN/\Up a w10:=by
 have hM1:¬ SX S B Z (M+1) (M+1):=by
  rintro (⟨_,h⟩|⟨_,h⟩)
  ·omega
  ·exact h rfl
 have hnS:¬ ((SX S B Z (M+1) (M+1)/\M+1≠X)∨g<=M+1):=by
  rintro (h|h)
  ·exact hM1 h.1
  ·omega
 refine ⟨_,rfl,box2_set hb _ _,(box2_other (by omega) _ _).trans hbR,(box2_other (by omega) _ _).trans hbf,?_,?_,Up.setCell (Up.setCell hu (p:=⟨M+1,0,none⟩) (by simp only;omega) _) (p:=⟨M+1,1,none⟩) (by simp only;omega) _⟩
 ·refine hrd.keep (stable_val d) (((Keep.setCell (p:=⟨M+1,0,none⟩) hnS _).trans (Keep.setCell (p:=⟨M+1,1,none⟩) hnS _)).trans (Keep.weak fun q h=>?_));rcases h with h|h
  ·exact h.1
  ·exact .inr ⟨by omega,by omega⟩
 ·exact (hru.keep stable_recz (Keep.setCell (p:=⟨M+1,0,none⟩) hM1 _)).keep stable_recz (Keep.setCell (p:=⟨M+1,1,none⟩) hM1 _)
theorem most_in (k:Nat) {S:Nat->Prop} {w:World} {vv vu:Value} {NV:List Val} {UN:List Rec} (hrv:RdS (DValD (k+1)) 4 S w vv NV) (hru:RdS DRecZ 4 S w vu UN) (h1:NV.length<=100000) (h2:UN.length<=100000):Calls Tryz.prog 53 #[.agg #[vv,vu]] w fun e w'=>e=.returned (.bool (mostB (k+2) (.mk NV UN)))/\Up w w' :=
 most_r (k+2) (.mk NV UN) vv vu w ⟨_,_,rfl,hrv.keep (stable_val (k+1)) Keep.all,hru.keep stable_recz Keep.all,by show NV.length*80<=_;omega,by show UN.length*48<=_;omega⟩
theorem read_step (k:Nat) (hk12:k+1<=12) (f:Fil) (hright:(wrongN f).1=0) (ih:ReadC k f):ReadC (k+1) f:=by
 intro S msg l fv v w hm0 hm1 hfv hr hll;obtain ⟨la,lc,rfl,_,_⟩:=hr.val;obtain ⟨mi,rfl⟩:∃ mi:Nat,msg=mi:=⟨msg.toNat,by omega⟩;(have hmi:mi<f.msgs.length:=by omega);(have hm:f.msgs[(mi:Int).toNat]? = some f.msgs[mi]:=by rw [Int.toNat_natCast,List.getElem?_eq_getElem hmi]);have hmr:=right_msg hright f.msgs[mi] (List.getElem_mem hmi);have hch:∀ z∈f.msgs[mi].fields,0<=z.choice:=fun z hz=>(choice_16 hmr hz).1;have h16:=(msg_field hmr).1;have hty:=field_typed hmr
 have hnum:∀ z∈f.msgs[mi].fields,1<=z.number/\z.number<536870912:=fun z hz=>by
  obtain ⟨i,hi,rfl⟩:=List.getElem_of_mem hz;have:=field_facts ((msg_field hmr).2.2 i hi);exact ⟨this.1,this.2.1⟩
 obtain ⟨vm,ve,rfl,hm',he''⟩:=id hfv;obtain ⟨ma,mc,rfl,_,_⟩:=hm'.val;obtain ⟨ea,ec,rfl,_,_⟩:=he''.val;obtain ⟨mb,mo,cs,rfl,_,_,hcs,hd⟩:=hm'.at hmi;obtain ⟨vf,vb,hd,hfs,hbs,hnm⟩:=hd;subst hd;obtain ⟨fa,fc,rfl,_,_⟩:=hfs.val;obtain ⟨ba,bc,rfl,_,_⟩:=hbs.val;have s0:=hcs 0 _ rfl;have s1:=hcs 1 _ rfl;have s2:=hcs 2 _ rfl;simp only [Nat.add_zero] at s0;have Hms:=hid (⟨s0,s1,s2⟩:w.cell? ⟨mb,mo+mi*3,none⟩=some (.string ⟨f.msgs[mi].name.toArray⟩)/\w.cell? ⟨mb,mo+mi*3+1,none⟩=some (.slice fa f.msgs[mi].fields.length fc)/\w.cell? ⟨mb,mo+mi*3+2,none⟩=some (.slice ba f.msgs[mi].barred.length bc))
 have Hrd:=hid (show ∀ (x:Fld) (r:Rec),x∈f.msgs[mi].fields->x.kind=10->(readC f k (msgI f x.type) r.bytes).2=0->wrongB f k (msgI f x.type) (readC f k (msgI f x.type) r.bytes).1=0 from fun x r hx h10 hz=>by
  have hmb:=msgI_bd f x.type;have hm0:=(typed_facts (hty x hx)).2.2.1 h10;exact read_right hright k (by omega) _ _ hm0 (by omega) hz)
 have Hunk:=hid (read_unkLe hright k (by omega));have Hright:=hid hright;have Hfv:=hid hfv;have Hfs:=hid hfs;have Hih:=hid ih;have Hr:=hid (show RdB (SL S w.heap.size) w (.slice la l.length lc) l from hr.keep stable_u8 (fun q hq hb=>⟨rfl,hq,hb⟩));have Hch:=hid hch;have Hty:=hid hty;have H16:=hid h16;have Hnum:=hid hnum;obtain ⟨RES,hRES⟩:∃ RES,readC f (k+1) (mi:Int) l=RES:=⟨_,rfl⟩;rw [hRES];rw [readC,hm] at hRES;have HRES:=hid hRES;clear hcs hm' he'' hfv hright ih hfs hmr hch hty h16 hm hr hRES hnum s0 s1 s2 hnm hbs hll;generalize f.msgs[mi]=m at *;(have hm2:(mi:Int)<(f.msgs.length:Int):=by omega);(have hdeep:¬ ((12:Int)<13 - ((k+1:Nat):Int)):=by omega);(have hde:(13:Int) - ((k+1:Nat):Int)=12 - (k:Int):=by omega);rw [hde] at hdeep ⊢;clear hde;have Hpar:=hid (fun W (u:Up w W)=>parse_r (.slice la l.length lc) l W (Hr.out.up stable_u8 u))
 go_enter Tryz.func23,Tryz.ntmps23
 go_upto_region 3 with (fail)
 obtain ⟨W,hW⟩:∃ W,(w.alloc (.cells #[.slice (some ⟨mb,mo,none⟩) f.msgs.length mc,.slice ea f.enums.length ec] 25)).alloc (.cells #[.slice none 0 0,.slice none 0 0] 29)=W:=⟨_,rfl⟩;rw [hW];(have hbf:W.heap[w.heap.size]? = some (.cells #[.slice (some ⟨mb,mo,none⟩) f.msgs.length mc,.slice ea f.enums.length ec] 25 (0,0)):=by rw [←hW];exact blk_old _ (blk_new w _ rfl));(have hbR:W.heap[w.heap.size+1]? = some (.cells #[.slice none 0 0,.slice none 0 0] 29 (0,0)):=by rw [←hW];exact blk_new (w.alloc _) _ (by simp));(have huW:Up w W:=by rw [←hW];exact ((Up.refl w).alloc _).alloc _);have Hbf:=hid hbf;have HbR:=hid hbR;have HuW:=hid huW;clear hbf hbR huW hW
 by_cases hp0:(parse l).2.1=0
 ·obtain ⟨hp1,hp2,hp3⟩:=parse_right hp0;have hres:=HRES.out;rw [if_neg (by simpa using hp0)] at hres;simp only at hres;(have hL4:(parse l).1.length<=4000:=by have:=len_flatR (l:=(parse l).1);omega);have Hres:=hid hres;have Hp2:=hid hp2;have Hp3:=hid (show ((parse l).1.flatMap oneB).length<=4000 by omega);have HL4:=hid hL4;clear hres HRES hp1 hp2 hp3;rw [hp0] at Hpar;clear hp0 hL4;generalize (parse l).1=L at *;generalize (parse l).2.2=at' at *
  go_upto_region 4 with (go_at_call 48;go_must (refine (Hpar.out _ HuW.out).mono ?_;rintro e w2 ⟨v2,rfl,how2,hu2⟩))
  obtain ⟨ra,rc,rfl,_,_⟩:=(how2.rd (S':=fun _=>True) stable_rec (fun _ _=>trivial) (fun _ _=>trivial)).val;have hzW:w.heap.size+1<W.heap.size:=lt_of_block HbR.out;have hM2:=hu2.size;have Hrl:=hid ((how2.rd (S':=fun q=>SL S w.heap.size q∨W.heap.size<q) stable_rec (fun q h=>.inl h.1) (fun q h=>.inr (by have:=(how2.lo q h).1;omega))).keep stable_rec (S':=fun q=>(S q/\q<w.heap.size)∨(W.heap.size<=q/\q<w2.heap.size)) (w':=w2) (fun q hs hq=>⟨rfl,by rcases hs with h|h;exact .inl h;exact .inr ⟨by omega,hq⟩⟩));have HbR2:=hid (hu2.blk HbR.out);have Hbf2:=hid (hu2.blk Hbf.out);have Huw2:=hid (HuW.out.trans hu2);obtain ⟨M,hM⟩:∃ M,w2.heap.size=M:=⟨_,rfl⟩;have HM:=hid hM;have HMz:=hid (show W.heap.size<=M by omega);have HzW:=hid hzW;clear how2 Hpar hM2 hzW HbR Hbf;(go_wp2_with fail);generalize hW5:(w2.alloc (.cells #[.int .i64 0,.int .i64 (at':Int)] 60)).alloc (.cells #[.slice none 0 0,.slice none 0 0] 29)=w5;(have hu25:Up w2 w5:=by rw [←hW5];exact ((Up.refl w2).alloc _).alloc _);(have hbN:w5.heap[M+1]? = some (.cells #[.slice none 0 0,.slice none 0 0] 29 (0,0)):=by rw [←hW5];exact blk_new (w2.alloc _) _ (by simp [hM]));rw [hM] at Hrl ⊢;have Hu25:=hid hu25;have HbN:=hid hbN;clear hW5 hu25 hbN hM hu2
  go_loopw [36] (fun i wr=>∃ (j:Nat) (out:Bod) (p1 p2:Option Addr) (c1 c2:Nat),j<=L.length/\i=.int .i64 j/\readL (fun x r=>valueC (fun bs=>readC f k (msgI f x.type) bs) x r) (addC (joinK f 12) f m.fields) m.fields (L.drop j) out=RES/\AllV (wrongB f k) f m.fields out.values/\out.values.length<=j/\UnkLe ((L.take j).flatMap oneB).length (k+1) out /\
   wr.heap[M+1]? = some (.cells #[.slice p1 out.values.length c1,.slice p2 out.unknown.length c2] 29 (0,0))/\wr.heap[w.heap.size+1]? = some (.cells #[.slice none 0 0,.slice none 0 0] 29 (0,0))/\wr.heap[w.heap.size]? = some (.cells #[.slice (some ⟨mb,mo,none⟩) f.msgs.length mc,.slice ea f.enums.length ec] 25 (0,0)) /\
   RdS (DValD (k+1)) 4 (SX S w.heap.size W.heap.size (M+1)) wr (.slice p1 out.values.length c1) out.values/\RdS DRecZ 4 (SX S w.heap.size W.heap.size (M+1)) wr (.slice p2 out.unknown.length c2) out.unknown/\Up w2 wr) (fun i _=>L.length - (intOf i).toNat)
  case atStart=>exact ⟨0,bod0,none,none,0,0,by omega,rfl,Hres.out,AllV.nil,Nat.le_refl _,unk_none0 _ _,HbN.out,Hu25.out.blk HbR2.out,Hu25.out.blk Hbf2.out,rdS_nil _ _ _ _,rdS_nil _ _ _ _,Hu25.out⟩
  case round =>
   clear HbN Hres;obtain ⟨j,out,p1,p2,c1,c2,hj,rfl,hl,hall,hvj,hun,hbN,hbR,hbf,hrv,hru,hu⟩:=hrel;have Hl:=hid hl;have Hall:=hid hall;have Hun:=hid hun;have HbN:=hid hbN;have HbR:=hid hbR;have Hbf:=hid hbf;have Hrv:=hid hrv;have Hru:=hid hru;have Hu:=hid hu;have Hz:=hid (show M+2<=wr.heap.size by have:=lt_of_block hbN;omega)
   by_cases hlt:j<L.length
   ·obtain ⟨rb,ro,a3,c3,rfl,hrb,h64,r0,r1,r2,r3⟩:=rdRec_cell (Hrl.out.up stable_rec hu) hlt;have Hdr:=hid (show readL (fun x r=>valueC (fun bs=>readC f k (msgI f x.type) bs) x r) (addC (joinK f 12) f m.fields) m.fields (L[j]::L.drop (j+1)) out=RES by rw [←List.drop_eq_getElem_cons hlt];exact hl);have Htk:=hid (show ((L.take (j+1)).flatMap oneB).length=((L.take j).flatMap oneB).length+(oneB L[j]).length by rw [take_flat oneB hlt,List.length_append]);have Htl:=hid (show ((L.take j).flatMap oneB).length<=4000 from Nat.le_trans (flat_le oneB L j) Hp3.out);have Htl2:=hid (show ((L.take (j+1)).flatMap oneB).length<=4000 from Nat.le_trans (flat_le oneB L (j+1)) Hp3.out);have Hr1:=hid (Hp2.out _ (List.getElem_mem hlt));(have i0:(0:Int)<=(j:Int):=by omega);(have i1:(j:Int)<(L.length:Int):=by omega);have hL4:L.length<=4000:=HL4.out;have Hrb:=hid hrb;have H64:=hid h64;have Hlt:=hid hlt;have Hvj:=hid hvj;clear hl hall hun hbN hbR hbf hrv hru hu hj hrb h64 hvj;generalize L[j]=r at *
    have Hrlen:=hid (show r.bytes.length<=4000/\r.bytes.length+1<=(oneB r).length from ⟨by
     obtain ⟨_,_,_,_,h5⟩:=wrongRec_ok Hr1.out.1;rcases h5 with h|h
     ·exact h.2.2
     ·rw [h.2];simp,rec_len Hr1.out.1⟩)
    obtain ⟨wq,rfl⟩:∃ wq:World,wq=wr:=⟨_,rfl⟩;obtain ⟨T,hT⟩:∃ T,wq.heap.size=T:=⟨_,rfl⟩;have HT:=hid hT
    go_upto_region 10 with (fail)
    have hbx:=blk_new wq (.cells #[.int .i64 r.number,.int .i64 r.how,.int .u64 (r.bits:Int),.slice a3 r.bytes.length c3] 87) (g:=wq.heap.size) rfl;have hux:=(Up.refl wq).alloc (.cells #[.int .i64 r.number,.int .i64 r.how,.int .u64 (r.bits:Int),.slice a3 r.bytes.length c3] 87);generalize hwx:wq.alloc (.cells #[.int .i64 r.number,.int .i64 r.how,.int .u64 (r.bits:Int),.slice a3 r.bytes.length c3] 87)=wx at *;clear hwx r0 r1 r2 r3;rw [hT] at hbx;have Huw:=hid (Huw2.out.trans (Hu.out.trans hux));have v0:=ro0 hbx;have f0:=ro0 (hux.blk Hbf.out);have s0:=Huw.out.cell_some Hms.out.1;have s1:=Huw.out.cell_some Hms.out.2.1;have s2:=Huw.out.cell_some Hms.out.2.2;have Hbx:=hid hbx;have Hux:=hid hux;clear hbx hux hT;have dd:wx.drew.cell? ⟨T,0,none⟩=some (.int .i64 r.number)/\wx.drew.cell? ⟨w.heap.size,0,none⟩=some (.slice (some ⟨mb,mo,none⟩) f.msgs.length mc)/\wx.drew.cell? ⟨mb,mo+mi*3,none⟩=some (.string ⟨m.name.toArray⟩)/\wx.drew.cell? ⟨mb,mo+mi*3+1,none⟩=some (.slice fa m.fields.length fc)/\wx.drew.cell? ⟨mb,mo+mi*3+2,none⟩=some (.slice ba m.barred.length bc):=⟨v0,f0,s0,s1,s2⟩;have DD:=hid (fun W (u:Up wx W)=>(⟨u.cell_some v0,u.cell_some f0,u.cell_some s0,u.cell_some s1,u.cell_some s2⟩:W.cell? ⟨T,0,none⟩=some (.int .i64 r.number)/\W.cell? ⟨w.heap.size,0,none⟩=some (.slice (some ⟨mb,mo,none⟩) f.msgs.length mc)/\W.cell? ⟨mb,mo+mi*3,none⟩=some (.string ⟨m.name.toArray⟩)/\W.cell? ⟨mb,mo+mi*3+1,none⟩=some (.slice fa m.fields.length fc)/\W.cell? ⟨mb,mo+mi*3+2,none⟩=some (.slice ba m.barred.length bc)));have Hfc:=hid (fun W (u:Up w W)=>field_r (.string ⟨m.name.toArray⟩) (.slice fa m.fields.length fc) (.slice ba m.barred.length bc) m.fields r.number W ⟨_,rfl⟩ ⟨_,_,_,rfl⟩ (Hfs.out.up stable_fld u))
    go_cut [15] (fun p wc=>∃ pp,p=.pointer pp/\(idxP (fun x:Fld=>x.number==r.number) m.fields<0->pp=none)/\(∀ kk:Nat,(hk:kk<m.fields.length)->idxP (fun x:Fld=>x.number==r.number) m.fields=kk->∃ b o c,(Value.slice fa m.fields.length fc)=.slice (some ⟨b,o,none⟩) m.fields.length c/\pp=some ⟨b,o+kk*6,none⟩/\FldAt wc b (o+kk*6) m.fields[kk])/\Up wx wc)
    case first =>
     go_region_held3 (fun w'=>w'.cell? ⟨T,0,none⟩=some (.int .i64 r.number)/\w'.cell? ⟨w.heap.size,0,none⟩=some (.slice (some ⟨mb,mo,none⟩) f.msgs.length mc)/\w'.cell? ⟨mb,mo+mi*3,none⟩=some (.string ⟨m.name.toArray⟩)/\w'.cell? ⟨mb,mo+mi*3+1,none⟩=some (.slice fa m.fields.length fc)/\w'.cell? ⟨mb,mo+mi*3+2,none⟩=some (.slice ba m.barred.length bc))
      (first|with_reducible exact dd|with_reducible exact DD.out _ hw5)
      (first|(go_at_call 34;refine (Hfc.out _ (Huw.out.trans (Up.refl wx).drew)).mono ?_;rintro e w6 ⟨⟨pp,rfl,hp1,hp2⟩,hu6'⟩;have hw5:=(Up.refl wx).drew.trans hu6'))
     all_goals
      go_wp2_with fail
      go_meet
      exact ⟨pp,rfl,hp1,hp2,hw5⟩
    case rest =>
    obtain ⟨pp,rfl,hp1,hp2,huc⟩:=hcut;obtain ⟨wd,rfl⟩:∃ wd:World,wd=wc:=⟨_,rfl⟩;have Hud:=hid (Hux.out.trans huc);have HbT:=hid (huc.blk Hbx.out);have HbN2:=hid (Hud.out.blk HbN.out);have HbR2:=hid (Hud.out.blk HbR.out);have Hbf2:=hid (Hud.out.blk Hbf.out);have Hwd:=hid (Huw2.out.trans (Hu.out.trans Hud.out));clear v0 f0 s0 s1 s2 dd DD Hfc Hux Huw Hbx huc HbN HbR Hbf;obtain ⟨hi,hfd⟩|⟨jj,hjj,hi,hfd⟩:=idxP_cases (fun z:Fld=>z.number==r.number) m.fields
    ·have hpn:=hp1 (by rw [hi];decide);subst hpn;have hdr:=Hdr.out;rw [readL,show fldN m.fields r.number=none from hfd] at hdr;simp only at hdr;have Hdr2:=hid hdr;have hul:out.unknown.length<=4000:=Nat.le_trans Hun.out.1 Htl.out;clear hdr Hdr hi hfd hp1 hp2
     go_upto_region 12 with (fail)
     have n1:=ro1 HbN2.out;have q0:=ro0 HbT.out;have q1:=ro1 HbT.out;have q2:=ro2 HbT.out;have q3:=ro3 HbT.out;have DD:=hid (fun W (u:Up wd W)=>(⟨u.cell_some n1,u.cell_some q0,u.cell_some q1,u.cell_some q2,u.cell_some q3⟩:W.cell? ⟨M+1,1,none⟩=some (.slice p2 out.unknown.length c2)/\W.cell? ⟨T,0,none⟩=some (.int .i64 r.number)/\W.cell? ⟨T,1,none⟩=some (.int .i64 r.how)/\W.cell? ⟨T,2,none⟩=some (.int .u64 (r.bits:Int))/\W.cell? ⟨T,3,none⟩=some (.slice a3 r.bytes.length c3)));obtain ⟨_,nx,cx,lx,ex,fx,gx⟩:=RdS.css (by decide) ((Hru.out.up stable_recz Hud.out).keep stable_recz (S':=fun q=>SX S w.heap.size W.heap.size (M+1) q/\q<wd.heap.size) (fun q hs hq=>⟨rfl,hs,hq⟩));have onx:=ones_of (D:=DRecZ) (S:=fun q=>SX S w.heap.size W.heap.size (M+1) q/\q<wd.heap.size) (w:=wd) (l:=out.unknown) (size:=4) one_recz lx ex;have Hnx:=hid nx;have Hlx:=hid lx;have Hex:=hid ex;have Hfx:=hid fx;have Hgx:=hid gx;have Honx:=hid onx;clear nx lx ex fx gx onx
     have HrecD:=hid (show DRecZ (fun q=>SX S w.heap.size W.heap.size (M+1) q/\q<wd.heap.size) wd r [.int .i64 r.number,.int .i64 r.how,.int .u64 (r.bits:Int),.slice a3 r.bytes.length c3] from ⟨⟨_,rfl,Hrb.out.keep stable_u8 (fun q hq hq2=>⟨Hud.out.block q hq2,(by
      rcases hq with h|h
      ·exact .inl h
      ·have:=HM.out;exact .inr ⟨h.1,by omega⟩),Nat.lt_of_lt_of_le hq2 Hud.out.size⟩),H64.out⟩,by have:=Hrlen.out.1;omega⟩)
     refine wp_region_last (m:=8) (by kernel_rfl) (by rfl) (by kernel_rfl) (by kernel_rfl) (by kernel_rfl) (S:=fun w'=>w'.cell? ⟨M+1,1,none⟩=some (.slice p2 out.unknown.length c2)/\w'.cell? ⟨T,0,none⟩=some (.int .i64 r.number)/\w'.cell? ⟨T,1,none⟩=some (.int .i64 r.how)/\w'.cell? ⟨T,2,none⟩=some (.int .u64 (r.bits:Int))/\w'.cell? ⟨T,3,none⟩=some (.slice a3 r.bytes.length c3)) ?_;have hHeld:(fun w':World=>w'.cell? ⟨M+1,1,none⟩=some (.slice p2 out.unknown.length c2)/\w'.cell? ⟨T,0,none⟩=some (.int .i64 r.number)/\w'.cell? ⟨T,1,none⟩=some (.int .i64 r.how)/\w'.cell? ⟨T,2,none⟩=some (.int .u64 (r.bits:Int))/\w'.cell? ⟨T,3,none⟩=some (.slice a3 r.bytes.length c3)) wd.drew:=⟨n1,q0,q1,q2,q3⟩;change wpAnyH _ _ _ _ _ _ _ _ wd.drew;clear n1 q0 q1 q2 q3;refine wtk 1 (v:=?_) rfl ?_ ?_
     rotate_left
     ·(intro w hSw;(try dsimp only at hSw);go_simp)
      try with_reducible rfl
     (try simp only [Act.put,List.setIfInBounds_toArray]);refine wtk 2 (v:=?_) rfl ?_ ?_
     rotate_left
     ·(intro w hSw;(try dsimp only at hSw);go_simp)
      try with_reducible rfl
     (try simp only [Act.put]);refine wtk 4 (v:=?_) rfl ?_ ?_
     rotate_left
     ·(intro w hSw;(try dsimp only at hSw);go_simp)
      try with_reducible rfl
     (try simp only [Act.put]);refine wpAnyH_ready (rs:=[0,5]) (by kernel_rfl) (by simp) ?_;refine AllReadyH.cons rfl (fun K hK=>?_) (AllReadyH.cons rfl (fun K hK=>?_) AllReadyH.nil);go_simp;refine hK.out _ _ (DD.out _ (((Up.refl wd).drew).alloc _)) (fun hHeld=>?_);clear hK K;(try simp only [Act.put,List.setIfInBounds_toArray,List.set_cons_zero,List.set_cons_succ]);change wpAnyH _ _ _ _ _ _ _ _ ((wd.drew).alloc (.cells #[] 87))
     have how0:((wd.drew).alloc (.cells #[] 87)).ownsRow wd.heap.size 87 4 (.slice (some ⟨wd.heap.size,0,none⟩) 0 0) 0 []:=by
      have:=World.ownsRow_lit (e:=87) (size:=4) (base:=wd.heap.size) (wd.drew) #[] 0 ((Up.refl wd).drew).size (by unfold maxLen;omega) (by simp);simpa using this
     have u1:=((Up.refl wd).drew).alloc (.cells #[] 87);refine wpAnyH_ready (rs:=[3,5]) (by kernel_rfl) (by simp) ?_;refine AllReadyH.cons rfl (fun K hK=>?_) (AllReadyH.cons rfl (fun K hK=>?_) AllReadyH.nil);refine step_app eRec' _ (by rfl) _ _ (by rfl) wd.heap.size _ 0 [] (by rfl) how0 p2 out.unknown.length c2 (by rfl) cx.flatten Hfx.out Hnx.out (fun ad h j u hu=>(u1).cell_some (Hgx.out ad h j u hu)) Honx.out (by omega) (by unfold maxLen;omega) (u1).size ?_;intro v3 w3 how3 hev3;have u3:=Up.evo (u1) hev3 (fun q hq=>(how0.lt q hq).1);simp only [Nat.zero_add,List.nil_append] at how3;obtain ⟨s3,n3,rfl⟩:=own_val how3;refine hK.out _ _ (DD.out _ u3) (fun hHeld=>?_);clear hK K;(try simp only [Act.put,List.setIfInBounds_toArray]);refine wpAnyH_ready (rs:=[5]) (by kernel_rfl) (by simp) ?_;refine AllReadyH.cons rfl (fun K hK=>?_) AllReadyH.nil;go_simp;refine hK.out _ _ (DD.out _ ((u3).alloc _)) (fun hHeld=>?_);clear hK K;(try simp only [Act.put,List.setIfInBounds_toArray,List.set_cons_zero,List.set_cons_succ]);change wpAnyH _ _ _ _ _ _ _ _ ((w3).alloc (.cells #[.int .i64 r.number,.int .i64 r.how,.int .u64 (r.bits:Int),.slice a3 r.bytes.length c3] 87));have hb5:=blk_new (w3) (.cells #[.int .i64 r.number,.int .i64 r.how,.int .u64 (r.bits:Int),.slice a3 r.bytes.length c3] 87) (g:=w3.heap.size) (by simp);have u5:=(u3).alloc (.cells #[.int .i64 r.number,.int .i64 r.how,.int .u64 (r.bits:Int),.slice a3 r.bytes.length c3] 87);refine wpAnyH_ready (rs:=[6]) (by kernel_rfl) (by simp) ?_;refine AllReadyH.cons rfl (fun K hK=>?_) AllReadyH.nil;have how3:=how3.alloc (.cells #[.int .i64 r.number,.int .i64 r.how,.int .u64 (r.bits:Int),.slice a3 r.bytes.length c3] 87)
     refine step_app eRec' _ (by rfl) _ _ (by rfl) wd.heap.size _ out.unknown.length cx.flatten (by rfl) how3 _ 1 1 (by rfl) [.int .i64 r.number,.int .i64 r.how,.int .u64 (r.bits:Int),.slice a3 r.bytes.length c3] (by rfl) (fun h=>by cases h) (fun ad h j u hu=>by
      (cases h);rw [Addr.add_lit,Nat.zero_add];rw [cell_of_row _ _ j _ _ _ hb5];simpa using hu) (by intro u hu;simp at hu;rcases hu with rfl|rfl|rfl|rfl <;> rfl) (by omega) (by unfold maxLen;omega) (u5).size ?_
     intro v6 w6 how6 hev6;have u6:=Up.evo (u5) hev6 (fun q hq=>(how3.lt q hq).1);obtain ⟨a6,c6,rfl⟩:=own_val how6;refine hK.out _ _ (DD.out _ u6) (fun hHeld=>?_);clear hK K;(try simp only [Act.put,List.setIfInBounds_toArray]);refine wtk 7 (v:=?_) rfl ?_ ?_
     rotate_left
     ·(intro w hSw;(try dsimp only at hSw);go_simp)
      try with_reducible rfl
     try simp only [Act.put]
     rotate_left
     go_simp;refine hK.out _ _ (DD.out _ ((u1).alloc _)) (fun hHeld=>?_);clear hK K;(try simp only [Act.put,List.setIfInBounds_toArray,List.set_cons_zero,List.set_cons_succ]);change wpAnyH _ _ _ _ _ _ _ _ ((wd.drew.alloc (.cells #[] 87)).alloc (.cells #[.int .i64 r.number,.int .i64 r.how,.int .u64 (r.bits:Int),.slice a3 r.bytes.length c3] 87));have hb5:=blk_new (wd.drew.alloc (.cells #[] 87)) (.cells #[.int .i64 r.number,.int .i64 r.how,.int .u64 (r.bits:Int),.slice a3 r.bytes.length c3] 87) (g:=wd.heap.size+1) (by simp);have u2:=(u1).alloc (.cells #[.int .i64 r.number,.int .i64 r.how,.int .u64 (r.bits:Int),.slice a3 r.bytes.length c3] 87);have how0:=how0.alloc (.cells #[.int .i64 r.number,.int .i64 r.how,.int .u64 (r.bits:Int),.slice a3 r.bytes.length c3] 87);refine wpAnyH_ready (rs:=[3]) (by kernel_rfl) (by simp) ?_;refine AllReadyH.cons rfl (fun K hK=>?_) AllReadyH.nil;refine step_app eRec' _ (by rfl) _ _ (by rfl) wd.heap.size _ 0 [] (by rfl) how0 p2 out.unknown.length c2 (by rfl) cx.flatten Hfx.out Hnx.out (fun ad h j u hu=>(u2).cell_some (Hgx.out ad h j u hu)) Honx.out (by omega) (by unfold maxLen;omega) (u2).size ?_;intro v3 w3 how3 hev3;have u3:=Up.evo (u2) hev3 (fun q hq=>(how0.lt q hq).1);simp only [Nat.zero_add,List.nil_append] at how3;obtain ⟨s3,n3,rfl⟩:=own_val how3;refine hK.out _ _ (DD.out _ u3) (fun hHeld=>?_);clear hK K;(try simp only [Act.put,List.setIfInBounds_toArray]);have hb5:=hev3.blk hb5 (fun e=>by have h:=Option.some.inj e;simp at h);refine wpAnyH_ready (rs:=[6]) (by kernel_rfl) (by simp) ?_;refine AllReadyH.cons rfl (fun K hK=>?_) AllReadyH.nil
     refine step_app eRec' _ (by rfl) _ _ (by rfl) wd.heap.size _ out.unknown.length cx.flatten (by rfl) how3 _ 1 1 (by rfl) [.int .i64 r.number,.int .i64 r.how,.int .u64 (r.bits:Int),.slice a3 r.bytes.length c3] (by rfl) (fun h=>by cases h) (fun ad h j u hu=>by
      (cases h);rw [Addr.add_lit,Nat.zero_add];rw [cell_of_row _ _ j _ _ _ hb5];simpa using hu) (by intro u hu;simp at hu;rcases hu with rfl|rfl|rfl|rfl <;> rfl) (by omega) (by unfold maxLen;omega) (u3).size ?_
     intro v6 w6 how6 hev6;have u6:=Up.evo (u3) hev6 (fun q hq=>(how3.lt q hq).1);obtain ⟨a6,c6,rfl⟩:=own_val how6;refine hK.out _ _ (DD.out _ u6) (fun hHeld=>?_);clear hK K;(try simp only [Act.put]);refine wtk 7 (v:=?_) rfl ?_ ?_
     rotate_left
     ·(intro w hSw;(try dsimp only at hSw);go_simp)
      try with_reducible rfl
     try simp only [Act.put]
     rotate_left
     go_simp;refine hK.out _ _ (DD.out _ (((Up.refl wd).drew).alloc _)) (fun hHeld=>?_);clear hK K;(try simp only [Act.put,List.setIfInBounds_toArray,List.set_cons_zero,List.set_cons_succ]);change wpAnyH _ _ _ _ _ _ _ _ ((wd.drew).alloc (.cells #[.int .i64 r.number,.int .i64 r.how,.int .u64 (r.bits:Int),.slice a3 r.bytes.length c3] 87));have hb5:=blk_new (wd.drew) (.cells #[.int .i64 r.number,.int .i64 r.how,.int .u64 (r.bits:Int),.slice a3 r.bytes.length c3] 87) (g:=wd.heap.size) (by simp);have u1:=((Up.refl wd).drew).alloc (.cells #[.int .i64 r.number,.int .i64 r.how,.int .u64 (r.bits:Int),.slice a3 r.bytes.length c3] 87);refine wpAnyH_ready (rs:=[0]) (by kernel_rfl) (by simp) ?_;refine AllReadyH.cons rfl (fun K hK=>?_) AllReadyH.nil;go_simp;refine hK.out _ _ (DD.out _ ((u1).alloc _)) (fun hHeld=>?_);clear hK K;(try simp only [Act.put,List.setIfInBounds_toArray,List.set_cons_zero,List.set_cons_succ]);change wpAnyH _ _ _ _ _ _ _ _ ((wd.drew.alloc (.cells #[.int .i64 r.number,.int .i64 r.how,.int .u64 (r.bits:Int),.slice a3 r.bytes.length c3] 87)).alloc (.cells #[] 87))
     have how0:((wd.drew.alloc (.cells #[.int .i64 r.number,.int .i64 r.how,.int .u64 (r.bits:Int),.slice a3 r.bytes.length c3] 87)).alloc (.cells #[] 87)).ownsRow wd.heap.size 87 4 (.slice (some ⟨wd.heap.size+1,0,none⟩) 0 0) 0 []:=by
      have:=World.ownsRow_lit (e:=87) (size:=4) (base:=wd.heap.size) (wd.drew.alloc (.cells #[.int .i64 r.number,.int .i64 r.how,.int .u64 (r.bits:Int),.slice a3 r.bytes.length c3] 87)) #[] 0 (u1).size (by unfold maxLen;omega) (by simp);simpa using this
     have u2:=(u1).alloc (.cells #[] 87);have hb5:=blk_old (.cells #[] 87) hb5;refine wpAnyH_ready (rs:=[3]) (by kernel_rfl) (by simp) ?_;refine AllReadyH.cons rfl (fun K hK=>?_) AllReadyH.nil;refine step_app eRec' _ (by rfl) _ _ (by rfl) wd.heap.size _ 0 [] (by rfl) how0 p2 out.unknown.length c2 (by rfl) cx.flatten Hfx.out Hnx.out (fun ad h j u hu=>(u2).cell_some (Hgx.out ad h j u hu)) Honx.out (by omega) (by unfold maxLen;omega) (u2).size ?_;intro v3 w3 how3 hev3;have u3:=Up.evo (u2) hev3 (fun q hq=>(how0.lt q hq).1);simp only [Nat.zero_add,List.nil_append] at how3;obtain ⟨s3,n3,rfl⟩:=own_val how3;refine hK.out _ _ (DD.out _ u3) (fun hHeld=>?_);clear hK K;(try simp only [Act.put,List.setIfInBounds_toArray]);have hb5:=hev3.blk hb5 (fun e=>by have h:=Option.some.inj e;simp at h);refine wpAnyH_ready (rs:=[6]) (by kernel_rfl) (by simp) ?_;refine AllReadyH.cons rfl (fun K hK=>?_) AllReadyH.nil
     refine step_app eRec' _ (by rfl) _ _ (by rfl) wd.heap.size _ out.unknown.length cx.flatten (by rfl) how3 _ 1 1 (by rfl) [.int .i64 r.number,.int .i64 r.how,.int .u64 (r.bits:Int),.slice a3 r.bytes.length c3] (by rfl) (fun h=>by cases h) (fun ad h j u hu=>by
      (cases h);rw [Addr.add_lit,Nat.zero_add];rw [cell_of_row _ _ j _ _ _ hb5];simpa using hu) (by intro u hu;simp at hu;rcases hu with rfl|rfl|rfl|rfl <;> rfl) (by omega) (by unfold maxLen;omega) (u3).size ?_
     intro v6 w6 how6 hev6;have u6:=Up.evo (u3) hev6 (fun q hq=>(how3.lt q hq).1);obtain ⟨a6,c6,rfl⟩:=own_val how6;refine hK.out _ _ (DD.out _ u6) (fun hHeld=>?_);clear hK K;(try simp only [Act.put]);refine wtk 7 (v:=?_) rfl ?_ ?_
     rotate_left
     ·(intro w hSw;(try dsimp only at hSw);go_simp)
      try with_reducible rfl
     try simp only [Act.put]
     rotate_left
     all_goals
      refine wpAnyH_done (by kernel_rfl) ?_ _;have n1':=ro1 (u6.blk HbN2.out);have nf:∀ o,w6.frozen? ⟨M+1,o,none⟩=false:=fun o=>frozen_of_row w6 _ o _ _ (u6.blk HbN2.out);have nz:M+1<w6.heap.size:=lt_of_block (u6.blk HbN2.out)
      have Hhru:=hid (rdS_joinS stable_recz (S:=SX S w.heap.size W.heap.size (M+1)) (y:=[r]) (cy:=[[.int .i64 r.number,.int .i64 r.how,.int .u64 (r.bits:Int),.slice a3 r.bytes.length c3]]) u6 Hlx.out Hex.out rfl (fun i hi=>by
       (obtain rfl:i=0:=by simpa using hi);exact ⟨_,rfl,rfl,HrecD.out⟩) (by simpa using how6))
      have Hu6:=hid u6;have HbN6:=hid (u6.blk HbN2.out);clear hHeld DD how6 u6 Hnx Hlx Hex Hfx Hgx Honx HrecD;refine AskLast.normal (wpOp_step rfl (fun K' hK'=>?_));go_simp;refine hK' _ _ ?_;clear hK';go_wp2_with fail
      go_roundw
      case rel =>
       have hnS:¬ SX S w.heap.size W.heap.size (M+1) (M+1):=by
        have:=HMz.out;have:=HzW.out;rintro (⟨_,h⟩|⟨_,h⟩);omega;exact h rfl
       have hwdz:M+2<=wd.heap.size:=Nat.le_trans Hz.out Hud.out.size;(refine ⟨j+1,.mk out.values (out.unknown++[r]),p1,a6,c1,c6,by have:=Hlt.out;omega,by have:=Hlt.out;go_num,Hdr2.out,Hall.out,(by have:=Hvj.out;show out.values.length<=j+1;omega),⟨?_,fun v hv s hs=>(Hun.out.2 v hv s hs).mono (by rw [Htk.out];omega)⟩,?_,?_,?_,?_,?_,?_⟩);rw [Htk.out];show (out.unknown++[r]).length<=_;rw [List.length_append];have:=Hun.out.1;have:=Hrlen.out.2;simp only [List.length_cons,List.length_nil];omega;have h:=heap_setCell_same w6 (M+1) 1 _ _ (.slice a6 (out.unknown.length+1) c6) HbN6.out;show _=some (Obj.cells #[.slice p1 out.values.length c1,.slice a6 (out.unknown++[r]).length c6] _ (0,0));rw [List.length_append];exact h;rw [heap_setCell_other _ ⟨M+1,1,none⟩ _ _ (by have:=HzW.out;have:=HMz.out;simp only;omega)];exact Hu6.out.blk HbR2.out;rw [heap_setCell_other _ ⟨M+1,1,none⟩ _ _ (by have:=HzW.out;have:=HMz.out;simp only;omega)];exact Hu6.out.blk Hbf2.out;exact (Hrv.out.up (stable_val (k+1)) (Hud.out.trans Hu6.out)).keep (stable_val (k+1)) (Keep.setCell (p:=⟨M+1,1,none⟩) hnS _)
       have h:=(Hhru.out.keep stable_recz (Keep.weak (S':=SX S w.heap.size W.heap.size (M+1)) (fun q hq=>by
        have:=HMz.out;rcases hq with hq|hq;exact hq;exact .inr ⟨by omega,by omega⟩))).keep stable_recz (Keep.setCell (p:=⟨M+1,1,none⟩) hnS (.slice a6 (out.unknown.length+1) c6))
       show RdS DRecZ 4 _ _ (.slice a6 (out.unknown++[r]).length c6) (out.unknown++[r]);rw [List.length_append];exact h;exact Up.setCell ((Hu.out.trans Hud.out).trans Hu6.out) (p:=⟨M+1,1,none⟩) (by have:=HM.out;simp only;omega) _
      case measure=>have:=Hlt.out;simp [intOf];omega
    ·
     obtain ⟨xb,xo,xc,hva,hpp,hxa⟩:=hp2 jj hjj hi;simp only [Value.slice.injEq] at hva;obtain ⟨rfl,_,rfl⟩:=hva;subst hpp;have hFm:m.fields[jj]∈m.fields:=List.getElem_mem hjj;have hFn:(m.fields[jj]).number=r.number:=(fldN_mem (show fldN m.fields r.number=some m.fields[jj] from hfd)).2;(have hself:fldN m.fields (m.fields[jj]).number=some m.fields[jj]:=by rw [hFn];exact hfd);have hdr:=Hdr.out;rw [readL,show fldN m.fields r.number=some m.fields[jj] from hfd] at hdr;simp only at hdr;have Hself':=hid hself;have Hty':=hid (Hty.out _ hFm);have Hnum':=hid (Hnum.out _ hFm);have Hrd':=hid (Hrd.out (m.fields[jj]'hjj) r hFm);have Hxa:=hid hxa;have hwz:M+2<=wd.heap.size:=Nat.le_trans Hz.out Hud.out.size;clear hi hfd hxa hFm hself Hdr Hnum Hrd hp1 hp2;generalize m.fields[jj]=F at *
     have Hval:=hid (refval_r (S:=fun q=>SX S w.heap.size W.heap.size (M+1) q/\q<wd.heap.size) k f Hih.out F r (some ⟨mb,mo,none⟩) ea a3 mc ec c3 xb (xo+jj*6) wd (Hfv.out.up Hwd.out) Hxa.out
      (Hrb.out.keep stable_u8 (fun q hq hq2=>⟨Hud.out.block q hq2,(by
       rcases hq with h|h
       ·exact .inl h
       ·have:=HM.out;exact .inr ⟨h.1,by omega⟩),Nat.lt_of_lt_of_le hq2 Hud.out.size⟩)) Hrlen.out.1 H64.out (by omega) Hty'.out Hnum'.out.1 Hnum'.out.2)
     have hvn:(valueC (fun bs=>readC f k (msgI f F.type) bs) F r).1.1=F.number:=value_num;have hvl:=val_len (rd:=fun bs=>readC f k (msgI f F.type) bs) (x:=F) (r:=r) (typed_facts Hty'.out).1 (typed_facts Hty'.out).2.1;have hvu:=unk_value (wb:=wrongB f k) (rd:=fun bs=>readC f k (msgI f F.type) bs) (x:=F) (r:=r) (k:=k) (fun l=>Hunk.out (msgI f F.type) l);have hvf:=value_fit (wb:=wrongB f k) (f:=f) (rd:=fun bs=>readC f k (msgI f F.type) bs) (x:=F) (r:=r) Hty'.out Hr1.out.1 H64.out (fun h10 _ hz=>Hrd'.out h10 hz);have hvs:=value_sum (rd:=fun bs=>readC f k (msgI f F.type) bs) (x:=F) (r:=r);generalize valueC (fun bs=>readC f k (msgI f F.type) bs) F r=VC at *;obtain ⟨V,sm,er⟩:=VC;simp only at hvn hvl hvu hvf hvs hdr;have Hvn:=hid hvn;have Hvl:=hid hvl;have Hvu:=hid hvu;have Hvf:=hid hvf;have HdrA:=hid hdr;have HFn:=hid hFn;have Hvs:=hid hvs;clear hvn hvl hvu hvf hdr hFn hvs;simp only at Hval;have q0:=ro0 HbT.out;have q1:=ro1 HbT.out;have q2:=ro2 HbT.out;have q3:=ro3 HbT.out;have f0:=ro0 Hbf2.out;have f1:=ro1 Hbf2.out
     go_upto_region 14 with (go_at_call 49;go_must (refine Hval.out.mono ?_;rintro e w6 ⟨e1,e2,e3,l1,l2,l3,g1,g2,g3,rfl,hv0,hu6⟩))
     have Hv0:=hid hv0;have hux:=hu6.alloc (.cells #[.int .i64 F.number,.slice e1 l1 g1,.slice e2 l2 g2,.slice e3 l3 g3] 71);have hbV:=blk_new w6 (.cells #[.int .i64 F.number,.slice e1 l1 g1,.slice e2 l2 g2,.slice e3 l3 g3] 71) (g:=w6.heap.size) rfl;obtain ⟨X,hX⟩:∃ X,w6.heap.size=X:=⟨_,rfl⟩;have hXz:wd.heap.size<=X:=by rw [←hX];exact hu6.size
     have hkk:Keep (Sx (fun q=>SX S w.heap.size W.heap.size (M+1) q/\q<wd.heap.size) wd) w6 (fun q=>SX S w.heap.size W.heap.size (M+1) q/\q≠X) (w6.alloc (.cells #[.int .i64 F.number,.slice e1 l1 g1,.slice e2 l2 g2,.slice e3 l3 g3] 71)):=fun q hs hq=>⟨((Up.refl w6).alloc _).block q hq,(by
      have:=HMz.out;rcases hs with h|h
      ·exact h.1
      ·exact .inr ⟨by omega,by omega⟩),by omega⟩
     have Hkk:=hid hkk;generalize w6.alloc (.cells #[.int .i64 F.number,.slice e1 l1 g1,.slice e2 l2 g2,.slice e3 l3 g3] 71)=w7 at *;rw [hX] at hbV ⊢;have HbV:=hid hbV;have Hux:=hid hux;have HXz:=hid hXz;have HX:=hid hX;clear hv0 hux hbV hXz hkk hX hu6 q0 q1 q2 q3 f0 f1 Hval
     by_cases her:er=0
     rotate_left
     ·(have hne:(er != 0)=true:=by rw [bne_iff_ne];exact her);have Hans:=hid (show RES=(bod0,er) by rw [←HdrA.out,if_pos her]);clear her HdrA;have z0:=ro0 (Hux.out.blk HbR2.out);have z1:=ro1 (Hux.out.blk HbR2.out);have zf:∀ o,w7.frozen? ⟨w.heap.size+1,o,none⟩=false:=fun o=>frozen_of_row w7 _ o _ _ (Hux.out.blk HbR2.out);have zz:w.heap.size+1<w7.heap.size:=lt_of_block (Hux.out.blk HbR2.out);(go_wp2_with fail);refine bodyPost_ret (v:=.tuple #[.agg #[.slice none 0 0,.slice none 0 0],.int .i64 er]) (by simp [results,Tryz.results23,go_sem,z0,z1]) rfl ?_;rw [Hans.out];refine ⟨_,_,rfl,⟨_,_,rfl,rdS_nil _ _ _ _,rdS_nil _ _ _ _,by simp [bod0,Bod.values],by simp [bod0,Bod.unknown]⟩,?_⟩;exact Up.setCell (Up.setCell (Hwd.out.trans Hux.out) (p:=⟨w.heap.size+1,0,none⟩) (by simp only;omega) _) (p:=⟨w.heap.size+1,1,none⟩) (by simp only;omega) _
     subst her;obtain ⟨rfl,rfl,rfl,hdv⟩:=Hv0.out rfl;have Hdv:=hid (stable_val (k+1) _ _ _ _ _ _ Hkk.out hdv);clear hdv Hv0 Hkk;have hdr:=HdrA.out;rw [if_neg (by simp)] at hdr;have v0:=ro0 HbV.out;have v1:w7.cell? ⟨X,1,none⟩=some (.slice e1 V.2.1.length g1):=cell_of_row w7 _ 1 _ _ _ HbV.out;have v2:w7.cell? ⟨X,2,none⟩=some (.slice e2 V.2.2.1.length g2):=cell_of_row w7 _ 2 _ _ _ HbV.out;have v3:w7.cell? ⟨X,3,none⟩=some (.slice e3 V.2.2.2.length g3):=cell_of_row w7 _ 3 _ _ _ HbV.out
     have hlens:V.2.1.length<=5000/\V.2.2.1.length<=5000/\V.2.2.2.length<=5000:=by
      have:=Hvl.out;have:=Hrlen.out.1;omega
     have hz0:=sum3_eq (Hvs.out rfl)
     cases sm with
     |false =>
      rw [if_pos rfl] at hdr;have HdrS:=hid hdr;rw [Bool.not_false] at hz0;clear hdr HdrA;go_wp2_with fail
      go_roundw
      case rel =>
       refine ⟨j+1,out,p1,p2,c1,c2,by have:=Hlt.out;omega,by have:=Hlt.out;go_num,HdrS.out,Hall.out,by have:=Hvj.out;omega,Hun.out.mono (by rw [Htk.out];omega),Hux.out.blk HbN2.out,Hux.out.blk HbR2.out,Hux.out.blk Hbf2.out,?_,?_,(Hu.out.trans Hud.out).trans Hux.out⟩
       ·exact Hrv.out.up (stable_val (k+1)) (Hud.out.trans Hux.out)
       ·exact Hru.out.up stable_recz (Hud.out.trans Hux.out)
      case measure=>have:=Hlt.out;simp [intOf];omega
     |true =>
      rw [if_neg (by simp)] at hdr;rw [Bool.not_true] at hz0;have Hdr2:=hid hdr;clear hdr HdrA
      go_upto_region 17 with (fail)
      have n0:=ro0 (Hux.out.blk HbN2.out);have n1:=ro1 (Hux.out.blk HbN2.out);have x1:w7.cell? ⟨xb,xo+jj*6+1,none⟩=some (.int .i64 F.number):=Hux.out.cell_some Hxa.out.2.1.2.1;have HP:=hid (fun W' (u:Up w7 W')=>(⟨u.cell_some n0,u.cell_some n1,u.cell_some x1⟩:W'.cell? ⟨M+1,0,none⟩=some (.slice p1 out.values.length c1)/\W'.cell? ⟨M+1,1,none⟩=some (.slice p2 out.unknown.length c2)/\W'.cell? ⟨xb,xo+jj*6+1,none⟩=some (.int .i64 F.number)));have dd:w7.drew.cell? ⟨M+1,0,none⟩=some (.slice p1 out.values.length c1)/\w7.drew.cell? ⟨M+1,1,none⟩=some (.slice p2 out.unknown.length c2)/\w7.drew.cell? ⟨xb,xo+jj*6+1,none⟩=some (.int .i64 F.number):=HP.out _ (Up.refl w7).drew;clear v0 v1 v2 v3 n0 n1 x1
      have Hrv7:=hid (Hrv.out.keep (stable_val (k+1)) (S':=(fun q=>(SX S w.heap.size W.heap.size (M+1) q/\q≠X)/\q<w7.heap.size)) (w':=w7) (fun q hs hq=>⟨(Hud.out.trans Hux.out).block q hq,⟨hs,by
       have:=Hud.out.size;have:=HXz.out;omega⟩,Nat.lt_of_lt_of_le hq (Hud.out.trans Hux.out).size⟩))
      have Hget:=hid (fun W' (u:Up w7 W')=>find_v (k+1) (S:=(fun q=>(SX S w.heap.size W.heap.size (M+1) q/\q≠X)/\q<w7.heap.size)) (.slice p1 out.values.length c1) (.slice p2 out.unknown.length c2) out.values F.number W' (Hrv7.out.up (stable_val (k+1)) u) ⟨_,_,_,rfl⟩);obtain ⟨OV,hOV⟩:∃ OV,(findV out.values F.number).getD val0=OV:=⟨_,rfl⟩;obtain ⟨ok,hok⟩:∃ ok,(findV out.values F.number).isSome=ok:=⟨_,rfl⟩;rw [hOV,hok] at Hget;have HOV:=hid hOV;have Hok:=hid hok;clear hOV hok;obtain ⟨on,ob,oy,os⟩:=OV;simp only at Hget
      go_cut [18,19] (fun p e wc=>∃ (G:Nat) (y1 y2 y3:Option Addr) (z1 z2 z3:Nat),p=.pointer (some ⟨G,0,none⟩)/\e=.bool ok/\wc.heap[G]? = some (.cells #[.int .i64 on,.slice y1 ob.length z1,.slice y2 oy.length z2,.slice y3 os.length z3] 71 (0,0))/\DValD (k+1) (fun q=>(SX S w.heap.size W.heap.size (M+1) q/\q≠X)/\q<w7.heap.size) wc (on,ob,oy,os) [.int .i64 on,.slice y1 ob.length z1,.slice y2 oy.length z2,.slice y3 os.length z3]/\w7.heap.size<=G/\Up w7 wc)
      case first =>
       go_region_held3 (fun w'=>w'.cell? ⟨M+1,0,none⟩=some (.slice p1 out.values.length c1)/\w'.cell? ⟨M+1,1,none⟩=some (.slice p2 out.unknown.length c2)/\w'.cell? ⟨xb,xo+jj*6+1,none⟩=some (.int .i64 F.number))
        (first|with_reducible exact dd|with_reducible exact HP.out _ (up4 hw6 (show w7.heap.size<=w7.heap.size from Nat.le_refl _) _ _ _ _)|with_reducible exact HP.out _ (up4 (hw6.alloc _) (show w7.heap.size<=w6.heap.size from hw6.size) _ _ _ _)|with_reducible exact HP.out _ (hw6.alloc _)|with_reducible exact HP.out _ hw6|with_reducible exact HP.out _ ((Up.refl w7).alloc _).drew|with_reducible exact HP.out _ ((Up.refl w7).drew.alloc _))
        (first
         |(go_at_call 50
           first
            |(refine (Hget.out _ (Up.refl w7).drew).mono ?_;rintro e w6 ⟨y1,z1,y2,z2,y3,z3,rfl,hod,hu6⟩;have hw6:=(Up.refl w7).drew.trans hu6)
            |(refine (Hget.out _ ((Up.refl w7).alloc _).drew).mono ?_;rintro e w6 ⟨y1,z1,y2,z2,y3,z3,rfl,hod,hu6⟩;have hw6:=((Up.refl w7).alloc _).drew.trans hu6;have hg6:w6.heap[w7.heap.size]? = some (.cells #[.int .i64 0,.slice none 0 0,.slice none 0 0,.slice none 0 0] 71 (0,0)):=hu6.blk (blk_new w7 _ rfl);have q0:=ro0 hg6;have q1:=ro1 hg6;have q2:=ro2 hg6;have q3:=ro3 hg6;have qf:∀ o,w6.frozen? ⟨w7.heap.size,o,none⟩=false:=(fun o=>frozen_of_row w6 _ o _ _ hg6);have qz:w7.heap.size<w6.heap.size:=lt_of_block hg6)))
       all_goals
        go_wp2_with fail
        go_meet
       ·exact ⟨w6.heap.size,y1,y2,y3,z1,z2,z3,rfl,rfl,blk_new w6 _ rfl,stable_val (k+1) _ _ _ _ _ _ (Keep.upS ((Up.refl w6).alloc _)) hod,hw6.size,hw6.alloc _⟩
       ·exact ⟨w7.heap.size,y1,y2,y3,z1,z2,z3,rfl,rfl,box4_all hg6 _ _ _ _,stable_val (k+1) _ _ _ _ _ _ (keep4 (fun h=>absurd h.2 (Nat.lt_irrefl _)) _ _ _ _) hod,Nat.le_refl _,up4 hw6 (Nat.le_refl _) _ _ _ _⟩
      case rest =>
      obtain ⟨G,y1,y2,y3,z1,z2,z3,rfl,rfl,hG,hod,hGz,hu7c⟩:=hcut;clear dd HP Hget;obtain ⟨wf,rfl⟩:∃ wf:World,wf=wc:=⟨_,rfl⟩;have HbG:=hid hG;have Huc:=hid hu7c;have HbX:=hid (hu7c.blk HbV.out);have Hod:=hid (stable_val (k+1) _ _ _ _ _ _ (Keep.weak (S':=(fun q=>SX S w.heap.size W.heap.size (M+1) q/\q≠X)) (fun q (h:(fun q=>(SX S w.heap.size W.heap.size (M+1) q/\q≠X)/\q<w7.heap.size) q)=>h.1)) hod);have Hdv2:=hid (stable_val (k+1) _ _ _ _ _ _ (Keep.upS hu7c) Hdv.out);have hXG:X<w7.heap.size:=lt_of_block HbV.out;clear hG hod hu7c Hdv
      go_upto_if 91 with (fail)
      have Hfit:=hid (Hvf.out rfl rfl).1
      go_cut [] (fun wc=>∃ (x:Val) (i1 i2 i3:Option Addr) (h1 h2 h3:Nat),bothV (joinB f k) f F (findV out.values F.number) V=x/\wc.heap[X]? = some (.cells #[.int .i64 F.number,.slice i1 x.2.1.length h1,.slice i2 x.2.2.1.length h2,.slice i3 x.2.2.2.length h3] 71 (0,0))/\DValD (k+1) (fun q=>SX S w.heap.size W.heap.size (M+1) q/\q≠X) wc x [.int .i64 F.number,.slice i1 x.2.1.length h1,.slice i2 x.2.2.1.length h2,.slice i3 x.2.2.2.length h3]/\Up wd wc)
      case first =>
       cases ok with
       |false =>
        (have hnone:findV out.values F.number=none:=by have:=Hok.out;simpa using this);have Hsame:=hid (show bothV (joinB f k) f F (findV out.values F.number) V=V by rw [hnone];rfl);clear hnone;go_wp2_with fail
        go_meet
        exact ⟨V,e1,e2,e3,g1,g2,g3,Hsame.out,HbX.out,Hdv2.out,Hux.out.trans Huc.out⟩
       |true =>
        have hsome:findV out.values F.number=some (on,ob,oy,os):=by
         have h1:=Hok.out;have h2:=HOV.out
         cases hf:findV out.values F.number with
         |none=>rw [hf] at h1;cases h1
         |some o=>rw [hf] at h2;exact congrArg some h2
        obtain ⟨hom,hon⟩:=findV_mem hsome;obtain rfl:on=F.number:=hon
        have hov:wrongVF (wrongB f k) f F (F.number,ob,oy,os)=0:=by
         obtain ⟨F',e1,e2⟩:=Hall.out.fld _ hom;rw [show fldN m.fields (F.number,ob,oy,os).1=some F from Hself'.out] at e1;rw [Option.some.inj e1];exact e2
        have hcs:=count_up (kind:=F.kind) (v:=V);have hbr:=both_g 4000 k (k+1) f (plus_c 4000 (by decide) f Hright.out k) (fun q=>SX S w.heap.size W.heap.size (M+1) q/\q≠X) F (F.number,ob,oy,os) V (.agg #[.slice (some ⟨mb,mo,none⟩) f.msgs.length mc,.slice ea f.enums.length ec]) xb (xo+jj*6) y1 y2 y3 e1 e2 e3 z1 z2 z3 g1 g2 g3 wf (Hfv.out.up (Hwd.out.trans (Hux.out.trans Huc.out))) (Hxa.out.up (Hux.out.trans Huc.out)) Hty'.out hov ⟨Hfit.out.cnt,Hfit.out.one,(by have:=Hvl.out;have:=Hrlen.out.1;omega),Hfit.out.alone,Hfit.out.subs⟩ Hvn.out.symm (fun s hs=>(Hun.out.2 _ hom s hs).mono Htl.out) (fun s hs=>(Hvu.out s hs).mono Hrlen.out.1) Hod.out (by rw [Hvn.out];exact Hdv2.out);rw [Hvn.out,←hsome] at hbr;have Hbr:=hid hbr;clear hsome hom hov hcs hbr HOV;generalize bothV (joinB f k) f F (findV out.values F.number) V=BV at *;obtain ⟨bn,bb2,by2,bs2⟩:=BV;simp only at Hbr ⊢;have HH:=(Hux.out.trans Huc.out).blk Hbf2.out;have f0:=ro0 HH;have f1:=ro1 HH;have HH:=HbG.out;have o0:=ro0 HH;have o1:=ro1 HH;have o2:=ro2 HH;have o3:=ro3 HH;have HH:=HbX.out;have t0:=ro0 HH;have t1:wf.cell? ⟨X,1,none⟩=some (.slice e1 V.2.1.length g1):=cell_of_row wf _ 1 _ _ _ HH;have t2:wf.cell? ⟨X,2,none⟩=some (.slice e2 V.2.2.1.length g2):=cell_of_row wf _ 2 _ _ _ HH;have t3:wf.cell? ⟨X,3,none⟩=some (.slice e3 V.2.2.2.length g3):=cell_of_row wf _ 3 _ _ _ HH;clear HH;(go_wp2_with fail);refine Hbr.out.mono ?_;rintro e w8 ⟨i1,i2,i3,h1,h2,h3,rfl,hbd,hu8⟩;have HH:=hu8.blk HbX.out;have tf8:=roz HH;have tz8:X<w8.heap.size:=lt_of_block HH;have HbX8:=hid HH;have Hbd:=hid hbd;have Hu8:=hid hu8;clear f0 f1 o0 o1 o2 o3 t0 t1 t2 t3;have t0:=ro0 HH;have t1:w8.cell? ⟨X,1,none⟩=some (.slice e1 V.2.1.length g1):=cell_of_row w8 _ 1 _ _ _ HH;have t2:w8.cell? ⟨X,2,none⟩=some (.slice e2 V.2.2.1.length g2):=cell_of_row w8 _ 2 _ _ _ HH;have t3:w8.cell? ⟨X,3,none⟩=some (.slice e3 V.2.2.2.length g3):=cell_of_row w8 _ 3 _ _ _ HH;clear HH hbd hu8 Hbr;go_wp2_with fail
        go_meet
        refine ⟨_,i1,i2,i3,h1,h2,h3,rfl,box4_all HbX8.out _ _ _ _,?_,up4 ((Hux.out.trans Huc.out).trans Hu8.out) HXz.out _ _ _ _⟩;have hcz:=Huc.out.size;refine stable_val (k+1) _ _ _ _ _ _ ((keep4 (S:=Sx (fun q=>SX S w.heap.size W.heap.size (M+1) q/\q≠X) wf) (g:=X) ?_ _ _ _ _).trans (Keep.weak ?_)) Hbd.out
        ·rintro (h|h)
         ·exact h.2 rfl
         ·omega
        ·intro q h;have:=HMz.out;have:=HXz.out;rcases h with h|h
         ·exact h
         ·exact ⟨.inr ⟨by omega,by omega⟩,by omega⟩
      case rest =>
      obtain ⟨x,i1,i2,i3,h1,h2,h3,hbv,hbX,hdx,hux2⟩:=hcut;clear HbX HbG Hod Hdv2 Huc HOV Hok Hrv7 HbV;obtain ⟨wg,rfl⟩:∃ wg:World,wg=wc:=⟨_,rfl⟩
      go_upto_region 20 with (fail)
      (have hx1:x.1=F.number:=by rw [←hbv,bothV_num];exact Hvn.out);obtain ⟨xn,xb2,xy2,xs2⟩:=x;simp only at hx1 hbX hdx;subst hx1;have Hbv:=hid hbv;have Hu9:=hid hux2
      have Hrd9:=hid ((Hrv.out.keep (stable_val (k+1)) (S':=(fun q=>SX S w.heap.size W.heap.size (M+1) q/\q≠X)) (w':=wd) (fun q hs hq=>⟨Hud.out.block q hq,hs,by
       have:=Hud.out.size;have:=HXz.out;omega⟩)).up (stable_val (k+1)) hux2)
      have hv16:=Nat.le_trans (all_len Hch.out Hall.out) H16.out;have Hset:=hid (fun W' (u:Up wg W')=>setr_v (k+1) (.string ⟨m.name.toArray⟩) (.slice (some ⟨xb,xo,none⟩) m.fields.length fc) (.slice ba m.barred.length bc) (.slice p1 out.values.length c1) (.slice p2 out.unknown.length c2) m.fields out.values (F.number,xb2,xy2,xs2) F i1 i2 i3 h1 h2 h3 W' ⟨_,rfl⟩ ⟨_,_,_,rfl⟩ ⟨_,_,_,rfl⟩ (Hfs.out.up stable_fld ((Hwd.out.trans Hu9.out).trans u)) (Hrd9.out.up (stable_val (k+1)) u) Hall.out.ris (by omega) Hself'.out Hch.out (stable_val (k+1) _ _ _ _ _ _ (Keep.upS u) hdx));obtain ⟨NV,hNV⟩:∃ NV,setV m.fields out.values (F.number,xb2,xy2,xs2)=NV:=⟨_,rfl⟩;(have hnl:NV.length<=out.values.length+1:=by rw [←hNV];exact set_len _ _ _);rw [hNV] at Hset;have HNV:=hid hNV;have Hnl:=hid hnl;clear hNV hnl;have f0:=ro0 (hux2.blk Hbf2.out);have s0:=(Hwd.out.trans hux2).cell_some Hms.out.1;have s1:=(Hwd.out.trans hux2).cell_some Hms.out.2.1;have s2:=(Hwd.out.trans hux2).cell_some Hms.out.2.2;have n0:=ro0 (hux2.blk HbN2.out);have n1:=ro1 (hux2.blk HbN2.out);have t0:=ro0 hbX;have t1:wg.cell? ⟨X,1,none⟩=some (.slice i1 xb2.length h1):=cell_of_row wg _ 1 _ _ _ hbX;have t2:wg.cell? ⟨X,2,none⟩=some (.slice i2 xy2.length h2):=cell_of_row wg _ 2 _ _ _ hbX;have t3:wg.cell? ⟨X,3,none⟩=some (.slice i3 xs2.length h3):=cell_of_row wg _ 3 _ _ _ hbX;have DD:=hid (fun W' (u:Up wg W')=>(⟨u.cell_some f0,u.cell_some s0,u.cell_some s1,u.cell_some s2,u.cell_some n0,u.cell_some n1,u.cell_some t0,u.cell_some t1,u.cell_some t2,u.cell_some t3⟩:W'.cell? ⟨w.heap.size,0,none⟩=some (.slice (some ⟨mb,mo,none⟩) f.msgs.length mc)/\W'.cell? ⟨mb,mo+mi*3,none⟩=some (.string ⟨m.name.toArray⟩)/\W'.cell? ⟨mb,mo+mi*3+1,none⟩=some (.slice (some ⟨xb,xo,none⟩) m.fields.length fc)/\W'.cell? ⟨mb,mo+mi*3+2,none⟩=some (.slice ba m.barred.length bc)/\W'.cell? ⟨M+1,0,none⟩=some (.slice p1 out.values.length c1)/\W'.cell? ⟨M+1,1,none⟩=some (.slice p2 out.unknown.length c2)/\W'.cell? ⟨X,0,none⟩=some (.int .i64 F.number)/\W'.cell? ⟨X,1,none⟩=some (.slice i1 xb2.length h1)/\W'.cell? ⟨X,2,none⟩=some (.slice i2 xy2.length h2)/\W'.cell? ⟨X,3,none⟩=some (.slice i3 xs2.length h3)));refine wp_region_last (m:=8) (by kernel_rfl) (by rfl) (by kernel_rfl) (by kernel_rfl) (by kernel_rfl) (S:=fun w'=>w'.cell? ⟨w.heap.size,0,none⟩=some (.slice (some ⟨mb,mo,none⟩) f.msgs.length mc)/\w'.cell? ⟨mb,mo+mi*3,none⟩=some (.string ⟨m.name.toArray⟩)/\w'.cell? ⟨mb,mo+mi*3+1,none⟩=some (.slice (some ⟨xb,xo,none⟩) m.fields.length fc)/\w'.cell? ⟨mb,mo+mi*3+2,none⟩=some (.slice ba m.barred.length bc)/\w'.cell? ⟨M+1,0,none⟩=some (.slice p1 out.values.length c1)/\w'.cell? ⟨M+1,1,none⟩=some (.slice p2 out.unknown.length c2)/\w'.cell? ⟨X,0,none⟩=some (.int .i64 F.number)/\w'.cell? ⟨X,1,none⟩=some (.slice i1 xb2.length h1)/\w'.cell? ⟨X,2,none⟩=some (.slice i2 xy2.length h2)/\w'.cell? ⟨X,3,none⟩=some (.slice i3 xs2.length h3)) ?_;have hHeld:(fun w':World=>w'.cell? ⟨w.heap.size,0,none⟩=some (.slice (some ⟨mb,mo,none⟩) f.msgs.length mc)/\w'.cell? ⟨mb,mo+mi*3,none⟩=some (.string ⟨m.name.toArray⟩)/\w'.cell? ⟨mb,mo+mi*3+1,none⟩=some (.slice (some ⟨xb,xo,none⟩) m.fields.length fc)/\w'.cell? ⟨mb,mo+mi*3+2,none⟩=some (.slice ba m.barred.length bc)/\w'.cell? ⟨M+1,0,none⟩=some (.slice p1 out.values.length c1)/\w'.cell? ⟨M+1,1,none⟩=some (.slice p2 out.unknown.length c2)/\w'.cell? ⟨X,0,none⟩=some (.int .i64 F.number)/\w'.cell? ⟨X,1,none⟩=some (.slice i1 xb2.length h1)/\w'.cell? ⟨X,2,none⟩=some (.slice i2 xy2.length h2)/\w'.cell? ⟨X,3,none⟩=some (.slice i3 xs2.length h3)) wg.drew:=⟨f0,s0,s1,s2,n0,n1,t0,t1,t2,t3⟩;change wpAnyH _ _ _ _ _ _ _ _ wg.drew;clear f0 s0 s1 s2 n0 n1 t0 t1 t2 t3 hbv hux2 hdx hbX;refine wtk 0 (v:=?_) rfl ?_ ?_
      rotate_left
      ·(intro w hSw;(try dsimp only at hSw);go_simp)
       try with_reducible rfl
      (try simp only [Act.put,List.setIfInBounds_toArray]);refine wtk 1 (v:=?_) rfl ?_ ?_
      rotate_left
      ·(intro w hSw;(try dsimp only at hSw);go_simp)
       try with_reducible rfl
      (try simp only [Act.put]);refine wtk 2 (v:=?_) rfl ?_ ?_
      rotate_left
      ·(intro w hSw;(try dsimp only at hSw);go_simp)
       try with_reducible rfl
      (try simp only [Act.put]);refine wtk 3 (v:=?_) rfl ?_ ?_
      rotate_left
      ·(intro w hSw;(try dsimp only at hSw);go_simp)
       try with_reducible rfl
      (try simp only [Act.put]);refine wtk 4 (v:=?_) rfl ?_ ?_
      rotate_left
      ·(intro w hSw;(try dsimp only at hSw);go_simp)
       try with_reducible rfl
      (try simp only [Act.put]);refine wtk 5 (v:=?_) rfl ?_ ?_
      rotate_left
      ·(intro w hSw;(try dsimp only at hSw);go_simp)
       try with_reducible rfl
      (try simp only [Act.put]);refine wtk 6 (v:=?_) rfl ?_ ?_
      rotate_left
      ·(intro w hSw;(try dsimp only at hSw);go_simp)
       try with_reducible rfl
      (try simp only [Act.put]);refine wpAnyH_ready (rs:=[7]) (by kernel_rfl) (by simp) ?_;refine AllReadyH.cons rfl (fun K hK=>?_) AllReadyH.nil;go_simp;refine (Hset.out _ (Up.refl wg).drew).mono ?_;rintro e w8 ⟨vv',rfl,hrd8,hu8'⟩;obtain ⟨v8a,v8c,rfl,_,_⟩:=hrd8.val;have hu8:=((Up.refl wg).drew).trans hu8';have Hrd8:=hid hrd8;have Hu8:=hid (Hu9.out.trans hu8);refine hK.out _ _ (DD.out _ hu8) (fun hHeld=>?_);clear hK K hHeld hrd8;(try simp only [Act.put,List.setIfInBounds_toArray,List.set_cons_zero,List.set_cons_succ]);refine wpAnyH_done (by kernel_rfl) ?_ _;have hb8:=Hu8.out.blk HbN2.out;have r0:=ro0 hb8;have r1:=ro1 hb8;have rf':∀ o,w8.frozen? ⟨M+1,o,none⟩=false:=fun o=>frozen_of_row w8 _ o _ _ hb8;have hz8:M+1<w8.heap.size:=lt_of_block hb8;have Hb8:=hid hb8;clear hb8 DD Hset hu8 hu8';refine AskLast.normal (wpOp_step rfl (fun K' hK'=>?_));go_simp;refine hK' _ _ ?_;clear hK';have hgz:M+2<=wg.drew.heap.size:=Nat.le_trans hwz Hu9.out.drew.size;obtain ⟨w10,hw10,hb10,hbR10,hbf10,hrv10,hru10,hu10⟩:=out_stored (X:=X) (NV:=NV) (UN:=out.unknown) HM.out HMz.out HzW.out hgz ((Hu.out.trans Hud.out).trans Hu8.out) Hb8.out Hrd8.out (Hru.out.up stable_recz (Hud.out.trans Hu8.out)) (Hu8.out.blk HbR2.out) (Hu8.out.blk Hbf2.out);rw [hw10];have Hb10:=hid hb10;have Hu10:=hid hu10;have HbR10:=hid hbR10;have Hbf10:=hid hbf10;have Hrv10:=hid hrv10;have Hru10:=hid hru10;clear hw10 hb10 hu10 hbR10 hbf10 hrv10 hru10 r0 r1 rf' hz8 Hb8 Hrd8;(have hx2:fldN m.fields V.1=some F:=by rw [Hvn.out];exact Hself'.out);have hadd:=add_read Hright.out (show k<=12 by omega) Hch.out Hall.out hx2 Hfit.out;rw [Hvn.out,Hbv.out,HNV.out] at hadd;have hua:=unk_add Hright.out (joinK_ok Hright.out k 12 (by omega)) Hall.out hx2 Hfit.out (A:=((L.take j).flatMap oneB).length) (B:=r.bytes.length) Hun.out.2 Hvu.out;have hul:out.unknown.length<=4000:=Nat.le_trans Hun.out.1 Htl.out;(have hnl4:NV.length<=100000:=by have:=Hnl.out;have:=Hvj.out;have:=HL4.out;have:=Hlt.out;omega);have hmost:=most_in k Hrv10.out Hru10.out hnl4 (Nat.le_trans hul (by decide));have o0:w10.cell? ⟨M+1,0,none⟩=some (.slice v8a NV.length v8c):=cell_of_row w10 _ 0 _ _ _ Hb10.out;have o1:=ro1 Hb10.out;clear hnl4;rcases hadd with ⟨hall,hm,ha⟩|⟨hm,ha⟩
      ·rw [hm (k+2)] at hmost;have hdr:=Hdr2.out;rw [ha] at hua hdr;rw [if_neg (by simp)] at hdr;have Hdr3:=hid hdr;have Hua:=hid hua;have Hall2:=hid hall;clear hdr hua hall ha hm Hdr2;(go_wp2_with fail);refine hmost.mono ?_;rintro e w11 ⟨rfl,hu11⟩;clear o0 o1 hmost;go_wp2_with fail
       go_roundw
       case rel =>
        refine ⟨j+1,.mk NV out.unknown,v8a,p2,v8c,c2,by have:=Hlt.out;omega,by have:=Hlt.out;go_num,Hdr3.out,Hall2.out,(by have:=Hvj.out;have:=Hnl.out;show NV.length<=j+1;omega),⟨Nat.le_trans Hun.out.1 (by rw [Htk.out];omega),fun v hv s hs=>(Hua.out v hv s hs).mono (by rw [Htk.out];have:=Hrlen.out.2;omega)⟩,hu11.blk Hb10.out,hu11.blk HbR10.out,hu11.blk Hbf10.out,?_,?_,Hu10.out.trans hu11⟩
        ·exact Hrv10.out.up (stable_val (k+1)) hu11
        ·exact Hru10.out.up stable_recz hu11
       case measure=>have:=Hlt.out;simp [intOf];omega
      ·rw [hm (k+2) (by omega)] at hmost;have hdr:=Hdr2.out;rw [ha,if_pos (by decide)] at hdr;have Hans:=hid hdr;clear hdr hua ha hm Hdr2;(go_wp2_with fail);refine hmost.mono ?_;rintro e w11 ⟨rfl,hu11⟩;have Hu11:=hid (Hu10.out.trans hu11);have hb11:=hu11.blk HbR10.out;have z0:=ro0 hb11;have z1:=ro1 hb11;have zf:∀ o,w11.frozen? ⟨w.heap.size+1,o,none⟩=false:=fun o=>frozen_of_row w11 _ o _ _ hb11;have zz:w.heap.size+1<w11.heap.size:=lt_of_block hb11;clear o0 o1 hmost hb11;(go_wp2_with fail);refine bodyPost_ret (v:=.tuple #[.agg #[.slice none 0 0,.slice none 0 0],.int .i64 5]) (by simp [results,Tryz.results23,go_sem,z0,z1]) rfl ?_;rw [←Hans.out];refine ⟨_,_,rfl,⟨_,_,rfl,rdS_nil _ _ _ _,rdS_nil _ _ _ _,by simp [bod0,Bod.values],by simp [bod0,Bod.unknown]⟩,?_⟩;exact Up.setCell (Up.setCell (Huw2.out.trans Hu11.out) (p:=⟨w.heap.size+1,0,none⟩) (by simp only;omega) _) (p:=⟨w.heap.size+1,1,none⟩) (by simp only;omega) _
   ·
    have e:L.drop j=[]:=List.drop_eq_nil_of_le (by omega);have Hans:=hid (show (out,(0:Int))=RES by rw [←hl,e,readL]);have o0:=ro0 hbN;have o1:=ro1 hbN;have z0:=ro0 hbR;have z1:=ro1 hbR;have zf:∀ o,wr.frozen? ⟨w.heap.size+1,o,none⟩=false:=fun o=>frozen_of_row wr _ o _ _ hbR;have zz:w.heap.size+1<wr.heap.size:=lt_of_block hbR;have hul:out.unknown.length<=4000:=Nat.le_trans hun.1 (Nat.le_trans (flat_le oneB L j) Hp3.out);(have hvl:out.values.length<=4000:=by have:=HL4.out;omega);clear hl hall hun hbN hbR hbf hrv hru hu e;(go_wp2_with fail);refine bodyPost_ret (v:=.tuple #[.agg #[.slice p1 out.values.length c1,.slice p2 out.unknown.length c2],.int .i64 0]) (by simp [results,Tryz.results23,go_sem,z0,z1]) rfl ?_;rw [←Hans.out]
    have hnS:¬ SX S w.heap.size W.heap.size (M+1) (w.heap.size+1):=by
     have:=HzW.out;rintro (⟨_,h⟩|⟨h,_⟩) <;> omega
    have k2:Keep (SX S w.heap.size W.heap.size (M+1)) wr (Sx S w) ((wr.setCell ⟨w.heap.size+1,0,none⟩ (.slice p1 out.values.length c1)).setCell ⟨w.heap.size+1,1,none⟩ (.slice p2 out.unknown.length c2)):=((Keep.setCell (p:=⟨w.heap.size+1,0,none⟩) hnS _).trans (Keep.setCell (p:=⟨w.heap.size+1,1,none⟩) hnS _)).trans (Keep.weak (fun q h=>by
     have:=HzW.out;rcases h with h|h
     ·exact .inl h.1
     ·exact .inr (by omega)))
    refine ⟨_,_,rfl,⟨_,_,rfl,Hrv.out.keep (stable_val (k+1)) k2,Hru.out.keep stable_recz k2,⟨by show out.values.length*80<=_;omega,by show out.unknown.length*48<=_;omega⟩⟩,?_⟩;exact Up.setCell (Up.setCell (Huw2.out.trans Hu.out) (p:=⟨w.heap.size+1,0,none⟩) (by simp only;omega) _) (p:=⟨w.heap.size+1,1,none⟩) (by simp only;omega) _
 ·(have her:((parse l).2.1 != 0)=true:=by rw [bne_iff_ne];exact hp0);have Hres:=hid (show (bod0,(parse l).2.1)=RES by rw [←HRES.out,if_pos hp0]);clear HRES hp0;generalize (parse l).2.1=pe at *;generalize (parse l).2.2=at' at *;generalize (parse l).1=L at *
  go_upto_region 5 with (go_at_call 48;go_must (refine (Hpar.out _ HuW.out).mono ?_;rintro e w2 ⟨v2,rfl,how2,hu2⟩))
  have hbX:=blk_new w2 (.cells #[.int .i64 pe,.int .i64 (at':Int)] 60) rfl;have hu3:=hu2.alloc (.cells #[.int .i64 pe,.int .i64 (at':Int)] 60);have hbR':=hu2.blk HbR.out;(have hXB:w2.heap.size≠w.heap.size+1:=by have:=lt_of_block hbR';omega);have hbR3:=hu3.blk HbR.out;generalize w2.alloc (.cells #[.int .i64 pe,.int .i64 (at':Int)] 60)=w3 at *;generalize w2.heap.size=X at *;have z0:=ro0 hbR3;have z1:=ro1 hbR3;have zf:∀ o,w3.frozen? ⟨w.heap.size+1,o,none⟩=false:=fun o=>frozen_of_row w3 _ o _ _ hbR3;have zz:w.heap.size+1<w3.heap.size:=lt_of_block hbR3;have x0:=ro0 hbX;have Hu3:=hid (HuW.out.trans hu3);clear hbX hu3 hbR' hbR3 how2 hu2
  go_region
  all_goals
   (go_wp2_with fail);refine bodyPost_ret (v:=.tuple #[.agg #[.slice none 0 0,.slice none 0 0],.int .i64 pe]) (by simp [results,Tryz.results23,go_sem,z0,z1]) rfl ?_;rw [←Hres.out];refine ⟨_,_,rfl,⟨_,_,rfl,rdS_nil _ _ _ _,rdS_nil _ _ _ _,by simp [bod0,Bod.values],by simp [bod0,Bod.unknown]⟩,?_⟩;repeat (first|exact Hu3.out|with_reducible refine Up.setCell ?_ (by simp) _|with_reducible refine Up.drew ?_)
theorem read_r (f:Fil) (hright:(wrongN f).1=0):∀ k,k<=12->ReadC k f
 |0,_=>read_zero f
 |k+1,h=>read_step k h f hright (read_r f hright k (by omega))
end Go.Proofs.YtbceccblepckhaaGreatDoor
