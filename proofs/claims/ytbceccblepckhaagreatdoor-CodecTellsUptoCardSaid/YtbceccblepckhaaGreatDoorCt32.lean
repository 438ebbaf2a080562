/-
  A set of numbers: map[int]bool.
  pressref1.WrongRecord.
  pressref2.WrongBody.
-/
import Derived.Maps.Own
import Derived.Maps.Views
import Derived.Test.YtbceccblepckhaaGreatDoorCt20
import Derived.Test.YtbceccblepckhaaGreatDoorCt23
set_option maxHeartbeats 6400000
set_option linter.unusedVariables false
namespace Go.Proofs.YtbceccblepckhaaGreatDoor
open Go.RowKit Go.Maps Go.WideMaps
theorem mlawI : Keyed Tryz.prog 3:=int_keyed Tryz.underlying3
theorem mzeroB (w:World):(zeroValue 4).run Tryz.prog w=.ok (.bool false) w:=by kernel_rfl
def SetD (D:DataW Unit) (l:List Int):Prop:=IsMap D/\∀ n:Int,D.atKey (.int .i64 n) (.lit (.bool false))=.lit (.bool (decide (n∈l)))
theorem set_nil : SetD (.map []) []:=⟨isMap_empty,fun s=>by simp;rfl⟩
theorem set_snoc {D:DataW Unit} {l:List Int} (h:SetD D l) (n:Int):SetD (D.put (.int .i64 n) (.lit (.bool true))) (n::l):=by
 refine ⟨h.1.put _ _,fun m=>?_⟩
 by_cases e:m=n
 ·subst e;rw [atKey_put_same h.1 (by trivial)];simp
 ·rw [atKey_put_other (by simpa using e),h.2 m];simp [e]
theorem key_int (n:Int) (h:okI n):keyOf Tryz.prog 3 (.int .i64 n)=some (.int .i64 n):=keyOf_int_mk Tryz.underlying3 (WalkArith.wf_i64 h)
theorem bool_inv {P:Program} {e:TypeId} (he:P.underlying e=some .bool) {v:Value} {y:Bool} {ps:List MemPlace} (h:plainElem (H:=Unit) P e v=some (.lit (.bool y),ps)):v=.bool y:=by
 unfold plainElem at h;rw [he] at h;(cases v <;> simp at h);rw [h.1]
theorem wpList_set {ops:Array Oper} {rest:List Oper} {o:Oper} {a:Act} {Q:Exit->Act->World->Prop} {w:World} (hw:Region.wanted o (yielded ops a.tmps)=true) (m x:Operand)
  (hop:o.op=Op.lookup 140 m x false) (b n:Nat) (D:DataW Unit) (l:List Int) (s:Int) (hm:a.eval m=.map (some b)) (hown:w.ownsMap Tryz.prog 3 (plainElem Tryz.prog 4) b n D) (hh:SetD D l)
  (hx:a.eval x=.int .i64 s) (hs:okI s) (c0:Bool) (hc0:decide (s∈l)=c0) (h:wpList Tryz.prog ops Q rest (a.put o.dst (.bool c0)) w):wpList Tryz.prog ops Q (o::rest) a w:=by
 subst hc0;refine BigFrame.wpList_want hw fun K' hK'=>?_;obtain ⟨v,ps,hrun,hv⟩:=hown.lookup mlawI Tryz.underlying140 (mzeroB w) (plainElem_bool Tryz.underlying4 false) (key_int s hs);rw [hh.2 s] at hv
 have hvb:v=.bool (decide (s∈l)):=by
  exact bool_inv Tryz.underlying4 hv
 subst hvb;unfold Oper.wp;simp [execOp,hop,hm,hx,hrun,Result.andThen];exact hK' _ _ h
theorem wpList_set_put {ops:Array Oper} {rest:List Oper} {o:Oper} {a:Act} {Q:Exit->Act->World->Prop} {w:World} (hg:o.guard=none) (m x v:Operand)
  (hop:o.op=Op.mapUpdate 140 m x v) (b n:Nat) (D:DataW Unit) (l:List Int) (s:Int) (hm:a.eval m=.map (some b)) (hown:w.ownsMap Tryz.prog 3 (plainElem Tryz.prog 4) b n D) (hh:SetD D l) (hn:n<maxLen)
  (hx:a.eval x=.int .i64 s) (hs:okI s) (hv:a.eval v=.bool true)
  (h:∀ w' D',w'.ownsMap Tryz.prog 3 (plainElem Tryz.prog 4) b (n+1) D'->SetD D' (s::l)->w.grownBy w' (some b)->wpList Tryz.prog ops Q rest (a.put o.dst undef) w'):wpList Tryz.prog ops Q (o::rest) a w :=
 wpList_mapUpdate_own w hg m x v _ hop _ _ mlawI Tryz.underlying140 _ b n D hm hown hn _ _ (.int .i64 s) hx hv (key_int s hs) _ [] (plainElem_bool Tryz.underlying4 true) fun w' h1 h2=>h w' _ h1 (set_snoc hh s) h2
end Go.Proofs.YtbceccblepckhaaGreatDoor
namespace Go.Proofs.YtbceccblepckhaaGreatDoor
open Go.RowKit
set_option maxRecDepth 100000
theorem wrongRec_r (r:Rec) (vb:Value) (w:World) (hv:RdB All w vb r.bytes) :
  Calls Tryz.prog 76 #[.agg #[.int .i64 r.number,.int .i64 r.how,.int .u64 r.bits,vb]] w fun e w'=>e=.returned (.int .i64 (wrongRec r))/\Up w w':=by
 obtain ⟨ao,cap,rfl,hc1,hc2⟩:=hv.val;clear hv;obtain ⟨number,how,bits,bytes⟩:=r;simp only at *
 by_cases h4:how=0∨how=1∨how=5∨how=2
 ·(have hx:(how=2/\4000<bytes.length)∨(¬ (how=2/\4000<bytes.length)/\number<1)∨(¬ (how=2/\4000<bytes.length)/\536870912<=number)∨(¬ (how=2/\4000<bytes.length)/\1<=number/\number<536870912):=by omega);rcases hx with ⟨rfl,hl⟩|⟨hl,hn⟩|⟨hl,hn⟩|⟨hl,hn,hn2⟩
  ·go_enter Tryz.func76,Tryz.ntmps76
   (go_wp2_with fail);all_goals (go_ret;refine ⟨ret_int ?_,(Up.refl _).alloc _⟩;first|(simp [wrongRec];done)|(simp [wrongRec];omega))
  ·rcases h4 with rfl|rfl|rfl|rfl;all_goals try have hl:¬ 4000<bytes.length:=by omega
   all_goals
   go_enter Tryz.func76,Tryz.ntmps76
   (go_wp2_with fail);all_goals (go_ret;refine ⟨ret_int ?_,(Up.refl _).alloc _⟩;first|(simp [wrongRec];done)|(simp [wrongRec];omega))
  ·rcases h4 with rfl|rfl|rfl|rfl;all_goals try have hl:¬ 4000<bytes.length:=by omega
   all_goals
   go_enter Tryz.func76,Tryz.ntmps76
   (go_wp2_with fail);all_goals (go_ret;refine ⟨ret_int ?_,(Up.refl _).alloc _⟩;first|(simp [wrongRec];done)|(simp [wrongRec];omega))
  ·rcases h4 with rfl|rfl|rfl|rfl;all_goals try have hl:¬ 4000<bytes.length:=by omega
   all_goals
   go_enter Tryz.func76,Tryz.ntmps76
   (go_wp2_with fail);all_goals (go_ret;refine ⟨ret_int ?_,(Up.refl _).alloc _⟩;first|(simp [wrongRec];done)|(simp [wrongRec];omega))
 ·(have g0:(how==0)=false:=by rw [beq_eq_false_iff_ne];omega);(have g1:(how==1)=false:=by rw [beq_eq_false_iff_ne];omega);(have g2:(how==2)=false:=by rw [beq_eq_false_iff_ne];omega);(have g5:(how==5)=false:=by rw [beq_eq_false_iff_ne];omega);(have n0:(how != 0)=true:=by rw [bne_iff_ne];omega);(have n1:(how != 1)=true:=by rw [bne_iff_ne];omega);(have n2:(how != 2)=true:=by rw [bne_iff_ne];omega);have n5:(how != 5)=true:=by rw [bne_iff_ne];omega
  go_enter Tryz.func76,Tryz.ntmps76
  go_wp2_with fail
  go_ret
  refine ⟨ret_int ?_,(Up.refl _).alloc _⟩;simp only [wrongRec];rw [if_neg h4]
end Go.Proofs.YtbceccblepckhaaGreatDoor
namespace Go.Proofs.YtbceccblepckhaaGreatDoor
open Go.RowKit Go.Maps
set_option maxRecDepth 100000
open Lib (hid)
theorem ownsMap_up {H:Type} {P:Program} {k:TypeId} {R:Value->Option (DataW H × List MemPlace)} {w w':World} {b n:Nat} {D:DataW H} (h:w.ownsMap P k R b n D) (u:Up w w'):w'.ownsMap P k R b n D:=by
 have hlt:=h.lt;obtain ⟨es,clock,hb,F,hs,hD⟩:=h;exact ⟨es,clock,(u.block b hlt).trans hb,F,hs,hD⟩
theorem bodyr_step (k d:Nat) (f:Fil) (ih:∀ d,BodyRC k d f) (hk:k<=12) (hright:(wrongN f).1=0):BodyRC (k+1) d f:=by
 intro v vv vu msg x w hm0 hm1 hf hbd
 cases d with
 |zero=>exact hbd.elim
 |succ d =>
 obtain ⟨a1,c1,a2,c2,rfl,rfl,hv,hu,hz⟩:=bod_cells hbd;obtain ⟨mi,rfl⟩:∃ mi:Nat,msg=mi:=⟨msg.toNat,by omega⟩;have hmi:mi<f.msgs.length:=by omega
 have hmsg:wrongB f (k+1) (mi:Int) x=wrongBF (wrongVF (wrongB f k) f) f.msgs[mi] x:=by
  rw [wrongB,Int.toNat_natCast,List.getElem?_eq_getElem hmi]
 rw [hmsg];have hmr:=right_msg hright f.msgs[mi] (List.getElem_mem hmi);have Hval:=hid (value_r k d f (ih d) hk);obtain ⟨vm,ve,rfl,hm',he''⟩:=id hf;obtain ⟨ma,mc,rfl,_,_⟩:=hm'.val;obtain ⟨ea,ec,rfl,_,_⟩:=he''.val;obtain ⟨mb,mo,cs,rfl,_,_,hcs,hd⟩:=hm'.at hmi;obtain ⟨vf,vb,hd,hfs,hbs,hnm⟩:=hd;subst hd;obtain ⟨fa,fc,rfl,_,_⟩:=hfs.val;obtain ⟨ba,bc,rfl,_,_⟩:=hbs.val;have s0:=hcs 0 _ rfl;have s1:=hcs 1 _ rfl;have s2:=hcs 2 _ rfl;simp only [Nat.add_zero] at s0;have Hv:=hid hv;have Hun:=hid hu;have Hfs:=hid hfs;have Hf:=hid hf;have zv:=hz.1;have zu:=hz.2;clear hcs hm' he'' hf hbd hz hmsg hright ih hv hu hfs;generalize f.msgs[mi]=m at *;(have hdeep:¬ ((12:Int)<13 - ((k+1:Nat):Int)):=by omega);(have hde:(13:Int) - ((k+1:Nat):Int)=12 - (k:Int):=by omega);rw [hde] at hdeep ⊢;(have hm2:(mi:Int)<(f.msgs.length:Int):=by omega);obtain ⟨ANS,hANS⟩:∃ ANS,wrongBF (wrongVF (wrongB f k) f) m x=ANS:=⟨_,rfl⟩;rw [hANS];unfold wrongBF at hANS;have Hans:=hid hANS;clear hANS hde;generalize x.unknown=un at *;generalize x.values=vs at *
 go_enter Tryz.func32,Tryz.ntmps32
 go_upto_region 1 with (fail)
 have hb0:((w.alloc (.cells #[.slice (some ⟨mb,mo,none⟩) f.msgs.length mc,.slice ea f.enums.length ec] 25)).alloc (.cells #[.slice a1 vs.length c1,.slice a2 un.length c2] 29)).heap[w.heap.size]? = some (.cells #[.slice (some ⟨mb,mo,none⟩) f.msgs.length mc,.slice ea f.enums.length ec] 25 (0,0)):=blk_old _ (blk_new w _ rfl);have hb1:((w.alloc (.cells #[.slice (some ⟨mb,mo,none⟩) f.msgs.length mc,.slice ea f.enums.length ec] 25)).alloc (.cells #[.slice a1 vs.length c1,.slice a2 un.length c2] 29)).heap[w.heap.size+1]? = some (.cells #[.slice a1 vs.length c1,.slice a2 un.length c2] 29 (0,0)):=blk_new (w.alloc _) _ (by simp);have hu0:Up w ((w.alloc (.cells #[.slice (some ⟨mb,mo,none⟩) f.msgs.length mc,.slice ea f.enums.length ec] 25)).alloc (.cells #[.slice a1 vs.length c1,.slice a2 un.length c2] 29)):=((Up.refl w).alloc _).alloc _;generalize hw1:(w.alloc (.cells #[.slice (some ⟨mb,mo,none⟩) f.msgs.length mc,.slice ea f.enums.length ec] 25)).alloc (.cells #[.slice a1 vs.length c1,.slice a2 un.length c2] 29)=w1 at *;clear hw1;have s0:=hu0.cell_some s0;have s1:=hu0.cell_some s1;have s2:=hu0.cell_some s2;have g0:=ro0 hb0;have HB0:=hid hb0;have HB1:=hid hb1;have HU0:=hid hu0;clear hb0 hb1 hu0
 go_upto_region 4 with (fail)
 clear s0 s1 s2 g0;have hbk:=blk_new w1 (.cells #[.string ⟨m.name.toArray⟩,.slice fa m.fields.length fc,.slice ba m.barred.length bc] 35) (g:=w1.heap.size) rfl;have hu1:=(Up.refl w1).alloc (.cells #[.string ⟨m.name.toArray⟩,.slice fa m.fields.length fc,.slice ba m.barred.length bc] 35);generalize hw2:w1.alloc (.cells #[.string ⟨m.name.toArray⟩,.slice fa m.fields.length fc,.slice ba m.barred.length bc] 35)=w2 at *;clear hw2;have HB0':=hid (hu1.blk HB0.out);have HB1':=hid (hu1.blk HB1.out);have Hbk:=hid hbk;have Hu1:=hid (HU0.out.trans hu1);have hbz:w1.heap.size<w2.heap.size:=lt_of_block hbk;clear HB0 HB1 HU0 hu1 hbk;have b0:(w2.alloc (.map #[] 0)).cell? ⟨w.heap.size+1,0,none⟩=some (.slice a1 vs.length c1):=cell_of_row _ _ 0 _ _ _ (blk_old _ HB1'.out);have hmm:=@run_makeMap Tryz.prog;(go_wp2_with fail);clear hmm b0;have Hfc:=hid (fun n W (u:Up w W)=>field_r (.string ⟨m.name.toArray⟩) (.slice fa m.fields.length fc) (.slice ba m.barred.length bc) m.fields n W ⟨_,rfl⟩ ⟨_,_,_,rfl⟩ (Hfs.out.up stable_fld u));(go_loopw [29] (fun i wr=>∃ (k2:Nat) (prev:Option Int) (had hadD:List Int) (D:DataW Unit),k2<=vs.length/\i=.int .i64 k2/\wr.ownsMap Tryz.prog 3 (plainElem Tryz.prog 4) w2.heap.size k2 D/\SetD D hadD/\(∀ n:Int,0<n->(n∈hadD ↔ n∈had))/\(prev=if h:0<k2/\k2<=vs.length then some (vs[k2 - 1]'(by omega)).1 else none)/\valsN (wrongVF (wrongB f k) f) m.fields none [] vs=valsN (wrongVF (wrongB f k) f) m.fields prev had (vs.drop k2)/\Up w2 wr) (fun i _=>vs.length - (intOf i).toNat));case atStart=>exact ⟨0,none,[],[],.map [],by omega,rfl,World.ownsMap_made _ _ _ _,set_nil,fun _ _=>Iff.rfl,by rw [dif_neg (by omega)],rfl,(Up.refl _).alloc _⟩
 case round =>
  obtain ⟨k2,prev,had,hadD,D,hk2,rfl,how,hsd,hhd,hprev,hrec,hu⟩:=hrel;have How:=hid how;have Hsd:=hid hsd;have Hhd:=hid hhd;clear how hsd hhd
  by_cases hlt:k2<vs.length
  ·obtain ⟨b1,o1,cs,rfl,_,_,hcs,hd⟩:=(Hv.out.up (stable_val d) (Hu1.out.trans hu)).at hlt;obtain ⟨p1,g1,p2,g2,p3,g3,rfl,hn,hx1,hx2,hx3,zx⟩:=val_cells hd;have q0:=hcs 0 _ rfl;have q1:=hcs 1 _ rfl;have q2:=hcs 2 _ rfl;have q3:=hcs 3 _ rfl;simp only [Nat.add_zero] at q0;rw [drop_at hlt,valsN] at hrec;have Hdx:=hid hd
   have hprev2:(k2=0/\prev=none)∨(∃ h:0<k2/\k2<=vs.length,prev=some (vs[k2 - 1]'(by omega)).1):=by
    by_cases h:0<k2/\k2<=vs.length
    ·exact .inr ⟨h,by rw [hprev,dif_pos h]⟩
    ·exact .inl ⟨by omega,by rw [hprev,dif_neg h]⟩
   have hprev3:(k2=0/\prev=none)∨(0<k2/\∃ pn:Int,prev=some pn/\wr.cell? ⟨b1,o1+(k2 - 1)*4,none⟩=some (.int .i64 pn)):=by
    rcases hprev2 with h|⟨h,h2⟩
    ·exact .inl h
    ·refine .inr ⟨h.1,_,h2,?_⟩;obtain ⟨b1',o1',cs',e,_,_,hcs',hd'⟩:=(Hv.out.up (stable_val d) (Hu1.out.trans hu)).at (i:=k2 - 1) (by omega);simp only [Option.some.injEq,Addr.mk.injEq,and_true] at e;obtain ⟨rfl,rfl⟩:=e;obtain ⟨_,_,_,_,_,_,rfl,_⟩:=val_cells hd';simpa using hcs' 0 _ rfl
   have Hnx:=hid (show ∀ (k3:Nat) (h:k3=k2+1),some (vs[k2]).1=if h:0<k3/\k3<=vs.length then some (vs[k3 - 1]'(by omega)).1 else none from fun k3 h=>by subst h;rw [dif_pos ⟨by omega,by omega⟩];rfl);have HuA:=hid (Hu1.out.trans hu);have Hu:=hid hu;have Hrec:=hid hrec;have Hprev3:=hid hprev3;(have i0:(0:Int)<=(k2:Int):=by omega);(have i1:(k2:Int)<(vs.length:Int):=by omega);clear hcs hd hx1 hx2 hx3 zx hprev hprev2 hu hrec hprev3;generalize hq:vs[k2]=q at *;obtain ⟨qn,qb,qy,qs⟩:=q;simp only at q0 q1 q2 q3 Hdx hn;obtain ⟨wq,rfl⟩:∃ wq:World,wq=wr:=⟨_,rfl⟩
   go_upto_region 8 with (fail)
   have hbx:=blk_new wq (.cells #[.int .i64 qn,.slice p1 qb.length g1,.slice p2 qy.length g2,.slice p3 qs.length g3] 71) (g:=wq.heap.size) rfl;have hux:=(Up.refl wq).alloc (.cells #[.int .i64 qn,.slice p1 qb.length g1,.slice p2 qy.length g2,.slice p3 qs.length g3] 71);generalize hwx:wq.alloc (.cells #[.int .i64 qn,.slice p1 qb.length g1,.slice p2 qy.length g2,.slice p3 qs.length g3] 71)=wx at *;clear hwx q0 q1 q2 q3;have hbm:=hux.blk (Hu.out.blk Hbk.out);have v0:=ro0 hbx;have m0:=ro0 hbm;have m1:=ro1 hbm;have m2:=ro2 hbm;have Hbx:=hid hbx;have Hux:=hid hux;clear hbx hux hbm;(go_wp2_with fail);refine (Hfc.out qn wx (HuA.out.trans Hux.out)).mono ?_;rintro e w5 ⟨⟨p,rfl,hp1,hp2⟩,hu5⟩;clear v0 m0 m1 m2;have Hu5:=hid (Hux.out.trans hu5);have Hbx5:=hid (hu5.blk Hbx.out);clear hu5;rcases idxP_cases (fun z:Fld=>z.number==qn) m.fields with ⟨hi,hfd⟩|⟨j,hj,hi,hfd⟩
   ·have hrec:=Hrec.out;rw [show fldN m.fields (qn,qb,qy,qs).1=none from hfd] at hrec;simp only at hrec;(have hans:(6:Int)=ANS:=by have:=Hans.out;rw [if_pos (by rw [hrec];decide),hrec] at this;exact this);obtain rfl:=hp1 (by rw [hi];decide);have Hans2:=hid hans;clear hp1 hp2 hans hrec hfd hi;go_wp2_with fail
    go_ret
    exact ⟨ret_int Hans2.out,HuA.out.trans Hu5.out⟩
   have hrec:=Hrec.out;rw [show fldN m.fields (qn,qb,qy,qs).1=some m.fields[j] from hfd] at hrec;simp only at hrec;obtain ⟨xb,xo,xc,hfe,rfl,hfa⟩:=hp2 j hj hi;have hft:=(field_facts ((msg_field hmr).2.2 j hj)).2.2.2.1;have hch:=choice_16 hmr (List.getElem_mem hj);have Hfa:=hid hfa;have Hft:=hid hft;have Hrec2:=hid hrec;clear hfa hft hfd hi Hrec hrec hp1 hp2 hfe;generalize m.fields[j]=F at *
   have hcase:(0<k2/\∃ pn:Int,prev=some pn/\w5.cell? ⟨b1,o1+(k2 - 1)*4,none⟩=some (.int .i64 pn)/\qn<=pn)∨(k2=0/\badPrev prev qn=false)∨(0<k2/\∃ pn:Int,badPrev prev qn=false/\w5.cell? ⟨b1,o1+(k2 - 1)*4,none⟩=some (.int .i64 pn)/\¬ qn<=pn):=by
    rcases Hprev3.out with ⟨h1,h2⟩|⟨h1,pn,h2,h3⟩
    ·exact .inr (.inl ⟨h1,by rw [h2];rfl⟩)
    ·by_cases h4:qn<=pn
     ·exact .inl ⟨h1,pn,h2,Hu5.out.cell_some h3,h4⟩
     ·exact .inr (.inr ⟨h1,pn,by rw [h2];simp [badPrev,h4],Hu5.out.cell_some h3,h4⟩)
   have v0:=ro0 Hbx5.out;have l0:w5.cell? ⟨w.heap.size+1,0,none⟩=some (.slice (some ⟨b1,o1,none⟩) vs.length c1):=cell_of_row w5 _ 0 _ _ _ ((Hu.out.trans Hu5.out).blk HB1'.out);clear Hprev3
   go_upto_region 11 with (fail)
   go_cut [53] (fun bb wc=>(bb=.bool true/\(2:Int)=ANS∨bb=.bool false/\badPrev prev qn=false)/\Up w5 wc)
   case first =>
    rcases hcase with ⟨hkp,pn,hpe,c0,hle⟩|⟨hk0,hbp⟩|⟨hkp,pn,hbp,c0,hle⟩
    case inl =>
     have hans:(2:Int)=ANS:=by
      have h1:=Hrec2.out;rw [if_pos (by rw [hpe];simp [badPrev,hle])] at h1;have:=Hans.out;rw [if_pos (by rw [h1];decide),h1] at this;exact this
     have Hans2:=hid hans;have d1:decide ((0:Int)<(k2:Int))=true:=decide_eq_true (by omega);have e1:decide (0<k2)=true:=decide_eq_true (by omega);have d2:decide (qn<=pn)=true:=decide_eq_true (by omega);(have d3:IntKind.i64.wrap ((k2:Int) - 1)=(k2:Int) - 1:=by rw [IntKind.wrap_i64];omega);(have d4:(0:Int)<=(k2:Int) - 1:=by omega);(have d5:((k2:Int) - 1).toNat=k2 - 1:=by omega);(have d6:(k2:Int) - 1<(vs.length:Int):=by omega);clear hpe hle hans
     go_quiet (fail)
     go_wp2_with fail
     go_meet
     exact ⟨.inl ⟨rfl,Hans2.out⟩,(Up.refl w5).drewN _⟩
    case inr.inl =>
     have d1:decide ((0:Int)<(k2:Int))=false:=decide_eq_false (by omega);have e1:decide (0<k2)=false:=decide_eq_false (by omega);have Hkk:=hid hk0;have Hbp:=hid hbp;clear hk0 hbp
     go_quiet (fail)
     go_wp2_with fail
     go_meet
     exact ⟨.inr ⟨rfl,Hbp.out⟩,(Up.refl w5).drewN _⟩
    case inr.inr =>
     have d1:decide ((0:Int)<(k2:Int))=true:=decide_eq_true (by omega);have e1:decide (0<k2)=true:=decide_eq_true (by omega);have d2:decide (qn<=pn)=false:=decide_eq_false (by omega);(have d3:IntKind.i64.wrap ((k2:Int) - 1)=(k2:Int) - 1:=by rw [IntKind.wrap_i64];omega);(have d4:(0:Int)<=(k2:Int) - 1:=by omega);(have d5:((k2:Int) - 1).toNat=k2 - 1:=by omega);(have d6:(k2:Int) - 1<(vs.length:Int):=by omega);have Hbp:=hid hbp;clear hle hbp
     go_quiet (fail)
     go_wp2_with fail
     go_meet
     exact ⟨.inr ⟨rfl,Hbp.out⟩,(Up.refl w5).drewN _⟩
   case rest =>
   clear hcase v0 l0;obtain ⟨hcut,hu6⟩:=hcut;have Hu56:=hid (Hu5.out.trans hu6);have hb6:=hu6.blk Hbx5.out;have Hfa6:=hid (Hfa.out.up hu6);clear hu6;rcases hcut with ⟨rfl,hans⟩|⟨rfl,hbp⟩
   ·have Hans2:=hid hans;clear hans;go_wp2_with fail
    go_ret
    exact ⟨ret_int Hans2.out,HuA.out.trans Hu56.out⟩
   have hrec:=Hrec2.out;rw [if_neg (by rw [hbp];decide)] at hrec;have v0:=ro0 hb6;have v1:=ro1 hb6;have v2:=ro2 hb6;have v3:=ro3 hb6;have hbf:=(Hu.out.trans Hu56.out).blk HB0'.out;have f0:=ro0 hbf;have f1:=ro1 hbf;have hvc:=Hval.out F (qn,qb,qy,qs) (.agg #[.slice (some ⟨mb,mo,none⟩) f.msgs.length mc,.slice ea f.enums.length ec]) xb (xo+j*6) p1 p2 p3 g1 g2 g3 wc (Hf.out.up (HuA.out.trans Hu56.out)) Hfa6.out (stable_val d _ _ _ _ _ _ (Keep.upS Hu56.out) Hdx.out) Hft.out;obtain ⟨WV,hWV⟩:∃ WV,wrongVF (wrongB f k) f F (qn,qb,qy,qs)=WV:=⟨_,rfl⟩;rw [hWV] at hrec hvc;have Hvc:=hid hvc;have Hrec3:=hid hrec;have fc0:=Hfa6.out.2.1.2.2.2.2.2;clear hvc hrec Hrec2 hbp hWV hb6 hbf;(go_wp2_with fail);refine Hvc.out.mono ?_;rintro e w7 ⟨rfl,hu7⟩;have fc0:=hu7.cell_some fc0;have Hu57:=hid (Hu56.out.trans hu7);clear hu7 v0 v1 v2 v3 f0 f1;have How7:=hid (ownsMap_up How.out Hu57.out)
   by_cases hwv:WV=0
   ·subst hwv;have hrec:=Hrec3.out;rw [if_neg (by decide)] at hrec;(have hok:okI F.choice:=by unfold okI;omega);have Hok:=hid hok;clear hok
    by_cases hcp:(0:Int)<F.choice
    ·have hmem:=Hhd.out F.choice hcp;have hdc:decide ((0:Int)<F.choice)=true:=decide_eq_true hcp
     by_cases hin:F.choice∈had
     ·have hans:(8:Int)=ANS:=by
       rw [if_pos ⟨hcp,hin⟩] at hrec;have:=Hans.out;rw [if_pos (by rw [hrec];decide),hrec] at this;exact this
      have Hans2:=hid hans;have Hin:=hid (decide_eq_true (hmem.2 hin));clear hans hrec hin hmem hcp;go_wp2_with (at_lookup;go_must (refine wpList_set (by rfl) _ _ (by rfl) w2.heap.size k2 D hadD F.choice (by rfl) How7.out Hsd.out (by rfl) Hok.out true Hin.out ?_))
      go_ret
      exact ⟨ret_int Hans2.out,HuA.out.trans Hu57.out⟩
     ·rw [if_neg (fun h=>hin h.2),if_pos hcp] at hrec;have Hrec4:=hid hrec;have Hin:=hid (decide_eq_false (fun h=>hin (hmem.1 h)));have Hcp:=hid hcp;clear hrec hin hmem hcp
      go_wp2_with (first
       |(at_lookup;go_must (refine wpList_set (by rfl) _ _ (by rfl) w2.heap.size k2 D hadD F.choice (by rfl) How7.out Hsd.out (by rfl) Hok.out false Hin.out ?_))
       |(at_mapUpdate;go_must (refine wpList_set_put (by rfl) _ _ _ (by rfl) w2.heap.size k2 D hadD F.choice (by rfl) How7.out Hsd.out (by unfold maxLen;omega) (by rfl) Hok.out (by rfl) ?_;intro w8 D8 how8 hd8 hgr8;have hu8:Up w2 w8:=Up.grown (Hu.out.trans Hu57.out) hgr8 (fun j hj=>by cases hj;omega);have Hu8:=hid hu8;have How8:=hid how8;have Hd8:=hid hd8;clear hu8 how8 hd8 hgr8)))
      go_roundw
      (case rel=>exact ⟨k2+1,some qn,F.choice::had,F.choice::hadD,D8,by omega,by go_num,How8.out,Hd8.out,fun n hn=>by simp only [List.mem_cons];rw [Hhd.out n hn],Hnx.out _ rfl,Hrec4.out,Hu8.out⟩);case measure=>simp [intOf];omega
    ·have hdc:decide ((0:Int)<F.choice)=false:=decide_eq_false hcp;rw [if_neg (fun h=>hcp h.1),if_neg hcp] at hrec;have Hrec4:=hid hrec;have Hcp:=hid hcp;clear hrec hcp;go_wp2_with (at_mapUpdate;go_must (refine wpList_set_put (by rfl) _ _ _ (by rfl) w2.heap.size k2 D hadD F.choice (by rfl) How7.out Hsd.out (by unfold maxLen;omega) (by rfl) Hok.out (by rfl) ?_;intro w8 D8 how8 hd8 hgr8;have hu8:Up w2 w8:=Up.grown (Hu.out.trans Hu57.out) hgr8 (fun j hj=>by cases hj;omega);have Hu8:=hid hu8;have How8:=hid how8;have Hd8:=hid hd8;clear hu8 how8 hd8 hgr8))
     go_roundw
     (case rel=>exact ⟨k2+1,some qn,had,F.choice::hadD,D8,by omega,by go_num,How8.out,Hd8.out,fun n hn=>by simp only [List.mem_cons];rw [Hhd.out n hn];have:=Hcp.out;exact ⟨fun h=>h.resolve_left (by omega),fun h=>.inr h⟩,Hnx.out _ rfl,Hrec4.out,Hu8.out⟩);case measure=>simp [intOf];omega
   ·have hans:WV=ANS:=by
     have h1:=Hrec3.out;rw [if_pos hwv] at h1;have:=Hans.out;rw [h1,if_pos hwv] at this;exact this
    go_wp2_with fail
    go_ret
    exact ⟨ret_int (by first|rfl|exact hans),HuA.out.trans Hu57.out⟩
  ·(have h0:valsN (wrongVF (wrongB f k) f) m.fields none [] vs=0:=by rw [hrec,List.drop_of_length_le (by omega)];rfl);have hans:=Hans.out;rw [if_neg (by rw [h0];decide)] at hans;have Hans2:=hid hans;have HuA:=hid (Hu1.out.trans hu);have l1:=ro1 (hu.blk HB1'.out);have Hbkw:=hid (hu.blk Hbk.out);obtain ⟨wo,rfl⟩:∃ wo:World,wo=wr:=⟨_,rfl⟩;clear hans h0 hrec hprev Hans Hval hu;(go_wp2_with fail);clear l1;(go_loopw [84] (fun i wr=>∃ k2:Nat,k2<=un.length/\i=.int .i64 k2/\Up wo wr/\∀ j,(hj:j<un.length)->j<k2->unkN m.fields un[j]=0) (fun i _=>un.length - (intOf i).toNat));case atStart=>exact ⟨0,by omega,rfl,Up.refl _,fun j _ h=>absurd h (by omega)⟩
   case round =>
    obtain ⟨k2',hk2',rfl,hu,hg⟩:=hrel;have Hg:=hid hg;clear hg
    by_cases hlt2:k2'<un.length
    ·obtain ⟨b1,o1,cs,rfl,_,_,hcs,hd⟩:=(Hun.out.up stable_recz (HuA.out.trans hu)).at hlt2;obtain ⟨⟨vb,hd,hrb,h64⟩,hzr⟩:=hd;subst hd;obtain ⟨ra,rc,rfl,_,_⟩:=hrb.val;have n0:=hcs 0 _ rfl;have n1:=hcs 1 _ rfl;have n2:=hcs 2 _ rfl;have n3:=hcs 3 _ rfl;simp only [Nat.add_zero] at n0;(have k20:(0:Int)<=(k2':Int):=by omega);(have k21:(k2':Int)<(un.length:Int):=by omega);have Hgg:=hid (fun e=>firstN_map_at (q:=unkN m.fields) hlt2 Hg.out e);have Hgn:=hid (fun (e:unkN m.fields un[k2']=0)=>zero_more' hlt2 Hg.out e);have Hrb:=hid hrb;have Hux:=hid hu;clear hcs hrb h64 hzr hu;generalize un[k2']=r at *;obtain ⟨wq,rfl⟩:∃ wq:World,wq=wr:=⟨_,rfl⟩
     go_upto_region 23 with (fail)
     have hbx:=blk_new wq (.cells #[.int .i64 r.number,.int .i64 r.how,.int .u64 (r.bits:Int),.slice ra r.bytes.length rc] 87) (g:=wq.heap.size) rfl;have hux:=(Up.refl wq).alloc (.cells #[.int .i64 r.number,.int .i64 r.how,.int .u64 (r.bits:Int),.slice ra r.bytes.length rc] 87);generalize hwx:wq.alloc (.cells #[.int .i64 r.number,.int .i64 r.how,.int .u64 (r.bits:Int),.slice ra r.bytes.length rc] 87)=wx at *;clear hwx n0 n1 n2 n3;have n0:=ro0 hbx;have n1:=ro1 hbx;have n2:=ro2 hbx;have n3:=ro3 hbx;have Hwr:=hid (wrongRec_r r _ wx (Hrb.out.up stable_u8 hux));have Hbx:=hid hbx;have Hux2:=hid (Hux.out.trans hux);clear hbx hux;(go_wp2_with fail);refine Hwr.out.mono ?_;rintro e w7 ⟨rfl,hu7⟩;clear n0 n1 n2 n3;have hu07:=Hux2.out.trans hu7
     by_cases hwr:wrongRec r=0
     ·rw [hwr];have m0:=ro0 (hu07.blk Hbkw.out);have m1:=ro1 (hu07.blk Hbkw.out);have m2:=ro2 (hu07.blk Hbkw.out);have r0:=ro0 (hu7.blk Hbx.out);have Hu07:=hid hu07;clear hu7 hu07;(go_wp2_with fail);refine (Hfc.out r.number _ (HuA.out.trans Hu07.out)).mono ?_;rintro e w8 ⟨⟨p,rfl,hp1,hp2⟩,hu8⟩;clear m0 m1 m2 r0;rcases idxP_cases (fun z:Fld=>z.number==r.number) m.fields with ⟨hi,hfd⟩|⟨j,hj,hi,hfd⟩
      ·(have hun:unkN m.fields r=0:=by unfold unkN;rw [if_neg (by simpa using hwr),show fldN m.fields r.number=none from hfd];rfl);obtain rfl:=hp1 (by rw [hi];decide);have Hun:=hid hun;have Hu08:=hid (Hu07.out.trans hu8);clear hun hfd hi hwr hu8 hp1 hp2;go_wp2_with fail
       go_roundw
       (case rel=>exact ⟨k2'+1,by omega,by go_num,Hu08.out,Hgn.out Hun.out⟩);case measure=>simp [intOf];omega
      ·(have hun:unkN m.fields r=7:=by unfold unkN;rw [if_neg (by simpa using hwr),show fldN m.fields r.number=some m.fields[j] from hfd];rfl);(have hans:(7:Int)=ANS:=by have:=Hgg.out (by rw [hun];decide);rw [Hans2.out,hun] at this;exact this.symm);obtain ⟨xb,xo,xc,hfe,rfl,hfa⟩:=hp2 j hj hi;have Hans3:=hid hans;have Hu08:=hid (Hu07.out.trans hu8);clear hun hfd hi hwr hu8 hp1 hp2 hfe hfa hans;go_wp2_with fail
       go_ret
       exact ⟨ret_int Hans3.out,HuA.out.trans Hu08.out⟩
     ·(have hun:unkN m.fields r=wrongRec r:=by unfold unkN;rw [if_pos hwr]);(have hans:wrongRec r=ANS:=by have:=Hgg.out (by rw [hun];exact hwr);rw [Hans2.out,hun] at this;exact this.symm);have Hu07:=hid hu07;clear hun hu7 hu07;generalize wrongRec r=er at *;go_wp2_with fail
      go_ret
      exact ⟨ret_int (by first|rfl|exact hans),HuA.out.trans Hu07.out⟩
    ·(have hans:0=ANS:=by rw [←Hans2.out,firstN_map_none (fun j hj=>Hg.out j hj (by omega))]);have Hans3:=hid hans;clear hans;go_wp2_with fail
     go_ret
     exact ⟨ret_int Hans3.out,HuA.out.trans hu⟩
theorem bodyr_c (f:Fil) (hright:(wrongN f).1=0):∀ k,k<=13->∀ d,BodyRC k d f:=by
 intro k
 induction k with
 |zero =>
  intro _ d v vv vu msg x w hm0 hm1 hf hb;obtain ⟨vm,ve,rfl,hm',he''⟩:=id hf;obtain ⟨ma,mc,rfl,_,_⟩:=hm'.val;obtain ⟨ea,ec,rfl,_,_⟩:=he''.val;obtain ⟨a1,n1,c1,a2,n2,c2,hbt⟩:=bod_two hb;simp only [List.cons.injEq,and_true] at hbt;obtain ⟨rfl,rfl⟩:=hbt;clear hm' he'' hf hb;show Calls Tryz.prog 32 #[_,.int .i64 msg,_,.int .i64 13] w fun e w'=>e=.returned (.int .i64 10)/\Up w w'
  go_enter Tryz.func32,Tryz.ntmps32
  go_wp2_with fail
  go_ret
  exact ⟨rfl,((Up.refl _).alloc _).alloc _⟩
 |succ k ih=>exact fun h d=>bodyr_step k d f (ih (by omega)) (by omega) hright
end Go.Proofs.YtbceccblepckhaaGreatDoor
