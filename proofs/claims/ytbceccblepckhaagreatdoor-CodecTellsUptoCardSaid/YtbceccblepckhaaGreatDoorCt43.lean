/-
  A region that draws its order, and whose last operations wait for all the others, and for one another: these by themselves.
  (*reader).add: a value comes to a body as it is.
-/
import Derived.Test.YtbceccblepckhaaGreatDoorCt40
import Derived.Lib.MinMax
set_option maxHeartbeats 6400000
set_option linter.unusedVariables false
namespace Go.Proofs.YtbceccblepckhaaGreatDoor
section
variable {P:Program} {ops:Array Oper} {md:Region.Mode} {Q:Exit->Act->World->Prop}
def runTail (P:Program) (ops:Array Oper) (Q:Exit->Act->World->Prop):Nat->Nat->Act->World->Prop
 |0,_,a,w=>Q .normal a w
 |t+1,i,a,w=>wpOp P ops Q i (fun a' w'=>runTail P ops Q t (i+1) a' w') a w
def AskTail (P:Program) (ops:Array Oper) (t m:Nat) (Q:Exit->Act->World->Prop):Exit->Act->World->Prop:=fun e a w=>match e with
 |.normal=>runTail P ops Q t m a w
 |e=>Q e a w
theorem AskTail.normal {t m:Nat} {a:Act} {w:World} (h:runTail P ops Q t m a w):AskTail P ops t m Q .normal a w:=h
theorem wpOp_askT {t m i:Nat} {K:Act->World->Prop} {a:Act} {w:World} (h:wpOp P ops (AskTail P ops t m Q) i K a w):wpOp P ops Q i K a w:=by
 unfold wpOp at *;split
 ·rename_i hn;simp only [hn] at h;exact h
 ·rename_i o ho;simp only [ho] at h;split
  ·rename_i hw;simp only [hw,if_true] at h;rcases h with h|h
   ·refine .inl ?_;unfold Oper.wp at h ⊢;generalize (execOp a.eval o).run P w=r at *
    cases r with
    |ok n w'=>cases n <;> exact h
    |halt x w'=>cases x <;> exact h
   ·exact .inr h
  ·rename_i hw;rw [if_neg hw] at h;exact h
def setTail : Nat->Nat->Array Bool->Array Bool
 |0,_,l=>l
 |t+1,m,l=>setTail t (m+1) (l.setIfInBounds m true)
theorem setTail_low : ∀ (t m:Nat) (l:Array Bool) (i:Nat) (d:Bool),i<m->(setTail t m l).getD i d=l.getD i d
 |0,_,_,_,_,_=>rfl
 |t+1,m,l,i,d,h=>by
  rw [setTail,setTail_low t (m+1) _ i d (by omega),getD_set_ne d (by omega)]
theorem setTail_set : ∀ (t m:Nat) (l:Array Bool) (i:Nat),i<m->setTail t m (l.setIfInBounds i true)=(setTail t m l).setIfInBounds i true
 |0,_,_,_,_=>rfl
 |t+1,m,l,i,h=>by
  rw [setTail,setTail,Array.setIfInBounds_comm _ _ (show i≠m by omega),setTail_set t (m+1) _ i (by omega)]
theorem getD_set_self {l:Array Bool} {i:Nat} (h:i<l.size) (d:Bool):(l.setIfInBounds i true).getD i d=true:=by
 simp [h]
theorem setTail_high : ∀ (t m:Nat) (l:Array Bool) (i:Nat) (d:Bool),m<=i->i<m+t->i<l.size->(setTail t m l).getD i d=true
 |0,m,l,i,d,h1,h2,_=>by omega
 |t+1,m,l,i,d,h1,h2,h3=>by
  rw [setTail]
  by_cases h:i=m
  ·subst h;rw [setTail_low t (i+1) _ i d (by omega),getD_set_self h3]
  ·exact setTail_high t (m+1) _ i d (by omega) (by omega) (by simpa using h3)
theorem wpAny_run (hdep:∀ (j:Nat) (oj:Oper),ops[j]? = some oj->∀ e∈oj.after,Region.binds md e=true->e.on<j):∀ (t m f:Nat) (listed:Array Bool) (a:Act) (w:World),m+t=ops.size->listed.size=ops.size ->
  (∀ i,m<i->i<ops.size->Region.waitsFor md ops i (i - 1)=true)->(∀ i,i<m->listed.getD i false=true)->(∀ i,m<=i->i<ops.size->listed.getD i true=false)->runTail P ops Q t m a w->wpAny P md ops Q (f+t) listed a w
 |0,m,f,listed,a,w,hm,hsz,_,hall,_,h=>by
  have hr:Region.ready md ops listed=[]:=List.eq_nil_iff_forall_not_mem.2 fun i hi=>by
   obtain ⟨h0,o,ho,_⟩:=mem_ready.1 hi;have hlt:=(Array.getElem?_eq_some_iff.1 ho).1;have h1:=hall i (by omega);have h2:=getD_both h0;rw [h1] at h2;cases h2
  cases f with
  |zero=>exact ⟨hr,h⟩
  |succ f=>exact ⟨fun _=>h,fun i hi=>by rw [hr] at hi;cases hi⟩
 |t+1,m,f,listed,a,w,hm,hsz,hc,hall,hun,h=>by
  have hmr:m∈Region.ready md ops listed:=mem_ready.2 ⟨hun m (Nat.le_refl _) (by omega),ops[m],by simp [show m<ops.size by omega],fun e he hb=>hall e.on (hdep m ops[m] (by simp [show m<ops.size by omega]) e he hb)⟩
  have honly:∀ i,i∈Region.ready md ops listed->i=m:=fun i hi=>by
   obtain ⟨h0,o,ho,hal⟩:=mem_ready.1 hi;have hlt:=(Array.getElem?_eq_some_iff.1 ho).1;rcases Nat.lt_trichotomy i m with h1|h1|h1
   ·have h2:=hall i h1;have h3:=getD_both h0;rw [h2] at h3;cases h3
   ·exact h1
   ·obtain ⟨o',ho',e,he,hb,hon⟩:=Region.waitsFor_spec (hc i h1 hlt);have:o'=o:=Option.some.inj (ho'.symm.trans ho);subst this;have h2:=hal e he hb;rw [hon,getD_both (hun (i - 1) (by omega) (by omega))] at h2;cases h2
  show wpAny P md ops Q ((f+t)+1) listed a w;(refine ⟨fun h0=>(by rw [h0] at hmr;cases hmr),fun i hi=>?_⟩);obtain rfl:=honly i hi;refine wpOp_mono (fun a' w' h'=>?_) h
  exact wpAny_run hdep t (i+1) f _ a' w' (by omega) (by simp [hsz]) (fun j hj hj'=>hc j (by omega) hj') (fun j hj=>by
   by_cases hji:j=i
   ·subst hji;exact getD_set_self (by omega) false
   ·rw [getD_set_ne false (Ne.symm hji)];exact hall j (by omega)) (fun j hj hj'=>by rw [getD_set_ne true (by omega)];exact hun j (by omega) hj') h'
theorem wpAny_tail {t m:Nat} (hm:m+t=ops.size) (ht:0<t) (hs:Region.sinkB md ops m=true) (hc:Region.chainB md ops m=true) (hdep:∀ (j:Nat) (oj:Oper),ops[j]? = some oj->∀ e∈oj.after,Region.binds md e=true->e.on<j) :
  ∀ (f:Nat) (listed:Array Bool) (a:Act) (w:World),HeadInv md ops m listed->wpAny P md ops (AskTail P ops t m Q) f (setTail t m listed) a w->wpAny P md ops Q (f+t) listed a w:=by
 have hback:∀ (listed:Array Bool) (i:Nat),i<m->(i∈Region.ready md ops (setTail t m listed) ↔ i∈Region.ready md ops listed):=fun listed i him=>by
  rw [mem_ready,mem_ready,setTail_low t m listed i true him];refine and_congr_right fun _=>exists_congr fun o=>and_congr_right fun ho=>forall_congr' fun e=>forall_congr' fun he=>forall_congr' fun hb=>?_;rw [setTail_low t m listed e.on false (by have:=hdep i o ho e he hb;omega)]
 have hchain:∀ i,m<i->i<ops.size->Region.waitsFor md ops i (i - 1)=true:=fun i h1 h2=>by
  have h3:=List.all_eq_true.1 hc i (List.mem_range.2 h2);simp only [Bool.or_eq_true,decide_eq_true_eq] at h3;rcases h3 with h3|h3
  ·omega
  ·exact h3
 have hlowr:∀ (listed:Array Bool),listed.size=ops.size->∀ i,i∈Region.ready md ops (setTail t m listed)->i<m:=fun listed hsz i hi=>by
  obtain ⟨h0,o,ho,_⟩:=mem_ready.1 hi;have hlt:=(Array.getElem?_eq_some_iff.1 ho).1;apply Classical.byContradiction;intro h;rw [setTail_high t m listed i true (by omega) (by omega) (by omega)] at h0;cases h0
 intro f
 induction f with
 |zero =>
  intro listed a w inv h
  have hall:∀ i,i<m->listed.getD i false=true:=by
   intro i
   induction i using Nat.strongRecOn with
   |_ i ih =>
    intro hi
    cases hl:listed.getD i false with
    |true=>rfl
    |false =>
     have hri:i∈Region.ready md ops listed:=mem_ready.2 ⟨getD_in (by rw [inv.size];omega) hl,ops[i],by simp [show i<ops.size by omega],fun e he hb=>by
      have h1:=hdep i ops[i] (by simp [show i<ops.size by omega]) e he hb;exact ih e.on h1 (by omega)⟩
     have:=(hback listed i hi).2 hri;rw [h.1] at this;cases this
  exact wpAny_run hdep t m 0 listed a w hm inv.size hchain hall inv.tail h.2
 |succ f ih =>
  intro listed a w inv h
  by_cases hr:Region.ready md ops (setTail t m listed)=[]
  ·have hall:∀ i,i<m->listed.getD i false=true:=by
    intro i
    induction i using Nat.strongRecOn with
    |_ i ih =>
     intro hi
     cases hl:listed.getD i false with
     |true=>rfl
     |false =>
      have hri:i∈Region.ready md ops listed:=mem_ready.2 ⟨getD_in (by rw [inv.size];omega) hl,ops[i],by simp [show i<ops.size by omega],fun e he hb=>by
       have h1:=hdep i ops[i] (by simp [show i<ops.size by omega]) e he hb;exact ih e.on h1 (by omega)⟩
      have:=(hback listed i hi).2 hri;rw [hr] at this;cases this
   exact wpAny_run hdep t m (f+1) listed a w hm inv.size hchain hall inv.tail (h.1 hr)
  ·rw [show f+1+t=(f+t)+1 by omega];obtain ⟨i0,hi0⟩:=List.exists_mem_of_ne_nil _ hr;have hi0m:=hlowr listed inv.size i0 hi0;have hun0:=(mem_ready.1 ((hback listed i0 hi0m).1 hi0)).1;refine ⟨fun h0=>?_,fun i hi=>?_⟩
   ·have:=(hback listed i0 hi0m).1 hi0;rw [h0] at this;cases this
   ·have him:i<m:=by
     apply Classical.byContradiction;intro hge;exact tail_waits hs hc (by omega) inv _ i0 rfl hi0m hun0 i (by omega) hi
    refine wpOp_askT (t:=t) (m:=m) (wpOp_mono (fun a' w' h'=>ih _ a' w' (inv.set hi him) ?_) (h.2 i ((hback listed i him).2 hi)));rw [setTail_set t m listed i him];exact h'
theorem wp_region_tail {S:World->Prop} {id m:Nat} (t:Nat) {a:Act} {w:World} (hf:P.follows .mixedOrders=true) (hm:m+t=ops.size) (ht:0<t) (hs:Region.sinkB .any ops m=true) (hc:Region.chainB .any ops m=true)
  (hdep:(List.range ops.size).all (fun j=>match ops[j]? with|some oj=>oj.after.all (fun e=>!Region.binds .any e || decide (e.on<j))|none=>true)=true)
  (h:wpAnyH P .any ops (AskTail P ops t m Q) S m (setTail t m (Array.replicate ops.size false)) a { w with drawn:=w.drawn+1 }):(Code.region id ops true).wp P Q a w:=by
 have hd:∀ (j:Nat) (oj:Oper),ops[j]? = some oj->∀ e∈oj.after,Region.binds .any e=true->e.on<j:=fun j oj hj e he hb=>by
  have h1:=List.all_eq_true.1 hdep j (List.mem_range.2 (Array.getElem?_eq_some_iff.1 hj).1);rw [hj] at h1;have h2:=(Array.all_eq_true_iff_forall_mem.1 h1) e he;simp only [hb,Bool.not_true,Bool.false_or,decide_eq_true_eq] at h2;exact h2
 refine wp_region_any hf ?_;rw [←hm];rw [←hm] at h;exact wpAny_tail hm ht hs hc hd m _ a _ ⟨by simp [hm],fun j oj _ hl=>(by rw [getD_replicate_false] at hl;cases hl),fun t _ ht=>getD_in (by simp;omega) (getD_replicate_false _ _)⟩ (wpAny_of_held _ _ _ _ h)
end
end Go.Proofs.YtbceccblepckhaaGreatDoor
namespace Go.Proofs.YtbceccblepckhaaGreatDoor
open Go.RowKit
set_option maxRecDepth 100000
open Lib (hid)
structure AddH (d:Nat) (S:Nat->Prop) (f:Fil) (fs:List Fld) (b:Bod) (x:Fld) (v:Val) (sm:ByteArray) (fa ba va ua e1 e2 e3:Option Addr) (nf fc nb bc vc uc h1 h2 h3 cb fb bf fo:Nat) (w:World):Prop where
 chk:ChkAt w cb fb f
 flds:RdS DFld 6 All w (.slice fa nf fc) fs
 vals:RdS (DValD d) 4 S w (.slice va b.values.length vc) b.values
 bsz:BodSz b
 fld:FldAt w bf fo x
 val:DValD d S w v [.int .i64 v.1,.slice e1 v.2.1.length h1,.slice e2 v.2.2.1.length h2,.slice e3 v.2.2.2.length h3]
 num:v.1=x.number
 vlen:v.2.1.length<=5000/\v.2.2.1.length<=5000/\v.2.2.2.length<=5000
 olen:∀ o,findV b.values x.number=some o->o.2.1.length<=60/\o.2.2.1.length<=60/\o.2.2.2.length<=60
 ris:RisingV b.values
 b16:b.values.length<=16
theorem run_max3 {P:Program} (w:World) (ts:Array TypeId) (t:TypeId) (x y z:Nat) :
  (Builtin.max_ ts t #[.int .i64 (x:Int),.int .i64 (y:Int),.int .i64 (z:Int)]).run P w=.ok (.int .i64 ((max (max x y) z:Nat):Int)) w:=by
 (have e2:((max (max x y) z:Nat):Int)=max (max (x:Int) (y:Int)) (z:Int):=by omega);rw [e2];simp [Builtin.max_,Builtin.max2]
 repeat' split
 all_goals omega
theorem radd_plain (d:Nat) (S:Nat->Prop) (f:Fil) (fs:List Fld) (b:Bod) (x:Fld) (v:Val) (sm:ByteArray) (fa ba va ua e1 e2 e3:Option Addr) (nf fc nb bc vc uc h1 h2 h3 cb fb bf fo:Nat) (w:World) (H:AddH d S f fs b x v sm fa ba va ua e1 e2 e3 nf fc nb bc vc uc h1 h2 h3 cb fb bf fo w) (hp:findV b.values x.number=none∨(x.many=false/\x.kind≠10)) :
  Calls Tryz.prog 43 #[.pointer (some ⟨cb,0,none⟩),.agg #[.string sm,.slice fa nf fc,.slice ba nb bc],.agg #[.slice va b.values.length vc,.slice ua b.unknown.length uc],.pointer (some ⟨bf,fo,none⟩),.agg #[.int .i64 v.1,.slice e1 v.2.1.length h1,.slice e2 v.2.2.1.length h2,.slice e3 v.2.2.2.length h3]] w fun e w'=>∃ vv vu,e=.returned (.tuple #[.agg #[vv,vu],.int .i64 (finC fs b v).2])/\((finC fs b v).2=0->vu=.slice ua b.unknown.length uc)/\RdS (DValD d) 4 (Sx S w) w' vv (finC fs b v).1.values/\((finC fs b v).2≠0->vu=.slice none 0 0)/\Up w w':=by
 obtain ⟨hchk,hflds,hvals,hbsz,hfld,hval,hnum,hvlen,holen,hris,hb16⟩:=H;obtain ⟨OV,hOV⟩:∃ OV,(findV b.values x.number).getD val0=OV:=⟨_,rfl⟩;obtain ⟨ok,hok⟩:∃ ok,(findV b.values x.number).isSome=ok:=⟨_,rfl⟩;have hxb:bf<w.heap.size:=hfld.1;have xn:=hfld.2.1.2.1;have xk:=hfld.2.1.2.2.1;have xm:=hfld.2.1.2.2.2.2.1;have Hx:=hid (⟨xn,xk,xm⟩:w.cell? ⟨bf,fo+1,none⟩=some (.int .i64 x.number)/\w.cell? ⟨bf,fo+2,none⟩=some (.int .i64 x.kind)/\w.cell? ⟨bf,fo+4,none⟩=some (.bool x.many));have Hchk:=hid hchk;have Hflds:=hid hflds;have Hvals:=hid hvals;have Hbsz:=hid hbsz;have Hfld:=hid hfld;have Hval:=hid hval;have Hnum:=hid hnum;have Hvlen:=hid hvlen;have Holen:=hid holen;have Hris:=hid hris;have Hb16:=hid hb16;have Hok:=hid hok;have HOV:=hid hOV;clear hchk hflds hvals hbsz hfld hval hnum hvlen holen hris hb16 xn xk xm
 go_enter Tryz.func43,Tryz.ntmps43
 go_upto_region 1 with (fail)
 generalize hW:(((w.alloc (.cells #[.string sm,.slice fa nf fc,.slice ba nb bc] 35)).alloc (.cells #[.slice va b.values.length vc,.slice ua b.unknown.length uc] 29)).alloc (.cells #[.int .i64 v.1,.slice e1 v.2.1.length h1,.slice e2 v.2.2.1.length h2,.slice e3 v.2.2.2.length h3] 71)).alloc (.cells #[.slice none 0 0,.slice none 0 0] 29)=w1;(have hbm:w1.heap[w.heap.size]? = some (.cells #[.string sm,.slice fa nf fc,.slice ba nb bc] 35 (0,0)):=by rw [←hW];exact blk_old _ (blk_old _ (blk_old _ (blk_new w _ rfl))));(have hbb:w1.heap[w.heap.size+1]? = some (.cells #[.slice va b.values.length vc,.slice ua b.unknown.length uc] 29 (0,0)):=by rw [←hW];exact blk_old _ (blk_old _ (blk_new (w.alloc _) _ (by simp))));(have hbv:w1.heap[w.heap.size+1+1]? = some (.cells #[.int .i64 v.1,.slice e1 v.2.1.length h1,.slice e2 v.2.2.1.length h2,.slice e3 v.2.2.2.length h3] 71 (0,0)):=by rw [←hW];exact blk_old _ (blk_new ((w.alloc _).alloc _) _ (by simp)));(have hbr:w1.heap[w.heap.size+1+1+1]? = some (.cells #[.slice none 0 0,.slice none 0 0] 29 (0,0)):=by rw [←hW];exact blk_new (((w.alloc _).alloc _).alloc _) _ (by simp));(have hu1:Up w w1:=by rw [←hW];exact ((((Up.refl w).alloc _).alloc _).alloc _).alloc _);have Hz1:=hid (show w1.heap.size=w.heap.size+4 by rw [←hW];simp);clear hW;have l0:=ro0 hbb;have l1:=ro1 hbb;have l2:w1.cell? ⟨bf,fo+1,none⟩=some (.int .i64 x.number):=hu1.cell_some Hx.out.1;have Hbm:=hid hbm;have Hbb:=hid hbb;have Hbv:=hid hbv;have Hbr:=hid hbr;have Hu1:=hid hu1;clear hbm hbb hbv hbr hu1;have Hget:=hid (fun W (u:Up w1 W)=>get_v d (S:=fun k=>S k/\k<w.heap.size) (.slice va b.values.length vc) (.slice ua b.unknown.length uc) b.values x.number W (Hvals.out.keep (stable_val d) (S':=fun k=>S k/\k<w.heap.size) (w':=W) (fun k hs hk=>⟨(Hu1.out.trans u).block k hk,hs,hk⟩)) ⟨_,_,_,rfl⟩);rw [hOV,hok] at Hget;clear hOV hok;have dd:w1.drew.cell? ⟨w.heap.size+1,0,none⟩=some (.slice va b.values.length vc)/\w1.drew.cell? ⟨w.heap.size+1,1,none⟩=some (.slice ua b.unknown.length uc)/\w1.drew.cell? ⟨bf,fo+1,none⟩=some (.int .i64 x.number):=⟨l0,l1,l2⟩;have DD:=hid (fun W (u:Up w1 W)=>(⟨u.cell_some l0,u.cell_some l1,u.cell_some l2⟩:W.cell? ⟨w.heap.size+1,0,none⟩=some (.slice va b.values.length vc)/\W.cell? ⟨w.heap.size+1,1,none⟩=some (.slice ua b.unknown.length uc)/\W.cell? ⟨bf,fo+1,none⟩=some (.int .i64 x.number)));clear l0 l1 l2
 go_cut [12,13] (fun p o wc=>∃ (O:Nat) (y1 y2 y3:Option Addr) (z1 z2 z3:Nat),p=.pointer (some ⟨O,0,none⟩)/\o=.bool ok/\wc.heap[O]? = some (.cells #[.int .i64 OV.1,.slice y1 OV.2.1.length z1,.slice y2 OV.2.2.1.length z2,.slice y3 OV.2.2.2.length z3] 71 (0,0))/\DValD d (fun k=>S k/\k<w.heap.size) wc OV [.int .i64 OV.1,.slice y1 OV.2.1.length z1,.slice y2 OV.2.2.1.length z2,.slice y3 OV.2.2.2.length z3]/\w.heap.size+4<=O/\Up w1 wc)
 case first =>
  go_region_held3 (fun w'=>w'.cell? ⟨w.heap.size+1,0,none⟩=some (.slice va b.values.length vc)/\w'.cell? ⟨w.heap.size+1,1,none⟩=some (.slice ua b.unknown.length uc)/\w'.cell? ⟨bf,fo+1,none⟩=some (.int .i64 x.number))
   (first|with_reducible exact dd|with_reducible exact DD.out _ (Up.setCell (Up.setCell (Up.setCell (Up.setCell (hu6.alloc _) (show w1.heap.size<=w6.heap.size from hu6.size) _) (show w1.heap.size<=w6.heap.size from hu6.size) _) (show w1.heap.size<=w6.heap.size from hu6.size) _) (show w1.heap.size<=w6.heap.size from hu6.size) _)|with_reducible exact DD.out _ (Up.setCell (Up.setCell (Up.setCell (Up.setCell hu6 (Nat.le_refl w1.heap.size) _) (Nat.le_refl w1.heap.size) _) (Nat.le_refl w1.heap.size) _) (Nat.le_refl w1.heap.size) _)|with_reducible exact DD.out _ (hu6.alloc _)|with_reducible exact DD.out _ hu6|with_reducible exact DD.out _ ((Up.refl w1).alloc _).drew)
   (first|(go_at_call 96;first
     |(refine (Hget.out _ (Up.refl w1).drew).mono ?_;rintro e w6 ⟨y1,z1,y2,z2,y3,z3,rfl,hod,hu6'⟩;have hu6:=(Up.refl w1).drew.trans hu6')
     |(refine (Hget.out _ ((Up.refl w1).alloc _).drew).mono ?_;rintro e w6 ⟨y1,z1,y2,z2,y3,z3,rfl,hod,hu6'⟩;have hu6:=((Up.refl w1).alloc _).drew.trans hu6';have hg6:w6.heap[w1.heap.size]? = some (.cells #[.int .i64 0,.slice none 0 0,.slice none 0 0,.slice none 0 0] 71 (0,0)):=hu6'.blk (blk_new w1 _ rfl);have q0:=ro0 hg6;have q1:=ro1 hg6;have q2:=ro2 hg6;have q3:=ro3 hg6;have qf:∀ o,w6.frozen? ⟨w1.heap.size,o,none⟩=false:=(fun o=>frozen_of_row w6 _ o _ _ hg6);have qz:w1.heap.size<w6.heap.size:=lt_of_block hg6)))
  all_goals
   go_wp2_with fail
   go_meet
  ·exact ⟨w6.heap.size,y1,y2,y3,z1,z2,z3,rfl,rfl,blk_new w6 _ rfl,stable_val d _ _ _ _ _ _ (fun k hs hk=>⟨((Up.refl w6).alloc _).block k hk,hs⟩) hod,by have:=hu6.size;have:=Hz1.out;omega,hu6.alloc _⟩
  ·refine ⟨w1.heap.size,y1,y2,y3,z1,z2,z3,rfl,rfl,heap_setCell_same _ _ 3 _ _ _ (heap_setCell_same _ _ 2 _ _ _ (heap_setCell_same _ _ 1 _ _ _ (heap_setCell_same _ _ 0 _ _ _ hg6))),stable_val d _ _ _ _ _ _ (fun k hs hk=>⟨?_,hs⟩) hod,by have:=Hz1.out;omega,Up.setCell (Up.setCell (Up.setCell (Up.setCell hu6 (Nat.le_refl w1.heap.size) _) (Nat.le_refl w1.heap.size) _) (Nat.le_refl w1.heap.size) _) (Nat.le_refl w1.heap.size) _⟩;(have hne:k≠w1.heap.size:=by have:=Hz1.out;have:=hs.2;omega);rw [heap_setCell_other _ _ _ _ hne,heap_setCell_other _ _ _ _ hne,heap_setCell_other _ _ _ _ hne,heap_setCell_other _ _ _ _ hne]
 case rest =>
 obtain ⟨O,y1,y2,y3,z1,z2,z3,rfl,rfl,hbo,hod,hOz,hu2⟩:=hcut;have Hbo:=hid hbo;have Hod:=hid hod;have HOz:=hid hOz;have Hu2:=hid hu2;have Hbm2:=hid (hu2.blk Hbm.out);have Hbb2:=hid (hu2.blk Hbb.out);have Hbv2:=hid (hu2.blk Hbv.out);have Hbr2:=hid (hu2.blk Hbr.out);have Hu02:=hid (Hu1.out.trans hu2);have mn:wc.cell? ⟨bf,fo+4,none⟩=some (.bool x.many):=Hu02.out.cell_some Hx.out.2.2;have kd:wc.cell? ⟨bf,fo+2,none⟩=some (.int .i64 x.kind):=Hu02.out.cell_some Hx.out.2.1;have Hzc:=hid (show w.heap.size+4<=wc.heap.size by have:=hu2.size;have:=Hz1.out;omega);clear hbo hod hOz hu2 Hget DD dd Hbm Hbb Hbv Hbr;obtain ⟨on,ob,oy,os⟩:=OV;simp only at Hod Hbo;generalize hT:w.heap.size+1+1=T at *;have HT:=hid hT;clear hT;have HMt:=hid Hbm2.out;have HBt:=hid Hbb2.out;have HVt:=hid Hbv2.out;have HRt:=hid Hbr2.out;have HUt:=hid Hu02.out;have HDt:=hid (stable_val d _ _ (SA S w.heap.size) _ _ _ (fun k hs hk=>⟨Hu02.out.block k hk,.inl ⟨hs,hk⟩⟩) Hval.out);clear Hbo Hod HOz Hu2 Hbm2 Hbb2 Hbv2 Hbr2
 have hcase:ok=false∨(x.many=false/\(x.kind==10)=false):=by
  rcases hp with h|⟨h1,h2⟩
  ·have:=Hok.out;rw [h] at this;exact .inl this.symm
  ·exact .inr ⟨h1,by rw [beq_eq_false_iff_ne];exact h2⟩
 rcases hcase with rfl|⟨hmany,hk10⟩
 ·have t0:=ro0 HVt.out;have t1:=ro1 HVt.out;have t2:=ro2 HVt.out;have t3:=ro3 HVt.out;obtain ⟨MX,hMX⟩:∃ MX,maxV v=MX:=⟨_,rfl⟩;(have hmx:∀ (W:World) (ts:Array TypeId) (t:TypeId),(Builtin.max_ ts t #[.int .i64 (v.2.1.length:Int),.int .i64 (v.2.2.1.length:Int),.int .i64 (v.2.2.2.length:Int)]).run Tryz.prog W=.ok (.int .i64 (MX:Int)) W:=fun W ts t=>by rw [run_max3,←hMX];rfl);have r0:=ro0 HRt.out;have r1:=ro1 HRt.out;have rf':∀ o,wc.frozen? ⟨T+1,o,none⟩=false:=fun o=>frozen_of_row wc _ o _ _ HRt.out;have rz:T+1<wc.heap.size:=lt_of_block HRt.out;have HMX:=hid hMX;clear hMX
  by_cases h60:60<MX
  ·(have hfin:finC fs b v=(bod0,5):=by unfold finC;rw [if_pos (by rw [HMX.out];exact h60)]);have Hfin:=hid hfin;(have i60:(60:Int)<(MX:Int):=by omega);clear h60 hfin;(go_wp2_with fail);refine bodyPost_ret (v:=.tuple #[.agg #[.slice none 0 0,.slice none 0 0],.int .i64 5]) (by simp [results,Tryz.results43,go_sem,r0,r1]) rfl ?_;rw [Hfin.out];refine ⟨_,_,rfl,(fun h=>by cases h),rdS_nil _ _ _ _,(fun _=>rfl),?_⟩
   ·exact Up.setCell (Up.setCell HUt.out (p:=⟨T+1,0,none⟩) (show w.heap.size<=T+1 by have:=HT.out;omega) _) (p:=⟨T+1,1,none⟩) (show w.heap.size<=T+1 by have:=HT.out;omega) _
  ·(have hfin:finC fs b v=(.mk (setV fs b.values v) b.unknown,0):=by unfold finC;rw [if_neg (by rw [HMX.out];exact h60)]);have Hfin:=hid hfin;(have i60:¬ (60:Int)<(MX:Int):=by omega);clear h60 hfin;have m0:=ro0 HMt.out;have m1:=ro1 HMt.out;have m2:=ro2 HMt.out;have b0:=ro0 HBt.out;have b1:=ro1 HBt.out;have Hset:=hid (set_v d (S:=SA S w.heap.size) (.string sm) (.slice fa nf fc) (.slice ba nb bc) (.slice va b.values.length vc) (.slice ua b.unknown.length uc) fs b.values v e1 e2 e3 h1 h2 h3 wc ⟨_,rfl⟩ ⟨_,_,_,rfl⟩ ⟨_,_,_,rfl⟩ (Hflds.out.up stable_fld HUt.out) (Hvals.out.keep (stable_val d) (fun k hs hk=>⟨HUt.out.block k hk,.inl ⟨hs,hk⟩⟩)) Hris.out (by have:=Hb16.out;omega) HDt.out);(go_wp2_with (go_at_call 101;go_must (refine Hset.out.mono ?_;rintro e w8 ⟨vv',rfl,hrd8,hu8⟩;obtain ⟨v8a,v8c,rfl,_,_⟩:=hrd8.val;have Hrd8:=hid hrd8;have Hu8:=hid (HUt.out.trans hu8);have hbr8:=hu8.blk HRt.out;have rr0:=ro0 hbr8;have rr1:=ro1 hbr8;have rrf:∀ o,w8.frozen? ⟨T+1,o,none⟩=false:=(fun o=>frozen_of_row w8 _ o _ _ hbr8);have rrz:T+1<w8.heap.size:=lt_of_block hbr8;clear m0 m1 m2 b0 b1 r0 r1 rf' hrd8 hu8 hbr8)));refine bodyPost_ret (v:=.tuple #[.agg #[.slice v8a (setV fs b.values v).length v8c,.slice ua b.unknown.length uc],.int .i64 0]) (by simp [results,Tryz.results43,go_sem,rr0,rr1]) rfl ?_;rw [Hfin.out];have huf:=Up.setCell (Up.setCell Hu8.out (p:=⟨T+1,0,none⟩) (show w.heap.size<=T+1 by have:=HT.out;omega) (.slice v8a (setV fs b.values v).length v8c)) (p:=⟨T+1,1,none⟩) (show w.heap.size<=T+1 by have:=HT.out;omega) (.slice ua b.unknown.length uc)
   have hnS:¬ Sx (SA S w.heap.size) wc (T+1):=by
    have:=HT.out;rintro (h|h)
    ·rcases h with ⟨_,h⟩|h <;> omega
    ·omega
   refine ⟨_,_,rfl,fun _=>rfl,?_,(fun h=>absurd rfl h),huf⟩
   ·refine RdS.keep (stable_val d) (((Hrd8.out.keep (stable_val d) (Keep.setCell (p:=⟨T+1,0,none⟩) hnS _)).keep (stable_val d) (Keep.setCell (p:=⟨T+1,1,none⟩) hnS _))) (Keep.weak fun k hk=>?_);have:=HUt.out.size;rcases hk with (⟨h,_⟩|h)|h
    ·exact .inl h
    ·exact .inr (by omega)
    ·exact .inr (by omega)
 ·rw [hmany] at mn;cases ok
  ·have t0:=ro0 HVt.out;have t1:=ro1 HVt.out;have t2:=ro2 HVt.out;have t3:=ro3 HVt.out;obtain ⟨MX,hMX⟩:∃ MX,maxV v=MX:=⟨_,rfl⟩;(have hmx:∀ (W:World) (ts:Array TypeId) (t:TypeId),(Builtin.max_ ts t #[.int .i64 (v.2.1.length:Int),.int .i64 (v.2.2.1.length:Int),.int .i64 (v.2.2.2.length:Int)]).run Tryz.prog W=.ok (.int .i64 (MX:Int)) W:=fun W ts t=>by rw [run_max3,←hMX];rfl);have r0:=ro0 HRt.out;have r1:=ro1 HRt.out;have rf':∀ o,wc.frozen? ⟨T+1,o,none⟩=false:=fun o=>frozen_of_row wc _ o _ _ HRt.out;have rz:T+1<wc.heap.size:=lt_of_block HRt.out;have HMX:=hid hMX;clear hMX
   by_cases h60:60<MX
   ·(have hfin:finC fs b v=(bod0,5):=by unfold finC;rw [if_pos (by rw [HMX.out];exact h60)]);have Hfin:=hid hfin;(have i60:(60:Int)<(MX:Int):=by omega);clear h60 hfin;(go_wp2_with fail);refine bodyPost_ret (v:=.tuple #[.agg #[.slice none 0 0,.slice none 0 0],.int .i64 5]) (by simp [results,Tryz.results43,go_sem,r0,r1]) rfl ?_;rw [Hfin.out];refine ⟨_,_,rfl,(fun h=>by cases h),rdS_nil _ _ _ _,(fun _=>rfl),?_⟩
    ·exact Up.setCell (Up.setCell HUt.out (p:=⟨T+1,0,none⟩) (show w.heap.size<=T+1 by have:=HT.out;omega) _) (p:=⟨T+1,1,none⟩) (show w.heap.size<=T+1 by have:=HT.out;omega) _
   ·(have hfin:finC fs b v=(.mk (setV fs b.values v) b.unknown,0):=by unfold finC;rw [if_neg (by rw [HMX.out];exact h60)]);have Hfin:=hid hfin;(have i60:¬ (60:Int)<(MX:Int):=by omega);clear h60 hfin;have m0:=ro0 HMt.out;have m1:=ro1 HMt.out;have m2:=ro2 HMt.out;have b0:=ro0 HBt.out;have b1:=ro1 HBt.out;have Hset:=hid (set_v d (S:=SA S w.heap.size) (.string sm) (.slice fa nf fc) (.slice ba nb bc) (.slice va b.values.length vc) (.slice ua b.unknown.length uc) fs b.values v e1 e2 e3 h1 h2 h3 wc ⟨_,rfl⟩ ⟨_,_,_,rfl⟩ ⟨_,_,_,rfl⟩ (Hflds.out.up stable_fld HUt.out) (Hvals.out.keep (stable_val d) (fun k hs hk=>⟨HUt.out.block k hk,.inl ⟨hs,hk⟩⟩)) Hris.out (by have:=Hb16.out;omega) HDt.out);(go_wp2_with (go_at_call 101;go_must (refine Hset.out.mono ?_;rintro e w8 ⟨vv',rfl,hrd8,hu8⟩;obtain ⟨v8a,v8c,rfl,_,_⟩:=hrd8.val;have Hrd8:=hid hrd8;have Hu8:=hid (HUt.out.trans hu8);have hbr8:=hu8.blk HRt.out;have rr0:=ro0 hbr8;have rr1:=ro1 hbr8;have rrf:∀ o,w8.frozen? ⟨T+1,o,none⟩=false:=(fun o=>frozen_of_row w8 _ o _ _ hbr8);have rrz:T+1<w8.heap.size:=lt_of_block hbr8;clear m0 m1 m2 b0 b1 r0 r1 rf' hrd8 hu8 hbr8)));refine bodyPost_ret (v:=.tuple #[.agg #[.slice v8a (setV fs b.values v).length v8c,.slice ua b.unknown.length uc],.int .i64 0]) (by simp [results,Tryz.results43,go_sem,rr0,rr1]) rfl ?_;rw [Hfin.out];have huf:=Up.setCell (Up.setCell Hu8.out (p:=⟨T+1,0,none⟩) (show w.heap.size<=T+1 by have:=HT.out;omega) (.slice v8a (setV fs b.values v).length v8c)) (p:=⟨T+1,1,none⟩) (show w.heap.size<=T+1 by have:=HT.out;omega) (.slice ua b.unknown.length uc)
    have hnS:¬ Sx (SA S w.heap.size) wc (T+1):=by
     have:=HT.out;rintro (h|h)
     ·rcases h with ⟨_,h⟩|h <;> omega
     ·omega
    refine ⟨_,_,rfl,fun _=>rfl,?_,(fun h=>absurd rfl h),huf⟩
    ·refine RdS.keep (stable_val d) (((Hrd8.out.keep (stable_val d) (Keep.setCell (p:=⟨T+1,0,none⟩) hnS _)).keep (stable_val d) (Keep.setCell (p:=⟨T+1,1,none⟩) hnS _))) (Keep.weak fun k hk=>?_);have:=HUt.out.size;rcases hk with (⟨h,_⟩|h)|h
     ·exact .inl h
     ·exact .inr (by omega)
     ·exact .inr (by omega)
  ·have t0:=ro0 HVt.out;have t1:=ro1 HVt.out;have t2:=ro2 HVt.out;have t3:=ro3 HVt.out;obtain ⟨MX,hMX⟩:∃ MX,maxV v=MX:=⟨_,rfl⟩;(have hmx:∀ (W:World) (ts:Array TypeId) (t:TypeId),(Builtin.max_ ts t #[.int .i64 (v.2.1.length:Int),.int .i64 (v.2.2.1.length:Int),.int .i64 (v.2.2.2.length:Int)]).run Tryz.prog W=.ok (.int .i64 (MX:Int)) W:=fun W ts t=>by rw [run_max3,←hMX];rfl);have r0:=ro0 HRt.out;have r1:=ro1 HRt.out;have rf':∀ o,wc.frozen? ⟨T+1,o,none⟩=false:=fun o=>frozen_of_row wc _ o _ _ HRt.out;have rz:T+1<wc.heap.size:=lt_of_block HRt.out;have HMX:=hid hMX;clear hMX
   by_cases h60:60<MX
   ·(have hfin:finC fs b v=(bod0,5):=by unfold finC;rw [if_pos (by rw [HMX.out];exact h60)]);have Hfin:=hid hfin;(have i60:(60:Int)<(MX:Int):=by omega);clear h60 hfin;(go_wp2_with fail);refine bodyPost_ret (v:=.tuple #[.agg #[.slice none 0 0,.slice none 0 0],.int .i64 5]) (by simp [results,Tryz.results43,go_sem,r0,r1]) rfl ?_;rw [Hfin.out];refine ⟨_,_,rfl,(fun h=>by cases h),rdS_nil _ _ _ _,(fun _=>rfl),?_⟩
    ·exact Up.setCell (Up.setCell HUt.out (p:=⟨T+1,0,none⟩) (show w.heap.size<=T+1 by have:=HT.out;omega) _) (p:=⟨T+1,1,none⟩) (show w.heap.size<=T+1 by have:=HT.out;omega) _
   ·(have hfin:finC fs b v=(.mk (setV fs b.values v) b.unknown,0):=by unfold finC;rw [if_neg (by rw [HMX.out];exact h60)]);have Hfin:=hid hfin;(have i60:¬ (60:Int)<(MX:Int):=by omega);clear h60 hfin;have m0:=ro0 HMt.out;have m1:=ro1 HMt.out;have m2:=ro2 HMt.out;have b0:=ro0 HBt.out;have b1:=ro1 HBt.out;have Hset:=hid (set_v d (S:=SA S w.heap.size) (.string sm) (.slice fa nf fc) (.slice ba nb bc) (.slice va b.values.length vc) (.slice ua b.unknown.length uc) fs b.values v e1 e2 e3 h1 h2 h3 wc ⟨_,rfl⟩ ⟨_,_,_,rfl⟩ ⟨_,_,_,rfl⟩ (Hflds.out.up stable_fld HUt.out) (Hvals.out.keep (stable_val d) (fun k hs hk=>⟨HUt.out.block k hk,.inl ⟨hs,hk⟩⟩)) Hris.out (by have:=Hb16.out;omega) HDt.out);(go_wp2_with (go_at_call 101;go_must (refine Hset.out.mono ?_;rintro e w8 ⟨vv',rfl,hrd8,hu8⟩;obtain ⟨v8a,v8c,rfl,_,_⟩:=hrd8.val;have Hrd8:=hid hrd8;have Hu8:=hid (HUt.out.trans hu8);have hbr8:=hu8.blk HRt.out;have rr0:=ro0 hbr8;have rr1:=ro1 hbr8;have rrf:∀ o,w8.frozen? ⟨T+1,o,none⟩=false:=(fun o=>frozen_of_row w8 _ o _ _ hbr8);have rrz:T+1<w8.heap.size:=lt_of_block hbr8;clear m0 m1 m2 b0 b1 r0 r1 rf' hrd8 hu8 hbr8)));refine bodyPost_ret (v:=.tuple #[.agg #[.slice v8a (setV fs b.values v).length v8c,.slice ua b.unknown.length uc],.int .i64 0]) (by simp [results,Tryz.results43,go_sem,rr0,rr1]) rfl ?_;rw [Hfin.out];have huf:=Up.setCell (Up.setCell Hu8.out (p:=⟨T+1,0,none⟩) (show w.heap.size<=T+1 by have:=HT.out;omega) (.slice v8a (setV fs b.values v).length v8c)) (p:=⟨T+1,1,none⟩) (show w.heap.size<=T+1 by have:=HT.out;omega) (.slice ua b.unknown.length uc)
    have hnS:¬ Sx (SA S w.heap.size) wc (T+1):=by
     have:=HT.out;rintro (h|h)
     ·rcases h with ⟨_,h⟩|h <;> omega
     ·omega
    refine ⟨_,_,rfl,fun _=>rfl,?_,(fun h=>absurd rfl h),huf⟩
    ·refine RdS.keep (stable_val d) (((Hrd8.out.keep (stable_val d) (Keep.setCell (p:=⟨T+1,0,none⟩) hnS _)).keep (stable_val d) (Keep.setCell (p:=⟨T+1,1,none⟩) hnS _))) (Keep.weak fun k hk=>?_);have:=HUt.out.size;rcases hk with (⟨h,_⟩|h)|h
     ·exact .inl h
     ·exact .inr (by omega)
     ·exact .inr (by omega)
end Go.Proofs.YtbceccblepckhaaGreatDoor
