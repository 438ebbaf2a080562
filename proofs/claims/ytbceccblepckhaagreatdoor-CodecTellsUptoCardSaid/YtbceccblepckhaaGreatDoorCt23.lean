/-
  (*checker).body.
-/
import Derived.Test.YtbceccblepckhaaGreatDoorCt16
set_option maxHeartbeats 6400000
set_option linter.unusedVariables false
namespace Go.Proofs.YtbceccblepckhaaGreatDoor
open Go.RowKit
set_option maxRecDepth 100000
open Lib (hid)
def MaskOf (had:List Int) (c:Nat):Prop:=c<131072/\∀ n:Nat,n<=16->c.testBit n=decide ((n:Int)∈had)
theorem i64_and_nat (a b:Nat) (ha:a<9223372036854775808) (hb:b<9223372036854775808):bits .and .i64 (a:Int) (b:Int)=((a &&& b:Nat):Int):=by
 have hx:a &&& b<2 ^ 63:=Nat.and_lt_two_pow _ (by omega);show IntKind.i64.wrap ((BitVec.ofInt 64 (a:Int) &&& BitVec.ofInt 64 (b:Int)).toNat:Int)=_;rw [BitVec.toNat_and,ofInt_u64 a (by omega),ofInt_u64 b (by omega),IntKind.wrap_i64];omega
theorem i64_or_nat (a b:Nat) (ha:a<9223372036854775808) (hb:b<9223372036854775808):bits .or .i64 (a:Int) (b:Int)=((a ||| b:Nat):Int):=by
 have hx:a ||| b<2 ^ 63:=Nat.or_lt_two_pow (by omega) (by omega);show IntKind.i64.wrap ((BitVec.ofInt 64 (a:Int) ||| BitVec.ofInt 64 (b:Int)).toNat:Int)=_;rw [BitVec.toNat_or,ofInt_u64 a (by omega),ofInt_u64 b (by omega),IntKind.wrap_i64];omega
theorem pow_small {n:Nat} (h:n<=16):2 ^ n<=65536:=Nat.pow_le_pow_right (show 0<2 by omega) h
theorem wrap_pow {n:Nat} (h:n<=16):wrap64 ((2:Int) ^ n)=((2 ^ n:Nat):Int):=by
 have h1:=pow_small h;(have h2:((2:Int) ^ n)=((2 ^ n:Nat):Int):=by simp);rw [h2];generalize 2 ^ n=p at *;unfold wrap64;omega
theorem and_pow (c n:Nat):c &&& 2 ^ n=if c.testBit n=true then 2 ^ n else 0:=by
 apply Nat.eq_of_testBit_eq;intro m;rw [Nat.testBit_and,Nat.testBit_two_pow]
 by_cases e:n=m
 ·subst e
  cases h:c.testBit n with
  |true=>simp
  |false=>simp
 ·cases h:c.testBit n with
  |true=>simp [e]
  |false=>simp [e]
theorem MaskOf.and {had:List Int} {c n:Nat} (h:MaskOf had c) (hn:n<=16):(bits .and .i64 (c:Int) (wrap64 ((2:Int) ^ n)) != 0)=decide ((n:Int)∈had):=by
 have h1:=pow_small hn;rw [wrap_pow hn,i64_and_nat c _ (by have:=h.1;omega) (by omega),and_pow,h.2 n hn]
 cases hd:decide ((n:Int)∈had) with
 |true =>
  have:0<2 ^ n:=Nat.two_pow_pos n;rw [if_pos rfl,bne_iff_ne];omega
 |false=>rfl
theorem MaskOf.or {had:List Int} {c n:Nat} (h:MaskOf had c) (hn:n<=16):bits .or .i64 (c:Int) (wrap64 ((2:Int) ^ n))=((c ||| 2 ^ n:Nat):Int)/\MaskOf ((n:Int)::had) (c ||| 2 ^ n):=by
 have h1:=pow_small hn;have h0:=h.1;refine ⟨by rw [wrap_pow hn,i64_or_nat c _ (by omega) (by omega)],Nat.or_lt_two_pow (n:=17) (by omega) (by omega),fun m hm=>?_⟩;rw [Nat.testBit_or,h.2 m hm,Nat.testBit_two_pow]
 by_cases e:n=m
 ·subst e;simp
 ·simp only [e,decide_false,Bool.or_false,List.mem_cons];rw [decide_eq_decide];exact ⟨fun g=>.inr g,fun g=>g.resolve_left (by omega)⟩
theorem drop_at {α:Type} {l:List α} {k:Nat} (h:k<l.length):l.drop k=l[k]::l.drop (k+1):=List.drop_eq_getElem_cons h
theorem body_step (k d:Nat) (f:Fil) (ih:∀ d,BodyC k d f) (hk:k<=12) (hright:(wrongN f).1=0):BodyC (k+1) d f:=by
 intro msg x cb fb b o w hm0 hm1 hc hb hT
 cases d with
 |zero=>obtain ⟨_,_,_,_,h⟩:=hb;exact h.elim
 |succ d =>
 obtain ⟨vv,vu,hb0,hb1,hbd⟩:=hb;obtain ⟨a1,c1,a2,c2,rfl,rfl,hv,hu,hz⟩:=bod_cells hbd;obtain ⟨mi,rfl⟩:∃ mi:Nat,msg=mi:=⟨msg.toNat,by omega⟩;have hmi:mi<f.msgs.length:=by omega
 have hmsg:wrongB f (k+1) (mi:Int) x=wrongBF (wrongVF (wrongB f k) f) f.msgs[mi] x:=by
  rw [wrongB,Int.toNat_natCast,List.getElem?_eq_getElem hmi]
 rw [hmsg];have hmr:=right_msg hright f.msgs[mi] (List.getElem_mem hmi);have Hval:=hid (value_step k d f (ih d) hk);obtain ⟨hcc,vm,ve,hcm,hce,hfv⟩:=id hc;obtain ⟨vm',ve',he',hm',he''⟩:=id hfv;simp only [Value.agg.injEq,Array.mk.injEq,List.cons.injEq,and_true] at he';obtain ⟨rfl,rfl⟩:=he';obtain ⟨ma,mc,rfl,_,_⟩:=hm'.val;obtain ⟨mb,mo,cs,rfl,_,_,hcs,hd⟩:=hm'.at hmi;obtain ⟨vf,vb,hd,hfs,hbs,hnm⟩:=hd;subst hd;obtain ⟨fa,fc,rfl,_,_⟩:=hfs.val;obtain ⟨ba,bc,rfl,_,_⟩:=hbs.val;have s0:=hcs 0 _ rfl;have s1:=hcs 1 _ rfl;have s2:=hcs 2 _ rfl;simp only [Nat.add_zero] at s0;have Hv:=hid hv;have Hu:=hid hu;have Hfs:=hid hfs;have Hc:=hid hc;have HT:=hid hT;have zv:=hz.1;have zu:=hz.2;have hb0':=hb0;have hb1':=hb1;have Hb0:=hid hb0';have Hb1:=hid hb1';clear hcs hm' he'' hfv hbd hz hmsg hright ih hv hu hfs hc hT hb0' hb1' hce;generalize f.msgs[mi]=m at *;(have hdeep:¬ ((12:Int)<13 - ((k+1:Nat):Int)):=by omega);(have hde:(13:Int) - ((k+1:Nat):Int)=12 - (k:Int):=by omega);rw [hde] at hdeep ⊢;(have hm2:(mi:Int)<(f.msgs.length:Int):=by omega);obtain ⟨ANS,hANS⟩:∃ ANS,wrongBF (wrongVF (wrongB f k) f) m x=ANS:=⟨_,rfl⟩;rw [hANS];unfold wrongBF at hANS;have Hans:=hid hANS;clear hANS hde;generalize x.unknown=un at *;generalize x.values=vs at *
 go_enter Tryz.func28,Tryz.ntmps28
 go_upto_region 4 with (fail)
 have hbk:=blk_new w (.cells #[.string ⟨m.name.toArray⟩,.slice fa m.fields.length fc,.slice ba m.barred.length bc] 35) (g:=w.heap.size) rfl;have hu1:=(Up.refl w).alloc (.cells #[.string ⟨m.name.toArray⟩,.slice fa m.fields.length fc,.slice ba m.barred.length bc] 35);generalize hw1:w.alloc (.cells #[.string ⟨m.name.toArray⟩,.slice fa m.fields.length fc,.slice ba m.barred.length bc] 35)=w1 at *;clear hw1;have hb0:=hu1.cell_some hb0;have Hbk:=hid hbk;have Hu1:=hid hu1;clear hbk hu1 hb1 s0 s1 s2 hcc hcm;(go_wp2_with fail);clear hb0;have Hfc:=hid (fun n W (u:Up w W)=>field_any (.string ⟨m.name.toArray⟩) (.slice fa m.fields.length fc) (.slice ba m.barred.length bc) m.fields n W ⟨_,rfl⟩ ⟨_,_,_,rfl⟩ (Hfs.out.up stable_fld u));(go_loopw [36,10] (fun i cm wr=>∃ (k2 cN:Nat) (prev:Option Int) (had:List Int),k2<=vs.length/\i=.int .i64 k2/\cm=.int .i64 cN/\MaskOf had cN/\(prev=if h:0<k2/\k2<=vs.length then some (vs[k2 - 1]'(by omega)).1 else none)/\valsN (wrongVF (wrongB f k) f) m.fields none [] vs=valsN (wrongVF (wrongB f k) f) m.fields prev had (vs.drop k2)/\Up w1 wr) (fun i _ _=>vs.length - (intOf i).toNat));case atStart=>exact ⟨0,0,none,[],by omega,rfl,rfl,⟨by decide,fun n _=>by simp⟩,by rw [dif_neg (by omega)],rfl,Up.refl _⟩
 case round =>
  obtain ⟨k2,cN,prev,had,hk2,rfl,rfl,hmask,hprev,hrec,hu⟩:=hrel;have Hmask:=hid hmask;clear hmask
  by_cases hlt:k2<vs.length
  ·obtain ⟨b1,o1,cs,rfl,_,_,hcs,hd⟩:=(Hv.out.up (stable_val d) (Hu1.out.trans hu)).at hlt;obtain ⟨p1,g1,p2,g2,p3,g3,rfl,hn,hx1,hx2,hx3,zx⟩:=val_cells hd;have q0:=hcs 0 _ rfl;have q1:=hcs 1 _ rfl;have q2:=hcs 2 _ rfl;have q3:=hcs 3 _ rfl;simp only [Nat.add_zero] at q0;rw [drop_at hlt,valsN] at hrec;have hdx:=hd;have Hdx:=hid hdx
   have hprev2:(k2=0/\prev=none)∨(∃ h:0<k2/\k2<=vs.length,prev=some (vs[k2 - 1]'(by omega)).1):=by
    by_cases h:0<k2/\k2<=vs.length
    ·exact .inr ⟨h,by rw [hprev,dif_pos h]⟩
    ·exact .inl ⟨by omega,by rw [hprev,dif_neg h]⟩
   have hprev3:(k2=0/\prev=none)∨(0<k2/\∃ pn:Int,prev=some pn/\wr.cell? ⟨b1,o1+(k2 - 1)*4,none⟩=some (.int .i64 pn)):=by
    rcases hprev2 with h|⟨h,h2⟩
    ·exact .inl h
    ·refine .inr ⟨h.1,_,h2,?_⟩;obtain ⟨b1',o1',cs',e,_,_,hcs',hd'⟩:=(Hv.out.up (stable_val d) (Hu1.out.trans hu)).at (i:=k2 - 1) (by omega);simp only [Option.some.injEq,Addr.mk.injEq,and_true] at e;obtain ⟨rfl,rfl⟩:=e;obtain ⟨_,_,_,_,_,_,rfl,_⟩:=val_cells hd';simpa using hcs' 0 _ rfl
   have Hnx:=hid (show ∀ (k3:Nat) (h:k3=k2+1),some (vs[k2]).1=if h:0<k3/\k3<=vs.length then some (vs[k3 - 1]'(by omega)).1 else none from fun k3 h=>by subst h;rw [dif_pos ⟨by omega,by omega⟩];rfl);have Hca:=hid (Hc.out.up (Hu1.out.trans hu));have Hb0w:=hid ((Hu1.out.trans hu).cell_some Hb0.out);have HTw:=hid (HT.out.up (Hu1.out.trans hu));have HuA:=hid (Hu1.out.trans hu);have Hbkw:=hid (hu.blk Hbk.out);have Hu:=hid hu;have Hrec:=hid hrec;(have i0:(0:Int)<=(k2:Int):=by omega);(have i1:(k2:Int)<(vs.length:Int):=by omega);clear hcs hd hdx hx1 hx2 hx3 zx hprev hprev2 hu hrec;generalize hq:vs[k2]=q at *;obtain ⟨qn,qb,qy,qs⟩:=q;simp only at q0 q1 q2 q3 Hdx hn;have hva:ValAt wr b1 (o1+k2*4) (qn,qb,qy,qs) p1 p2 p3 g1 g2 g3:=⟨q0,q1,q2,q3⟩;have Hva:=hid hva;clear hva q1 q2 q3;have l0:=Hb0w.out;have m1:=ro1 Hbkw.out;have m0:=ro0 Hbkw.out;have m2:=ro2 Hbkw.out;obtain ⟨wq,rfl⟩:∃ wq:World,wq=wr:=⟨_,rfl⟩
   go_upto_region 9 with (fail)
   have dd:wq.drew.cell? ⟨w.heap.size,0,none⟩=some (.string ⟨m.name.toArray⟩)/\wq.drew.cell? ⟨w.heap.size,1,none⟩=some (.slice fa m.fields.length fc)/\wq.drew.cell? ⟨w.heap.size,2,none⟩=some (.slice ba m.barred.length bc)/\wq.drew.cell? ⟨b1,o1+k2*4,none⟩=some (.int .i64 qn):=⟨m0,m1,m2,q0⟩
   go_region_held3 (fun w'=>w'.cell? ⟨w.heap.size,0,none⟩=some (.string ⟨m.name.toArray⟩)/\w'.cell? ⟨w.heap.size,1,none⟩=some (.slice fa m.fields.length fc)/\w'.cell? ⟨w.heap.size,2,none⟩=some (.slice ba m.barred.length bc)/\w'.cell? ⟨b1,o1+k2*4,none⟩=some (.int .i64 qn))
    (first|with_reducible exact dd|with_reducible exact ⟨hu5.cell_some m0,hu5.cell_some m1,hu5.cell_some m2,hu5.cell_some q0⟩)
    (first|(go_at_call 30;refine (Hfc.out qn _ (HuA.out.trans (Up.refl wq).drew)).mono ?_;rintro e w5 ⟨rfl,hu5'⟩;have hu5:=((Up.refl wq).drew).trans hu5'))
   have m1:=hu5.cell_some m1;have l0:=hu5.cell_some l0;have q0:=hu5.cell_some q0
   have hprev3:(k2=0/\prev=none)∨(0<k2/\∃ pn:Int,prev=some pn/\w5.cell? ⟨b1,o1+(k2 - 1)*4,none⟩=some (.int .i64 pn)):=by
    rcases hprev3 with h|⟨h,pn,h2,h3⟩
    ·exact .inl h
    ·exact .inr ⟨h,pn,h2,hu5.cell_some h3⟩
   have Hu5:=hid hu5;clear dd m0 m2 hu5 hu5';rcases idxP_cases (fun z:Fld=>z.number==qn) m.fields with ⟨hi,hfd⟩|⟨j,hj,hi,hfd⟩
   ·have hrec:=Hrec.out;rw [show fldN m.fields (qn,qb,qy,qs).1=none from hfd] at hrec;simp only at hrec;(have hans:(6:Int)=ANS:=by have:=Hans.out;rw [if_pos (by rw [hrec];decide),hrec] at this;exact this);rw [hi];clear hrec hprev3 m1 l0 q0 hfd;go_wp2_with fail
    go_ret
    exact ⟨ret_int hans,HuA.out.trans Hu5.out⟩
   have hrec:=Hrec.out;rw [show fldN m.fields (qn,qb,qy,qs).1=some m.fields[j] from hfd] at hrec;simp only at hrec;obtain ⟨xb,xo,rfl,hfa⟩:=fld_at (Hfs.out.up stable_fld (HuA.out.trans Hu5.out)) hj;have hft:=(field_facts ((msg_field hmr).2.2 j hj)).2.2.2.1;have hch:=choice_16 hmr (List.getElem_mem hj);rw [hi];(have j0:(0:Int)<=(j:Int):=by omega);(have j1:(j:Int)<(m.fields.length:Int):=by omega);have Hfa:=hid hfa;have Hft:=hid hft;have Hrec2:=hid hrec;clear hfa hft hfd hi Hrec hrec;generalize m.fields[j]=F at *
   have hcase:(0<k2/\∃ pn:Int,prev=some pn/\w5.cell? ⟨b1,o1+(k2 - 1)*4,none⟩=some (.int .i64 pn)/\qn<=pn)∨(k2=0/\badPrev prev qn=false)∨(0<k2/\∃ pn:Int,badPrev prev qn=false/\w5.cell? ⟨b1,o1+(k2 - 1)*4,none⟩=some (.int .i64 pn)/\¬ qn<=pn):=by
    rcases hprev3 with ⟨h1,h2⟩|⟨h1,pn,h2,h3⟩
    ·exact .inr (.inl ⟨h1,by rw [h2];rfl⟩)
    ·by_cases h4:qn<=pn
     ·exact .inl ⟨h1,pn,h2,h3,h4⟩
     ·exact .inr (.inr ⟨h1,pn,by rw [h2];simp [badPrev,h4],h3,h4⟩)
   clear hprev3;rcases hcase with ⟨hkp,pn,hpe,c0,hle⟩|⟨hk0,hbp⟩|⟨hkp,pn,hbp,c0,hle⟩
   case inl =>
    have hans:(2:Int)=ANS:=by
     have h1:=Hrec2.out;rw [if_pos (by rw [hpe];simp [badPrev,hle])] at h1;have:=Hans.out;rw [if_pos (by rw [h1];decide),h1] at this;exact this
    have d1:decide ((0:Int)<(k2:Int))=true:=decide_eq_true (by omega);have d2:decide (qn<=pn)=true:=decide_eq_true hle;(have d3:IntKind.i64.wrap ((k2:Int) - 1)=(k2:Int) - 1:=by rw [IntKind.wrap_i64];omega);(have d4:(0:Int)<=(k2:Int) - 1:=by omega);(have d5:((k2:Int) - 1).toNat=k2 - 1:=by omega);(have d6:(k2:Int) - 1<(vs.length:Int):=by omega);clear hpe hle;go_wp2_with fail
    go_quiet (fail)
    go_wp2_with fail
    go_ret
    exact ⟨ret_int hans,(HuA.out.trans Hu5.out).drewN _⟩
   case' inr.inl =>
    have d1:decide ((0:Int)<(k2:Int))=false:=decide_eq_false (by omega);go_wp2_with fail
    go_quiet (fail)
    have Hkk:=hid hk0;clear d1 hk0
   case' inr.inr =>
    have d1:decide ((0:Int)<(k2:Int))=true:=decide_eq_true (by omega);have d2:decide (qn<=pn)=false:=decide_eq_false hle;(have d3:IntKind.i64.wrap ((k2:Int) - 1)=(k2:Int) - 1:=by rw [IntKind.wrap_i64];omega);(have d4:(0:Int)<=(k2:Int) - 1:=by omega);(have d5:((k2:Int) - 1).toNat=k2 - 1:=by omega);(have d6:(k2:Int) - 1<(vs.length:Int):=by omega);clear hle;go_wp2_with fail
    go_quiet (fail)
    clear d1 d2 d3 d4 d5 d6 c0
   all_goals
    have hu5q:=Hu5.out.trans (Up.drewN (Up.refl w5) nq);have hu5r:=Up.drewN (Up.refl w5) nq;generalize w5.drewN nq=w6 at *;have m1:=hu5r.cell_some m1;have q0:=hu5r.cell_some q0;have hvc:=Hval.out F (qn,qb,qy,qs) cb fb xb (xo+j*6) b1 (o1+k2*4) p1 p2 p3 g1 g2 g3 w6 (Hca.out.up hu5q) (Hfa.out.up hu5r) (Hva.out.up hu5q) (stable_val d _ _ _ _ _ _ (Keep.upS hu5q) Hdx.out) Hft.out (HTw.out.up hu5q);have hrec:=Hrec2.out;rw [if_neg (by rw [hbp];decide)] at hrec;obtain ⟨WV,hWV⟩:∃ WV,wrongVF (wrongB f k) f F (qn,qb,qy,qs)=WV:=⟨_,rfl⟩;rw [hWV] at hrec hvc;have Hvc:=hid hvc;have Hrec3:=hid hrec;have Hu56:=hid hu5q;have fc:=hu5r.cell_some Hfa.out.2.1.2.2.2.2.2;clear hvc hrec Hrec2 hbp hWV hu5q hu5r;(go_wp2_with fail);refine Hvc.out.mono ?_;rintro e w7 ⟨rfl,hu7⟩;have m1:=hu7.cell_some m1;have q0:=hu7.cell_some q0;have fc:=hu7.cell_some fc;have Hu57:=hid (Hu56.out.trans hu7);clear hu7
    by_cases hwv:WV=0
    ·subst hwv;have hrec:=Hrec3.out;rw [if_neg (by decide)] at hrec
     by_cases hcp:(0:Int)<F.choice
     ·obtain ⟨cn,hcn,hcn16⟩:∃ cn:Nat,F.choice=cn/\cn<=16:=⟨F.choice.toNat,by omega,by omega⟩;rw [hcn] at fc hrec hcp;have Hcn:=hid hcn;have Hrec4:=hid hrec;clear hcn hch hrec;have hma:=Hmask.out.and hcn16;have hmo:=Hmask.out.or hcn16
      by_cases hin:(cn:Int)∈had
      ·rw [decide_eq_true hin] at hma
       have hans:(8:Int)=ANS:=by
        have h1:=Hrec4.out;rw [if_pos ⟨hcp,hin⟩] at h1;have:=Hans.out;rw [if_pos (by rw [h1];decide),h1] at this;exact this
       clear hmo;go_wp2_with fail
       go_ret
       exact ⟨ret_int hans,HuA.out.trans Hu57.out⟩
      ·rw [decide_eq_false hin] at hma;obtain ⟨hor,hmk⟩:=hmo;have hrec:=Hrec4.out;rw [if_neg (fun h=>hin h.2),if_pos hcp] at hrec;have Hrec5:=hid hrec;have Hmk:=hid hmk;clear hrec hmk hin;go_wp2_with fail
       go_roundw
       (case rel=>exact ⟨k2+1,_,some qn,_,by omega,by go_num,rfl,Hmk.out,Hnx.out _ rfl,Hrec5.out,Hu.out.trans Hu57.out⟩);case measure=>simp [intOf];omega
     ·have hrec:=hrec;rw [if_neg (fun h=>hcp h.1),if_neg hcp] at hrec;have Hrec4:=hid hrec;clear hrec;go_wp2_with fail
      go_roundw
      (case rel=>exact ⟨k2+1,cN,some qn,had,by omega,by go_num,rfl,Hmask.out,Hnx.out _ rfl,Hrec4.out,Hu.out.trans Hu57.out⟩);case measure=>simp [intOf];omega
    ·have hans:WV=ANS:=by
      have h1:=Hrec3.out;rw [if_pos hwv] at h1;have:=Hans.out;rw [h1,if_pos hwv] at this;exact this
     go_wp2_with fail
     go_ret
     exact ⟨ret_int (by first|rfl|exact hans),HuA.out.trans Hu57.out⟩
  ·(have h0:valsN (wrongVF (wrongB f k) f) m.fields none [] vs=0:=by rw [hrec,List.drop_of_length_le (by omega)];rfl);have hans:=Hans.out;rw [if_neg (by rw [h0];decide)] at hans;have Hans2:=hid hans;have HuA:=hid (Hu1.out.trans hu);have l1:=HuA.out.cell_some Hb1.out;have Hbkw:=hid (hu.blk Hbk.out);obtain ⟨wo,rfl⟩:∃ wo:World,wo=wr:=⟨_,rfl⟩;clear hans h0 hrec hprev Hans Hval hu;(go_wp2_with fail);clear l1;(go_loopw [105] (fun i wr=>∃ k2:Nat,k2<=un.length/\i=.int .i64 k2/\Up wo wr/\∀ j,(hj:j<un.length)->j<k2->unkN m.fields un[j]=0) (fun i _=>un.length - (intOf i).toNat));case atStart=>exact ⟨0,by omega,rfl,Up.refl _,fun j _ h=>absurd h (by omega)⟩
   case round =>
    obtain ⟨k2',hk2',rfl,hu,hg⟩:=hrel;have Hg:=hid hg;clear hg
    by_cases hlt2:k2'<un.length
    ·obtain ⟨b1,o1,cs,rfl,_,_,hcs,hd⟩:=(Hu.out.up stable_recz (HuA.out.trans hu)).at hlt2;obtain ⟨⟨vb,hd,hrb,h64⟩,hzr⟩:=hd;subst hd;obtain ⟨ra,rc,rfl,_,_⟩:=hrb.val;have n0:=hcs 0 _ rfl;have n1:=hcs 1 _ rfl;have n2:=hcs 2 _ rfl;have n3:=hcs 3 _ rfl;simp only [Nat.add_zero] at n0;(have k20:(0:Int)<=(k2':Int):=by omega);(have k21:(k2':Int)<(un.length:Int):=by omega);have Hgg:=hid (fun e=>firstN_map_at (q:=unkN m.fields) hlt2 Hg.out e);have Hgn:=hid (fun (e:unkN m.fields un[k2']=0)=>zero_more' hlt2 Hg.out e);have Hrb:=hid hrb;have Hux:=hid hu;clear hcs hrb h64 hzr hu;generalize un[k2']=r at *;obtain ⟨wq,rfl⟩:∃ wq:World,wq=wr:=⟨_,rfl⟩
     go_upto_region 26 with (fail)
     have hbx:=blk_new wq (.cells #[.int .i64 r.number,.int .i64 r.how,.int .u64 (r.bits:Int),.slice ra r.bytes.length rc] 87) (g:=wq.heap.size) rfl;have hux:=(Up.refl wq).alloc (.cells #[.int .i64 r.number,.int .i64 r.how,.int .u64 (r.bits:Int),.slice ra r.bytes.length rc] 87);generalize hwx:wq.alloc (.cells #[.int .i64 r.number,.int .i64 r.how,.int .u64 (r.bits:Int),.slice ra r.bytes.length rc] 87)=wx at *;clear hwx n0 n1 n2 n3;have n0:=ro0 hbx;have n1:=ro1 hbx;have n2:=ro2 hbx;have n3:=ro3 hbx;have Hwr:=hid (wrongRec_any r _ wx (Hrb.out.up stable_u8 hux));have Hbx:=hid hbx;have Hux2:=hid (Hux.out.trans hux);clear hbx hux;(go_wp2_with fail);refine Hwr.out.mono ?_;rintro e w7 ⟨rfl,hu7⟩;clear n0 n1 n2 n3;have hu07:=Hux2.out.trans hu7
     by_cases hwr:wrongRec r=0
     ·rw [hwr];have m0:=ro0 (hu07.blk Hbkw.out);have m1:=ro1 (hu07.blk Hbkw.out);have m2:=ro2 (hu07.blk Hbkw.out);have r0:=ro0 (hu7.blk Hbx.out);have Hu07:=hid hu07;clear hu7 hu07;(go_wp2_with fail);refine (Hfc.out r.number _ (HuA.out.trans Hu07.out)).mono ?_;rintro e w8 ⟨rfl,hu8⟩;clear m0 m1 m2 r0;rcases idxP_cases (fun z:Fld=>z.number==r.number) m.fields with ⟨hi,hfd⟩|⟨j,hj,hi,hfd⟩
      ·(have hun:unkN m.fields r=0:=by unfold unkN;rw [if_neg (by simpa using hwr),show fldN m.fields r.number=none from hfd];rfl);rw [hi];have Hun:=hid hun;have Hu08:=hid (Hu07.out.trans hu8);clear hun hfd hi hwr hu8;go_wp2_with fail
       go_roundw
       (case rel=>exact ⟨k2'+1,by omega,by go_num,Hu08.out,Hgn.out Hun.out⟩);case measure=>simp [intOf];omega
      ·(have hun:unkN m.fields r=7:=by unfold unkN;rw [if_neg (by simpa using hwr),show fldN m.fields r.number=some m.fields[j] from hfd];rfl);(have hans:(7:Int)=ANS:=by have:=Hgg.out (by rw [hun];decide);rw [Hans2.out,hun] at this;exact this.symm);rw [hi];(have j0:(0:Int)<=(j:Int):=by omega);have Hu08:=hid (Hu07.out.trans hu8);clear hun hfd hi hwr hu8;go_wp2_with fail
       go_ret
       exact ⟨ret_int hans,HuA.out.trans Hu08.out⟩
     ·(have hun:unkN m.fields r=wrongRec r:=by unfold unkN;rw [if_pos hwr]);(have hans:wrongRec r=ANS:=by have:=Hgg.out (by rw [hun];exact hwr);rw [Hans2.out,hun] at this;exact this.symm);have Hu07:=hid hu07;clear hun hu7 hu07;generalize wrongRec r=er at *;go_wp2_with fail
      go_ret
      exact ⟨ret_int (by first|rfl|exact hans),HuA.out.trans Hu07.out⟩
    ·(have hans:0=ANS:=by rw [←Hans2.out,firstN_map_none (fun j hj=>Hg.out j hj (by omega))]);go_wp2_with fail
     go_ret
     exact ⟨ret_int hans,HuA.out.trans hu⟩
theorem body_c (f:Fil) (hright:(wrongN f).1=0):∀ k,k<=13->∀ d,BodyC k d f:=by
 intro k
 induction k with
 |zero =>
  intro _ d msg x cb fb b o w hm0 hm1 hc hb hT;show Calls Tryz.prog 28 #[.pointer (some ⟨cb,0,none⟩),.int .i64 msg,.pointer (some ⟨b,o,none⟩),.int .i64 13] w fun e w'=>e=.returned (.int .i64 10)/\Up w w'
  go_enter Tryz.func28,Tryz.ntmps28
  go_wp2_with fail
  go_ret
  exact ⟨rfl,Up.refl _⟩
 |succ k ih=>exact fun h d=>body_step k d f (ih (by omega)) (by omega) hright
end Go.Proofs.YtbceccblepckhaaGreatDoor
