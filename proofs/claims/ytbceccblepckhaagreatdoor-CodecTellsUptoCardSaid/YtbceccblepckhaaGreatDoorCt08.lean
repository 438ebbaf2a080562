/-
  wire.Wrong.
  Package wire: Fold.
  wire.Open.
  pressref1.Fold, Open.
  SameRecords.
  pressref3.Same, of one body twice.
  slices.Clone of bits, bytes (written by gen_clone.py's make).
  body.Own: a body's copy, in blocks of its own.
-/
import Derived.Test.YtbceccblepckhaaGreatDoorCt07
import Derived.Deep.RegionHeld3
import Derived.Deep.DeepCutAuto
import Derived.WalkSpells
set_option maxHeartbeats 6400000
namespace Go.Proofs.YtbceccblepckhaaGreatDoor
open Go.RowKit
set_option maxRecDepth 100000
theorem wrongRec_any (r:Rec) (vb:Value) (w:World) (hv:RdB All w vb r.bytes) :
  Calls Tryz.prog 65 #[.agg #[.int .i64 r.number,.int .i64 r.how,.int .u64 r.bits,vb]] w fun e w'=>e=.returned (.int .i64 (wrongRec r))/\Up w w':=by
 obtain ⟨ao,cap,rfl,hc1,hc2⟩:=hv.val;clear hv;obtain ⟨number,how,bits,bytes⟩:=r;simp only at *
 by_cases h4:how=0∨how=1∨how=5∨how=2
 ·(have hx:(how=2/\4000<bytes.length)∨(¬ (how=2/\4000<bytes.length)/\number<1)∨(¬ (how=2/\4000<bytes.length)/\536870912<=number)∨(¬ (how=2/\4000<bytes.length)/\1<=number/\number<536870912):=by omega);rcases hx with ⟨rfl,hl⟩|⟨hl,hn⟩|⟨hl,hn⟩|⟨hl,hn,hn2⟩
  ·go_enter Tryz.func65,Tryz.ntmps65
   (go_wp2_with fail);all_goals (go_ret;refine ⟨ret_int ?_,(Up.refl _).alloc _⟩;first|(simp [wrongRec];done)|(simp [wrongRec];omega))
  ·rcases h4 with rfl|rfl|rfl|rfl;all_goals try have hl:¬ 4000<bytes.length:=by omega
   all_goals
   go_enter Tryz.func65,Tryz.ntmps65
   (go_wp2_with fail);all_goals (go_ret;refine ⟨ret_int ?_,(Up.refl _).alloc _⟩;first|(simp [wrongRec];done)|(simp [wrongRec];omega))
  ·rcases h4 with rfl|rfl|rfl|rfl;all_goals try have hl:¬ 4000<bytes.length:=by omega
   all_goals
   go_enter Tryz.func65,Tryz.ntmps65
   (go_wp2_with fail);all_goals (go_ret;refine ⟨ret_int ?_,(Up.refl _).alloc _⟩;first|(simp [wrongRec];done)|(simp [wrongRec];omega))
  ·rcases h4 with rfl|rfl|rfl|rfl;all_goals try have hl:¬ 4000<bytes.length:=by omega
   all_goals
   go_enter Tryz.func65,Tryz.ntmps65
   (go_wp2_with fail);all_goals (go_ret;refine ⟨ret_int ?_,(Up.refl _).alloc _⟩;first|(simp [wrongRec];done)|(simp [wrongRec];omega))
 ·(have g0:(how==0)=false:=by rw [beq_eq_false_iff_ne];omega);(have g1:(how==1)=false:=by rw [beq_eq_false_iff_ne];omega);(have g2:(how==2)=false:=by rw [beq_eq_false_iff_ne];omega);have g5:(how==5)=false:=by rw [beq_eq_false_iff_ne];omega
  go_enter Tryz.func65,Tryz.ntmps65
  go_wp2_with fail
  go_ret
  refine ⟨ret_int ?_,(Up.refl _).alloc _⟩;simp only [wrongRec];rw [if_neg h4]
open Lib (hid)
theorem fold_any (n:Int) (w:World) (h0:-9223372036854775808<=n) (h1:n<=9223372036854775807) :
  Calls Tryz.prog 121 #[.int .i64 n] w fun e w'=>e=.returned (.int .u64 (Lib.zigzag n:Int))/\w'=w:=by
 have H0:=hid h0;have H1:=hid h1;clear h0 h1
 go_enter Tryz.func121,Tryz.ntmps121
 go_wp2_with fail
 go_ret
 exact ⟨by rw [←fold_bits n H0.out H1.out];rfl,rfl⟩
end Go.Proofs.YtbceccblepckhaaGreatDoor
set_option linter.unusedVariables false
namespace Go.Proofs.YtbceccblepckhaaGreatDoor
open Go.RowKit
set_option maxRecDepth 100000
open Lib (hid)
theorem open_any (n:Nat) (w:World) (h1:n<2 ^ 64) :
  Calls Tryz.prog 146 #[.int .u64 n] w fun e w'=>e=.returned (.int .i64 (unzig n))/\w'=w:=by
 have H1:=hid h1;clear h1
 go_enter Tryz.func146,Tryz.ntmps146
 go_wp2_with fail
 go_ret
 exact ⟨by rw [←open_bits n H1.out];rfl,rfl⟩
theorem u64_in {x:Int} (h0:0<=x) (h1:x<18446744073709551616):IntKind.u64.wrap x=x:=by
 show x % 18446744073709551616=x;omega
theorem w64_in {x:Int} (h0:-9223372036854775808<=x) (h1:x<=9223372036854775807):wrap64 x=x:=by unfold wrap64;omega
theorem fold_r (n:Int) (w:World) (h0:-9223372036854775808<=n) (h1:n<=9223372036854775807) :
  Calls Tryz.prog 125 #[.int .i64 n] w fun e w'=>e=.returned (.int .u64 (Lib.zigzag n:Int))/\w'=w:=by
 by_cases hn:n<0
 ·have hz:(Lib.zigzag n:Int)=-2*n - 1:=by unfold Lib.zigzag;rw [if_neg (by omega)];omega
  have e:IntKind.u64.wrap (IntKind.u64.wrap (2*IntKind.u64.wrap (wrap64 (-wrap64 (n+1))))+1)=-2*n - 1:=by
   rw [w64_in (x:=n+1) (by omega) (by omega),w64_in (x:=-(n+1)) (by omega) (by omega),u64_in (x:=-(n+1)) (by omega) (by omega),u64_in (x:=2*-(n+1)) (by omega) (by omega),u64_in (by omega) (by omega)];omega
  rw [hz];have H:=hid e;clear h0 h1 hz e
  go_enter Tryz.func125,Tryz.ntmps125
  go_wp2_with fail
  go_ret
  exact ⟨congrArg (fun z=>Ending.returned (.int .u64 z)) H.out,rfl⟩
 ·have hz:(Lib.zigzag n:Int)=2*n:=by unfold Lib.zigzag;rw [if_pos (by omega)];omega
  have e:IntKind.u64.wrap (2*IntKind.u64.wrap n)=2*n:=by
   rw [u64_in (x:=n) (by omega) (by omega),u64_in (by omega) (by omega)]
  rw [hz];have H:=hid e;clear h0 h1 hz e
  go_enter Tryz.func125,Tryz.ntmps125
  go_wp2_with fail
  go_ret
  exact ⟨congrArg (fun z=>Ending.returned (.int .u64 z)) H.out,rfl⟩
theorem open_r (n:Nat) (w:World) (h1:n<2 ^ 64) :
  Calls Tryz.prog 142 #[.int .u64 n] w fun e w'=>e=.returned (.int .i64 (unzig n))/\w'=w:=by
 have eu:IntKind.u64.wrap ((n:Int) / 2)=((n / 2:Nat):Int):=by rw [u64_in (by omega) (by omega)];omega
 by_cases hn:n % 2=1
 ·have hz:unzig n=-((n / 2:Nat):Int) - 1:=by unfold unzig;rw [if_neg (by omega)]
  have e:wrap64 (wrap64 (-wrap64 (IntKind.u64.wrap ((n:Int) / 2))) - 1)=unzig n:=by
   rw [eu,w64_in (x:=((n / 2:Nat):Int)) (by omega) (by omega),w64_in (x:=-((n / 2:Nat):Int)) (by omega) (by omega),w64_in (by omega) (by omega),hz]
  have H:=hid e;clear h1 hz e eu
  go_enter Tryz.func142,Tryz.ntmps142
  go_wp2_with fail
  go_ret
  exact ⟨congrArg (fun z=>Ending.returned (.int .i64 z)) H.out,rfl⟩
 ·have hz:unzig n=((n / 2:Nat):Int):=by unfold unzig;rw [if_pos (by omega)]
  have e:wrap64 (IntKind.u64.wrap ((n:Int) / 2))=unzig n:=by
   rw [eu,w64_in (by omega) (by omega),hz]
  have H:=hid e;clear h1 hz e eu
  go_enter Tryz.func142,Tryz.ntmps142
  go_wp2_with fail
  go_ret
  exact ⟨congrArg (fun z=>Ending.returned (.int .i64 z)) H.out,rfl⟩
theorem same_any (va vb:Value) (a b:List Rec) (w:World) (hva:RdS DRec 4 All w va a) (hvb:RdS DRec 4 All w vb b) :
  Calls Tryz.prog 24 #[va,vb] w fun e w'=>∃ t:Bool,e=.returned (.bool t)/\(t=true ↔ a=b)/\Up w w':=by
 obtain ⟨ao,cap,rfl,hc1,hc2⟩:=hva.val;obtain ⟨bo,bap,rfl,hd1,hd2⟩:=hvb.val;have Ha:=hid hva;clear hva;have Hb:=hid hvb;clear hvb
 by_cases hne:a.length=b.length
 ·(have hne2:((a.length:Int) != (b.length:Int))=false:=by simp [hne]);have hne3:=hid hne;clear hne
  go_enter Tryz.func24,Tryz.ntmps24
  (go_wp2_with fail);(go_loopw [13] (fun i wr=>∃ k:Nat,k<=a.length/\i=.int .i64 k/\a.take k=b.take k/\∃ n,wr=w.drewN n) (fun i _=>a.length - (intOf i).toNat));case atStart=>exact ⟨0,by omega,rfl,by simp,0,rfl⟩
  case round =>
   obtain ⟨k,hk,rfl,ht,nw,rfl⟩:=hrel;have Ht:=hid ht;clear ht
   by_cases hlt:k<a.length
   ·obtain ⟨ba,oa,a3,c3,rfl,hrb,h64,g0,g1,g2,g3⟩:=rdRec_cell Ha.out hlt;(have hltb:k<b.length:=by have:=hne3.out;omega);obtain ⟨bb,ob,b3,d3,rfl,hrb2,h642,k0,k1,k2,k3⟩:=rdRec_cell Hb.out hltb;have Hal:=hid (show a.take (k+1)=a.take k++[a[k]] from by rw [List.take_succ_eq_append_getElem hlt]);have Hbl:=hid (show b.take (k+1)=b.take k++[b[k]] from by rw [List.take_succ_eq_append_getElem hltb]);generalize hr:a[k]=r at *;generalize hs:b[k]=s at *;(have i0:(0:Int)<=(k:Int):=by omega);(have i1:(k:Int)<(a.length:Int):=by omega);(have i2:(k:Int)<(b.length:Int):=by omega);have hcr:=fun n=>run_conv (P:=Tryz.prog) (w:=w.drewN n) (hrb.up stable_u8 (Up.drewN (Up.refl w) n)) 30 5 9 Tryz.underlying30 Tryz.underlying5 Tryz.underlying9;have hcs:=fun n=>run_conv (P:=Tryz.prog) (w:=w.drewN n) (hrb2.up stable_u8 (Up.drewN (Up.refl w) n)) 30 5 9 Tryz.underlying30 Tryz.underlying5 Tryz.underlying9;have Hrs:=hid hr;clear hr;have Hss:=hid hs;clear hs hrb hrb2 h64 h642
    by_cases e1:r.number=s.number
    ·have x1:(r.number != s.number)=false:=by simp [e1]
     by_cases e2:r.how=s.how
     ·have x2:(r.how != s.how)=false:=by simp [e2]
      by_cases e3:r.bits=s.bits
      ·(have x3:((r.bits:Int) != (s.bits:Int))=false:=by simp [e3]);have Hx1:=hid e1;have Hx2:=hid e2;have Hx3:=hid e3;clear e1 e2 e3
       by_cases e4:r.bytes=s.bytes
       ·have x4:=leq_true e4;have Hx4:=hid e4;clear e4;go_wp2_with fail
        go_quiet (fail)
        go_wp2_with fail
        go_roundw
        case rel =>
         have hrs:r=s:=by
          have h1:=Hx1.out;have h2:=Hx2.out;have h3:=Hx3.out;have h4:=Hx4.out;cases r;cases s;simp at h1 h2 h3 h4;simp [h1,h2,h3,h4]
         exact ⟨k+1,by omega,by go_num,by rw [Hal.out,Hbl.out,Ht.out,hrs],_,rfl⟩
        case measure=>simp [intOf];omega
       ·have x4:=leq_false e4;go_wp2_with fail
        go_quiet (fail)
        go_wp2_with fail
        go_ret
        exact ⟨false,rfl,⟨(fun h=>nomatch h),fun h=>by subst h;exact absurd (by rw [←Hrs.out,←Hss.out]) e4⟩,by repeat (first|exact Up.refl _|with_reducible refine Up.drewN ?_ _)⟩
      ·(have x3:((r.bits:Int) != (s.bits:Int))=true:=by rw [bne_iff_ne];omega);have Hx1:=hid e1;have Hx2:=hid e2;clear e1 e2;go_wp2_with fail
       go_quiet (fail)
       go_wp2_with fail
       go_ret
       exact ⟨false,rfl,⟨(fun h=>nomatch h),fun h=>by subst h;exact absurd (by rw [←Hrs.out,←Hss.out]) e3⟩,by repeat (first|exact Up.refl _|with_reducible refine Up.drewN ?_ _)⟩
     ·(have x2:(r.how != s.how)=true:=by rw [bne_iff_ne];exact e2);have Hx1:=hid e1;clear e1;go_wp2_with fail
      go_quiet (fail)
      go_wp2_with fail
      go_ret
      exact ⟨false,rfl,⟨(fun h=>nomatch h),fun h=>by subst h;exact absurd (by rw [←Hrs.out,←Hss.out]) e2⟩,by repeat (first|exact Up.refl _|with_reducible refine Up.drewN ?_ _)⟩
    ·(have x1:(r.number != s.number)=true:=by rw [bne_iff_ne];exact e1);go_wp2_with fail
     go_quiet (fail)
     go_wp2_with fail
     go_ret
     exact ⟨false,rfl,⟨(fun h=>nomatch h),fun h=>by subst h;exact absurd (by rw [←Hrs.out,←Hss.out]) e1⟩,by repeat (first|exact Up.refl _|with_reducible refine Up.drewN ?_ _)⟩
   ·go_wp2_with fail
    go_ret
    refine ⟨true,rfl,⟨fun _=>?_,fun _=>rfl⟩,Up.drewN (Up.refl w) _⟩;have:=Ht.out
    rwa [List.take_of_length_le (by omega),List.take_of_length_le (by have:=hne3.out;omega)] at this
 ·have hne2:((a.length:Int) != (b.length:Int))=true:=by rw [bne_iff_ne];omega
  go_enter Tryz.func24,Tryz.ntmps24
  go_wp2_with fail
  go_ret
  exact ⟨false,rfl,by constructor;(intro h;cases h);(intro h;exact absurd (congrArg List.length h) hne),Up.refl _⟩
theorem rec_of_z {S:Nat->Prop} {w:World} {v:Value} {l:List Rec} (h:RdS DRecZ 4 S w v l):RdS DRec 4 S w v l:=h.imp (fun _ _ _ h=>h.1)
theorem bod_cells {d:Nat} {S:Nat->Prop} {w:World} {x:Bod} {vv vu:Value} (h:DBodF (d+1) S w x [vv,vu]):∃ a1 c1 a2 c2,vv=.slice a1 x.values.length c1/\vu=.slice a2 x.unknown.length c2/\RdS (DValD d) 4 S w (.slice a1 x.values.length c1) x.values/\RdS DRecZ 4 S w (.slice a2 x.unknown.length c2) x.unknown/\BodSz x:=by
 obtain ⟨v1,v2,he,h1,h2,hz⟩:=h;simp only [List.cons.injEq,and_true] at he;obtain ⟨rfl,rfl⟩:=he;obtain ⟨a1,c1,rfl,_,_⟩:=h1.val;obtain ⟨a2,c2,rfl,_,_⟩:=h2.val;exact ⟨a1,c1,a2,c2,rfl,rfl,h1,h2,hz⟩
theorem bod_two {d:Nat} {S:Nat->Prop} {w:World} {x:Bod} {cs:List Value} (h:DBodF d S w x cs):∃ a1 n1 c1 a2 n2 c2,cs=[.slice a1 n1 c1,.slice a2 n2 c2]:=by
 cases d with
 |zero=>exact h.elim
 |succ d =>
  obtain ⟨v1,v2,rfl,h1,h2,hz⟩:=h;obtain ⟨a1,c1,rfl,_,_⟩:=h1.val;obtain ⟨a2,c2,rfl,_,_⟩:=h2.val;exact ⟨_,_,_,_,_,_,rfl⟩
theorem same_step (d:Nat) (ih:∀ (x:Bod) (vv vu vv' vu':Value) (w:World),DBodF d All w x [vv,vu]->DBodF d All w x [vv',vu']->Calls Tryz.prog 12 #[.agg #[vv,vu],.agg #[vv',vu']] w fun e w'=>e=.returned (.bool true)/\Up w w')
  (x:Bod) (vv vu vv' vu':Value) (w:World) (ha:DBodF (d+1) All w x [vv,vu]) (hb:DBodF (d+1) All w x [vv',vu']) :
  Calls Tryz.prog 12 #[.agg #[vv,vu],.agg #[vv',vu']] w fun e w'=>e=.returned (.bool true)/\Up w w':=by
  have Ih:=hid ih;clear ih;obtain ⟨a1,c1,a2,c2,rfl,rfl,hv,hu,hz⟩:=bod_cells ha;obtain ⟨b1,e1,b2,e2,rfl,rfl,hv',hu',hz'⟩:=bod_cells hb;have zv:=hz.1;clear ha hb hz hz';have Hv:=hid hv;have Hv':=hid hv';have Hsr:=hid (fun wx (k:Up w wx)=>same_any _ _ x.unknown x.unknown wx (rec_of_z (hu.up stable_recz k)) (rec_of_z (hu'.up stable_recz k)));clear hv hv' hu hu';generalize x.unknown=un at *;generalize x.values=vs at *
  go_enter Tryz.func12,Tryz.ntmps12
  (go_wp2_with fail);have hb0:((w.alloc (.cells #[.slice a1 vs.length c1,.slice a2 un.length c2] 29)).alloc (.cells #[.slice b1 vs.length e1,.slice b2 un.length e2] 29)).heap[w.heap.size]? = some (.cells #[.slice a1 vs.length c1,.slice a2 un.length c2] 29 (0,0)):=blk_old _ (blk_new w _ rfl);have hb1:((w.alloc (.cells #[.slice a1 vs.length c1,.slice a2 un.length c2] 29)).alloc (.cells #[.slice b1 vs.length e1,.slice b2 un.length e2] 29)).heap[w.heap.size+1]? = some (.cells #[.slice b1 vs.length e1,.slice b2 un.length e2] 29 (0,0)):=blk_new (w.alloc _) _ (by simp);have hu0:Up w ((w.alloc (.cells #[.slice a1 vs.length c1,.slice a2 un.length c2] 29)).alloc (.cells #[.slice b1 vs.length e1,.slice b2 un.length e2] 29)):=((Up.refl w).alloc _).alloc _;generalize (w.alloc (.cells #[.slice a1 vs.length c1,.slice a2 un.length c2] 29)).alloc (.cells #[.slice b1 vs.length e1,.slice b2 un.length e2] 29)=w1 at *;refine (Hsr.out _ hu0).mono ?_;rintro e w2 ⟨t,rfl,ht,hu2⟩;(obtain rfl:t=true:=by simpa using ht);have Hb0:=hid (hu2.blk hb0);have Hb1:=hid (hu2.blk hb1);have Hu2:=hid (hu0.trans hu2);have f0:=ro0 Hb0.out;clear hb0 hb1 hu0 hu2 Hsr ht;(go_wp2_with fail);clear f0;(go_loopw [29] (fun i wr=>∃ k:Nat,k<=vs.length/\i=.int .i64 k/\Up w2 wr) (fun i _=>vs.length - (intOf i).toNat));case atStart=>exact ⟨0,by omega,rfl,Up.refl _⟩
  case round =>
   obtain ⟨k,hk,rfl,hu⟩:=hrel
   by_cases hlt:k<vs.length
   ·have hu20:=Hu2.out.trans hu;obtain ⟨b,o,cs,rfl,hb,hl,hcs,hd⟩:=(Hv.out.up (stable_val d) hu20).at hlt;obtain ⟨p1,g1,p2,g2,p3,g3,rfl,_,hx1,hx2,hx3,zx⟩:=val_cells hd;obtain ⟨zb,zy,zs⟩:=zx;obtain ⟨b',o',cs,rfl,hb',hl',hcs',hd'⟩:=(Hv'.out.up (stable_val d) hu20).at hlt;obtain ⟨q1,h1,q2,h2,q3,h3,rfl,_,hy1,hy2,hy3,_⟩:=val_cells hd';have c0:=hcs 0 _ rfl;have cc1:=hcs 1 _ rfl;have cc2:=hcs 2 _ rfl;have cc3:=hcs 3 _ rfl;have d0:=hcs' 0 _ rfl;have d1:=hcs' 1 _ rfl;have d2:=hcs' 2 _ rfl;have d3:=hcs' 3 _ rfl;simp only [Nat.add_zero] at c0 d0;(have k0:(0:Int)<=(k:Int):=by omega);(have k1:(k:Int)<(vs.length:Int):=by omega);have Hx1:=hid hx1;have Hx2:=hid hx2;have Hx3:=hid hx3;have Hy1:=hid hy1;have Hy2:=hid hy2;have Hy3:=hid hy3;clear hcs hcs' hl hl' hd hd' hx1 hx2 hx3 hy1 hy2 hy3 hu20;generalize vs[k]=v at *;obtain ⟨vn,vb,vy,vs2⟩:=v;simp only at c0 cc1 cc2 cc3 d0 d1 d2 d3 zb zy zs Hx1 Hx2 Hx3 Hy1 Hy2 Hy3;obtain ⟨wo,rfl⟩:∃ wo:World,wo=wr:=⟨_,rfl⟩;have f1:wo.cell? ⟨w.heap.size+1,0,none⟩=some (.slice (some ⟨b',o',none⟩) vs.length e1):=cell_of_row wo _ 0 _ _ _ (hu.blk Hb1.out);have Hu:=hid hu;clear hu
    go_upto_region 6 with (fail)
    have hy0:(wo.alloc (.cells #[.int .i64 vn,.slice p1 vb.length g1,.slice p2 vy.length g2,.slice p3 vs2.length g3] 71)).heap[wo.heap.size]? = some (.cells #[.int .i64 vn,.slice p1 vb.length g1,.slice p2 vy.length g2,.slice p3 vs2.length g3] 71 (0,0)):=blk_new wo _ rfl;have huy:Up wo (wo.alloc (.cells #[.int .i64 vn,.slice p1 vb.length g1,.slice p2 vy.length g2,.slice p3 vs2.length g3] 71)):=(Up.refl wo).alloc _;generalize wo.alloc (.cells #[.int .i64 vn,.slice p1 vb.length g1,.slice p2 vy.length g2,.slice p3 vs2.length g3] 71)=wy at *;have f1:=huy.cell_some f1;have d0:=huy.cell_some d0;have d1:=huy.cell_some d1;have d2:=huy.cell_some d2;have d3:=huy.cell_some d3;have Huy:=hid huy;have Hy0:=hid hy0;clear c0 cc1 cc2 cc3 huy hy0
    go_upto_region 7 with (fail)
    have hy0:(wy.alloc (.cells #[.int .i64 vn,.slice q1 vb.length h1,.slice q2 vy.length h2,.slice q3 vs2.length h3] 71)).heap[wo.heap.size]? = some (.cells #[.int .i64 vn,.slice p1 vb.length g1,.slice p2 vy.length g2,.slice p3 vs2.length g3] 71 (0,0)):=blk_old _ Hy0.out;have hy1:(wy.alloc (.cells #[.int .i64 vn,.slice q1 vb.length h1,.slice q2 vy.length h2,.slice q3 vs2.length h3] 71)).heap[wy.heap.size]? = some (.cells #[.int .i64 vn,.slice q1 vb.length h1,.slice q2 vy.length h2,.slice q3 vs2.length h3] 71 (0,0)):=blk_new wy _ rfl;have huz:Up wo (wy.alloc (.cells #[.int .i64 vn,.slice q1 vb.length h1,.slice q2 vy.length h2,.slice q3 vs2.length h3] 71)):=Huy.out.alloc _;generalize wy.alloc (.cells #[.int .i64 vn,.slice q1 vb.length h1,.slice q2 vy.length h2,.slice q3 vs2.length h3] 71)=wz at *;have y0:=ro0 hy0;have y1:=ro1 hy0;have y2:=ro2 hy0;have y3:=ro3 hy0;have z0:=ro0 hy1;have z1:=ro1 hy1;have z2:=ro2 hy1;have z3:=ro3 hy1;have Huz:=hid huz;clear hy0 hy1 huz d0 d1 d2 d3 f1 Hy0 Huy;(go_wp2_with fail);(go_loopw [74] (fun i wr=>∃ k:Nat,k<=vb.length/\i=.int .i64 k/\Up wz wr) (fun i _=>vb.length - (intOf i).toNat));case atStart=>exact ⟨0,by omega,rfl,Up.refl _⟩
    case round =>
     obtain ⟨k2,hk2,rfl,hu2⟩:=hrel
     by_cases hlt2:k2<vb.length
     ·
      have huo:=Huz.out.trans hu2;obtain ⟨b1,o1,cs,rfl,_,_,hcs,hd⟩:=(Hx1.out.up stable_u64 huo).at hlt2;obtain ⟨rfl,_⟩:=hd;obtain ⟨b2,o2,cs,rfl,_,_,hcs',hd⟩:=(Hy1.out.up stable_u64 huo).at hlt2;obtain ⟨rfl,_⟩:=hd;have n0:=hcs 0 _ rfl;have n1:=hcs' 0 _ rfl;simp only [Nat.add_zero,Nat.mul_one] at n0 n1;have y1:=hu2.cell_some y1;have z1:=hu2.cell_some z1;(have k20:(0:Int)<=(k2:Int):=by omega);(have k21:(k2:Int)<(vb.length:Int):=by omega);clear hcs hcs' huo;generalize vb[k2]=n at *;go_wp2_with fail
      go_quiet (fail)
      go_wp2_with fail
      go_roundw
      (case rel=>exact ⟨k2+1,by omega,by go_num,hu2.drewN _⟩);case measure=>simp [intOf];omega
     ·have y2:=hu2.cell_some y2;have z2:=hu2.cell_some z2;have y3:=hu2.cell_some y3;have z3:=hu2.cell_some z3;obtain ⟨wa,rfl⟩:∃ wa:World,wa=wr:=⟨_,rfl⟩;have Hua:=hid (Huz.out.trans hu2);clear hu2 y0 z0 y1 z1 Huz;(go_wp2_with fail);(go_loopw [92] (fun i wr=>∃ k:Nat,k<=vy.length/\i=.int .i64 k/\Up wa wr) (fun i _=>vy.length - (intOf i).toNat));case atStart=>exact ⟨0,by omega,rfl,Up.refl _⟩
      case round =>
       obtain ⟨k3,hk3,rfl,hu3⟩:=hrel
       by_cases hlt3:k3<vy.length
       ·
        have huo:=Hua.out.trans hu3;obtain ⟨b1,o1,cs,rfl,_,_,hcs,hd⟩:=(Hx2.out.up stable_bytes huo).at hlt3;obtain ⟨vy1,hd,hr1,_⟩:=hd;subst hd;obtain ⟨m1,mc1,rfl,_,_⟩:=hr1.val;obtain ⟨b2,o2,cs,rfl,_,_,hcs',hd⟩:=(Hy2.out.up stable_bytes huo).at hlt3;obtain ⟨vy2,hd,hr2,_⟩:=hd;subst hd;obtain ⟨m2,mc2,rfl,_,_⟩:=hr2.val;have n0:=hcs 0 _ rfl;have n1:=hcs' 0 _ rfl;simp only [Nat.add_zero,Nat.mul_one] at n0 n1;have y2:=hu3.cell_some y2;have z2:=hu3.cell_some z2;(have k30:(0:Int)<=(k3:Int):=by omega);(have k31:(k3:Int)<(vy.length:Int):=by omega);clear hcs hcs' huo;generalize vy[k3]=l at *;have hcr:=fun n=>run_conv (P:=Tryz.prog) (w:=wr.drewN n) (hr1.up stable_u8 (Up.drewN (Up.refl wr) n)) 30 5 9 Tryz.underlying30 Tryz.underlying5 Tryz.underlying9;have hcs:=fun n=>run_conv (P:=Tryz.prog) (w:=wr.drewN n) (hr2.up stable_u8 (Up.drewN (Up.refl wr) n)) 30 5 9 Tryz.underlying30 Tryz.underlying5 Tryz.underlying9;clear hr1 hr2;go_wp2_with fail
        go_quiet (fail)
        go_wp2_with fail
        go_roundw
        (case rel=>exact ⟨k3+1,by omega,by go_num,hu3.drewN _⟩);case measure=>simp [intOf];omega
       ·have y3:=hu3.cell_some y3;have z3:=hu3.cell_some z3;obtain ⟨wb,rfl⟩:∃ wb:World,wb=wr:=⟨_,rfl⟩;have Hub:=hid (Hua.out.trans hu3);clear hu3 y2 z2 Hua;(go_wp2_with fail);(go_loopw [112] (fun i wr=>∃ k:Nat,k<=vs2.length/\i=.int .i64 k/\Up wb wr) (fun i _=>vs2.length - (intOf i).toNat));case atStart=>exact ⟨0,by omega,rfl,Up.refl _⟩
        case round =>
         obtain ⟨k4,hk4,rfl,hu4⟩:=hrel
         by_cases hlt4:k4<vs2.length
         ·
          have huo:=Hub.out.trans hu4;obtain ⟨b1,o1,cs,rfl,_,_,hcs,hd⟩:=(Hx3.out.up (stable_bod d) huo).at hlt4;obtain ⟨m1,r1,s1,m2,r2,s2,rfl⟩:=bod_two hd;obtain ⟨b2,o2,cs,rfl,_,_,hcs',hd'⟩:=(Hy3.out.up (stable_bod d) huo).at hlt4;obtain ⟨m1',r1',s1',m2',r2',s2',rfl⟩:=bod_two hd';have n0:=hcs 0 _ rfl;have n1:=hcs 1 _ rfl;have n2:=hcs' 0 _ rfl;have n3:=hcs' 1 _ rfl;simp only [Nat.add_zero] at n0 n2;have y3:=hu4.cell_some y3;have z3:=hu4.cell_some z3;(have k40:(0:Int)<=(k4:Int):=by omega);(have k41:(k4:Int)<(vs2.length:Int):=by omega);have Hs:=hid (fun wx (u:Up wr wx)=>Ih.out _ _ _ _ _ wx (stable_bod d _ _ _ _ _ _ (Keep.upS u) hd) (stable_bod d _ _ _ _ _ _ (Keep.upS u) hd'));have Hu4:=hid hu4;clear hcs hcs' huo hd hd' hu4;obtain ⟨wq,rfl⟩:∃ wq:World,wq=wr:=⟨_,rfl⟩;(go_wp2_with fail);have dy:wq.drew.cell? ⟨wo.heap.size,3,none⟩=some (.slice (some ⟨b1,o1,none⟩) vs2.length g3):=y3;have dz:wq.drew.cell? ⟨wy.heap.size,3,none⟩=some (.slice (some ⟨b2,o2,none⟩) vs2.length h3):=z3;have e0:wq.drew.cell? ⟨b1,o1+k4*2,none⟩=some (.slice m1 r1 s1):=n0;have e1':wq.drew.cell? ⟨b1,o1+k4*2+1,none⟩=some (.slice m2 r2 s2):=n1;have e2:wq.drew.cell? ⟨b2,o2+k4*2,none⟩=some (.slice m1' r1' s1'):=n2;have e3:wq.drew.cell? ⟨b2,o2+k4*2+1,none⟩=some (.slice m2' r2' s2'):=n3
          go_region_held3 (fun w'=>w'.cell? ⟨wo.heap.size,3,none⟩=some (.slice (some ⟨b1,o1,none⟩) vs2.length g3)/\w'.cell? ⟨wy.heap.size,3,none⟩=some (.slice (some ⟨b2,o2,none⟩) vs2.length h3)/\w'.cell? ⟨b1,o1+k4*2,none⟩=some (.slice m1 r1 s1)/\w'.cell? ⟨b1,o1+k4*2+1,none⟩=some (.slice m2 r2 s2)/\w'.cell? ⟨b2,o2+k4*2,none⟩=some (.slice m1' r1' s1')/\w'.cell? ⟨b2,o2+k4*2+1,none⟩=some (.slice m2' r2' s2'))
           (first|with_reducible exact ⟨dy,dz,e0,e1',e2,e3⟩|with_reducible exact ⟨hu5.cell_some dy,hu5.cell_some dz,hu5.cell_some e0,hu5.cell_some e1',hu5.cell_some e2,hu5.cell_some e3⟩)
           (first|(go_at_call 12;refine (Hs.out _ ((Up.refl wq).drew)).mono ?_;rintro e w5 ⟨rfl,hu5⟩))
          all_goals
           go_wp2_with fail
           go_roundw
           (case rel=>exact ⟨k4+1,by omega,by go_num,Hu4.out.trans (((Up.refl wq).drew).trans hu5)⟩);case measure=>simp [intOf];omega
         ·go_wp2_with fail
          go_roundw
          (case rel=>exact ⟨k+1,by omega,by go_num,Hu.out.trans (Hub.out.trans hu4)⟩);case measure=>simp [intOf];omega
   ·go_wp2_with fail
    go_ret
    exact ⟨rfl,Hu2.out.trans hu⟩
theorem same_b (d:Nat):∀ (x:Bod) (vv vu vv' vu':Value) (w:World),DBodF d All w x [vv,vu]->DBodF d All w x [vv',vu']->Calls Tryz.prog 12 #[.agg #[vv,vu],.agg #[vv',vu']] w fun e w'=>e=.returned (.bool true)/\Up w w':=by
 induction d with
 |zero=>intro x vv vu vv' vu' w ha hb;exact ha.elim
 |succ d ih=>exact same_step d ih
end Go.Proofs.YtbceccblepckhaaGreatDoor
namespace Go.Proofs.YtbceccblepckhaaGreatDoor
open Go.RowKit
theorem one_u64c : ∀ S w a cs,DU64 S w a cs->∀ u∈cs,u.oneCell'=true:=by
 rintro S w a cs ⟨rfl,_⟩ u hu;simp only [List.mem_cons,List.not_mem_nil,or_false] at hu;rcases hu with rfl;rfl
theorem eU64c : Elem Tryz.prog 67 72 1 8 (.int .u64 0):=⟨Tryz.underlying67,info_parts (by kernel_rfl),rfl,by decide⟩
theorem eVal : Elem Tryz.prog 26 71 4 80 (.agg #[.int .i64 0,.slice none 0 0,.slice none 0 0,.slice none 0 0]):=⟨Tryz.underlying26,info_parts (by kernel_rfl),rfl,by decide⟩
theorem eByt : Elem Tryz.prog 68 30 1 24 (.slice none 0 0):=⟨Tryz.underlying68,info_parts (by kernel_rfl),rfl,by decide⟩
theorem eBod : Elem Tryz.prog 69 29 2 48 (.agg #[.slice none 0 0,.slice none 0 0]):=⟨Tryz.underlying69,info_parts (by kernel_rfl),rfl,by decide⟩
theorem eRec' : Elem Tryz.prog 27 87 4 48 (.agg #[.int .i64 0,.int .i64 0,.int .u64 0,.slice none 0 0]):=⟨Tryz.underlying27,info_parts (by kernel_rfl),rfl,by decide⟩
abbrev From (n:Nat):Nat->Prop:=fun b=>n<=b
theorem DVal.weak {d:Nat} {S S':Nat->Prop} {w:World} {x:Val} {cs:List Value} (h:DValD d S w x cs) (hs:∀ k,S k->S' k):DValD d S' w x cs:=stable_val d _ _ _ _ _ _ (Keep.weak hs) h
theorem DBod.weak {d:Nat} {S S':Nat->Prop} {w:World} {x:Bod} {cs:List Value} (h:DBodF d S w x cs) (hs:∀ k,S k->S' k):DBodF d S' w x cs:=stable_bod d _ _ _ _ _ _ (Keep.weak hs) h
end Go.Proofs.YtbceccblepckhaaGreatDoor
