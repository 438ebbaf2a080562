/-
  Package wire: one, whole; Parse; Bytes.
  pressref1.Parse.
  (*writer).body.
-/
import Derived.Test.YtbceccblepckhaaGreatDoorCt29
set_option maxHeartbeats 12800000
set_option linter.unusedVariables false
namespace Go.Proofs.YtbceccblepckhaaGreatDoor
open Go.RowKit
set_option maxRecDepth 100000
open Lib (hid)
theorem one_bad (l:List UInt8) (w:World) (ao:Option Addr) (cap:Nat) (e0:Int) (he:e0≠0)
  (Hg:Hid (Calls Tryz.prog 130 #[.slice ao l.length cap] (w.alloc box0) fun e w'=>e=.returned (.tuple #[.int .u64 (0:Int),.int .i64 (0:Int),.int .i64 e0])/\w'=w.alloc box0)) (Hone:Hid (oneP l=(e0,rec0,0))) :
  Calls Tryz.prog 93 #[.slice ao l.length cap] w (OneP l w):=by
 have he3:(e0 != 0)=true:=by rw [bne_iff_ne];exact he
 go_enter Tryz.func93,Tryz.ntmps93
 (go_wp2_with (go_at_call 130;refine Hg.out.mono ?_;rintro e w1 ⟨rfl,rfl⟩));refine bodyPost_ret (v:=.tuple #[.agg #[.int .i64 0,.int .i64 0,.int .u64 0,.slice none 0 0],.int .i64 0,.int .i64 e0]) (by simp [results,Tryz.results93,go_sem]) rfl ?_;exact OneP.bad Hone.out (Up.alloc (Up.refl w) _)
theorem one_any (v:Value) (l:List UInt8) (w:World) (hv:RdB All w v l) (hl:l.length<=1099511627776) :
  Calls Tryz.prog 93 #[v] w (OneP l w):=by
 obtain ⟨ao,cap,rfl,hc1,hc2⟩:=hv.val;have hg:=get_any _ l (w.alloc box0) (hv.up stable_u8 (Up.alloc (Up.refl w) _));have hok:=@get_ok l;have herr:=@get_err l;have hone:oneP l=oneP l:=rfl
 conv at hone=>rhs;unfold oneP
 simp only at hone;generalize get l=g at *;obtain ⟨tag,at_,e0⟩:=g;simp only at *
 by_cases he:e0=0
 ·subst he;obtain ⟨k1,k2,k3,k4⟩:=hok rfl;rw [if_neg (by simp)] at hone
  by_cases hnum:tag / 8<1∨536870912<=tag / 8
  ·rw [if_pos hnum] at hone;exact one_range l w ao cap tag at_ hl hv hc1 hc2 hg k4 k1 k2 hnum hone
  ·rw [if_neg hnum] at hone;(have hn1:1<=tag / 8:=by omega);have hn2:tag / 8<536870912:=by omega
   by_cases h0:tag % 8=0
   ·rw [if_pos h0] at hone;have hm:=@get_ok (l.drop at_);generalize hgx:get (l.drop at_)=h at *;obtain ⟨x,m,e1⟩:=h;have herr2:=@get_err (l.drop at_);rw [hgx] at herr2;refine one_varint l w ao cap tag at_ hl hv hc1 hc2 hg k4 k1 k2 hn1 hn2 h0 x m e1 hgx ?_ hone
    by_cases h1:e1=0
    ·exact (hm h1).2.2.1
    ·rcases herr2 h1 with h|h <;> (simp only [Prod.mk.injEq] at h;omega)
   ·rw [if_neg h0] at hone
    by_cases h1:tag % 8=1
    ·rw [if_pos h1] at hone;generalize hgx:numB 8 (l.drop at_)=h at *;obtain ⟨x,e1⟩:=h;exact one_eight l w ao cap tag at_ hl hv hc1 hc2 hg k4 k1 k2 hn1 hn2 h1 x e1 hgx hone
    ·rw [if_neg h1] at hone
     by_cases h5:tag % 8=5
     ·rw [if_pos h5] at hone;generalize hgx:numB 4 (l.drop at_)=h at *;obtain ⟨x,e1⟩:=h;exact one_four l w ao cap tag at_ hl hv hc1 hc2 hg k4 k1 k2 hn1 hn2 h5 x e1 hgx hone
     ·rw [if_neg h5] at hone
      by_cases h2:tag % 8=2
      ·rw [if_pos h2] at hone;have hm:=@get_ok (l.drop at_);generalize hgx:get (l.drop at_)=h at *;obtain ⟨x,m,e1⟩:=h
       have hx:x<2 ^ 64:=by
        by_cases h1:e1=0
        ·exact (hm h1).2.2.2
        ·have herr2:=@get_err (l.drop at_);rw [hgx] at herr2;rcases herr2 h1 with h|h <;> (simp only [Prod.mk.injEq] at h;omega)
       refine one_sized l w ao cap tag at_ hl hv hc1 hc2 hg k4 k1 k2 hn1 hn2 h2 x m e1 hgx (fun h=>?_) hx hone;have:=hm h;simp only [List.length_drop] at this;omega
      ·rw [if_neg h2] at hone;exact one_kind l w ao cap tag at_ hl hv hc1 hc2 hg k4 k1 k2 hn1 hn2 _ rfl h0 h1 h2 h5 hone
 ·rw [if_pos he] at hone;rcases herr he with h|h
  all_goals
   simp only [Prod.mk.injEq] at h;obtain ⟨rfl,rfl,rfl⟩:=h;exact one_bad l w ao cap _ he hg hone
theorem one_eq (v:Value) (l:List UInt8) (w:World) (x:Int) (r:Rec) (n:Nat) (h:oneP l=(x,r,n)) (hv:RdB All w v l) (hl:l.length<=1099511627776) :
  Calls Tryz.prog 93 #[v] w fun e w'=>∃ vb,e=.returned (.tuple #[.agg #[.int .i64 r.number,.int .i64 r.how,.int .u64 (r.bits:Int),vb],.int .i64 (n:Int),.int .i64 x])/\RdB (fun k=>w.heap.size<=k) w' vb r.bytes/\Up w w':=by
 have:=one_any v l w hv hl;unfold OneP at this;rw [h] at this;exact this
theorem eRec : Elem Tryz.prog 27 87 4 48 (.agg #[.int .i64 0,.int .i64 0,.int .u64 0,.slice none 0 0]):=⟨Tryz.underlying27,info_parts (by kernel_rfl),rfl,by decide⟩
theorem parse_any (v:Value) (l:List UInt8) (w:World) (hv:RdB All w v l) :
  Calls Tryz.prog 41 #[v] w fun e w'=>∃ v',e=.returned (.tuple #[v',.agg #[.int .i64 (parse l).2.1,.int .i64 ((parse l).2.2:Int)]])/\OwnS DRec (w.heap.size+1) 87 4 (fun k=>w.heap.size+1<=k) w' v' (parse l).1/\Up w w':=by
 obtain ⟨ao,cap,rfl,hc1,hc2⟩:=hv.val;have Hv:=hid hv;clear hv
 by_cases h4:4000<l.length
 ·go_enter Tryz.func41,Tryz.ntmps41
  (go_wp2_with fail);refine bodyPost_ret (v:=.tuple #[.slice none 0 0,.agg #[.int .i64 4,.int .i64 0]]) (by simp [results,Tryz.results41,go_sem]) rfl ?_;unfold parse;rw [if_pos h4];exact ⟨_,rfl,OwnS.nil _ _ _ _ _ _,Up.alloc (Up.refl w) _⟩
 ·go_enter Tryz.func41,Tryz.ntmps41
  go_wp2_with fail
  go_loopw [4,5] (fun o i wr=>∃ (k f:Nat) (out:List Rec),k<=l.length/\l.length - k<f/\i=.int .i64 k/\out.length<=k/\parseC k out (parseG f (l.drop k))=parse l/\OwnS DRec (w.heap.size+1) 87 4 (fun k=>w.heap.size+1<=k) wr o out/\Up w wr /\
    wr.heap[w.heap.size]? = some (.cells #[.int .i64 0,.int .i64 0] 60 (0,0)))
   (fun _ i _=>l.length - (intOf i).toNat)
  case atStart=>exact ⟨0,l.length+1,[],by omega,by omega,rfl,by simp,by unfold parse;rw [if_neg h4,List.drop_zero];exact parseC_start _,OwnS.nil _ _ _ _ _ _,Up.alloc (Up.refl w) _,heap_alloc_new w _⟩
  case round =>
   obtain ⟨k,f,out,hk,hf,rfl,hok,hp,how,hu,hbx⟩:=hrel;have q0:=ro0 hbx;have q1:=ro1 hbx;have f0:∀ o,wr.frozen? ⟨w.heap.size,o,none⟩=false:=fun o=>frozen_of_row wr _ o _ _ hbx;have hwz:w.heap.size+1<=wr.heap.size:=lt_of_block hbx;have Hp:=hid hp;clear hp;have How:=hid how;clear how;have Hbx:=hid hbx;clear hbx;obtain ⟨xs0,hxs0⟩:=How.out.own;have Hown:=hid hxs0;clear hxs0
   by_cases hlt:k<l.length
   ·have hne:l.drop k≠[]:=by
     intro h;have:=congrArg List.length h;simp at this;omega
    obtain ⟨f',rfl⟩:∃ f',f=f'+1:=⟨f - 1,by omega⟩;have Hu:=hid hu;clear hu;have hok1:=@oneP_ok (l.drop k);have her1:=@oneP_err (l.drop k);have hst:=parseC_step k out f' (l.drop k) hne;rw [Hp.out,List.drop_drop] at hst;have hpe:=Hp.out;rw [parseG,if_neg hne] at hpe;generalize hx:oneP (l.drop k)=o at *;obtain ⟨x,r,n⟩:=o;simp only at *;have Hx:=hid hx;clear hx;have Hp2:=Hp;clear Hp
    by_cases ho:x=0
    ·obtain ⟨hn1,hn2,hb64,hr1,hr2,hr3,hr4⟩:=hok1 ho;simp only [List.length_drop] at hn2;have Hst:=hid (hst ho);clear hst;have Hb64:=hid hb64;clear hb64 hne hok1 her1 hpe Hp2;subst ho
     go_wp2_with (first
      |(go_at_call 93;go_must (refine (one_eq _ (l.drop k) _ 0 r n Hx.out (RdB.drop (Hv.out.up stable_u8 Hu.out) k hk (fun h=>by first|rfl|(rw [if_neg h])) (by first|rfl|omega) (by first|rfl|omega)) (by simp;omega)).mono ?_;rintro e w2 ⟨vb,rfl,hrb,hu2⟩;obtain ⟨a3,c3,rfl,hc31,hc32⟩:=hrb.val;have Hrb:=hid hrb;clear hrb;obtain ⟨xs,hxs⟩:=(How.out.up stable_rec hu2).own;have Hxs:=hid hxs;clear hxs;have hz2:w.heap.size+1<=w2.heap.size:=Nat.le_trans hwz hu2.size))
      |(at_builtin;go_must (refine wpList_app1 eRec _ (by rfl) _ _ (by rfl) (w.heap.size+1) _ _ _ (by rfl) (Hxs.out.alloc _) _ (by rfl) (by simp) (by rfl) (oc (by rfl)) (by omega) (by unfold maxLen;omega) (by simp;omega) ?_;intro v1 w1 how1 hev1)))
     go_roundw
     case rel =>
      have hev:=hev1.of_alloc;have hlt4:=fun j (hj:u4.ownBlock=some j)=>Hown.out.lt j hj;have hkeep:RdB (Av2 (fun k=>w.heap.size+1<=k) u4) w2 (.slice a3 r.bytes.length c3) r.bytes:=Hrb.out.keep stable_u8 (Keep.weak (fun j hj=>⟨by omega,fun e=>by have:=(hlt4 j e).2;omega⟩));refine ⟨k+n,f',out++[r],by omega,by omega,by go_num,by simp;omega,Hst.out.symm,OwnS.snoc stable_rec (How.out.up stable_rec hu2) Hxs.out how1 hev rfl ⟨_,rfl,hkeep,Hb64.out⟩,(Hu.out.trans hu2).evo hev (fun j hj=>by have:=(hlt4 j hj).1;omega),hev.blk (hu2.blk Hbx.out) (fun e=>by have:=(hlt4 _ e).1;omega)⟩
     case measure=>simp [intOf];omega
    ·have her:=her1 ho;simp only [Prod.mk.injEq,true_and] at her;obtain ⟨rfl,rfl⟩:=her;rw [if_pos ho] at hpe;have Hpe:=hid hpe;(have ho2:(x != 0)=true:=by rw [bne_iff_ne];exact ho);clear hpe hst hok1 Hp2 hne
     go_wp2_with (first
      |(go_at_call 93;go_must (refine (one_eq _ (l.drop k) _ x _ _ Hx.out (RdB.drop (Hv.out.up stable_u8 Hu.out) k hk (fun h=>by first|rfl|(rw [if_neg h])) (by first|rfl|omega) (by first|rfl|omega)) (by simp;omega)).mono ?_;rintro e w2 ⟨vb,rfl,hrb,hu2⟩;obtain ⟨a3,c3,rfl,hc31,hc32⟩:=hrb.val;clear hrb;have hbx:=hu2.blk Hbx.out;have p0:=ro0 hbx;have p1:=ro1 hbx;have g0:∀ o,w2.frozen? ⟨w.heap.size,o,none⟩=false:=(fun o=>frozen_of_row w2 _ o _ _ hbx);have hz2:w.heap.size<w2.heap.size:=Nat.lt_of_lt_of_le hwz hu2.size;clear hbx)))
     refine bodyPost_ret (v:=.tuple #[.slice none 0 0,.agg #[.int .i64 x,.int .i64 k]]) (by simp [results,Tryz.results41,go_sem,p0,p1,hz2]) rfl ?_;(have hp:parse l=([],x,k):=by rw [←Hpe.out];simp [parseC,ho]);rw [hp];refine ⟨_,rfl,OwnS.nil _ _ _ _ _ _,?_⟩
     with_reducible refine Up.alloc ?_ _
     repeat (with_reducible refine Up.setCell ?_ ?_ _)
     ·exact Hu.out.trans hu2
     all_goals simp
   ·have Hu:=hid hu;clear hu;(go_wp2_with fail);refine bodyPost_ret (v:=.tuple #[u4,.agg #[.int .i64 0,.int .i64 0]]) (by simp [results,Tryz.results41,go_sem,q0,q1]) rfl ?_;have hp:=Hp.out;obtain ⟨f',rfl⟩:∃ f',f=f'+1:=⟨f - 1,by omega⟩;rw [List.drop_eq_nil_of_le (by omega),parseG,if_pos rfl] at hp;simp [parseC] at hp;rw [←hp];refine ⟨_,rfl,?_,?_⟩
    ·with_reducible refine OwnS.setCell stable_rec ?_ ?_ ?_ _
     ·with_reducible refine OwnS.setCell stable_rec How.out ?_ ?_ _
      ·exact fun e=>by have:=(Hown.out.lt _ e).1;simp at this;omega
      ·simp
     ·exact fun e=>by have:=(Hown.out.lt _ e).1;simp at this;omega
     ·simp
    ·repeat (with_reducible refine Up.setCell ?_ ?_ _)
     ·exact Hu.out
     all_goals simp
end Go.Proofs.YtbceccblepckhaaGreatDoor
namespace Go.Proofs.YtbceccblepckhaaGreatDoor
open Go.RowKit
set_option maxRecDepth 100000
theorem pbad_r (ex:Int) (k g:Nat) (w:World) (h0:w.cell? ⟨g,0,none⟩=some (.int .i64 k)) :
  Calls Tryz.prog 106 #[.int .i64 ex,.pointer (some ⟨g,0,none⟩)] w fun e w'=>e=.returned (.tuple #[.slice none 0 0,.agg #[.int .i64 ex,.int .i64 k]])/\Up w w':=by
 have hb:=World.block_lt_of_cell? w _ h0;simp only at hb;have hb':g≠w.heap.size:=by omega
 go_enter Tryz.func106,Tryz.ntmps106
 go_wp2_with fail
 go_region
 all_goals
  (go_wp2_with fail);refine bodyPost_ret (v:=.tuple #[.slice none 0 0,.agg #[.int .i64 ex,.int .i64 k]]) (by simp [results,Tryz.results106,go_sem]) rfl ⟨rfl,?_⟩;repeat (first|exact Up.refl _|with_reducible refine Up.setCell ?_ (by simp) _|with_reducible refine Up.alloc ?_ _|with_reducible refine Up.drew ?_)
def sizeM : DataW Unit:=.map [(.int .i64 1,.lit (.int .i64 8)),(.int .i64 5,.lit (.int .i64 4))]
theorem sizeM_eq : (((DataW.map []:DataW Unit).put (.int .i64 1) (.lit (.int .i64 8))).put (.int .i64 5) (.lit (.int .i64 4)))=sizeM:=by rfl
def sizeC (k:Int):Int:=if k=1 then 8 else if k=5 then 4 else 0
theorem sizeM_at (k c:Int) (h:sizeM.atKey (.int .i64 k) (.lit (.int .i64 0))=.lit (.int .i64 c)):c=sizeC k:=by
 have hd:∀ n,n=1∨n=5->k=n->c=sizeC k:=by
  rintro n hn rfl;rcases hn with rfl|rfl <;> (simp [sizeM,DataW.atKey,Lit.sameKey] at h;rw [←h];rfl)
 by_cases h1:k=1
 ·exact hd 1 (by omega) h1
 by_cases h5:k=5
 ·exact hd 5 (by omega) h5
 have:c=0:=by
  simp [sizeM,DataW.atKey,Lit.sameKey,Ne.symm h1,Ne.symm h5] at h;exact h.symm
 rw [this];unfold sizeC;rw [if_neg h1,if_neg h5]
def cellI (w:World) (p:Value):Int:=match p with|.pointer (some a)=>(match w.cell? a with|some v=>intOf v|none=>0)|_=>0
theorem parse_bad {l:List UInt8} {k f:Nat} {out:List Rec} {e:Int} (hl:k<l.length) (hf:l.length - k<f) (h:parseC k out (parseG f (l.drop k))=parse l) (h1:(oneP (l.drop k)).1=e) (h0:e≠0):parse l=([],e,k):=by
 obtain ⟨f',rfl⟩:∃ f',f=f'+1:=⟨f - 1,by omega⟩;(have hne:l.drop k≠[]:=fun e=>by have:=congrArg List.length e;simp at this;omega);rw [parseG,if_neg hne,h1,if_pos h0] at h;rw [←h];unfold parseC;rw [if_pos h0];simp
theorem parse_next {l:List UInt8} {k f:Nat} {out:List Rec} {r:Rec} {n:Nat} (hl:k<l.length) (hf:l.length - k<f) (h:parseC k out (parseG f (l.drop k))=parse l) (h1:oneP (l.drop k)=(0,r,n)) :
  1<=n/\k+n<=l.length/\r.bits<2 ^ 64/\∃ f',l.length - (k+n)<f'/\parseC (k+n) (out++[r]) (parseG f' (l.drop (k+n)))=parse l:=by
 obtain ⟨f',rfl⟩:∃ f',f=f'+1:=⟨f - 1,by omega⟩;(have hne:l.drop k≠[]:=fun e=>by have:=congrArg List.length e;simp at this;omega);have hok:=oneP_ok (l:=l.drop k) (by rw [h1]);have hst:=parseC_step k out f' (l.drop k) hne (by rw [h1]);rw [h,List.drop_drop,h1] at hst;rw [h1] at hok;simp only [List.length_drop] at hok;exact ⟨hok.1,by omega,hok.2.2.1,f',by omega,hst.symm⟩
theorem oneP_tag {L:List UInt8} {tg m:Nat} {e:Int} (h:get L=(tg,m,e)) (h0:e≠0):(oneP L).1=e:=by
 unfold oneP;rw [h];simp only;rw [if_pos h0]
theorem oneP_range {L:List UInt8} {tg m:Nat} (h:get L=(tg,m,0)) (h0:tg / 8=0∨536870911<tg / 8):(oneP L).1=3:=by
 unfold oneP;rw [h];simp only;rw [if_neg (by decide),if_pos (by omega)]
theorem oneP_how {L:List UInt8} {tg m:Nat} (h:get L=(tg,m,0)) (h0:¬ tg / 8=0) (h1:¬ 536870911<tg / 8):oneP L=(
  if tg % 8=0 then (if (get (L.drop m)).2.2≠0 then ((get (L.drop m)).2.2,rec0,0) else (0,⟨((tg / 8:Nat):Int),0,(get (L.drop m)).1,[]⟩,m+(get (L.drop m)).2.1))
  else if tg % 8=1 then (if (numB 8 (L.drop m)).2≠0 then ((numB 8 (L.drop m)).2,rec0,0) else (0,⟨((tg / 8:Nat):Int),1,(numB 8 (L.drop m)).1,[]⟩,m+8))
  else if tg % 8=5 then (if (numB 4 (L.drop m)).2≠0 then ((numB 4 (L.drop m)).2,rec0,0) else (0,⟨((tg / 8:Nat):Int),5,(numB 4 (L.drop m)).1,[]⟩,m+4))
  else if tg % 8=2 then (if (get (L.drop m)).2.2≠0 then ((get (L.drop m)).2.2,rec0,0) else if (L.drop m).length - (get (L.drop m)).2.1<(get (L.drop m)).1 then (2,rec0,0)
   else (0,⟨((tg / 8:Nat):Int),2,0,((L.drop m).drop (get (L.drop m)).2.1).take (get (L.drop m)).1⟩,m+(get (L.drop m)).2.1+(get (L.drop m)).1))
  else (1,rec0,0)):=by
 unfold oneP;rw [h];simp only;rw [if_neg (by decide),if_neg (by omega)]
theorem slice_rd {S:Nat->Prop} {w:World} {ao:Option Addr} {cap:Nat} {l:List UInt8} (h:RdB S w (.slice ao l.length cap) l) (lo n:Nat) (a b:Int) (hn:lo+n<=l.length) (ea:a=lo) (eb:b=((lo+n:Nat):Int)) :
  ∃ a2 c2,(∀ wx,(Instr.slice 30 (.slice ao l.length cap) (some (.int .i64 a)) (some (.int .i64 b)) none).run Tryz.prog wx=.ok (.slice a2 n c2) wx)/\RdB S w (.slice a2 n c2) ((l.drop lo).take n):=by
 subst ea eb;obtain ⟨ao',cap',e,hc,hm,_⟩:=id h;simp only [Value.slice.injEq] at e;obtain ⟨rfl,_,rfl⟩:=e;refine ⟨if cap=lo then ao else ao.map (·.add lo),cap - lo,fun wx=>?_,RdB.take (RdB.drop h lo (by omega) (fun h=>by rw [if_neg h]) rfl rfl) n (by omega)⟩;(have ht:Tryz.prog.underlying 30=some (.slice (Tryz.prog.elem 30)):=by kernel_rfl);(have hz:((sizeOf (Tryz.prog.elem 30)).run Tryz.prog wx)=.ok 1 wx:=by kernel_rfl);rw [run_slice_lh (P:=Tryz.prog) wx 30 ao l.length cap ht .i64 .i64 (lo:Int) ((lo+n:Nat):Int) (by omega) (by omega) (by omega),hz];show Result.ok _ _=_;unfold sliced;rw [Int.toNat_natCast,Int.toNat_natCast,Nat.mul_one,Nat.add_sub_cancel_left]
open Lib (hid)
theorem wbody_step (k d:Nat) (f:Fil) (ih:∀ d,WBodC k d f) (hright:(wrongN f).1=0):WBodC (k+1) d f:=by
 intro msg x cb fb b o w hm0 hm1 hc hb hwr hlen
 cases d with
 |zero=>obtain ⟨_,_,_,_,h⟩:=hb;exact h.elim
 |succ d =>
 obtain ⟨vv,vu,hb0,hb1,hbd⟩:=hb;obtain ⟨a1,c1,a2,c2,rfl,rfl,hv,hu,hz⟩:=bod_cells hbd;obtain ⟨mi,rfl⟩:∃ mi:Nat,msg=mi:=⟨msg.toNat,by omega⟩;(have hmi:mi<f.msgs.length:=by omega);have hget:f.msgs[(mi:Int).toNat]? = some f.msgs[mi]:=by rw [Int.toNat_natCast,List.getElem?_eq_getElem hmi]
 have hmsg:wrongB f (k+1) (mi:Int) x=wrongBF (wrongVF (wrongB f k) f) f.msgs[mi] x:=by
  rw [wrongB,hget]
 rw [hmsg] at hwr;rw [raw_flat hget] at hlen ⊢;have hmr:=right_msg hright f.msgs[mi] (List.getElem_mem hmi);have Hval:=hid (wvalue_c k d f (ih d));have hcc':=hc;obtain ⟨hcc,vm,ve,hcm,hce,hfv⟩:=id hc;obtain ⟨vm',ve',he',hm',he''⟩:=id hfv;simp only [Value.agg.injEq,Array.mk.injEq,List.cons.injEq,and_true] at he';obtain ⟨rfl,rfl⟩:=he';obtain ⟨ma,mc,rfl,_,_⟩:=hm'.val;obtain ⟨mb,mo,cs,rfl,_,_,hcs,hd⟩:=hm'.at hmi;obtain ⟨vf,vb,hd,hfs,hbs,hnm⟩:=hd;subst hd;obtain ⟨fa,fc,rfl,_,_⟩:=hfs.val;obtain ⟨ba,bc,rfl,_,_⟩:=hbs.val;have s0:=hcs 0 _ rfl;have s1:=hcs 1 _ rfl;have s2:=hcs 2 _ rfl;simp only [Nat.add_zero] at s0
 have hvals:∀ v∈x.values,∃ y,fldN f.msgs[mi].fields v.1=some y/\wrongVF (wrongB f k) f y v=0:=by
  refine valsN_ok _ _ _ none [] ?_;unfold wrongBF at hwr;split at hwr
  ·contradiction
  ·rename_i h;simpa using h
 have hunk:∀ r∈x.unknown,wrongRec r=0:=by
  unfold wrongBF at hwr;split at hwr
  ·contradiction
  ·intro r hr;obtain ⟨j,hj,rfl⟩:=List.getElem_of_mem hr;have:=firstN_zero _ hwr j (by simpa using hj);rw [List.getElem_map,unkN] at this;split at this
   ·contradiction
   ·rename_i h;simpa using h
 have Hvals:=hid hvals;have Hunk:=hid hunk;have Hv:=hid hv;have Hu:=hid (hu.keep stable_recz Keep.lt);have Hfs:=hid hfs;have Hc:=hid hcc';have Hmr:=hid hmr;have zv:=hz.1;have zu:=hz.2;clear hcs hm' he'' hfv hbd hz hmsg hright ih hv hu hfs hc hce hvals hunk hwr hget hcc' hmr;generalize f.msgs[mi]=m at *;(have hm2:(mi:Int)<(f.msgs.length:Int):=by omega);obtain ⟨T,hT⟩:∃ T,x.values.flatMap (valG f k m)++x.unknown.flatMap oneB=T:=⟨_,rfl⟩;rw [hT] at hlen ⊢;have HT:=hid hT;have Hl:=hid hlen;clear hT hlen;generalize x.unknown=un at *;generalize x.values=vs at *;have HP:=hid (fun W (u:Up w W)=>(⟨u.cell_some hcc,u.cell_some hcm,u.cell_some s0,u.cell_some s1,u.cell_some s2,u.cell_some hb0,u.cell_some hb1⟩:W.cell? ⟨cb,0,none⟩=some (.pointer (some ⟨fb,0,none⟩))/\W.cell? ⟨fb,0,none⟩=some (.slice (some ⟨mb,mo,none⟩) f.msgs.length mc)/\W.cell? ⟨mb,mo+mi*3,none⟩=some (.string ⟨m.name.toArray⟩)/\W.cell? ⟨mb,mo+mi*3+1,none⟩=some (.slice fa m.fields.length fc)/\W.cell? ⟨mb,mo+mi*3+2,none⟩=some (.slice ba m.barred.length bc)/\W.cell? ⟨b,o,none⟩=some (.slice a1 vs.length c1)/\W.cell? ⟨b,o+1,none⟩=some (.slice a2 un.length c2)));have Hfc:=hid (fun n W (u:Up w W)=>field_any (.string ⟨m.name.toArray⟩) (.slice fa m.fields.length fc) (.slice ba m.barred.length bc) m.fields n W ⟨_,rfl⟩ ⟨_,_,_,rfl⟩ (Hfs.out.up stable_fld u))
 go_enter Tryz.func16,Tryz.ntmps16
 (go_wp2_with fail);clear hcc hcm s0 s1 s2 hb0 hb1;(go_loopw [8,26] (fun u i wr=>∃ k1:Nat,k1<=vs.length/\i=.int .i64 k1/\wr.ownsRow w.heap.size 5 1 u ((vs.take k1).flatMap (valG f k m)).length (B8 ((vs.take k1).flatMap (valG f k m)))/\Up w wr) (fun _ i _=>vs.length - (intOf i).toNat));case atStart=>exact ⟨0,by omega,rfl,World.ownsRow_nil _ _ _ _,Up.refl w⟩
 case round =>
  obtain ⟨k1,hk1,rfl,how,hup⟩:=hrel;have hz1:=hup.size
  by_cases hlt:k1<vs.length
  ·obtain ⟨b1,o1,cs,rfl,_,_,hcs,hd⟩:=Hv.out.at hlt;obtain ⟨y,hy,hwv⟩:=Hvals.out _ (List.getElem_mem hlt);obtain ⟨p1,g1,p2,g2,p3,g3,rfl,hn,hx1,hx2,hx3,zx⟩:=val_cells hd;have q0:=hcs 0 _ rfl;have q1:=hcs 1 _ rfl;have q2:=hcs 2 _ rfl;have q3:=hcs 3 _ rfl;simp only [Nat.add_zero] at q0
   obtain ⟨fi,hfi,hix,hyy⟩:∃ (fi:Nat) (hfi:fi<m.fields.length),idxP (fun z=>z.number==vs[k1].1) m.fields=fi/\m.fields[fi]=y:=by
    rcases idxP_cases (fun z:Fld=>z.number==vs[k1].1) m.fields with ⟨_,h⟩|⟨fi,hfi,h1,h2⟩
    ·rw [show m.fields.find? (fun z=>z.number==vs[k1].1)=some y from hy] at h;cases h
    ·rw [show m.fields.find? (fun z=>z.number==vs[k1].1)=some y from hy] at h2;exact ⟨fi,hfi,h1,(Option.some.inj h2).symm⟩
   obtain ⟨fb1,fo1,rfl,hfat⟩:=fld_at Hfs.out hfi;have hff:=field_facts ((msg_field Hmr.out).2.2 fi hfi);rw [hyy] at hfat hff;(have hgv:valG f k m vs[k1]=(valRecs (fun s=>rawB f k (msgI f y.type) s) y vs[k1]).flatMap oneB:=by unfold valG;rw [hy]);have htk:=take_flat (valG f k m) hlt;have hle0:=flat_le (valG f k m) vs (k1+1)
   have hL1:((vs.take k1).flatMap (valG f k m)++valG f k m vs[k1]).length<=1099511627776 - 8200:=by
    rw [←htk];have h1:=Hl.out;rw [←HT.out,List.length_append] at h1;omega
   rw [hgv] at hL1;(have k10:(0:Int)<=(k1:Int):=by omega);(have k11:(k1:Int)<(vs.length:Int):=by omega);(have f10:(0:Int)<=(fi:Int):=by omega);(have f11:(fi:Int)<(m.fields.length:Int):=by omega);generalize vs[k1]=q at *;generalize (vs.take k1).flatMap (valG f k m)=P1 at *;have Hvc:=hid (fun W (u:Up w W) u8' (h:W.ownsRow w.heap.size 5 1 u8' P1.length (B8 P1))=>Hval.out y q cb fb fb1 (fo1+fi*6) b1 (o1+k1*4) w.heap.size u8' P1 p1 p2 p3 g1 g2 g3 w W u (Nat.le_refl _) Hc.out hfat ⟨q0,q1,q2,q3⟩ hd hff.1 hff.2.1 hwv hff.2.2.2.1 hL1 h u.size);have Hf1:=hid (fun W (u:Up w W)=>by have h:=Hfc.out q.1 W u;rw [hix] at h;exact h);have HQ:=hid (fun W (u:Up w W)=>(by have h:=HP.out W u;exact ⟨h.1,h.2.1,h.2.2.1,h.2.2.2.1,h.2.2.2.2.1,h.2.2.2.2.2.1,u.cell_some q0⟩:(W.cell? ⟨cb,0,none⟩=some (.pointer (some ⟨fb,0,none⟩))/\W.cell? ⟨fb,0,none⟩=some (.slice (some ⟨mb,mo,none⟩) f.msgs.length mc)/\W.cell? ⟨mb,mo+mi*3,none⟩=some (.string ⟨m.name.toArray⟩)/\W.cell? ⟨mb,mo+mi*3+1,none⟩=some (.slice (some ⟨fb1,fo1,none⟩) m.fields.length fc)/\W.cell? ⟨mb,mo+mi*3+2,none⟩=some (.slice ba m.barred.length bc)/\W.cell? ⟨b,o,none⟩=some (.slice (some ⟨b1,o1,none⟩) vs.length c1)/\W.cell? ⟨b1,o1+k1*4,none⟩=some (.int .i64 q.1))));have Htk:=hid htk;have Hgv:=hid hgv;clear hd hcs hwv hL1 hle0 hix hyy hy hfat hff htk hgv hn zx q0 q1 q2 q3 hfi;obtain ⟨wq,rfl⟩:∃ wq:World,wq=wr:=⟨_,rfl⟩;have dd:(wq.drew.cell? ⟨cb,0,none⟩=some (.pointer (some ⟨fb,0,none⟩))/\wq.drew.cell? ⟨fb,0,none⟩=some (.slice (some ⟨mb,mo,none⟩) f.msgs.length mc)/\wq.drew.cell? ⟨mb,mo+mi*3,none⟩=some (.string ⟨m.name.toArray⟩)/\wq.drew.cell? ⟨mb,mo+mi*3+1,none⟩=some (.slice (some ⟨fb1,fo1,none⟩) m.fields.length fc)/\wq.drew.cell? ⟨mb,mo+mi*3+2,none⟩=some (.slice ba m.barred.length bc)/\wq.drew.cell? ⟨b,o,none⟩=some (.slice (some ⟨b1,o1,none⟩) vs.length c1)/\wq.drew.cell? ⟨b1,o1+k1*4,none⟩=some (.int .i64 q.1)):=HQ.out _ hup.drew
   go_upto_region 6 with (fail)
   go_region_held3 (fun w'=>(w'.cell? ⟨cb,0,none⟩=some (.pointer (some ⟨fb,0,none⟩))/\w'.cell? ⟨fb,0,none⟩=some (.slice (some ⟨mb,mo,none⟩) f.msgs.length mc)/\w'.cell? ⟨mb,mo+mi*3,none⟩=some (.string ⟨m.name.toArray⟩)/\w'.cell? ⟨mb,mo+mi*3+1,none⟩=some (.slice (some ⟨fb1,fo1,none⟩) m.fields.length fc)/\w'.cell? ⟨mb,mo+mi*3+2,none⟩=some (.slice ba m.barred.length bc)/\w'.cell? ⟨b,o,none⟩=some (.slice (some ⟨b1,o1,none⟩) vs.length c1)/\w'.cell? ⟨b1,o1+k1*4,none⟩=some (.int .i64 q.1)))
    (first|with_reducible exact dd|with_reducible exact HQ.out _ hu6|with_reducible exact HQ.out _ hu5)
    (first|(go_at_call 30;refine (Hf1.out _ hup.drew).mono ?_;rintro e w5 ⟨rfl,hu5'⟩;have hu5:=hup.drew.trans hu5';have how5:=how.drew.kept hu5'.to_none (Classical.em _))|(go_at_call 29;refine (Hvc.out _ hu5 _ how5).mono ?_;rintro e w6 ⟨v6,rfl,how6,hev6⟩;have hu6:=hu5.evo hev6 (fun j hj=>(how5.lt j hj).1)))
   all_goals
    clear dd;go_wp2_with fail
    go_roundw
    (case rel=>exact ⟨k1+1,by omega,by go_num,by rw [Htk.out,Hgv.out];exact how6,hu6⟩);case measure=>simp [intOf];omega
  ·rw [List.take_of_length_le (show vs.length<=k1 by omega)] at how;generalize vs.flatMap (valG f k m)=L1 at *;have y6:=(HP.out _ hup).2.2.2.2.2.2;have How:=hid how;have Hup:=hid hup;clear how hup hz1;(go_wp2_with fail);clear y6;(go_loopw [8,61] (fun u i wr=>∃ k2:Nat,k2<=un.length/\i=.int .i64 k2/\wr.ownsRow w.heap.size 5 1 u (L1++(un.take k2).flatMap oneB).length (B8 (L1++(un.take k2).flatMap oneB))/\Up w wr) (fun _ i _=>un.length - (intOf i).toNat));case atStart=>exact ⟨0,by omega,rfl,by simpa using How.out,Hup.out⟩
   case round =>
    clear How Hup;obtain ⟨k2,hk2,rfl,how,hup⟩:=hrel;have hz1:=hup.size
    by_cases hlt2:k2<un.length
    ·obtain ⟨b1,o1,cs,rfl,_,_,hcs,hd⟩:=(Hu.out.up stable_recz hup).at hlt2;obtain ⟨⟨va,hcs',hrb,h64⟩,_⟩:=hd;subst hcs';obtain ⟨a3,c3,rfl,_,_⟩:=hrb.val;have n0:=hcs 0 _ rfl;have n1:=hcs 1 _ rfl;have n2:=hcs 2 _ rfl;have n3:=hcs 3 _ rfl;simp only [Nat.add_zero] at n0;have hwr:=Hunk.out _ (List.getElem_mem hlt2);have htk:=take_flat oneB hlt2;have hle0:=flat_le oneB un k2
     have hL1:(L1++(un.take k2).flatMap oneB).length<=1099511627776 - 4100:=by
      have h1:=Hl.out;rw [←HT.out,List.length_append] at h1;rw [List.length_append];omega
     (have k20:(0:Int)<=(k2:Int):=by omega);(have k21:(k2:Int)<(un.length:Int):=by omega);generalize un[k2]=r at *;have Hadd:=hid (fun ob=>add_own w.heap.size u8 _ r _ (wr.alloc ob) ((hrb.up stable_u8 ((Up.refl wr).alloc ob)).keep stable_u8 (Keep.weak (fun j hj e=>by unfold Lt at hj;have:=(how.lt j e).1;omega))) hwr h64 hL1 (how.alloc ob) (by simp;omega));have Htk:=hid htk;have Hlt:=hid how.lt;clear hcs hrb hwr htk hle0 hL1 how h64;generalize (un.take k2).flatMap oneB=P2 at *;go_wp2_with (go_at_call 31;go_must (refine (Hadd.out _).mono ?_;rintro e w3 ⟨v3,rfl,how3,hev3⟩))
     go_roundw
     (case rel=>exact ⟨k2+1,by omega,by go_num,by rw [Htk.out,←List.append_assoc];exact how3,(hup.alloc _).evo hev3 (fun j hj=>(Hlt.out j hj).1)⟩);case measure=>simp [intOf];omega
    ·rw [List.take_of_length_le (show un.length<=k2 by omega),HT.out] at how;go_wp2_with fail
     go_ret
     exact ⟨_,rfl,how,hup⟩
end Go.Proofs.YtbceccblepckhaaGreatDoor
