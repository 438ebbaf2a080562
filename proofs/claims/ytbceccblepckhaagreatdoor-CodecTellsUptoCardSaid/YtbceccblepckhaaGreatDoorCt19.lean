/-
  pressref2.UTF8: what it answers is what the library answers.
-/
import Derived.Test.YtbceccblepckhaaGreatDoorCt07
set_option maxHeartbeats 6400000
set_option linter.unusedVariables false
namespace Go.Proofs.YtbceccblepckhaaGreatDoor
open Go.RowKit
set_option maxRecDepth 100000
open Lib (hid)
def leadR (c:Nat):Option (Nat × Nat × Nat) :=
 if c<128 then some (0,0,c)
 else if c<194 then none
 else if c<224 then some (1,128,c - 192)
 else if c<240 then some (2,2048,c - 224)
 else if c<245 then some (3,65536,c - 240)
 else none
def gatherR : Nat->List UInt8->Nat->Option Nat
 |0,_,n=>some n
 |_+1,[],_=>none
 |m+1,b::l,n=>if b.toNat / 64≠2 then none else gatherR m l (64*n+b.toNat % 64)
def badR (least n:Nat):Bool:=decide (n<least) || (decide (1114111<n) || (decide (55296<=n) && decide (n<57344)))
def stepR (u:List UInt8):Option Nat:=match leadR (u.headD 0).toNat with
 |none=>none
 |some (m,least,n)=>match gatherR m (u.drop 1) n with
  |none=>none
  |some n=>if badR least n=true then none else some (m+1)
theorem firstT_all : ∀ c:Fin 256,(c.val<194->128<=c.val->Lib.firstT c.val % 8=1)/\(194<=c.val->c.val<224->Lib.firstT c.val % 8=2/\Lib.accLo (Lib.firstT c.val / 16)=128/\Lib.accHi (Lib.firstT c.val / 16)=191) /\
  (224<=c.val->c.val<240->Lib.firstT c.val % 8=3/\Lib.accLo (Lib.firstT c.val / 16)=(if c.val=224 then 160 else 128)/\Lib.accHi (Lib.firstT c.val / 16)=(if c.val=237 then 159 else 191)) /\
  (240<=c.val->c.val<245->Lib.firstT c.val % 8=4/\Lib.accLo (Lib.firstT c.val / 16)=(if c.val=240 then 144 else 128)/\Lib.accHi (Lib.firstT c.val / 16)=(if c.val=244 then 143 else 191)) /\
  (245<=c.val->Lib.firstT c.val % 8=1):=by decide +kernel
theorem gather_some : ∀ (m:Nat) (l:List UInt8) (n:Nat),(∃ k,gatherR m l n=some k)->m<=l.length
 |0,_,_,_=>by omega
 |m+1,[],n,⟨k,h⟩=>by cases h
 |m+1,b::l,n,⟨k,h⟩=>by
  rw [gatherR] at h;split at h
  ·cases h
  ·have:=gather_some m l _ ⟨k,h⟩;simp;omega
theorem gather_short {m:Nat} {l:List UInt8} (h:l.length<m) (n:Nat):gatherR m l n=none:=by
 cases e:gatherR m l n with
 |none=>rfl
 |some k=>have:=gather_some m l n ⟨k,e⟩;omega
theorem step_validD (u:List UInt8) (hne:u≠[]):Lib.validD u=match stepR u with|none=>false|some k=>Lib.validD (u.drop k):=by
 rcases u with _|⟨c,r⟩
 ·exact absurd rfl hne
 have hc:=c.toNat_lt
 by_cases h0:c.toNat<128
 ·rw [Lib.validD_cons c r h0]
  have:stepR (c::r)=some 1:=by
   have hb:badR 0 c.toNat=false:=by
    unfold badR;rw [decide_eq_false (by omega),decide_eq_false (by omega),decide_eq_false (by omega)];rfl
   (have hl:leadR c.toNat=some (0,0,c.toNat):=by unfold leadR;rw [if_pos h0]);unfold stepR;rw [show ((c::r).headD 0).toNat=c.toNat from rfl,hl];show (if badR 0 c.toNat=true then none else some 1)=some 1;rw [hb];rfl
  rw [this];rfl
 rw [Lib.validD_lead (c::r) hne (by simpa using by omega)];have hf:=firstT_all ⟨c.toNat,hc⟩;simp only at hf;have e0:((c::r).getD 0 0).toNat=c.toNat:=rfl;rw [e0]
 have hst:stepR (c::r)=match leadR c.toNat with
  |none=>none
  |some (m,least,n)=>match gatherR m r n with
   |none=>none
   |some n=>if badR least n=true then none else some (m+1):=rfl
 rw [hst];clear hst
 by_cases h1:c.toNat<194
 ·have h2:=hf.1 h1 (by omega);rw [h2];(have:leadR c.toNat=none:=by unfold leadR;rw [if_neg h0,if_pos h1]);rw [this];rfl
 by_cases h2:c.toNat<224
 ·obtain ⟨g1,g2,g3⟩:=hf.2.1 (by omega) h2;rw [g1,g2,g3];(have:leadR c.toNat=some (1,128,c.toNat - 192):=by unfold leadR;rw [if_neg h0,if_neg h1,if_pos h2]);rw [this];rcases r with _|⟨b,r⟩
  ·rfl
  ·have hb:=b.toNat_lt;have e1:((c::b::r).getD 1 0).toNat=b.toNat:=rfl;rw [e1];simp only [gatherR,Lib.checkN,if_pos]
   by_cases hb2:b.toNat / 64=2
   ·rw [if_neg (show ¬ b.toNat / 64≠2 by omega),if_neg (by simp;omega)];simp only;rw [if_neg];unfold badR;simp only [Bool.or_eq_true,Bool.and_eq_true,decide_eq_true_eq];omega
   ·rw [if_pos hb2,if_pos (by omega)]
 by_cases h3:c.toNat<240
 ·obtain ⟨g1,g2,g3⟩:=hf.2.2.1 (by omega) h3;rw [g1,g2,g3];(have:leadR c.toNat=some (2,2048,c.toNat - 224):=by unfold leadR;rw [if_neg h0,if_neg h1,if_neg h2,if_pos h3]);rw [this];rcases r with _|⟨b,_|⟨b2,r⟩⟩
  ·rfl
  ·simp only [Lib.checkN,if_pos,show ¬ (3=2) by decide,if_false];rw [if_pos (by simp),gather_short (by simp)]
  ·have hb:=b.toNat_lt;have hb':=b2.toNat_lt;have e1:((c::b::b2::r).getD 1 0).toNat=b.toNat:=rfl;have e2:((c::b::b2::r).getD 2 0).toNat=b2.toNat:=rfl;rw [e1,e2];simp only [gatherR,Lib.checkN,if_pos,show ¬ (3=2) by decide,if_false,List.length_cons]
   by_cases q1:b.toNat / 64=2
   ·by_cases q2:b2.toNat / 64=2
    ·rw [if_neg (show ¬ b.toNat / 64≠2 by omega),if_neg (show ¬ b2.toNat / 64≠2 by omega)];simp only;unfold badR;simp only [Bool.or_eq_true,Bool.and_eq_true,decide_eq_true_eq]
     by_cases z1:c.toNat=224
     ·rw [if_pos z1,if_neg (show ¬ c.toNat=237 by omega)]
      by_cases z2:b.toNat<160
      ·rw [if_pos (by omega),if_pos (by omega)]
      ·rw [if_neg (by omega),if_neg (by omega)]
     ·rw [if_neg z1]
      by_cases z3:c.toNat=237
      ·rw [if_pos z3]
       by_cases z2:159<b.toNat
       ·rw [if_pos (by omega),if_pos (by omega)]
       ·rw [if_neg (by omega),if_neg (by omega)]
      ·rw [if_neg z3,if_neg (by omega),if_neg (by omega)]
    ·rw [if_neg (show ¬ b.toNat / 64≠2 by omega),if_pos (show b2.toNat / 64≠2 by omega),if_pos (by omega)]
   ·rw [if_pos (show b.toNat / 64≠2 by omega),if_pos (by split <;> split <;> omega)]
 by_cases h4:c.toNat<245
 ·obtain ⟨g1,g2,g3⟩:=hf.2.2.2.1 (by omega) h4;rw [g1,g2,g3];(have:leadR c.toNat=some (3,65536,c.toNat - 240):=by unfold leadR;rw [if_neg h0,if_neg h1,if_neg h2,if_neg h3,if_pos h4]);rw [this];rcases r with _|⟨b,_|⟨b2,_|⟨b3,r⟩⟩⟩
  ·rfl
  ·simp only [Lib.checkN,if_pos,show ¬ (4=2) by decide,show ¬ (4=3) by decide,if_false];rw [if_pos (by simp),gather_short (by simp)]
  ·simp only [Lib.checkN,if_pos,show ¬ (4=2) by decide,show ¬ (4=3) by decide,if_false];rw [if_pos (by simp),gather_short (by simp)]
  ·have hb:=b.toNat_lt;have hb':=b2.toNat_lt;have hb'':=b3.toNat_lt;have e1:((c::b::b2::b3::r).getD 1 0).toNat=b.toNat:=rfl;have e2:((c::b::b2::b3::r).getD 2 0).toNat=b2.toNat:=rfl;have e3:((c::b::b2::b3::r).getD 3 0).toNat=b3.toNat:=rfl;rw [e1,e2,e3];simp only [gatherR,Lib.checkN,if_pos,show ¬ (4=2) by decide,show ¬ (4=3) by decide,if_false,List.length_cons]
   by_cases q1:b.toNat / 64=2
   ·by_cases q2:b2.toNat / 64=2
    ·by_cases q3:b3.toNat / 64=2
     ·rw [if_neg (show ¬ b.toNat / 64≠2 by omega),if_neg (show ¬ b2.toNat / 64≠2 by omega),if_neg (show ¬ b3.toNat / 64≠2 by omega)];simp only;unfold badR;simp only [Bool.or_eq_true,Bool.and_eq_true,decide_eq_true_eq]
      by_cases z1:c.toNat=240
      ·rw [if_pos z1,if_neg (show ¬ c.toNat=244 by omega)]
       by_cases z2:b.toNat<144
       ·rw [if_pos (by omega),if_pos (by omega)]
       ·rw [if_neg (by omega),if_neg (by omega)]
      ·rw [if_neg z1]
       by_cases z3:c.toNat=244
       ·rw [if_pos z3]
        by_cases z2:143<b.toNat
        ·rw [if_pos (by omega),if_pos (by omega)]
        ·rw [if_neg (by omega),if_neg (by omega)]
       ·rw [if_neg z3,if_neg (by omega),if_neg (by omega)]
     ·rw [if_neg (show ¬ b.toNat / 64≠2 by omega),if_neg (show ¬ b2.toNat / 64≠2 by omega),if_pos (show b3.toNat / 64≠2 by omega),if_pos (by omega)]
    ·rw [if_neg (show ¬ b.toNat / 64≠2 by omega),if_pos (show b2.toNat / 64≠2 by omega),if_pos (by omega)]
   ·rw [if_pos (show b.toNat / 64≠2 by omega),if_pos (by split <;> split <;> omega)]
 have h5:=hf.2.2.2.2 (by omega);rw [h5];(have:leadR c.toNat=none:=by unfold leadR;rw [if_neg h0,if_neg h1,if_neg h2,if_neg h3,if_neg h4]);rw [this];rfl
theorem utf8_r (v:Value) (l:List UInt8) (w:World) (hv:RdB All w v l) (hl:l.length<=140737488355328) :
  Calls Tryz.prog 109 #[v] w fun e w'=>e=.returned (.bool (Lib.validD l))/\Up w w':=by
 obtain ⟨ao,cap,rfl,hc1,hc2⟩:=hv.val;have Hv:=hid hv;clear hv;obtain ⟨ANS,hANS⟩:∃ ANS,Lib.validD l=ANS:=⟨_,rfl⟩;rw [hANS];have Hans:=hid hANS;clear hANS
 go_enter Tryz.func109,Tryz.ntmps109
 (go_wp2_with fail);(go_loopw [3] (fun i wr=>∃ k:Nat,k<=l.length/\i=.int .i64 k/\Lib.validD (l.drop k)=ANS/\Up w wr) (fun i _=>l.length - (intOf i).toNat));case atStart=>exact ⟨0,by omega,rfl,Hans.out,Up.refl _⟩
 case round =>
  obtain ⟨k,hk,rfl,hval,hu⟩:=hrel
  by_cases hlt:k<l.length
  ·obtain ⟨b,o,rfl,c0⟩:=(show RdB All wr _ l from Hv.out.up stable_u8 hu).cell hlt;(have hne:l.drop k≠[]:=fun e=>by have:=congrArg List.length e;simp at this;omega);rw [step_validD _ hne] at hval;unfold stepR at hval;rw [show (l.drop k).headD 0=l[k] by rw [List.drop_eq_getElem_cons hlt];rfl,List.drop_drop] at hval;have hc:=l[k].toNat_lt;have Hval:=hid hval;(have i0:(0:Int)<=(k:Int):=by omega);(have i1:(k:Int)<(l.length:Int):=by omega);have Hu:=hid hu;clear hval hne hu;obtain ⟨wo,rfl⟩:∃ wo:World,wo=wr:=⟨_,rfl⟩;generalize l[k].toNat=c at *;(have hcase:c<128∨(128<=c/\c<194)∨(194<=c/\c<224)∨(224<=c/\c<240)∨(240<=c/\c<245)∨245<=c:=by omega);obtain ⟨M,hM⟩:∃ M,leadR c=M:=⟨_,rfl⟩;rw [hM] at Hval;unfold leadR at hM
   rcases hcase with h|⟨h,h2⟩|⟨h,h2⟩|⟨h,h2⟩|⟨h,h2⟩|h
   ·rw [if_pos h] at hM;have d0:decide ((c:Int)<128)=true:=decide_eq_true (by omega);(go_wp2_with fail);obtain ⟨n0,hn0⟩:∃ n0:Nat,(c:Int)=(n0:Int):=⟨c - 0,by omega⟩;rw [hn0];(have hM2:some (0,0,n0)=M:=by rw [←hM];congr 3;omega);subst hM2;have Hval2:=hid (show (match (match gatherR 0 (l.drop (k+1)) n0 with|none=>none|some n=>if badR 0 n=true then none else some (0+1):Option Nat) with|none=>false|some k1=>Lib.validD ((l.drop k).drop k1))=ANS from Hval.out);(have hn0b:n0<256:=by omega);have Hc0:=hid c0;clear Hval hM c0;(go_loopw [8,7] (fun kk nn wr=>∃ k2 n2:Nat,1<=k2/\k2<=1/\kk=.int .i64 k2/\nn=.int .i64 n2/\((k2=1/\n2<256)∨(k2=2/\n2<16448)∨(k2=3/\n2<1052736)∨(k2=4/\n2<67375168))/\gatherR 0 (l.drop (k+1)) n0=gatherR (1 - k2) (l.drop (k+k2)) n2/\Up wo wr) (fun kk _ _=>1 - (intOf kk).toNat));case atStart=>exact ⟨1,n0,by omega,by omega,rfl,rfl,.inl ⟨rfl,hn0b⟩,rfl,Up.refl _⟩
    case round =>
     clear hn0 hn0b;obtain ⟨k2,n2,hk1,hk2,rfl,rfl,hbd,hgat,hu2⟩:=hrel
     by_cases hle:k2<=0
     ·omega
     ·(obtain rfl:k2=1:=by omega);(have hgn:gatherR 0 (l.drop (k+1)) n0=some n2:=by rw [hgat];rfl);have hval3:=Hval2.out;rw [hgn] at hval3;have dk:decide ((1:Int)<=0)=false:=decide_eq_false (by omega);have HU:=hid (Hu.out.trans hu2);(have hle:k+1<=l.length:=by have:=gather_some _ _ _ ⟨_,hgn⟩;rw [List.length_drop] at this;omega);(have hn2:n2<67375168:=by omega);have Hval3:=hid hval3;clear hgat hgn hbd hval3 Hval2 Hc0 dk;rcases (show (n2<0)∨(¬ n2<0/\1114111<n2)∨(¬ n2<0/\¬ 1114111<n2/\55296<=n2/\n2<57344)∨(¬ n2<0/\¬ 1114111<n2/\¬ 55296<=n2)∨(¬ n2<0/\¬ 1114111<n2/\55296<=n2/\¬ n2<57344) by omega) with r1|⟨r1,r2⟩|⟨r1,r2,r3,r4⟩|⟨r1,r2,r3⟩|⟨r1,r2,r3,r4⟩
      ·(have hb:badR 0 n2=true:=by unfold badR;rw [decide_eq_true r1];rfl);(have hans:ANS=false:=by have:=Hval3.out;simp only [hb] at this;exact this.symm);have e1:decide ((n2:Int)<0)=true:=decide_eq_true (by omega);clear hb;go_wp2_with fail
       go_ret
       exact ⟨by first|rfl|(rw [hans];rfl),HU.out⟩
      ·(have hb:badR 0 n2=true:=by unfold badR;rw [decide_eq_false r1,decide_eq_true r2];rfl);(have hans:ANS=false:=by have:=Hval3.out;simp only [hb] at this;exact this.symm);have e1:decide ((n2:Int)<0)=false:=decide_eq_false (by omega);have e2:decide ((1114111:Int)<(n2:Int))=true:=decide_eq_true (by omega);clear hb;go_wp2_with fail
       go_ret
       exact ⟨by first|rfl|(rw [hans];rfl),HU.out⟩
      ·(have hb:badR 0 n2=true:=by unfold badR;rw [decide_eq_false r1,decide_eq_false r2,decide_eq_true r3,decide_eq_true r4];rfl);(have hans:ANS=false:=by have:=Hval3.out;simp only [hb] at this;exact this.symm);have e1:decide ((n2:Int)<0)=false:=decide_eq_false (by omega);have e2:decide ((1114111:Int)<(n2:Int))=false:=decide_eq_false (by omega);have e3:decide ((55296:Int)<=(n2:Int))=true:=decide_eq_true (by omega);have e4:decide ((n2:Int)<57344)=true:=decide_eq_true (by omega);clear hb;go_wp2_with fail
       go_ret
       exact ⟨by first|rfl|(rw [hans];rfl),HU.out⟩
      ·(have hb:badR 0 n2=false:=by unfold badR;rw [decide_eq_false r1,decide_eq_false r2,decide_eq_false r3];rfl);(have hans:Lib.validD (l.drop (k+1))=ANS:=by have:=Hval3.out;simp only [hb,List.drop_drop] at this;exact this);have e1:decide ((n2:Int)<0)=false:=decide_eq_false (by omega);have e2:decide ((1114111:Int)<(n2:Int))=false:=decide_eq_false (by omega);have e3:decide ((55296:Int)<=(n2:Int))=false:=decide_eq_false (by omega);have Hn:=hid hans;clear hb hans;(go_wp2_with fail);exact ⟨⟨k+1,hle,by go_num,Hn.out,HU.out⟩,by simp only [intOf];omega⟩
      ·(have hb:badR 0 n2=false:=by unfold badR;rw [decide_eq_false r1,decide_eq_false r2,decide_eq_true r3,decide_eq_false r4];rfl);(have hans:Lib.validD (l.drop (k+1))=ANS:=by have:=Hval3.out;simp only [hb,List.drop_drop] at this;exact this);have e1:decide ((n2:Int)<0)=false:=decide_eq_false (by omega);have e2:decide ((1114111:Int)<(n2:Int))=false:=decide_eq_false (by omega);have e3:decide ((55296:Int)<=(n2:Int))=true:=decide_eq_true (by omega);have e4:decide ((n2:Int)<57344)=false:=decide_eq_false (by omega);have Hn:=hid hans;clear hb hans;(go_wp2_with fail);exact ⟨⟨k+1,hle,by go_num,Hn.out,HU.out⟩,by simp only [intOf];omega⟩
   ·rw [if_neg (by omega),if_pos h2] at hM;have d0:decide ((c:Int)<128)=false:=decide_eq_false (by omega);have d1:decide ((194:Int)<=(c:Int))=false:=decide_eq_false (by omega);have d3:decide ((224:Int)<=(c:Int))=false:=decide_eq_false (by omega);have d5:decide ((240:Int)<=(c:Int))=false:=decide_eq_false (by omega);subst hM;have hans:ANS=false:=Hval.out.symm;go_wp2_with fail
    go_ret
    exact ⟨rfl,Hu.out⟩
   ·rw [if_neg (by omega),if_neg (by omega),if_pos h2] at hM;have d0:decide ((c:Int)<128)=false:=decide_eq_false (by omega);have d1:decide ((194:Int)<=(c:Int))=true:=decide_eq_true (by omega);have d2:decide ((c:Int)<224)=true:=decide_eq_true (by omega);(go_wp2_with fail);obtain ⟨n0,hn0⟩:∃ n0:Nat,(c:Int) - 192=(n0:Int):=⟨c - 192,by omega⟩;rw [hn0];(have hM2:some (1,128,n0)=M:=by rw [←hM];congr 3;omega);subst hM2;have Hval2:=hid (show (match (match gatherR 1 (l.drop (k+1)) n0 with|none=>none|some n=>if badR 128 n=true then none else some (1+1):Option Nat) with|none=>false|some k1=>Lib.validD ((l.drop k).drop k1))=ANS from Hval.out);(have hn0b:n0<256:=by omega);have Hc0:=hid c0;clear Hval hM c0;(go_loopw [8,7] (fun kk nn wr=>∃ k2 n2:Nat,1<=k2/\k2<=2/\kk=.int .i64 k2/\nn=.int .i64 n2/\((k2=1/\n2<256)∨(k2=2/\n2<16448)∨(k2=3/\n2<1052736)∨(k2=4/\n2<67375168))/\gatherR 1 (l.drop (k+1)) n0=gatherR (2 - k2) (l.drop (k+k2)) n2/\Up wo wr) (fun kk _ _=>2 - (intOf kk).toNat));case atStart=>exact ⟨1,n0,by omega,by omega,rfl,rfl,.inl ⟨rfl,hn0b⟩,rfl,Up.refl _⟩
    case round =>
     clear hn0 hn0b;obtain ⟨k2,n2,hk1,hk2,rfl,rfl,hbd,hgat,hu2⟩:=hrel
     by_cases hle:k2<=1
     ·obtain ⟨z,hz⟩:∃ z,2 - k2=z+1:=⟨1 - k2,by omega⟩;rw [hz] at hgat;have dk:decide ((k2:Int)<=1)=true:=decide_eq_true (by omega)
      by_cases hin:k+k2<l.length
      ·obtain ⟨b',o',e,c1⟩:=(show RdB All wr _ l from Hv.out.up stable_u8 (Hu.out.trans hu2)).cell hin;simp only [Option.some.injEq,Addr.mk.injEq,and_true] at e;obtain ⟨rfl,rfl⟩:=e;rw [List.drop_eq_getElem_cons hin,gatherR] at hgat;have hb:=l[k+k2].toNat_lt;(have q0:(0:Int)<=(k:Int)+(k2:Int):=by omega);(have q1:(k:Int)+(k2:Int)<(l.length:Int):=by omega);(have q2:((k:Int)+(k2:Int)).toNat=k+k2:=by omega);(have q3:IntKind.i64.wrap ((k:Int)+(k2:Int))=(k:Int)+(k2:Int):=by rw [IntKind.wrap_i64];omega);have q4:decide ((l.length:Int)<=(k:Int)+(k2:Int))=false:=decide_eq_false (by omega);have Hgat:=hid hgat;clear hgat;generalize l[k+k2].toNat=x at *
       by_cases hx:x / 64=2
       ·have hgat:=Hgat.out;rw [if_neg (by omega)] at hgat;(have dx:((x:Int) / 64==2)=true:=by rw [beq_iff_eq];omega);(have dx2:((x:Int) / 64 != 2)=false:=by rw [bne_eq_false_iff_eq];omega);have Hgat2:=hid hgat;clear hgat Hgat;(go_wp2_with fail);exact ⟨⟨k2+1,64*n2+x % 64,by omega,by omega,by go_num,by go_num,by omega,by rw [Hgat2.out];congr 1;omega,hu2⟩,by simp only [intOf];omega⟩
       ·have hgat:=Hgat.out;rw [if_pos hx] at hgat;(have hans:ANS=false:=by have:=Hval2.out;rw [hgat] at this;exact this.symm);(have dx:((x:Int) / 64==2)=false:=by rw [beq_eq_false_iff_ne];omega);(have dx2:((x:Int) / 64 != 2)=true:=by rw [bne_iff_ne];omega);clear hgat Hgat;go_wp2_with fail
        go_ret
        exact ⟨by first|rfl|(rw [hans];rfl),Hu.out.trans hu2⟩
      ·(have hgn:gatherR 1 (l.drop (k+1)) n0=none:=by rw [hgat];exact gather_short (by rw [List.length_drop];omega) n2);(have hans:ANS=false:=by have:=Hval2.out;rw [hgn] at this;exact this.symm);(have q3:IntKind.i64.wrap ((k:Int)+(k2:Int))=(k:Int)+(k2:Int):=by rw [IntKind.wrap_i64];omega);have q4:decide ((l.length:Int)<=(k:Int)+(k2:Int))=true:=decide_eq_true (by omega);clear hgat hgn;go_wp2_with fail
       go_ret
       exact ⟨by first|rfl|(rw [hans];rfl),Hu.out.trans hu2⟩
     ·(obtain rfl:k2=2:=by omega);(have hgn:gatherR 1 (l.drop (k+1)) n0=some n2:=by rw [hgat];rfl);have hval3:=Hval2.out;rw [hgn] at hval3;have dk:decide ((2:Int)<=1)=false:=decide_eq_false (by omega);have HU:=hid (Hu.out.trans hu2);(have hle:k+2<=l.length:=by have:=gather_some _ _ _ ⟨_,hgn⟩;rw [List.length_drop] at this;omega);(have hn2:n2<67375168:=by omega);have Hval3:=hid hval3;clear hgat hgn hbd hval3 Hval2 Hc0 dk;rcases (show (n2<128)∨(¬ n2<128/\1114111<n2)∨(¬ n2<128/\¬ 1114111<n2/\55296<=n2/\n2<57344)∨(¬ n2<128/\¬ 1114111<n2/\¬ 55296<=n2)∨(¬ n2<128/\¬ 1114111<n2/\55296<=n2/\¬ n2<57344) by omega) with r1|⟨r1,r2⟩|⟨r1,r2,r3,r4⟩|⟨r1,r2,r3⟩|⟨r1,r2,r3,r4⟩
      ·(have hb:badR 128 n2=true:=by unfold badR;rw [decide_eq_true r1];rfl);(have hans:ANS=false:=by have:=Hval3.out;simp only [hb] at this;exact this.symm);have e1:decide ((n2:Int)<128)=true:=decide_eq_true (by omega);clear hb;go_wp2_with fail
       go_ret
       exact ⟨by first|rfl|(rw [hans];rfl),HU.out⟩
      ·(have hb:badR 128 n2=true:=by unfold badR;rw [decide_eq_false r1,decide_eq_true r2];rfl);(have hans:ANS=false:=by have:=Hval3.out;simp only [hb] at this;exact this.symm);have e1:decide ((n2:Int)<128)=false:=decide_eq_false (by omega);have e2:decide ((1114111:Int)<(n2:Int))=true:=decide_eq_true (by omega);clear hb;go_wp2_with fail
       go_ret
       exact ⟨by first|rfl|(rw [hans];rfl),HU.out⟩
      ·(have hb:badR 128 n2=true:=by unfold badR;rw [decide_eq_false r1,decide_eq_false r2,decide_eq_true r3,decide_eq_true r4];rfl);(have hans:ANS=false:=by have:=Hval3.out;simp only [hb] at this;exact this.symm);have e1:decide ((n2:Int)<128)=false:=decide_eq_false (by omega);have e2:decide ((1114111:Int)<(n2:Int))=false:=decide_eq_false (by omega);have e3:decide ((55296:Int)<=(n2:Int))=true:=decide_eq_true (by omega);have e4:decide ((n2:Int)<57344)=true:=decide_eq_true (by omega);clear hb;go_wp2_with fail
       go_ret
       exact ⟨by first|rfl|(rw [hans];rfl),HU.out⟩
      ·(have hb:badR 128 n2=false:=by unfold badR;rw [decide_eq_false r1,decide_eq_false r2,decide_eq_false r3];rfl);(have hans:Lib.validD (l.drop (k+2))=ANS:=by have:=Hval3.out;simp only [hb,List.drop_drop] at this;exact this);have e1:decide ((n2:Int)<128)=false:=decide_eq_false (by omega);have e2:decide ((1114111:Int)<(n2:Int))=false:=decide_eq_false (by omega);have e3:decide ((55296:Int)<=(n2:Int))=false:=decide_eq_false (by omega);have Hn:=hid hans;clear hb hans;(go_wp2_with fail);exact ⟨⟨k+2,hle,by go_num,Hn.out,HU.out⟩,by simp only [intOf];omega⟩
      ·(have hb:badR 128 n2=false:=by unfold badR;rw [decide_eq_false r1,decide_eq_false r2,decide_eq_true r3,decide_eq_false r4];rfl);(have hans:Lib.validD (l.drop (k+2))=ANS:=by have:=Hval3.out;simp only [hb,List.drop_drop] at this;exact this);have e1:decide ((n2:Int)<128)=false:=decide_eq_false (by omega);have e2:decide ((1114111:Int)<(n2:Int))=false:=decide_eq_false (by omega);have e3:decide ((55296:Int)<=(n2:Int))=true:=decide_eq_true (by omega);have e4:decide ((n2:Int)<57344)=false:=decide_eq_false (by omega);have Hn:=hid hans;clear hb hans;(go_wp2_with fail);exact ⟨⟨k+2,hle,by go_num,Hn.out,HU.out⟩,by simp only [intOf];omega⟩
   ·rw [if_neg (by omega),if_neg (by omega),if_neg (by omega),if_pos h2] at hM;have d0:decide ((c:Int)<128)=false:=decide_eq_false (by omega);have d1:decide ((194:Int)<=(c:Int))=true:=decide_eq_true (by omega);have d2:decide ((c:Int)<224)=false:=decide_eq_false (by omega);have d3:decide ((224:Int)<=(c:Int))=true:=decide_eq_true (by omega);have d4:decide ((c:Int)<240)=true:=decide_eq_true (by omega);(go_wp2_with fail);obtain ⟨n0,hn0⟩:∃ n0:Nat,(c:Int) - 224=(n0:Int):=⟨c - 224,by omega⟩;rw [hn0];(have hM2:some (2,2048,n0)=M:=by rw [←hM];congr 3;omega);subst hM2;have Hval2:=hid (show (match (match gatherR 2 (l.drop (k+1)) n0 with|none=>none|some n=>if badR 2048 n=true then none else some (2+1):Option Nat) with|none=>false|some k1=>Lib.validD ((l.drop k).drop k1))=ANS from Hval.out);(have hn0b:n0<256:=by omega);have Hc0:=hid c0;clear Hval hM c0;(go_loopw [8,7] (fun kk nn wr=>∃ k2 n2:Nat,1<=k2/\k2<=3/\kk=.int .i64 k2/\nn=.int .i64 n2/\((k2=1/\n2<256)∨(k2=2/\n2<16448)∨(k2=3/\n2<1052736)∨(k2=4/\n2<67375168))/\gatherR 2 (l.drop (k+1)) n0=gatherR (3 - k2) (l.drop (k+k2)) n2/\Up wo wr) (fun kk _ _=>3 - (intOf kk).toNat));case atStart=>exact ⟨1,n0,by omega,by omega,rfl,rfl,.inl ⟨rfl,hn0b⟩,rfl,Up.refl _⟩
    case round =>
     clear hn0 hn0b;obtain ⟨k2,n2,hk1,hk2,rfl,rfl,hbd,hgat,hu2⟩:=hrel
     by_cases hle:k2<=2
     ·obtain ⟨z,hz⟩:∃ z,3 - k2=z+1:=⟨2 - k2,by omega⟩;rw [hz] at hgat;have dk:decide ((k2:Int)<=2)=true:=decide_eq_true (by omega)
      by_cases hin:k+k2<l.length
      ·obtain ⟨b',o',e,c1⟩:=(show RdB All wr _ l from Hv.out.up stable_u8 (Hu.out.trans hu2)).cell hin;simp only [Option.some.injEq,Addr.mk.injEq,and_true] at e;obtain ⟨rfl,rfl⟩:=e;rw [List.drop_eq_getElem_cons hin,gatherR] at hgat;have hb:=l[k+k2].toNat_lt;(have q0:(0:Int)<=(k:Int)+(k2:Int):=by omega);(have q1:(k:Int)+(k2:Int)<(l.length:Int):=by omega);(have q2:((k:Int)+(k2:Int)).toNat=k+k2:=by omega);(have q3:IntKind.i64.wrap ((k:Int)+(k2:Int))=(k:Int)+(k2:Int):=by rw [IntKind.wrap_i64];omega);have q4:decide ((l.length:Int)<=(k:Int)+(k2:Int))=false:=decide_eq_false (by omega);have Hgat:=hid hgat;clear hgat;generalize l[k+k2].toNat=x at *
       by_cases hx:x / 64=2
       ·have hgat:=Hgat.out;rw [if_neg (by omega)] at hgat;(have dx:((x:Int) / 64==2)=true:=by rw [beq_iff_eq];omega);(have dx2:((x:Int) / 64 != 2)=false:=by rw [bne_eq_false_iff_eq];omega);have Hgat2:=hid hgat;clear hgat Hgat;(go_wp2_with fail);exact ⟨⟨k2+1,64*n2+x % 64,by omega,by omega,by go_num,by go_num,by omega,by rw [Hgat2.out];congr 1;omega,hu2⟩,by simp only [intOf];omega⟩
       ·have hgat:=Hgat.out;rw [if_pos hx] at hgat;(have hans:ANS=false:=by have:=Hval2.out;rw [hgat] at this;exact this.symm);(have dx:((x:Int) / 64==2)=false:=by rw [beq_eq_false_iff_ne];omega);(have dx2:((x:Int) / 64 != 2)=true:=by rw [bne_iff_ne];omega);clear hgat Hgat;go_wp2_with fail
        go_ret
        exact ⟨by first|rfl|(rw [hans];rfl),Hu.out.trans hu2⟩
      ·(have hgn:gatherR 2 (l.drop (k+1)) n0=none:=by rw [hgat];exact gather_short (by rw [List.length_drop];omega) n2);(have hans:ANS=false:=by have:=Hval2.out;rw [hgn] at this;exact this.symm);(have q3:IntKind.i64.wrap ((k:Int)+(k2:Int))=(k:Int)+(k2:Int):=by rw [IntKind.wrap_i64];omega);have q4:decide ((l.length:Int)<=(k:Int)+(k2:Int))=true:=decide_eq_true (by omega);clear hgat hgn;go_wp2_with fail
       go_ret
       exact ⟨by first|rfl|(rw [hans];rfl),Hu.out.trans hu2⟩
     ·(obtain rfl:k2=3:=by omega);(have hgn:gatherR 2 (l.drop (k+1)) n0=some n2:=by rw [hgat];rfl);have hval3:=Hval2.out;rw [hgn] at hval3;have dk:decide ((3:Int)<=2)=false:=decide_eq_false (by omega);have HU:=hid (Hu.out.trans hu2);(have hle:k+3<=l.length:=by have:=gather_some _ _ _ ⟨_,hgn⟩;rw [List.length_drop] at this;omega);(have hn2:n2<67375168:=by omega);have Hval3:=hid hval3;clear hgat hgn hbd hval3 Hval2 Hc0 dk;rcases (show (n2<2048)∨(¬ n2<2048/\1114111<n2)∨(¬ n2<2048/\¬ 1114111<n2/\55296<=n2/\n2<57344)∨(¬ n2<2048/\¬ 1114111<n2/\¬ 55296<=n2)∨(¬ n2<2048/\¬ 1114111<n2/\55296<=n2/\¬ n2<57344) by omega) with r1|⟨r1,r2⟩|⟨r1,r2,r3,r4⟩|⟨r1,r2,r3⟩|⟨r1,r2,r3,r4⟩
      ·(have hb:badR 2048 n2=true:=by unfold badR;rw [decide_eq_true r1];rfl);(have hans:ANS=false:=by have:=Hval3.out;simp only [hb] at this;exact this.symm);have e1:decide ((n2:Int)<2048)=true:=decide_eq_true (by omega);clear hb;go_wp2_with fail
       go_ret
       exact ⟨by first|rfl|(rw [hans];rfl),HU.out⟩
      ·(have hb:badR 2048 n2=true:=by unfold badR;rw [decide_eq_false r1,decide_eq_true r2];rfl);(have hans:ANS=false:=by have:=Hval3.out;simp only [hb] at this;exact this.symm);have e1:decide ((n2:Int)<2048)=false:=decide_eq_false (by omega);have e2:decide ((1114111:Int)<(n2:Int))=true:=decide_eq_true (by omega);clear hb;go_wp2_with fail
       go_ret
       exact ⟨by first|rfl|(rw [hans];rfl),HU.out⟩
      ·(have hb:badR 2048 n2=true:=by unfold badR;rw [decide_eq_false r1,decide_eq_false r2,decide_eq_true r3,decide_eq_true r4];rfl);(have hans:ANS=false:=by have:=Hval3.out;simp only [hb] at this;exact this.symm);have e1:decide ((n2:Int)<2048)=false:=decide_eq_false (by omega);have e2:decide ((1114111:Int)<(n2:Int))=false:=decide_eq_false (by omega);have e3:decide ((55296:Int)<=(n2:Int))=true:=decide_eq_true (by omega);have e4:decide ((n2:Int)<57344)=true:=decide_eq_true (by omega);clear hb;go_wp2_with fail
       go_ret
       exact ⟨by first|rfl|(rw [hans];rfl),HU.out⟩
      ·(have hb:badR 2048 n2=false:=by unfold badR;rw [decide_eq_false r1,decide_eq_false r2,decide_eq_false r3];rfl);(have hans:Lib.validD (l.drop (k+3))=ANS:=by have:=Hval3.out;simp only [hb,List.drop_drop] at this;exact this);have e1:decide ((n2:Int)<2048)=false:=decide_eq_false (by omega);have e2:decide ((1114111:Int)<(n2:Int))=false:=decide_eq_false (by omega);have e3:decide ((55296:Int)<=(n2:Int))=false:=decide_eq_false (by omega);have Hn:=hid hans;clear hb hans;(go_wp2_with fail);exact ⟨⟨k+3,hle,by go_num,Hn.out,HU.out⟩,by simp only [intOf];omega⟩
      ·(have hb:badR 2048 n2=false:=by unfold badR;rw [decide_eq_false r1,decide_eq_false r2,decide_eq_true r3,decide_eq_false r4];rfl);(have hans:Lib.validD (l.drop (k+3))=ANS:=by have:=Hval3.out;simp only [hb,List.drop_drop] at this;exact this);have e1:decide ((n2:Int)<2048)=false:=decide_eq_false (by omega);have e2:decide ((1114111:Int)<(n2:Int))=false:=decide_eq_false (by omega);have e3:decide ((55296:Int)<=(n2:Int))=true:=decide_eq_true (by omega);have e4:decide ((n2:Int)<57344)=false:=decide_eq_false (by omega);have Hn:=hid hans;clear hb hans;(go_wp2_with fail);exact ⟨⟨k+3,hle,by go_num,Hn.out,HU.out⟩,by simp only [intOf];omega⟩
   ·rw [if_neg (by omega),if_neg (by omega),if_neg (by omega),if_neg (by omega),if_pos h2] at hM;have d0:decide ((c:Int)<128)=false:=decide_eq_false (by omega);have d1:decide ((194:Int)<=(c:Int))=true:=decide_eq_true (by omega);have d2:decide ((c:Int)<224)=false:=decide_eq_false (by omega);have d3:decide ((224:Int)<=(c:Int))=true:=decide_eq_true (by omega);have d4:decide ((c:Int)<240)=false:=decide_eq_false (by omega);have d5:decide ((240:Int)<=(c:Int))=true:=decide_eq_true (by omega);have d6:decide ((c:Int)<245)=true:=decide_eq_true (by omega);(go_wp2_with fail);obtain ⟨n0,hn0⟩:∃ n0:Nat,(c:Int) - 240=(n0:Int):=⟨c - 240,by omega⟩;rw [hn0];(have hM2:some (3,65536,n0)=M:=by rw [←hM];congr 3;omega);subst hM2;have Hval2:=hid (show (match (match gatherR 3 (l.drop (k+1)) n0 with|none=>none|some n=>if badR 65536 n=true then none else some (3+1):Option Nat) with|none=>false|some k1=>Lib.validD ((l.drop k).drop k1))=ANS from Hval.out);(have hn0b:n0<256:=by omega);have Hc0:=hid c0;clear Hval hM c0;(go_loopw [8,7] (fun kk nn wr=>∃ k2 n2:Nat,1<=k2/\k2<=4/\kk=.int .i64 k2/\nn=.int .i64 n2/\((k2=1/\n2<256)∨(k2=2/\n2<16448)∨(k2=3/\n2<1052736)∨(k2=4/\n2<67375168))/\gatherR 3 (l.drop (k+1)) n0=gatherR (4 - k2) (l.drop (k+k2)) n2/\Up wo wr) (fun kk _ _=>4 - (intOf kk).toNat));case atStart=>exact ⟨1,n0,by omega,by omega,rfl,rfl,.inl ⟨rfl,hn0b⟩,rfl,Up.refl _⟩
    case round =>
     clear hn0 hn0b;obtain ⟨k2,n2,hk1,hk2,rfl,rfl,hbd,hgat,hu2⟩:=hrel
     by_cases hle:k2<=3
     ·obtain ⟨z,hz⟩:∃ z,4 - k2=z+1:=⟨3 - k2,by omega⟩;rw [hz] at hgat;have dk:decide ((k2:Int)<=3)=true:=decide_eq_true (by omega)
      by_cases hin:k+k2<l.length
      ·obtain ⟨b',o',e,c1⟩:=(show RdB All wr _ l from Hv.out.up stable_u8 (Hu.out.trans hu2)).cell hin;simp only [Option.some.injEq,Addr.mk.injEq,and_true] at e;obtain ⟨rfl,rfl⟩:=e;rw [List.drop_eq_getElem_cons hin,gatherR] at hgat;have hb:=l[k+k2].toNat_lt;(have q0:(0:Int)<=(k:Int)+(k2:Int):=by omega);(have q1:(k:Int)+(k2:Int)<(l.length:Int):=by omega);(have q2:((k:Int)+(k2:Int)).toNat=k+k2:=by omega);(have q3:IntKind.i64.wrap ((k:Int)+(k2:Int))=(k:Int)+(k2:Int):=by rw [IntKind.wrap_i64];omega);have q4:decide ((l.length:Int)<=(k:Int)+(k2:Int))=false:=decide_eq_false (by omega);have Hgat:=hid hgat;clear hgat;generalize l[k+k2].toNat=x at *
       by_cases hx:x / 64=2
       ·have hgat:=Hgat.out;rw [if_neg (by omega)] at hgat;(have dx:((x:Int) / 64==2)=true:=by rw [beq_iff_eq];omega);(have dx2:((x:Int) / 64 != 2)=false:=by rw [bne_eq_false_iff_eq];omega);have Hgat2:=hid hgat;clear hgat Hgat;(go_wp2_with fail);exact ⟨⟨k2+1,64*n2+x % 64,by omega,by omega,by go_num,by go_num,by omega,by rw [Hgat2.out];congr 1;omega,hu2⟩,by simp only [intOf];omega⟩
       ·have hgat:=Hgat.out;rw [if_pos hx] at hgat;(have hans:ANS=false:=by have:=Hval2.out;rw [hgat] at this;exact this.symm);(have dx:((x:Int) / 64==2)=false:=by rw [beq_eq_false_iff_ne];omega);(have dx2:((x:Int) / 64 != 2)=true:=by rw [bne_iff_ne];omega);clear hgat Hgat;go_wp2_with fail
        go_ret
        exact ⟨by first|rfl|(rw [hans];rfl),Hu.out.trans hu2⟩
      ·(have hgn:gatherR 3 (l.drop (k+1)) n0=none:=by rw [hgat];exact gather_short (by rw [List.length_drop];omega) n2);(have hans:ANS=false:=by have:=Hval2.out;rw [hgn] at this;exact this.symm);(have q3:IntKind.i64.wrap ((k:Int)+(k2:Int))=(k:Int)+(k2:Int):=by rw [IntKind.wrap_i64];omega);have q4:decide ((l.length:Int)<=(k:Int)+(k2:Int))=true:=decide_eq_true (by omega);clear hgat hgn;go_wp2_with fail
       go_ret
       exact ⟨by first|rfl|(rw [hans];rfl),Hu.out.trans hu2⟩
     ·(obtain rfl:k2=4:=by omega);(have hgn:gatherR 3 (l.drop (k+1)) n0=some n2:=by rw [hgat];rfl);have hval3:=Hval2.out;rw [hgn] at hval3;have dk:decide ((4:Int)<=3)=false:=decide_eq_false (by omega);have HU:=hid (Hu.out.trans hu2);(have hle:k+4<=l.length:=by have:=gather_some _ _ _ ⟨_,hgn⟩;rw [List.length_drop] at this;omega);(have hn2:n2<67375168:=by omega);have Hval3:=hid hval3;clear hgat hgn hbd hval3 Hval2 Hc0 dk;rcases (show (n2<65536)∨(¬ n2<65536/\1114111<n2)∨(¬ n2<65536/\¬ 1114111<n2/\55296<=n2/\n2<57344)∨(¬ n2<65536/\¬ 1114111<n2/\¬ 55296<=n2)∨(¬ n2<65536/\¬ 1114111<n2/\55296<=n2/\¬ n2<57344) by omega) with r1|⟨r1,r2⟩|⟨r1,r2,r3,r4⟩|⟨r1,r2,r3⟩|⟨r1,r2,r3,r4⟩
      ·(have hb:badR 65536 n2=true:=by unfold badR;rw [decide_eq_true r1];rfl);(have hans:ANS=false:=by have:=Hval3.out;simp only [hb] at this;exact this.symm);have e1:decide ((n2:Int)<65536)=true:=decide_eq_true (by omega);clear hb;go_wp2_with fail
       go_ret
       exact ⟨by first|rfl|(rw [hans];rfl),HU.out⟩
      ·(have hb:badR 65536 n2=true:=by unfold badR;rw [decide_eq_false r1,decide_eq_true r2];rfl);(have hans:ANS=false:=by have:=Hval3.out;simp only [hb] at this;exact this.symm);have e1:decide ((n2:Int)<65536)=false:=decide_eq_false (by omega);have e2:decide ((1114111:Int)<(n2:Int))=true:=decide_eq_true (by omega);clear hb;go_wp2_with fail
       go_ret
       exact ⟨by first|rfl|(rw [hans];rfl),HU.out⟩
      ·(have hb:badR 65536 n2=true:=by unfold badR;rw [decide_eq_false r1,decide_eq_false r2,decide_eq_true r3,decide_eq_true r4];rfl);(have hans:ANS=false:=by have:=Hval3.out;simp only [hb] at this;exact this.symm);have e1:decide ((n2:Int)<65536)=false:=decide_eq_false (by omega);have e2:decide ((1114111:Int)<(n2:Int))=false:=decide_eq_false (by omega);have e3:decide ((55296:Int)<=(n2:Int))=true:=decide_eq_true (by omega);have e4:decide ((n2:Int)<57344)=true:=decide_eq_true (by omega);clear hb;go_wp2_with fail
       go_ret
       exact ⟨by first|rfl|(rw [hans];rfl),HU.out⟩
      ·(have hb:badR 65536 n2=false:=by unfold badR;rw [decide_eq_false r1,decide_eq_false r2,decide_eq_false r3];rfl);(have hans:Lib.validD (l.drop (k+4))=ANS:=by have:=Hval3.out;simp only [hb,List.drop_drop] at this;exact this);have e1:decide ((n2:Int)<65536)=false:=decide_eq_false (by omega);have e2:decide ((1114111:Int)<(n2:Int))=false:=decide_eq_false (by omega);have e3:decide ((55296:Int)<=(n2:Int))=false:=decide_eq_false (by omega);have Hn:=hid hans;clear hb hans;(go_wp2_with fail);exact ⟨⟨k+4,hle,by go_num,Hn.out,HU.out⟩,by simp only [intOf];omega⟩
      ·(have hb:badR 65536 n2=false:=by unfold badR;rw [decide_eq_false r1,decide_eq_false r2,decide_eq_true r3,decide_eq_false r4];rfl);(have hans:Lib.validD (l.drop (k+4))=ANS:=by have:=Hval3.out;simp only [hb,List.drop_drop] at this;exact this);have e1:decide ((n2:Int)<65536)=false:=decide_eq_false (by omega);have e2:decide ((1114111:Int)<(n2:Int))=false:=decide_eq_false (by omega);have e3:decide ((55296:Int)<=(n2:Int))=true:=decide_eq_true (by omega);have e4:decide ((n2:Int)<57344)=false:=decide_eq_false (by omega);have Hn:=hid hans;clear hb hans;(go_wp2_with fail);exact ⟨⟨k+4,hle,by go_num,Hn.out,HU.out⟩,by simp only [intOf];omega⟩
   ·rw [if_neg (by omega),if_neg (by omega),if_neg (by omega),if_neg (by omega),if_neg (by omega)] at hM;have d0:decide ((c:Int)<128)=false:=decide_eq_false (by omega);have d1:decide ((194:Int)<=(c:Int))=true:=decide_eq_true (by omega);have d2:decide ((c:Int)<224)=false:=decide_eq_false (by omega);have d3:decide ((224:Int)<=(c:Int))=true:=decide_eq_true (by omega);have d4:decide ((c:Int)<240)=false:=decide_eq_false (by omega);have d5:decide ((240:Int)<=(c:Int))=true:=decide_eq_true (by omega);have d6:decide ((c:Int)<245)=false:=decide_eq_false (by omega);subst hM;have hans:ANS=false:=Hval.out.symm;go_wp2_with fail
    go_ret
    exact ⟨rfl,Hu.out⟩
  ·(have hans:true=ANS:=by rw [←hval,List.drop_of_length_le (by omega)];rfl);go_wp2_with fail
   go_ret
   exact ⟨by rw [←hans];rfl,hu⟩
end Go.Proofs.YtbceccblepckhaaGreatDoor
