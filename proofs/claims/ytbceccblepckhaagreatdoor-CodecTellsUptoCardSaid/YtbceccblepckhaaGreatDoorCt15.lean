/-
  unicode/utf8.word[[]byte].
-/
import Derived.Test.YtbceccblepckhaaGreatDoorCt04
import Derived.Deep.DeepCutAuto
import Derived.Lib.ValidAsc
import Derived.Shelf.Unicode.DecodeSlow
import Derived.Lib.EndianBits
import Derived.Laws.BitsAllLaws
set_option maxHeartbeats 64000000
set_option linter.unusedVariables false
namespace Go.Proofs.YtbceccblepckhaaGreatDoor
open Go.RowKit
set_option maxRecDepth 100000
open Lib (hid)
theorem word_b (b o n cap:Nat) (u:List UInt8) (w:World) (hv:RdB All w (.slice (some ⟨b,o,none⟩) n cap) u) (h8:8<=u.length) :
  Calls Tryz.prog 134 #[.slice (some ⟨b,o,none⟩) n cap] w fun e w'=>e=.returned (.int .u64 (Lib.leNat (u.take 8)))/\∃ q,w'=w.drewN q:=by
 obtain ⟨x0,x1,x2,x3,x4,x5,x6,x7,r,rfl⟩:∃ x0 x1 x2 x3 x4 x5 x6 x7 r,u=x0::x1::x2::x3::x4::x5::x6::x7::r:=by
  match u,h8 with
  |a0::a1::a2::a3::a4::a5::a6::a7::r,_=>exact ⟨_,_,_,_,_,_,_,_,_,rfl⟩
 have hn:n=r.length+8:=by
  have:=hv.news.1;simpa using this
 have hc:=fun (i:Nat) (hi:i<(x0::x1::x2::x3::x4::x5::x6::x7::r).length)=>hv.cell hi
 have d:∀ (i:Nat) (hi:i<(x0::x1::x2::x3::x4::x5::x6::x7::r).length),w.cell? ⟨b,o+i,none⟩=some (.int .u8 ((x0::x1::x2::x3::x4::x5::x6::x7::r)[i].toNat:Int)):=fun i hi=>by
  obtain ⟨b',o',e,h⟩:=hc i hi;simp only [Option.some.injEq,Addr.mk.injEq,and_true] at e;obtain ⟨rfl,rfl⟩:=e;exact h
 have d0:=d 0 (by simp);have d1:=d 1 (by simp);have d2:=d 2 (by simp);have d3:=d 3 (by simp);have d4:=d 4 (by simp);have d5:=d 5 (by simp);have d6:=d 6 (by simp);have d7:=d 7 (by simp);simp only [List.getElem_cons_zero,List.getElem_cons_succ,Nat.add_zero] at d0 d1 d2 d3 d4 d5 d6 d7;clear d hc hv;(have q0:(0:Int)<(n:Int):=by omega);(have q1:(1:Int)<(n:Int):=by omega);(have q2:(2:Int)<(n:Int):=by omega);(have q3:(3:Int)<(n:Int):=by omega);(have q4:(4:Int)<(n:Int):=by omega);(have q5:(5:Int)<(n:Int):=by omega);(have q6:(6:Int)<(n:Int):=by omega);(have q7:(7:Int)<(n:Int):=by omega);have h0:=x0.toNat_lt;have h1:=x1.toNat_lt;have h2:=x2.toNat_lt;have h3:=x3.toNat_lt;have h4:=x4.toNat_lt;have h5:=x5.toNat_lt;have h6:=x6.toNat_lt;have h7:=x7.toNat_lt
 have Hv:=hid (show ((Lib.leNat [x0,x1,x2,x3,x4,x5,x6,x7]:Nat):Int)=(x0.toNat:Int)+(x1.toNat:Int)*256+(x2.toNat:Int)*65536+(x3.toNat:Int)*16777216+(x4.toNat:Int)*4294967296+(x5.toNat:Int)*1099511627776+(x6.toNat:Int)*281474976710656+(x7.toNat:Int)*72057594037927936 by
  simp only [Lib.leNat]
  push_cast
  omega)
 show Calls _ _ _ _ fun e w'=>e=.returned (.int .u64 (Lib.leNat [x0,x1,x2,x3,x4,x5,x6,x7]))/\_;clear hn h8
 go_enter Tryz.func134,Tryz.ntmps134
 go_wp2_with fail
 go_quiet (fail)
 go_wp2_with fail
 go_ret
 refine ⟨?_,_,rfl⟩;refine ret_int ?_;rw [Hv.out];simp (disch:=omega) only [u64_or8,u64_or16,u64_or24,u64_or32,u64_or40,u64_or48,u64_or56]
theorem u8_and7 : ∀ X:Fin 256,bits .and .u8 ((X.val:Nat):Int) 7=((X.val % 8:Nat):Int):=by decide
def Tabs (w:World):Prop:=Lib.Utf8Tabs 0 1 w
theorem Tabs.up {w w':World} (h:Tabs w) (u:Up w w'):Tabs w':=⟨fun c hc=>u.cell_some (h.1 c hc),fun i hi=>⟨u.cell_some (h.2 i hi).1,u.cell_some (h.2 i hi).2⟩⟩
def lenV : Value->Nat
 |.slice _ n _=>n
 |_=>0
theorem asc_iff {u:List UInt8} (h:8<=u.length):Lib.leNat (u.take 8) &&& 9259542123273814144=0 ↔ ∀ b∈u.take 8,b.toNat<128:=by
 (have h8:(u.take 8).length=8:=by rw [List.length_take];omega);have:=Lib.leNat_mask (u.take 8);rw [h8,Lib.maskN8] at this;exact this
theorem word_small (u:List UInt8):Lib.leNat (u.take 8)<18446744073709551616:=by
 have h:=Lib.leNat_lt (u.take 8);have h2:(256:Nat) ^ (u.take 8).length<=256 ^ 8:=Nat.pow_le_pow_right (by omega) (by rw [List.length_take];omega);omega
theorem asc_more {u:List UInt8} {a b:Nat} (h1:∀ x∈u.take a,x.toNat<128) (h2:∀ x∈(u.drop a).take b,x.toNat<128):∀ x∈u.take (a+b),x.toNat<128:=by
 intro x hx;rw [List.take_add] at hx;rcases List.mem_append.1 hx with h|h
 ·exact h1 x h
 ·exact h2 x h
theorem RdB.tail {S:Nat->Prop} {w:World} {b o n:Nat} {u:List UInt8} (h:RdB S w (.slice (some ⟨b,o,none⟩) n n) u) (k:Nat) (hk:k<=n):RdB S w (.slice (some ⟨b,o+k,none⟩) (n - k) (n - k)) (u.drop k):=RdB.drop h k hk (ao':=some ⟨b,o+k,none⟩) (fun _=>by simp [Addr.add]) rfl rfl
theorem valid_b (v:Value) (l:List UInt8) (w:World) (hv:RdB All w v l) (hT:Tabs w) :
  Calls Tryz.prog 95 #[v] w fun e w'=>e=.returned (.bool (Lib.validD l))/\Up w w':=by
 obtain ⟨ao,cap,rfl,hc1,hc2⟩:=hv.val;have Hv:=hid hv;clear hv;obtain ⟨ANS,hANS⟩:∃ ANS,Lib.validD l=ANS:=⟨_,rfl⟩;rw [hANS];have Hans:=hid hANS;clear hANS;have HT:=hid hT;clear hT
 go_enter Tryz.func95,Tryz.ntmps95
 (go_wp2_with fail);go_loopw [0] (fun s wr=>∃ (ao:Option Addr) (n:Nat) (u:List UInt8),s=.slice ao n n/\RdB All wr (.slice ao n n) u/\Lib.validD u=ANS/\u.length<=l.length/\Up w wr) (fun s _=>lenV s)
 case atStart =>
  refine ⟨ao,l.length,l,rfl,?_,Hans.out,Nat.le_refl _,Up.refl _⟩;obtain ⟨ao',cap',e,g1,g2,g3,g4⟩:=Hv.out;simp only [Value.slice.injEq] at e;obtain ⟨rfl,-,rfl⟩:=e;exact ⟨_,_,rfl,Nat.le_refl _,Nat.le_trans g1 g2,fun h=>by have:=g3 h;omega,g4⟩
 case round =>
  obtain ⟨ao,n,u,rfl,hr,hv,hlu,hu⟩:=hrel;obtain rfl:n=u.length:=hr.news.1;have Hvu:=hid hv;clear hv;have HTr:=hid (HT.out.up hu);have hlm:u.length<=9223372036854775807:=by omega
  by_cases h0:0<u.length
  ·(have h0z:(0:Int)<(u.length:Int):=by omega);obtain ⟨b,o,rfl,c0⟩:=hr.cell h0;simp only [Nat.add_zero] at c0;have hx0lt:u[0].toNat<256:=u[0].toNat_lt
   by_cases hasc:u[0].toNat<128
   ·have hascz:(u[0].toNat:Int)<128:=by omega
    have a1:∀ x∈u.take 1,x.toNat<128:=by
     intro x hx;rcases u with _|⟨y,r⟩
     ·simp at h0
     ·simp at hx hasc;subst hx;exact hasc
    (have hv1:Lib.validD (u.drop 1)=ANS:=by rw [←Lib.validD_ascii 1 u a1];exact Hvu.out);have Hu:=hid hu;clear a1 hu
    as_aux_lemma =>
    by_cases c8:8<u.length - 1
    ·have h1:=hr.tail 1 h0;(have hc8z:(8:Int)<(u.length:Int) - 1:=by omega);(have hne1:¬ u.length=1:=by omega);have hl1:(u.drop 1).length=u.length - 1:=List.length_drop;have cW:=fun W (hW:Up wr W)=>word_b b (o+1) (u.length - 1) (u.length - 1) (u.drop 1) W (h1.up stable_u8 hW) (by omega);have hlt:=word_small (u.drop 1);have hai:=asc_iff (u:=u.drop 1) (by omega);obtain ⟨A,hA⟩:∃ A,Lib.leNat ((u.drop 1).take 8)=A:=⟨_,rfl⟩;rw [hA] at hlt hai;have hand:bits .and .u64 (A:Int) 9259542123273814144=((A &&& 9259542123273814144:Nat):Int):=u64_and_nat A 9259542123273814144 hlt (by omega);obtain ⟨Z,hZ⟩:∃ Z,A &&& 9259542123273814144=Z:=⟨_,rfl⟩;rw [hZ] at hand hai;have Hr0:=hid hr;have CW:=hid cW;have H1:=hid h1;have Hai:=hid hai;simp only [hA] at CW;clear cW h1 hai hA hZ hr
     by_cases hz:Z=0
     ·(have hzb:((Z:Int)==0)=true:=by simp [hz]);(have hv2:Lib.validD (u.drop 9)=ANS:=by rw [←hv1,Lib.validD_ascii 8 (u.drop 1) (Hai.out.1 hz),List.drop_drop]);(go_wp2_with (go_at_call 134;go_must (refine (CW.out _ (Up.refl _)).mono ?_;rintro e W1 ⟨rfl,q1,rfl⟩)));have hu1:Up wr (wr.drewN q1):=Up.drewN (Up.refl _) _;generalize wr.drewN q1=wq at *;have Hu1:=hid hu1;clear hu1 hand Hai;have h2:=(Hr0.out.tail 1 h0).tail 8 (by omega);(have hv2':Lib.validD ((u.drop 1).drop 8)=ANS:=by rw [List.drop_drop];exact hv2);(have hd2:((u.drop 1).drop 8).length=u.length - 1 - 8:=by simp only [List.length_drop]);clear hv2 hv1;generalize (u.drop 1).drop 8=u2 at *;generalize o+1+8=o2 at *;(have hn2l:u.length - 1 - 8<u.length:=by omega);generalize u.length - 1 - 8=n2 at *;have Hr2:=hid h2;clear h2
      by_cases c16:16<n2
      ·(have c16z:(16:Int)<(n2:Int):=by omega);(have c8z:(8:Int)<=(n2:Int):=by omega);(have c8n:¬ n2=8:=by omega);(have c16n:¬ n2=16:=by omega);have hcA:=fun W (hW:Up wr W)=>word_b b o2 n2 n2 u2 W (Hr2.out.up stable_u8 hW) (by omega);have hcB:=fun W (hW:Up wr W)=>word_b b (o2+8) (n2 - 8) (n2 - 8) (u2.drop 8) W ((Hr2.out.tail 8 (by omega)).up stable_u8 hW) (by rw [List.length_drop];omega);have hiA:=asc_iff (u:=u2) (by omega);have hiB:=asc_iff (u:=u2.drop 8) (by rw [List.length_drop];omega);have hlA:=word_small u2;have hlB:=word_small (u2.drop 8);generalize Lib.leNat (u2.take 8)=A2 at *;generalize Lib.leNat ((u2.drop 8).take 8)=A3 at *;have hor:=u64_or_nat A2 A3 hlA hlB;have hlo:A2 ||| A3<18446744073709551616:=Nat.or_lt_two_pow (n:=64) hlA hlB;have hand:bits .and .u64 ((A2 ||| A3:Nat):Int) 9259542123273814144=(((A2 ||| A3) &&& 9259542123273814144:Nat):Int):=u64_and_nat (A2 ||| A3) 9259542123273814144 hlo (by omega);have ho:=Lib.or_mask A2 A3 9259542123273814144;generalize A2 ||| A3=O2 at *;generalize O2 &&& 9259542123273814144=Z2 at *;have Hho:=hid (fun (h:Z2=0)=>asc_more (hiA.1 (ho.1 h).1) (hiB.1 (ho.1 h).2));clear hiA hiB hlA hlB hlo ho;have c16t:decide ((16:Int)<(n2:Int))=true:=decide_eq_true c16z
       by_cases hz2:Z2=0
       ·have hz2b:((Z2:Int)==0)=true:=by simp [hz2]
        go_quiet (first|(go_at_call 134;with_reducible refine Calls.quiet_of (hcA _ (Up.drewN Hu1.out _)))|(go_at_call 134;with_reducible refine Calls.quiet_of (hcB _ (Up.drewN Hu1.out _))))
        have Hu2:=hid (Up.drewN Hu1.out nq);generalize wq.drewN nq=wp at *;clear hcA hcB hor hand;(go_wp2_with fail);have h3:=Hr2.out.tail 16 (by omega);(have hv3:Lib.validD (u2.drop 16)=ANS:=by rw [←hv2',Lib.validD_ascii 16 u2 (Hho.out hz2)]);(have hd3:(u2.drop 16).length=n2 - 16:=by rw [List.length_drop];omega);generalize u2.drop 16=u3 at *;generalize o2+16=o3 at *;(have hn3l:n2 - 16<u.length:=by omega);generalize n2 - 16=n3 at *;have Hr3:=hid h3;clear h3 Hho Hr2;(go_loopw [0] (fun s wr=>∃ (o n:Nat) (x:List UInt8),s=.slice (some ⟨b,o,none⟩) n n/\RdB All wr (.slice (some ⟨b,o,none⟩) n n) x/\Lib.validD x=ANS/\n<=n3/\Up w wr) (fun s _=>lenV s));case atStart=>exact ⟨o3,n3,u3,rfl,Hr3.out.up stable_u8 Hu2.out,hv3,Nat.le_refl _,Hu.out.trans Hu2.out⟩
        case round =>
         obtain ⟨o4,n4,u4,rfl,hr4,hv4,hn4,hu4⟩:=hrel;have hd4:=hr4.news.1.symm
         by_cases c32:32<n4
         ·(have c32z:(32:Int)<(n4:Int):=by omega);(have c8z:(8:Int)<=(n4:Int):=by omega);(have c16z:(16:Int)<=(n4:Int):=by omega);(have c24z:(24:Int)<=(n4:Int):=by omega);(have c8n:¬ n4=8:=by omega);(have c16n:¬ n4=16:=by omega);(have c24n:¬ n4=24:=by omega);(have c32n:¬ n4=32:=by omega);have hcA:=fun W (hW:Up wr W)=>word_b b o4 n4 n4 u4 W (hr4.up stable_u8 hW) (by omega);have hcB:=fun W (hW:Up wr W)=>word_b b (o4+8) (n4 - 8) (n4 - 8) (u4.drop 8) W ((hr4.tail 8 (by omega)).up stable_u8 hW) (by rw [List.length_drop];omega);have hcC:=fun W (hW:Up wr W)=>word_b b (o4+16) (n4 - 16) (n4 - 16) (u4.drop 16) W ((hr4.tail 16 (by omega)).up stable_u8 hW) (by rw [List.length_drop];omega);have hcD:=fun W (hW:Up wr W)=>word_b b (o4+24) (n4 - 24) (n4 - 24) (u4.drop 24) W ((hr4.tail 24 (by omega)).up stable_u8 hW) (by rw [List.length_drop];omega);have hiA:=asc_iff (u:=u4) (by omega);have hiB:=asc_iff (u:=u4.drop 8) (by rw [List.length_drop];omega);have hiC:=asc_iff (u:=u4.drop 16) (by rw [List.length_drop];omega);have hiD:=asc_iff (u:=u4.drop 24) (by rw [List.length_drop];omega);have hlA:=word_small u4;have hlB:=word_small (u4.drop 8);have hlC:=word_small (u4.drop 16);have hlD:=word_small (u4.drop 24);generalize Lib.leNat (u4.take 8)=B0 at *;generalize Lib.leNat ((u4.drop 8).take 8)=B1 at *;generalize Lib.leNat ((u4.drop 16).take 8)=B2 at *;generalize Lib.leNat ((u4.drop 24).take 8)=B3 at *;have ho1:=u64_or_nat B0 B1 hlA hlB;have ho2:=u64_or_nat B2 B3 hlC hlD;have lo1:B0 ||| B1<18446744073709551616:=Nat.or_lt_two_pow (n:=64) hlA hlB;have lo2:B2 ||| B3<18446744073709551616:=Nat.or_lt_two_pow (n:=64) hlC hlD;have m1:=Lib.or_mask B0 B1 9259542123273814144;have m2:=Lib.or_mask B2 B3 9259542123273814144;generalize B0 ||| B1=P1 at *;generalize B2 ||| B3=P2 at *;have ho3:=u64_or_nat P1 P2 lo1 lo2;have lo3:P1 ||| P2<18446744073709551616:=Nat.or_lt_two_pow (n:=64) lo1 lo2;have m3:=Lib.or_mask P1 P2 9259542123273814144;have hand:bits .and .u64 ((P1 ||| P2:Nat):Int) 9259542123273814144=(((P1 ||| P2) &&& 9259542123273814144:Nat):Int):=u64_and_nat (P1 ||| P2) 9259542123273814144 lo3 (by omega);generalize P1 ||| P2=O3 at *;generalize O3 &&& 9259542123273814144=Z3 at *;have Hho:=hid (fun (h:Z3=0)=>asc_more (asc_more (asc_more (hiA.1 (m1.1 (m3.1 h).1).1) (hiB.1 (m1.1 (m3.1 h).1).2)) (hiC.1 (m2.1 (m3.1 h).2).1)) (hiD.1 (m2.1 (m3.1 h).2).2));have Hr4:=hid hr4;clear hiA hiB hiC hiD hlA hlB hlC hlD lo1 lo2 lo3 m1 m2 m3 hr4
          by_cases hz3:Z3=0
          ·(have hz3b:((Z3:Int)==0)=true:=by simp [hz3]);go_wp2_with fail
           go_quiet (first|(go_at_call 134;with_reducible refine Calls.quiet_of (hcA _ (Up.drewN (Up.refl _) _)))|(go_at_call 134;with_reducible refine Calls.quiet_of (hcB _ (Up.drewN (Up.refl _) _)))|(go_at_call 134;with_reducible refine Calls.quiet_of (hcC _ (Up.drewN (Up.refl _) _)))|(go_at_call 134;with_reducible refine Calls.quiet_of (hcD _ (Up.drewN (Up.refl _) _))))
           (go_wp2_with fail);exact ⟨⟨o4+32,n4 - 32,u4.drop 32,rfl,(Hr4.out.tail 32 (by omega)).up stable_u8 (Up.drewN (Up.refl _) _),by rw [←hv4,Lib.validD_ascii 32 u4 (Hho.out hz3)],by omega,Up.drewN hu4 _⟩,by simp only [lenV];omega⟩
          ·(have hz3b:((Z3:Int)==0)=false:=by simp;omega);go_wp2_with fail
           go_quiet (first|(go_at_call 134;with_reducible refine Calls.quiet_of (hcA _ (Up.drewN (Up.refl _) _)))|(go_at_call 134;with_reducible refine Calls.quiet_of (hcB _ (Up.drewN (Up.refl _) _)))|(go_at_call 134;with_reducible refine Calls.quiet_of (hcC _ (Up.drewN (Up.refl _) _)))|(go_at_call 134;with_reducible refine Calls.quiet_of (hcD _ (Up.drewN (Up.refl _) _))))
           (go_wp2_with fail);exact ⟨⟨_,n4,u4,rfl,Hr4.out.up stable_u8 (Up.drewN (Up.refl _) _),hv4,by omega,Up.drewN hu4 _⟩,by simp only [lenV];omega⟩
         ·(have c32z:¬ ((32:Int)<(n4:Int)):=by omega);have c32b:decide ((32:Int)<(n4:Int))=false:=decide_eq_false c32z;have Hr4:=hid hr4;clear hr4;go_wp2_with fail
          go_quiet (fail)
          (go_wp2_with fail);exact ⟨⟨_,n4,u4,rfl,Hr4.out.up stable_u8 (Up.drewN (Up.refl _) _),hv4,by omega,Up.drewN hu4 _⟩,by simp only [lenV];omega⟩
       ·have hz2b:((Z2:Int)==0)=false:=by simp;omega
        go_quiet (first|(go_at_call 134;with_reducible refine Calls.quiet_of (hcA _ (Up.drewN Hu1.out _)))|(go_at_call 134;with_reducible refine Calls.quiet_of (hcB _ (Up.drewN Hu1.out _))))
        (go_wp2_with fail);exact ⟨⟨_,n2,u2,rfl,Hr2.out.up stable_u8 (Up.drewN Hu1.out _),hv2',by omega,Up.drewN (Hu.out.trans Hu1.out) _⟩,by simp only [lenV];omega⟩
      ·(have c16z:¬ ((16:Int)<(n2:Int)):=by omega);have c16b:decide ((16:Int)<(n2:Int))=false:=decide_eq_false c16z
       go_quiet (fail)
       (go_wp2_with fail);exact ⟨⟨_,n2,u2,rfl,Hr2.out.up stable_u8 (Up.drewN Hu1.out _),hv2',by omega,Up.drewN (Hu.out.trans Hu1.out) _⟩,by simp only [lenV];omega⟩
     ·(have hzb:((Z:Int)==0)=false:=by simp;omega);(go_wp2_with (go_at_call 134;go_must (refine (CW.out _ (Up.refl _)).mono ?_;rintro e W1 ⟨rfl,q1,rfl⟩)));exact ⟨⟨_,_,u.drop 1,rfl,H1.out.up stable_u8 (Up.drewN (Up.refl _) _),hv1,by omega,Up.drewN Hu.out _⟩,by simp only [lenV];omega⟩
    ·(have hc8z:¬ ((8:Int)<(u.length:Int) - 1):=by omega);have Hr:=hid hr;clear hr;(go_wp2_with fail);exact ⟨⟨_,_,u.drop 1,rfl,RdB.drop Hr.out 1 h0 (fun h=>by rw [if_neg h];rfl) rfl rfl,hv1,by rw [List.length_drop];omega,Hu.out⟩,by simp only [lenV];omega⟩
   ·(have hge:128<=u[0].toNat:=by omega);(have hascz:¬ ((u[0].toNat:Int)<128):=by omega);(have hne:u≠[]:=by rintro rfl;simp at h0);(have hgd:∀ i,(hi:i<u.length)->u.getD i 0=u[i]:=fun i hi=>by simp [List.getD_eq_getElem?_getD,hi]);have hlead:=Lib.validD_lead u hne (by rw [hgd 0 h0];exact hge);rw [hgd 0 h0] at hlead
    have Hx1:=hid (fun (h:1<u.length)=>show wr.cell? ⟨b,o+1,none⟩=some (.int .u8 ((u.getD 1 0).toNat:Int)) by
     obtain ⟨b',o',e,h'⟩:=hr.cell h;simp only [Option.some.injEq,Addr.mk.injEq,and_true] at e;obtain ⟨rfl,rfl⟩:=e;rw [hgd 1 h];exact h')
    have Hx2:=hid (fun (h:2<u.length)=>show wr.cell? ⟨b,o+2,none⟩=some (.int .u8 ((u.getD 2 0).toNat:Int)) by
     obtain ⟨b',o',e,h'⟩:=hr.cell h;simp only [Option.some.injEq,Addr.mk.injEq,and_true] at e;obtain ⟨rfl,rfl⟩:=e;rw [hgd 2 h];exact h')
    have Hx3:=hid (fun (h:3<u.length)=>show wr.cell? ⟨b,o+3,none⟩=some (.int .u8 ((u.getD 3 0).toNat:Int)) by
     obtain ⟨b',o',e,h'⟩:=hr.cell h;simp only [Option.some.injEq,Addr.mk.injEq,and_true] at e;obtain ⟨rfl,rfl⟩:=e;rw [hgd 3 h];exact h')
    have Hr:=hid hr;have Hu:=hid hu;clear hgd hne hr hu;generalize u.getD 1 0=x1 at *;generalize u.getD 2 0=x2 at *;generalize u.getD 3 0=x3 at *;generalize u[0]=x0 at *;have l1:=x1.toNat_lt;have l2:=x2.toNat_lt;have l3:=x3.toNat_lt;have hc0:=HTr.out.1 x0.toNat hx0lt;(have hXlt:Lib.firstT x0.toNat<256:=by rcases Lib.firstT_cases x0.toNat with h|h|h|h|h|h|h|h|h <;> omega);obtain ⟨X,hX⟩:∃ X,Lib.firstT x0.toNat=X:=⟨_,rfl⟩;rw [hX] at hc0 hXlt hlead;have h7:bits .and .u8 (X:Int) 7=((X % 8:Nat):Int):=u8_and7 ⟨X,hXlt⟩;(have ha0:wr.cell? ⟨1,X / 16*2,none⟩=some (.int .u8 (Lib.accLo (X / 16))):=by rw [Nat.mul_comm];exact (HTr.out.2 (X / 16) (by omega)).1);(have ha1:wr.cell? ⟨1,X / 16*2+1,none⟩=some (.int .u8 (Lib.accHi (X / 16))):=by rw [Nat.mul_comm];exact (HTr.out.2 (X / 16) (by omega)).2);generalize Lib.accLo (X / 16)=LO at *;generalize Lib.accHi (X / 16)=HI at *;obtain ⟨SZ,hSZ⟩:∃ SZ,X % 8=SZ:=⟨_,rfl⟩;rw [hSZ] at h7 hlead;have Hlead:=hid hlead;clear hX
    by_cases s2:SZ=2
    ·subst s2
     as_aux_lemma =>
     (have hbad:(u.length<2∨x1.toNat<LO∨HI<x1.toNat)->ANS=false:=fun h=>by rw [←Hvu.out,hlead];simp only [Lib.checkN,Nat.reduceEqDiff,if_true,if_false];rw [if_pos h]);(have hgood:¬ (u.length<2∨x1.toNat<LO∨HI<x1.toNat)->Lib.validD (u.drop 2)=ANS:=fun h=>by rw [←Hvu.out,hlead];simp only [Lib.checkN,Nat.reduceEqDiff,if_true,if_false];rw [if_neg h]);have Hbad:=hid hbad;have Hgood:=hid hgood;clear hbad hgood hlead
     go_upto_region 18 with (fail)
     have ha:=(blk_new wr (.cells #[.int .u8 (LO:Int),.int .u8 (HI:Int)] 190) (g:=wr.heap.size) rfl);have hua:Up wr (wr.alloc (.cells #[.int .u8 (LO:Int),.int .u8 (HI:Int)] 190)):=(Up.refl wr).alloc _;generalize wr.alloc (.cells #[.int .u8 (LO:Int),.int .u8 (HI:Int)] 190)=wa at *;have g0:=ro0 ha;have g1:=ro1 ha;have Hua:=hid hua;clear hua ha ha0 ha1 hc0 c0
     by_cases q0:u.length<2
     ·have q0z:decide ((u.length:Int)<2)=true:=decide_eq_true (by omega);have hansF:=Hbad.out (by omega)
      go_quiet (fail)
      go_wp2_with fail
      go_ret
      exact ⟨ret_bool (by first|rfl|exact hansF.symm),Up.drewN (Hu.out.trans Hua.out) _⟩
     have q0z:decide ((u.length:Int)<2)=false:=decide_eq_false (by omega);(have r1:(1:Int)<(u.length:Int):=by omega);have e1:wa.cell? ⟨b,o+1,none⟩=some (.int .u8 (x1.toNat:Int)):=Hua.out.cell_some (Hx1.out (by omega))
     by_cases q1:x1.toNat<LO
     ·have q1z:decide ((x1.toNat:Int)<(LO:Int))=true:=decide_eq_true (by omega);have hansF:=Hbad.out (by omega)
      go_quiet (fail)
      go_wp2_with fail
      go_ret
      exact ⟨ret_bool (by first|rfl|exact hansF.symm),Up.drewN (Hu.out.trans Hua.out) _⟩
     have q1z:decide ((x1.toNat:Int)<(LO:Int))=false:=decide_eq_false (by omega)
     by_cases q2:HI<x1.toNat
     ·have q2z:decide ((HI:Int)<(x1.toNat:Int))=true:=decide_eq_true (by omega);have hansF:=Hbad.out (by omega)
      go_quiet (fail)
      go_wp2_with fail
      go_ret
      exact ⟨ret_bool (by first|rfl|exact hansF.symm),Up.drewN (Hu.out.trans Hua.out) _⟩
     have q2z:decide ((HI:Int)<(x1.toNat:Int))=false:=decide_eq_false (by omega);have hvn:=Hgood.out (by omega);have hlez:(2:Int)<=(u.length:Int):=by omega
     go_quiet (fail)
     (go_wp2_with fail);exact ⟨⟨_,_,u.drop 2,rfl,RdB.drop ((Hr.out.up stable_u8 Hua.out).up stable_u8 (Up.drewN (Up.refl _) _)) 2 (by omega) (fun h=>by rw [if_neg h];rfl) rfl rfl,hvn,by rw [List.length_drop];omega,Up.drewN (Hu.out.trans Hua.out) _⟩,by simp only [lenV];omega⟩
    by_cases s3:SZ=3
    ·subst s3
     as_aux_lemma =>
     (have hbad:(u.length<3∨x1.toNat<LO∨HI<x1.toNat∨x2.toNat<128∨191<x2.toNat)->ANS=false:=fun h=>by rw [←Hvu.out,hlead];simp only [Lib.checkN,Nat.reduceEqDiff,if_true,if_false];rw [if_pos h]);(have hgood:¬ (u.length<3∨x1.toNat<LO∨HI<x1.toNat∨x2.toNat<128∨191<x2.toNat)->Lib.validD (u.drop 3)=ANS:=fun h=>by rw [←Hvu.out,hlead];simp only [Lib.checkN,Nat.reduceEqDiff,if_true,if_false];rw [if_neg h]);have Hbad:=hid hbad;have Hgood:=hid hgood;clear hbad hgood hlead
     go_upto_region 22 with (fail)
     have ha:=(blk_new wr (.cells #[.int .u8 (LO:Int),.int .u8 (HI:Int)] 190) (g:=wr.heap.size) rfl);have hua:Up wr (wr.alloc (.cells #[.int .u8 (LO:Int),.int .u8 (HI:Int)] 190)):=(Up.refl wr).alloc _;generalize wr.alloc (.cells #[.int .u8 (LO:Int),.int .u8 (HI:Int)] 190)=wa at *;have g0:=ro0 ha;have g1:=ro1 ha;have Hua:=hid hua;clear hua ha ha0 ha1 hc0 c0
     by_cases q0:u.length<3
     ·have q0z:decide ((u.length:Int)<3)=true:=decide_eq_true (by omega);have hansF:=Hbad.out (by omega)
      go_quiet (fail)
      go_wp2_with fail
      go_ret
      exact ⟨ret_bool (by first|rfl|exact hansF.symm),Up.drewN (Hu.out.trans Hua.out) _⟩
     have q0z:decide ((u.length:Int)<3)=false:=decide_eq_false (by omega);(have r1:(1:Int)<(u.length:Int):=by omega);have e1:wa.cell? ⟨b,o+1,none⟩=some (.int .u8 (x1.toNat:Int)):=Hua.out.cell_some (Hx1.out (by omega));(have r2:(2:Int)<(u.length:Int):=by omega);have e2:wa.cell? ⟨b,o+2,none⟩=some (.int .u8 (x2.toNat:Int)):=Hua.out.cell_some (Hx2.out (by omega))
     by_cases q1:x1.toNat<LO
     ·have q1z:decide ((x1.toNat:Int)<(LO:Int))=true:=decide_eq_true (by omega);have hansF:=Hbad.out (by omega)
      go_quiet (fail)
      go_wp2_with fail
      go_ret
      exact ⟨ret_bool (by first|rfl|exact hansF.symm),Up.drewN (Hu.out.trans Hua.out) _⟩
     have q1z:decide ((x1.toNat:Int)<(LO:Int))=false:=decide_eq_false (by omega)
     by_cases q2:HI<x1.toNat
     ·have q2z:decide ((HI:Int)<(x1.toNat:Int))=true:=decide_eq_true (by omega);have hansF:=Hbad.out (by omega)
      go_quiet (fail)
      go_wp2_with fail
      go_ret
      exact ⟨ret_bool (by first|rfl|exact hansF.symm),Up.drewN (Hu.out.trans Hua.out) _⟩
     have q2z:decide ((HI:Int)<(x1.toNat:Int))=false:=decide_eq_false (by omega)
     by_cases q3:x2.toNat<128
     ·have q3z:decide ((x2.toNat:Int)<128)=true:=decide_eq_true (by omega);have hansF:=Hbad.out (by omega)
      go_quiet (fail)
      go_wp2_with fail
      go_ret
      exact ⟨ret_bool (by first|rfl|exact hansF.symm),Up.drewN (Hu.out.trans Hua.out) _⟩
     have q3z:decide ((x2.toNat:Int)<128)=false:=decide_eq_false (by omega)
     by_cases q4:191<x2.toNat
     ·have q4z:decide ((191:Int)<(x2.toNat:Int))=true:=decide_eq_true (by omega);have hansF:=Hbad.out (by omega)
      go_quiet (fail)
      go_wp2_with fail
      go_ret
      exact ⟨ret_bool (by first|rfl|exact hansF.symm),Up.drewN (Hu.out.trans Hua.out) _⟩
     have q4z:decide ((191:Int)<(x2.toNat:Int))=false:=decide_eq_false (by omega);have hvn:=Hgood.out (by omega);have hlez:(3:Int)<=(u.length:Int):=by omega
     go_quiet (fail)
     (go_wp2_with fail);exact ⟨⟨_,_,u.drop 3,rfl,RdB.drop ((Hr.out.up stable_u8 Hua.out).up stable_u8 (Up.drewN (Up.refl _) _)) 3 (by omega) (fun h=>by rw [if_neg h];rfl) rfl rfl,hvn,by rw [List.length_drop];omega,Up.drewN (Hu.out.trans Hua.out) _⟩,by simp only [lenV];omega⟩
    by_cases s4:SZ=4
    ·subst s4
     as_aux_lemma =>
     (have hbad:(u.length<4∨x1.toNat<LO∨HI<x1.toNat∨x2.toNat<128∨191<x2.toNat∨x3.toNat<128∨191<x3.toNat)->ANS=false:=fun h=>by rw [←Hvu.out,hlead];simp only [Lib.checkN,Nat.reduceEqDiff,if_true,if_false];rw [if_pos h]);(have hgood:¬ (u.length<4∨x1.toNat<LO∨HI<x1.toNat∨x2.toNat<128∨191<x2.toNat∨x3.toNat<128∨191<x3.toNat)->Lib.validD (u.drop 4)=ANS:=fun h=>by rw [←Hvu.out,hlead];simp only [Lib.checkN,Nat.reduceEqDiff,if_true,if_false];rw [if_neg h]);have Hbad:=hid hbad;have Hgood:=hid hgood;clear hbad hgood hlead
     go_upto_region 26 with (fail)
     have ha:=(blk_new wr (.cells #[.int .u8 (LO:Int),.int .u8 (HI:Int)] 190) (g:=wr.heap.size) rfl);have hua:Up wr (wr.alloc (.cells #[.int .u8 (LO:Int),.int .u8 (HI:Int)] 190)):=(Up.refl wr).alloc _;generalize wr.alloc (.cells #[.int .u8 (LO:Int),.int .u8 (HI:Int)] 190)=wa at *;have g0:=ro0 ha;have g1:=ro1 ha;have Hua:=hid hua;clear hua ha ha0 ha1 hc0 c0
     by_cases q0:u.length<4
     ·have q0z:decide ((u.length:Int)<4)=true:=decide_eq_true (by omega);have hansF:=Hbad.out (by omega)
      go_quiet (fail)
      go_wp2_with fail
      go_ret
      exact ⟨ret_bool (by first|rfl|exact hansF.symm),Up.drewN (Hu.out.trans Hua.out) _⟩
     have q0z:decide ((u.length:Int)<4)=false:=decide_eq_false (by omega);(have r1:(1:Int)<(u.length:Int):=by omega);have e1:wa.cell? ⟨b,o+1,none⟩=some (.int .u8 (x1.toNat:Int)):=Hua.out.cell_some (Hx1.out (by omega));(have r2:(2:Int)<(u.length:Int):=by omega);have e2:wa.cell? ⟨b,o+2,none⟩=some (.int .u8 (x2.toNat:Int)):=Hua.out.cell_some (Hx2.out (by omega));(have r3:(3:Int)<(u.length:Int):=by omega);have e3:wa.cell? ⟨b,o+3,none⟩=some (.int .u8 (x3.toNat:Int)):=Hua.out.cell_some (Hx3.out (by omega))
     by_cases q1:x1.toNat<LO
     ·have q1z:decide ((x1.toNat:Int)<(LO:Int))=true:=decide_eq_true (by omega);have hansF:=Hbad.out (by omega)
      go_quiet (fail)
      go_wp2_with fail
      go_ret
      exact ⟨ret_bool (by first|rfl|exact hansF.symm),Up.drewN (Hu.out.trans Hua.out) _⟩
     have q1z:decide ((x1.toNat:Int)<(LO:Int))=false:=decide_eq_false (by omega)
     by_cases q2:HI<x1.toNat
     ·have q2z:decide ((HI:Int)<(x1.toNat:Int))=true:=decide_eq_true (by omega);have hansF:=Hbad.out (by omega)
      go_quiet (fail)
      go_wp2_with fail
      go_ret
      exact ⟨ret_bool (by first|rfl|exact hansF.symm),Up.drewN (Hu.out.trans Hua.out) _⟩
     have q2z:decide ((HI:Int)<(x1.toNat:Int))=false:=decide_eq_false (by omega)
     by_cases q3:x2.toNat<128
     ·have q3z:decide ((x2.toNat:Int)<128)=true:=decide_eq_true (by omega);have hansF:=Hbad.out (by omega)
      go_quiet (fail)
      go_wp2_with fail
      go_ret
      exact ⟨ret_bool (by first|rfl|exact hansF.symm),Up.drewN (Hu.out.trans Hua.out) _⟩
     have q3z:decide ((x2.toNat:Int)<128)=false:=decide_eq_false (by omega)
     by_cases q4:191<x2.toNat
     ·have q4z:decide ((191:Int)<(x2.toNat:Int))=true:=decide_eq_true (by omega);have hansF:=Hbad.out (by omega)
      go_quiet (fail)
      go_wp2_with fail
      go_ret
      exact ⟨ret_bool (by first|rfl|exact hansF.symm),Up.drewN (Hu.out.trans Hua.out) _⟩
     have q4z:decide ((191:Int)<(x2.toNat:Int))=false:=decide_eq_false (by omega)
     by_cases q5:x3.toNat<128
     ·have q5z:decide ((x3.toNat:Int)<128)=true:=decide_eq_true (by omega);have hansF:=Hbad.out (by omega)
      go_quiet (fail)
      go_wp2_with fail
      go_ret
      exact ⟨ret_bool (by first|rfl|exact hansF.symm),Up.drewN (Hu.out.trans Hua.out) _⟩
     have q5z:decide ((x3.toNat:Int)<128)=false:=decide_eq_false (by omega)
     by_cases q6:191<x3.toNat
     ·have q6z:decide ((191:Int)<(x3.toNat:Int))=true:=decide_eq_true (by omega);have hansF:=Hbad.out (by omega)
      go_quiet (fail)
      go_wp2_with fail
      go_ret
      exact ⟨ret_bool (by first|rfl|exact hansF.symm),Up.drewN (Hu.out.trans Hua.out) _⟩
     have q6z:decide ((191:Int)<(x3.toNat:Int))=false:=decide_eq_false (by omega);have hvn:=Hgood.out (by omega);have hlez:(4:Int)<=(u.length:Int):=by omega
     go_quiet (fail)
     (go_wp2_with fail);exact ⟨⟨_,_,u.drop 4,rfl,RdB.drop ((Hr.out.up stable_u8 Hua.out).up stable_u8 (Up.drewN (Up.refl _) _)) 4 (by omega) (fun h=>by rw [if_neg h];rfl) rfl rfl,hvn,by rw [List.length_drop];omega,Up.drewN (Hu.out.trans Hua.out) _⟩,by simp only [lenV];omega⟩
    have hans:ANS=false:=by
     rw [←Hvu.out,hlead];simp only [Lib.checkN];rw [if_neg s2,if_neg s3,if_neg s4]
    (have n2:((SZ:Int)==2)=false:=by rw [beq_eq_false_iff_ne];omega);(have n3:((SZ:Int)==3)=false:=by rw [beq_eq_false_iff_ne];omega);(have n4:((SZ:Int)==4)=false:=by rw [beq_eq_false_iff_ne];omega);clear hlead Hlead;go_wp2_with fail
    go_ret
    exact ⟨ret_bool (by first|rfl|exact hans.symm),Hu.out.alloc _⟩
  ·go_wp2_with fail
   go_ret
   have hnil:u=[]:=List.eq_nil_of_length_eq_zero (by omega);have hv:=Hvu.out;rw [hnil] at hv;exact ⟨ret_bool hv,hu⟩
end Go.Proofs.YtbceccblepckhaaGreatDoor
