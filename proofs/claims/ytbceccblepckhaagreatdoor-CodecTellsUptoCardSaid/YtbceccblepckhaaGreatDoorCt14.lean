/-
  codec.How, bits, pack.
  codec.back.
  pressref3.Told, Number.
  pressref1.High, Take, Num, Low.
  pressref1.One: a record's bytes.
  wire.Add of bytes of whatever length.
  Fits, of both.
-/
import Derived.Test.YtbceccblepckhaaGreatDoorCt13
set_option maxHeartbeats 1600000
set_option linter.unusedVariables false
namespace Go.Proofs.YtbceccblepckhaaGreatDoor
open Go.RowKit
set_option maxRecDepth 100000
open Lib (hid)
theorem how_c (k:Int) (w:World) :
  Calls Tryz.prog 4 #[.int .i64 k] w fun e w'=>e=.returned (.int .i64 (howC k))/\w'=w:=by
 obtain ⟨h,hh⟩:∃ h,howC k=h:=⟨_,rfl⟩;rw [hh];unfold howC at hh
 by_cases h6:k=6
 ·subst h6;subst hh
  go_enter Tryz.func4,Tryz.ntmps4
  go_wp2_with fail
  go_ret
  exact ⟨rfl,rfl⟩
 by_cases h7:k=7
 ·subst h7;subst hh
  go_enter Tryz.func4,Tryz.ntmps4
  go_wp2_with fail
  go_ret
  exact ⟨rfl,rfl⟩
 by_cases h8:k=8
 ·subst h8;subst hh
  go_enter Tryz.func4,Tryz.ntmps4
  go_wp2_with fail
  go_ret
  exact ⟨rfl,rfl⟩
 by_cases h9:k=9
 ·subst h9;subst hh
  go_enter Tryz.func4,Tryz.ntmps4
  go_wp2_with fail
  go_ret
  exact ⟨rfl,rfl⟩
 by_cases h10:k=10
 ·subst h10;subst hh
  go_enter Tryz.func4,Tryz.ntmps4
  go_wp2_with fail
  go_ret
  exact ⟨rfl,rfl⟩
 rw [if_neg h6,if_neg h7,if_neg (by simp [h8,h9,h10])] at hh;subst hh;(have b6:(k==6)=false:=by simpa using h6);(have b7:(k==7)=false:=by simpa using h7);(have b8:(k==8)=false:=by simpa using h8);(have b9:(k==9)=false:=by simpa using h9);(have b10:(k==10)=false:=by simpa using h10);clear h6 h7 h8 h9 h10
 go_enter Tryz.func4,Tryz.ntmps4
 go_wp2_with fail
 go_ret
 exact ⟨rfl,rfl⟩
theorem sgn_wrap (n:Nat) (hn:n<18446744073709551616):wrap64 (n:Int)=sgn n:=by
 unfold sgn wrap64;split <;> omega
theorem bits_c (k:Int) (n:Nat) (w:World) (hn:n<18446744073709551616) :
  Calls Tryz.prog 68 #[.int .i64 k,.int .u64 n] w fun e w'=>e=.returned (.int .u64 (toldC k n:Int))/\w'=w:=by
 by_cases h2:k=2
 ·subst h2;(have h0:-9223372036854775808<=sgn n/\sgn n<=9223372036854775807:=by unfold sgn;split <;> omega);have Hf:=hid (fold_any (sgn n) w h0.1 h0.2);have Hs:=hid (sgn_wrap n hn);clear h0
  go_enter Tryz.func68,Tryz.ntmps68
  go_wp2_with (go_at_call 121;go_must (rw [Hs.out];refine Hf.out.mono ?_;rintro e w1 ⟨rfl,rfl⟩))
  go_ret
  have e:toldC 2 n=Lib.zigzag (sgn n):=if_pos rfl;exact ⟨by rw [e];rfl,rfl⟩
 ·(have b2:(k==2)=false:=by simpa using h2);(have ht:toldC k n=n:=by unfold toldC;rw [if_neg h2]);rw [ht]
  go_enter Tryz.func68,Tryz.ntmps68
  go_wp2_with fail
  go_ret
  exact ⟨rfl,rfl⟩
theorem told_64 {k:Int} {n:Nat} (hn:n<18446744073709551616):toldC k n<18446744073709551616:=by
 unfold toldC;split
 ·(have h0:-9223372036854775808<=sgn n/\sgn n<=9223372036854775807:=by unfold sgn;split <;> omega);unfold Lib.zigzag;split <;> omega
 ·exact hn
theorem told_right {k:Int} {n:Nat} (num:Int) (h1:1<=num) (h2:num<536870912) (hk:howC k≠2) (h7:k=7->n<4294967296):wrongRec ⟨num,howC k,toldC k n,[]⟩=0:=by
 have hh:howC k=0∨howC k=1∨howC k=5:=by
  unfold howC at hk ⊢
  by_cases h6:k=6
  ·rw [if_pos h6];omega
  by_cases g:k=7
  ·rw [if_neg h6,if_pos g];omega
  rw [if_neg h6,if_neg g] at hk ⊢;split at hk
  ·exact absurd rfl hk
  ·left;rw [if_neg (by assumption)]
 have h5:howC k=5->toldC k n<4294967296:=by
  intro h
  have e:k=7:=by
   unfold howC at h
   by_cases h6:k=6
   ·rw [if_pos h6] at h;cases h
   by_cases g:k=7
   ·exact g
   rw [if_neg h6,if_neg g] at h;split at h <;> cases h
  subst e;have:=h7 rfl;unfold toldC;rw [if_neg (by decide)];exact this
 generalize howC k=hw at *;generalize toldC k n=b at *;unfold wrongRec;simp only;rw [if_pos (by omega),if_neg (by omega),if_neg (by intro h;rcases h with h|h|⟨h,g⟩ <;> first|omega|(have:=h5 h;omega)),if_neg (by simp;omega)]
theorem rdB_tail1 {w2:World} {a2:Option Addr} {c2:Nat} {ob Y:List UInt8} (h0:0<ob.length) (hY:ob.drop 1=Y) (h:RdB All w2 (.slice a2 ob.length c2) ob):Y.length=ob.length - 1/\((if c2=1 then a2 else a2.map (·.add 1))=none->ob.length - 1=0/\c2 - 1=0)/\(∀ ad,(if c2=1 then a2 else a2.map (·.add 1))=some ad->∀ j u,(B8 Y)[j]? = some u->w2.cell? (ad.add j)=some u)/\(B8 Y).length=(ob.length - 1)*1:=by
 have h1:=RdB.drop h 1 (by omega) (ao':=if c2=1 then a2 else a2.map (·.add 1)) (fun g=>by rw [if_neg g]) rfl rfl;rw [hY] at h1;obtain ⟨g1,g2,g3⟩:=RdB.news h1;exact ⟨g1.symm,g2,g3,by simp [B8,g1]⟩
theorem pack_c (kind:Int) (v:Value) (l:List Nat) (w:World) (hk2:howC kind≠2) (hn:∀ n∈l,n<18446744073709551616/\(kind=7->n<4294967296)) (hll:(packC kind l).length<=1099511627776) (hv:RdS DU64 1 All w v l) :
  Calls Tryz.prog 67 #[.int .i64 kind,v] w fun e w'=>∃ v',e=.returned v'/\w'.ownsRow w.heap.size 5 1 v' (packC kind l).length (B8 (packC kind l))/\Up w w':=by
 obtain ⟨ao,cap,rfl,hc1,hc2⟩:=hv.val;have Hv:=hid hv;clear hv;have Hn:=hid hn;clear hn;have Hk2:=hid hk2;clear hk2;have Hll:=hid hll;clear hll
 go_enter Tryz.func67,Tryz.ntmps67
 go_wp2_with fail
 go_loopw [5,10] (fun o i wr=>∃ k:Nat,k<=l.length/\i=.int .i64 k/\wr.ownsRow w.heap.size 5 1 o (packC kind (l.take k)).length (B8 (packC kind (l.take k)))/\Up w wr)
  (fun _ i _=>l.length - (intOf i).toNat)
 case atStart=>exact ⟨0,by omega,rfl,World.ownsRow_nil _ _ _ _,Up.refl w⟩
 case round =>
  obtain ⟨k,hk,rfl,how,hu⟩:=hrel;have How:=hid how;clear how
  by_cases hlt:k<l.length
  ·obtain ⟨b,o,cs,rfl,_,_,hcs,hd⟩:=(Hv.out.up stable_u64 hu).at hlt;obtain ⟨hd,_⟩:=hd;subst hd;have n0:=hcs 0 _ rfl;simp only [Nat.add_zero,Nat.mul_one] at n0;have hmem:=Hn.out _ (List.getElem_mem hlt)
   have hpk:packC kind (l.take (k+1))=packC kind (l.take k)++(oneB ⟨1,howC kind,toldC kind l[k],[]⟩).drop 1:=by
    rw [List.take_succ_eq_append_getElem hlt,packC,packC,List.flatMap_append];simp
   have hle:(packC kind (l.take (k+1))).length<=1099511627776:=by
    refine Nat.le_trans ?_ Hll.out;(have:packC kind l=packC kind (l.take (k+1))++packC kind (l.drop (k+1)):=by rw [packC,packC,packC,←List.flatMap_append,List.take_append_drop]);rw [this,List.length_append];omega
   have Hpk:=hid hpk;clear hpk;have Hle:=hid hle;clear hle;have Hu:=hid hu;clear hu hcs;generalize l[k]=n at *;have hbt:=hid (bits_c kind n wr hmem.1);have hht:=hid (how_c kind wr);have Hr:=hid (told_right (n:=n) 1 (by omega) (by omega) Hk2.out hmem.2);have Hb:=hid (told_64 (k:=kind) hmem.1);clear hmem;generalize howC kind=hw at *;generalize toldC kind n=bt at *;have hop:=oneB_pos ⟨1,hw,bt,[]⟩;obtain ⟨ob,hob⟩:∃ ob,oneB ⟨1,hw,bt,[]⟩=ob:=⟨_,rfl⟩;rw [hob] at hop;obtain ⟨Y,hY⟩:∃ Y,ob.drop 1=Y:=⟨_,rfl⟩;(have hM:ob.length - 1=Y.length:=by rw [←hY,List.length_drop]);have HM:=hid hM;clear hM;have HY:=hid hY;clear hY;have Hob:=hid hob;clear hob;have HL:=hid (show (packC kind (l.take k)).length+(ob.length - 1)<=1099511627776 by have h:=Hle.out;rw [Hpk.out,Hob.out,HY.out,List.length_append] at h;rw [HM.out];exact h)
   go_wp2_with (first
    |(go_at_call 4;go_must (refine hht.out.mono ?_;rintro e w1 ⟨rfl,rfl⟩))
    |(go_at_call 68;go_must (refine hbt.out.mono ?_;rintro e w1 ⟨rfl,rfl⟩))
    |(go_at_call 31;go_must (refine (add_own _ (.slice none 0 0) [] ⟨1,hw,bt,[]⟩ (.slice none 0 0) _ (rdB_nil _ _) Hr.out Hb.out (by simp) (World.ownsRow_nil _ _ _ _) (Nat.le_refl _)).mono ?_;rintro e w2 ⟨v2,rfl,how2,hev2⟩;rw [List.nil_append,Hob.out] at how2;have hr2:=rdB_of_owns (S:=All) how2 (fun _ _=>trivial);obtain ⟨a2,c2,rfl,hx1,hx2⟩:=hr2.val;have Hr2:=hid hr2;have How2:=hid how2;have HN:=hid (rdB_tail1 hop HY.out hr2);have hz2:=hev2.grown.size;have hz1:=Hu.out.size;have HZ:=hid (Nat.le_trans hz1 hz2);have Hev2:=hid hev2;clear hr2 how2 hev2 hz1 hz2))
    |(at_builtin;go_must (refine wpList_app eU8 _ (by rfl) _ _ (by rfl) w.heap.size _ _ _ (by rfl) (How.out.kept Hev2.out.grown (Classical.em _)) _ _ _ (by rfl) (B8 Y) HN.out.2.2.2 HN.out.2.1 HN.out.2.2.1 (B8_one _) (by have:=HL.out;omega) (by have:=HL.out;unfold maxLen;omega) HZ.out ?_;intro v3 w3 how3 hev3)))
   go_roundw
   case rel =>
    refine ⟨k+1,by omega,by go_num,?_,(Hu.out.evo Hev2.out (fun j hj=>nomatch hj)).evo hev3 (fun j hj=>(How.out.lt j hj).1)⟩;rw [Hpk.out,Hob.out,HY.out,List.length_append,B8_append,←HM.out];exact how3
   case measure=>simp [intOf];omega
  ·go_wp2_with fail
   go_ret
   have:l.take k=l:=List.take_of_length_le (by omega);have h:=How.out;rw [this] at h;exact ⟨_,rfl,h,hu⟩
theorem ret_u64 {a b:Int} (h:a=b):Ending.returned (.int .u64 a)=Ending.returned (.int .u64 b):=by rw [h]
theorem back_c (k:Int) (n:Nat) (w:World) (hn:n<18446744073709551616) :
  Calls Tryz.prog 133 #[.int .i64 k,.int .u64 n] w fun e w'=>e=.returned (.int .u64 (backC k n:Int))/\w'=w:=by
 by_cases h2:k=2
 ·subst h2;have e:backC 2 n=usg (unzig n):=if_pos rfl;rw [e];have Ho:=hid (open_any n w hn)
  go_enter Tryz.func133,Tryz.ntmps133
  go_wp2_with (go_at_call 146;go_must (refine Ho.out.mono ?_;rintro e w1 ⟨rfl,rfl⟩))
  all_goals
   go_ret
   refine ⟨ret_u64 ?_,rfl⟩;rw [IntKind.wrap_u64];unfold usg unzig;split <;> split <;> omega
 by_cases h4:k=4
 ·subst h4;(have e:backC 4 n=min n 1:=by unfold backC;rw [if_neg (by decide),if_pos rfl]);rw [e]
  go_enter Tryz.func133,Tryz.ntmps133
  go_wp2_with fail
  all_goals
   go_ret
   refine ⟨ret_u64 ?_,rfl⟩;omega
 by_cases h5:k=5
 ·subst h5;(have e:backC 5 n=(if n % 4294967296<2147483648 then n % 4294967296 else n % 4294967296+18446744069414584320):=by unfold backC;rw [if_neg (by decide),if_neg (by decide),if_pos rfl]);rw [e]
  go_enter Tryz.func133,Tryz.ntmps133
  go_wp2_with fail
  all_goals
   go_ret
   refine ⟨ret_u64 ?_,rfl⟩;rw [IntKind.wrap_u64];unfold wrap64 wrap32;omega
 (have b2:(k==2)=false:=by simpa using h2);(have b4:(k==4)=false:=by simpa using h4);(have b5:(k==5)=false:=by simpa using h5);(have e:backC k n=n:=by unfold backC;rw [if_neg h2,if_neg h4,if_neg h5]);rw [e];clear h2 h4 h5
 go_enter Tryz.func133,Tryz.ntmps133
 go_wp2_with fail
 go_ret
 exact ⟨rfl,rfl⟩
theorem told_r (k:Int) (n:Nat) (w:World) (hn:n<18446744073709551616) :
  Calls Tryz.prog 79 #[.int .i64 k,.int .u64 n] w fun e w'=>e=.returned (.int .u64 (toldC k n:Int))/\w'=w:=by
 by_cases h2:k=2
 ·subst h2;(have h0:-9223372036854775808<=sgn n/\sgn n<=9223372036854775807:=by unfold sgn;split <;> omega);have Hf:=hid (fold_r (sgn n) w h0.1 h0.2);have Hs:=hid (sgn_wrap n hn);clear h0
  go_enter Tryz.func79,Tryz.ntmps79
  go_wp2_with (go_at_call 125;go_must (rw [Hs.out];refine Hf.out.mono ?_;rintro e w1 ⟨rfl,rfl⟩))
  go_ret
  have e:toldC 2 n=Lib.zigzag (sgn n):=if_pos rfl;exact ⟨by rw [e];rfl,rfl⟩
 ·(have b2:(k==2)=false:=by simpa using h2);(have ht:toldC k n=n:=by unfold toldC;rw [if_neg h2]);rw [ht]
  go_enter Tryz.func79,Tryz.ntmps79
  go_wp2_with fail
  go_ret
  exact ⟨rfl,rfl⟩
theorem number_r (k:Int) (n:Nat) (w:World) (hn:n<18446744073709551616) :
  Calls Tryz.prog 110 #[.int .i64 k,.int .u64 n] w fun e w'=>e=.returned (.int .u64 (backC k n:Int))/\w'=w:=by
 by_cases h2:k=2
 ·subst h2;have e:backC 2 n=usg (unzig n):=if_pos rfl;rw [e];have Ho:=hid (open_r n w hn)
  go_enter Tryz.func110,Tryz.ntmps110
  go_wp2_with (go_at_call 142;go_must (refine Ho.out.mono ?_;rintro e w1 ⟨rfl,rfl⟩))
  all_goals
   go_ret
   refine ⟨ret_u64 ?_,rfl⟩;rw [IntKind.wrap_u64];unfold usg unzig;split <;> split <;> omega
 by_cases h4:k=4
 ·subst h4;(have e:backC 4 n=min n 1:=by unfold backC;rw [if_neg (by decide),if_pos rfl]);rw [e]
  go_enter Tryz.func110,Tryz.ntmps110
  go_wp2_with fail
  all_goals
   go_ret
   refine ⟨ret_u64 ?_,rfl⟩;omega
 by_cases h5:k=5
 ·subst h5;(have e:backC 5 n=(if n % 4294967296<2147483648 then n % 4294967296 else n % 4294967296+18446744069414584320):=by unfold backC;rw [if_neg (by decide),if_neg (by decide),if_pos rfl]);rw [e]
  go_enter Tryz.func110,Tryz.ntmps110
  go_wp2_with fail
  all_goals
   go_ret
   refine ⟨ret_u64 ?_,rfl⟩;simp only at*<;> omega
 (have b2:(k==2)=false:=by simpa using h2);(have b4:(k==4)=false:=by simpa using h4);(have b5:(k==5)=false:=by simpa using h5);(have e:backC k n=n:=by unfold backC;rw [if_neg h2,if_neg h4,if_neg h5]);rw [e];clear h2 h4 h5
 go_enter Tryz.func110,Tryz.ntmps110
 go_wp2_with fail
 go_ret
 exact ⟨rfl,rfl⟩
theorem lowVal_drop (l:List UInt8) (k:Nat) (h:k<l.length):lowVal (l.drop k)=l[k].toNat+256*lowVal (l.drop (k+1)):=by
 rw [List.drop_eq_getElem_cons h,lowVal]
theorem lowVal_8 (l:List UInt8) (h:l.length<=8):lowVal l<18446744073709551616:=by
 have h1:=lowVal_lt l;have h2:2 ^ (8*l.length)<=2 ^ 64:=Nat.pow_le_pow_right (by decide) (by omega);omega
theorem high_r (v:Value) (l:List UInt8) (w:World) (hv:RdB All w v l) (hl:l.length<=8) :
  Calls Tryz.prog 108 #[v] w fun e w'=>e=.returned (.int .u64 (lowVal l:Int))/\w'=w:=by
 obtain ⟨ao,cap,rfl,hc1,hc2⟩:=hv.val
 go_enter Tryz.func108,Tryz.ntmps108
 go_wp2_with fail
 go_loop [3,4] (fun n i=>∃ j:Nat,j<=l.length/\i=.int .i64 ((j:Int) - 1)/\n=.int .u64 (lowVal (l.drop j))) (fun _ i=>(intOf i+1).toNat)
 case atStart=>exact ⟨l.length,Nat.le_refl _,rfl,by simp [lowVal]⟩
 case round =>
  obtain ⟨j,hj,rfl,rfl⟩:=hrel
  by_cases hlt:0<j
  ·obtain ⟨i,rfl⟩:∃ i,j=i+1:=⟨j - 1,by omega⟩;obtain ⟨b,o,rfl,hcell⟩:=RdB.cell hv (i:=i) (by omega);have hs:=lowVal_drop l i (by omega);have h8:=lowVal_8 (l.drop i) (by simp;omega);have hc256:(l[i]'(by omega)).toNat<256:=UInt8.toNat_lt _;generalize l[i]'(by omega)=c at *;generalize lowVal (l.drop (i+1))=a at *;(have e1:((i+1:Nat):Int) - 1=(i:Int):=by omega);rw [e1];(have i0:(0:Int)<=(i:Int):=by omega);have i1:(i:Int)<(l.length:Int):=by omega
   have ew:IntKind.u64.wrap (IntKind.u64.wrap (256*(a:Int))+(c.toNat:Int))=(lowVal (l.drop i):Int):=by
    rw [IntKind.wrap_u64,IntKind.wrap_u64,hs];omega
   have Hs:=hid ew;clear hs h8 ew e1;go_wp2_with fail
   go_round
   (case rel=>exact ⟨i,by omega,by go_num,by rw [←Hs.out]⟩);case measure=>simp [intOf]
  ·(obtain rfl:j=0:=by omega);(have e0:¬ ((0:Int)<=((0:Nat):Int) - 1):=by omega);go_wp2_with fail
   go_ret
   exact ⟨by simp,rfl⟩
theorem tup3 {a a' b b' c c':Int} (h1:a=a') (h2:b=b') (h3:c=c'):Ending.returned (.tuple #[.int .u64 a,.int .i64 b,.int .i64 c])=Ending.returned (.tuple #[.int .u64 a',.int .i64 b',.int .i64 c']):=by rw [h1,h2,h3]
def takeC (l:List UInt8) (at_:Nat):Nat × Nat × Int:=if (get (l.drop at_)).2.2=0 then ((get (l.drop at_)).1,at_+(get (l.drop at_)).2.1,0) else (0,0,(get (l.drop at_)).2.2)
theorem take_r (v:Value) (l:List UInt8) (at_:Nat) (w:World) (hv:RdB All w v l) (hat:at_<=l.length) :
  Calls Tryz.prog 107 #[v,.int .i64 at_] w fun e w'=>e=.returned (.tuple #[.int .u64 ((takeC l at_).1:Int),.int .i64 ((takeC l at_).2.1:Int),.int .i64 (takeC l at_).2.2])/\w'=w:=by
 obtain ⟨ao,cap,rfl,hc1,hc2⟩:=hv.val;obtain ⟨RES,hRES⟩:∃ RES,takeC l at_=RES:=⟨_,rfl⟩;rw [hRES];have HR:=hid (show ∀ n m e,get (l.drop at_)=(n,m,e)->(if e=0 then (n,at_+m,0) else (0,0,e))=RES from fun n m e h=>by rw [←hRES];unfold takeC;rw [h]);clear hRES
 go_enter Tryz.func107,Tryz.ntmps107
 go_wp2_with fail
 go_loop [7,8] (fun n i=>∃ k a:Nat,at_+k<=l.length/\k<=9/\i=.int .i64 k/\n=.int .u64 a/\a<2 ^ (7*k)/\getF k a (l.drop (at_+k))=get (l.drop at_)) (fun _ i=>l.length - (intOf i).toNat)
 case atStart=>exact ⟨0,0,by omega,by omega,rfl,rfl,by simp,rfl⟩
 case round =>
  obtain ⟨k,a,hk,hk9,rfl,rfl,ha,hg⟩:=hrel
  by_cases hlt:at_+k<l.length
  ·obtain ⟨b,o,rfl,hcell⟩:=hv.cell hlt;have hd:l.drop (at_+k)=l[at_+k]::l.drop (at_+k+1):=List.drop_eq_getElem_cons hlt;have hc256:l[at_+k].toNat<256:=UInt8.toNat_lt _;generalize l[at_+k]=c at *;rw [hd,getF] at hg;(have i0:(0:Int)<=(at_:Int)+(k:Int):=by omega);have i1:(at_:Int)+(k:Int)<(l.length:Int):=by omega
   by_cases h9:k=9/\1<c.toNat
   ·obtain ⟨rfl,h1⟩:=h9;rw [if_pos ⟨rfl,h1⟩] at hg;have Hg:=hid (HR.out _ _ _ hg.symm);clear hg hd ha;go_wp2_with fail
    go_ret3
    rw [←Hg.out];exact ⟨rfl,rfl⟩
   ·have hl:=get_lt k c.toNat hc256 hk9 (by omega);have hs:=get_step a k c.toNat ha;rw [if_neg h9] at hg
    have hsum:a+c.toNat % 128*2 ^ (7*k)<18446744073709551616:=by
     by_cases h9':k=9
     ·subst h9';(have hc1:c.toNat % 128<=1:=by omega);have:=Nat.mul_le_mul_right (2 ^ (7*9)) hc1;omega
     ·have:2 ^ (7*(k+1))<=2 ^ 63:=Nat.pow_le_pow_right (by decide) (by omega);omega
    have hb:IntKind.u64.wrap ((a:Int)+IntKind.u64.wrap ((c.toNat:Int) % 128*2 ^ (7*k)))=((a+c.toNat % 128*2 ^ (7*k):Nat):Int):=by
     (have e:(c.toNat:Int) % 128*2 ^ (7*k)=((c.toNat % 128*2 ^ (7*k):Nat):Int):=by simp);rw [e];generalize c.toNat % 128*2 ^ (7*k)=q at *;rw [IntKind.wrap_u64,IntKind.wrap_u64];omega
    have Hb:=hid hb;have Hs:=hid hs;have Hg:=hid hg;have Hsum:=hid hsum;(have h91:k=9->c.toNat<=1:=by omega);clear hb hs hg hl ha h9 hd hsum
    by_cases h128:c.toNat<128
    ·have e128:c.toNat % 128=c.toNat:=Nat.mod_eq_of_lt h128;have hg:=Hg.out;rw [if_pos h128] at hg;have hres:=HR.out _ _ _ hg.symm;rw [if_pos rfl] at hres;subst hres;clear hg;have E128:=hid e128;clear e128
     by_cases h9:k=9
     ·have h1:=h91 h9;subst h9;clear h91;go_wp2_with fail
      go_ret3
      refine ⟨tup3 ?_ ?_ ?_,rfl⟩
      ·have hb:=Hb.out;have hq:=Hsum.out;rw [E128.out] at hb hq;rw [IntKind.wrap_u64];omega
      ·omega
      ·rfl
     ·(have h9b:((k:Int)==9)=false:=by rw [beq_eq_false_iff_ne];omega);clear h91 h9;go_wp2_with fail
      go_ret3
      refine ⟨tup3 ?_ ?_ ?_,rfl⟩
      ·have hb:=Hb.out;rw [hb,E128.out];simp
      ·omega
      ·rfl
    ·(have h9:k≠9:=by omega);(have h9b:((k:Int)==9)=false:=by rw [beq_eq_false_iff_ne];omega);clear h91;go_wp2_with fail
     go_round
     case rel =>
      have hg:=Hg.out;rw [if_neg h128] at hg;exact ⟨k+1,_,by omega,by omega,by go_num,by rw [Hb.out],Hs.out,hg⟩
     case measure=>simp [intOf];omega
  ·rw [List.drop_eq_nil_of_le (by omega),getF] at hg;have Hg:=hid (HR.out _ _ _ hg.symm);clear hg ha;go_wp2_with fail
   go_ret3
   rw [←Hg.out];exact ⟨rfl,rfl⟩
theorem num_r (x:Nat) (w:World) (hx:x<18446744073709551616) :
  Calls Tryz.prog 77 #[.int .u64 x] w fun e w'=>∃ v',e=.returned v'/\w'.ownsRow w.heap.size 5 1 v' (Lib.uvarint x).length (B8 (Lib.uvarint x))/\Up w w':=by
 have Hx:=hid hx;clear hx
 go_enter Tryz.func77,Tryz.ntmps77
 go_wp2_with fail
 go_loopw [0,3] (fun y s wr=>∃ (d:List UInt8) (z:Nat),z<18446744073709551616/\y=.int .u64 z/\d++Lib.uvarint z=Lib.uvarint x/\wr.ownsRow w.heap.size 5 1 s d.length (B8 d)/\Up w wr)
  (fun y _ _=>(intOf y).toNat)
 case atStart=>exact ⟨[],x,Hx.out,rfl,rfl,World.ownsRow_nil _ _ _ _,Up.refl _⟩
 case round =>
  obtain ⟨d,z,hz,rfl,hd,how,hu⟩:=hrel
  have hdl:d.length<=10:=by
   have h1:=congrArg List.length hd;have h2:=Lib.uvarint_length64 Hx.out;simp only [List.length_append] at h1;omega
  have hsz:w.heap.size<=wr.heap.size:=hu.size;have Hz:=hid hz;clear hz;have Hd:=hid hd;clear hd;have Hu:=hid hu;clear hu
  by_cases h128:z<128
  ·go_wp2_with (at_builtin;go_loud (refine wpList_app_one eU8 wr rfl _ _ rfl w.heap.size _ _ _ rfl how rfl rfl (by intro u hu;simp at hu;subst hu;rfl) (by omega) (by unfold maxLen;omega) (by omega) ?_);intro v1 w1 how1 (hev1:Evo wr w1 u3 v1))
   go_ret
   refine ⟨v1,rfl,?_,Hu.out.evo hev1 (fun j hj=>(how.lt j hj).1)⟩;rw [←Hd.out,Lib.uvarint_small h128];rw [put_last z h128] at how1;simpa [B8] using how1
  ·(have hq:IntKind.u64.wrap ((z:Int) / 128)=((z / 128:Nat):Int):=by have:=Hz.out;rw [IntKind.wrap_u64];omega);go_wp2_with (at_builtin;go_loud (refine wpList_app_one eU8 wr rfl _ _ rfl w.heap.size _ _ _ rfl how rfl rfl (by intro u hu;simp at hu;subst hu;rfl) (by omega) (by unfold maxLen;omega) (by omega) ?_);intro v1 w1 how1 (hev1:Evo wr w1 u3 v1))
   go_roundw
   case rel =>
    refine ⟨d++[(z % 128+128).toUInt8],z / 128,by have:=Hz.out;omega,by go_num,?_,?_,Hu.out.evo hev1 (fun j hj=>(how.lt j hj).1)⟩
    ·rw [←Hd.out,Lib.uvarint_big (x:=z) (by omega)];simp
    ·(have e:(z:Int) % 128+128=(((z % 128+128).toUInt8.toNat:Nat):Int):=by rw [toNat_toUInt8 (by omega)];omega);rw [e] at how1;simpa [B8] using how1
   case measure=>simp [intOf];omega
theorem lowB_snoc : ∀ (k n:Nat),lowB (k+1) n=lowB k n++[(n / 2 ^ (8*k)).toUInt8]
 |0,n=>by simp [lowB]
 |k+1,n=>by
  have h:=lowB_snoc k (n / 256);rw [lowB,h,lowB,List.cons_append]
  have e:n / 256 / 2 ^ (8*k)=n / 2 ^ (8*(k+1)):=by
   rw [Nat.div_div_eq_div_mul,show 8*(k+1)=8+8*k by omega,Nat.pow_add]
  rw [e]
theorem low_r (n k:Nat) (w:World) (hn:n<18446744073709551616) (hk:k<=8) :
  Calls Tryz.prog 78 #[.int .u64 n,.int .i64 k] w fun e w'=>∃ v',e=.returned v'/\w'.ownsRow w.heap.size 5 1 v' (lowB k n).length (B8 (lowB k n))/\Up w w':=by
 go_enter Tryz.func78,Tryz.ntmps78
 go_wp2_with fail
 go_loopw [5,6] (fun s i wr=>∃ (j:Nat),j<=k/\i=.int .i64 j/\wr.ownsRow w.heap.size 5 1 s j (B8 (lowB j n))/\Up w wr)
  (fun _ i _=>k - (intOf i).toNat)
 case atStart=>exact ⟨0,by omega,rfl,World.ownsRow_nil _ _ _ _,Up.refl _⟩
 case round =>
  obtain ⟨j,hj,rfl,how,hu⟩:=hrel;have hsz:w.heap.size<=wr.heap.size:=hu.size;have Hu:=hid hu;clear hu
  by_cases hlt:j<k
  ·have hs:=lowB_snoc j n;have Hs:=hid hs;clear hs;go_wp2_with (at_builtin;go_loud (refine wpList_app_one eU8 wr rfl _ _ rfl w.heap.size _ _ _ rfl how rfl rfl (by intro u hu;simp at hu;subst hu;rfl) (by omega) (by unfold maxLen;omega) (by omega) ?_);intro v1 w1 how1 (hev1:Evo wr w1 u5 v1))
   go_roundw
   case rel =>
    refine ⟨j+1,by omega,by go_num,?_,Hu.out.evo hev1 (fun j hj=>(how.lt j hj).1)⟩;rw [Hs.out]
    have e:(n:Int) / 2 ^ (8*j) % 256=(((n / 2 ^ (8*j)).toUInt8.toNat:Nat):Int):=by
     (have e2:(n:Int) / 2 ^ (8*j)=((n / 2 ^ (8*j):Nat):Int):=by simp);rw [e2];generalize n / 2 ^ (8*j)=q;simp only [Nat.toUInt8_eq,UInt8.toNat_ofNat'];omega
    rw [e] at how1;simpa [B8] using how1
   case measure=>simp [intOf];omega
  ·go_wp2_with fail
   go_ret
   (obtain rfl:j=k:=by omega);refine ⟨_,rfl,?_,Hu.out⟩;rw [lowB_length];exact how
theorem own_news {w:World} {base:Nat} {e:TypeId} {v:Value} {l:List UInt8} (how:w.ownsRow base e 1 v l.length (B8 l)):∃ ao c,v=.slice ao l.length c/\(ao=none->l.length=0/\c=0)/\∀ ad,ao=some ad->∀ j u,(B8 l)[j]? = some u->w.cell? (ad.add j)=some u:=by
 have h:=rdB_of_owns (S:=All) how (fun _ _=>trivial);obtain ⟨ao,c,rfl,_,_⟩:=h.val;have:=RdB.news h;exact ⟨ao,c,rfl,this.2.1,this.2.2⟩
theorem num_eq (x:Int) (n:Nat) (w:World) (e:x=n) (hx:n<18446744073709551616) :
  Calls Tryz.prog 77 #[.int .u64 x] w fun e w'=>∃ v',e=.returned v'/\w'.ownsRow w.heap.size 5 1 v' (Lib.uvarint n).length (B8 (Lib.uvarint n))/\Up w w':=by
 subst e;exact num_r n w hx
theorem one_r (r:Rec) (vb:Value) (w:World) (hv:RdB All w vb r.bytes) (n1:0<=r.number) (n2:r.number<536870912) (hh:r.how=0∨r.how=1∨r.how=5∨r.how=2) (hb64:r.bits<18446744073709551616) (hl:r.bytes.length<=1099511627776) :
  Calls Tryz.prog 33 #[.agg #[.int .i64 r.number,.int .i64 r.how,.int .u64 (r.bits:Int),vb]] w fun e w'=>∃ v',e=.returned v'/\w'.ownsRow w.heap.size 5 1 v' (oneB r).length (B8 (oneB r))/\Up w w':=by
 obtain ⟨ao,cap,rfl,hc1,hc2⟩:=hv.val;obtain ⟨number,how,bits,bytes⟩:=r;simp only at *;have htl:=tagB_length number.toNat how.toNat (by omega) (by omega);(have hts:8*number+how=((8*number.toNat+how.toNat:Nat):Int):=by omega);have Hts:=hid hts;have Hv:=hid hv;have Hb64:=hid hb64;clear hv hb64 hts;obtain ⟨RES,hRES⟩:∃ RES,oneB ⟨number,how,bits,bytes⟩=RES:=⟨_,rfl⟩;rw [hRES];unfold oneB at hRES;simp only at hRES;have HR:=hid hRES;clear hRES;have hbx:=blk_new w (.cells #[.int .i64 number,.int .i64 how,.int .u64 (bits:Int),.slice ao bytes.length cap] 87) rfl
 go_enter Tryz.func33,Tryz.ntmps33
 (go_wp2_with fail);refine (num_eq _ (8*number.toNat+how.toNat) _ Hts.out (by omega)).mono ?_;rintro e w1 ⟨v1,rfl,how1,hu1⟩;have hblk:=hu1.blk hbx;have c1:=ro1 hblk;have c2:=ro2 hblk;have c3:=ro3 hblk;have hs1:w.heap.size<w1.heap.size:=lt_of_block hblk;have Hu1:=hid (((Up.refl w).alloc _).trans hu1);(have hlo:∀ k,v1.ownBlock=some k->w.heap.size+1<=k:=fun k hk=>by have:=(how1.lt k hk).1;simpa using this);have Hlo:=hid hlo;rw [show (w.alloc (.cells #[.int .i64 number,.int .i64 how,.int .u64 (bits:Int),.slice ao bytes.length cap] 87)).heap.size=w.heap.size+1 by simp] at how1;have How1:=hid how1;have Hblk:=hid hblk;clear how1 hu1 hblk hbx hlo
 have Hfin:=hid (fun (wz:World) (v:Value) (d:List UInt8) (h:wz.ownsRow (w.heap.size+1) 5 1 v ((tagB number.toNat how.toNat).length+d.length) (B8 (tagB number.toNat how.toNat)++B8 d)) (hd:tagB number.toNat how.toNat++d=RES)=>show wz.ownsRow w.heap.size 5 1 v RES.length (B8 RES) from by
  rw [←hd,List.length_append,B8_append];exact ⟨h.1,h.2.imp id (fun ⟨g,cap,cur,hv,hg,r⟩=>⟨g,cap,cur,hv,by omega,r⟩)⟩)
 change Hid (w1.ownsRow (w.heap.size+1) 5 1 v1 (tagB number.toNat how.toNat).length (B8 (tagB number.toNat how.toNat))) at How1;obtain ⟨T,hT⟩:∃ T,tagB number.toNat how.toNat=T:=⟨_,rfl⟩;rw [hT] at How1 Hfin htl HR;clear hT;rcases hh with rfl|rfl|rfl|rfl
 ·have hul:=Lib.uvarint_length64 (x:=bits) Hb64.out
  go_wp2_with (first
   |(go_at_call 77;go_must (refine (num_r bits _ Hb64.out).mono ?_;rintro e w2 ⟨v2,rfl,how2,hu2⟩;obtain ⟨a2,k2,rfl,n2',d2⟩:=own_news how2;have hz2:=hu2.size;clear how2))
   |(at_builtin;go_must (refine wpList_app eU8 _ (by rfl) _ _ (by rfl) (w.heap.size+1) v1 _ _ (by rfl) (How1.out.kept hu2.to_none (by cases v1.ownBlock <;> simp)) a2 _ k2 (by rfl) (B8 (Lib.uvarint bits)) (by simp [B8]) n2' d2 (B8_one _) (by omega) (by unfold maxLen;omega) (by omega) ?_;intro v3 w3 how3 hev3)))
  go_ret
  exact ⟨_,rfl,Hfin.out _ _ _ how3 HR.out,(Hu1.out.trans hu2).evo hev3 (fun k hk=>by have:=Hlo.out k hk;omega)⟩
 ·have hul:=lowB_length 8 bits
  go_wp2_with (first
   |(go_at_call 78;go_must (refine (low_r bits 8 _ Hb64.out (by omega)).mono ?_;rintro e w2 ⟨v2,rfl,how2,hu2⟩;obtain ⟨a2,k2,rfl,n2',d2⟩:=own_news how2;have hz2:=hu2.size;clear how2))
   |(at_builtin;go_must (refine wpList_app eU8 _ (by rfl) _ _ (by rfl) (w.heap.size+1) v1 _ _ (by rfl) (How1.out.kept hu2.to_none (by cases v1.ownBlock <;> simp)) a2 _ k2 (by rfl) (B8 (lowB 8 bits)) (by simp [B8]) n2' d2 (B8_one _) (by omega) (by unfold maxLen;omega) (by omega) ?_;intro v3 w3 how3 hev3)))
  go_ret
  exact ⟨_,rfl,Hfin.out _ _ _ how3 HR.out,(Hu1.out.trans hu2).evo hev3 (fun k hk=>by have:=Hlo.out k hk;omega)⟩
 ·have hul:=lowB_length 4 bits
  go_wp2_with (first
   |(go_at_call 78;go_must (refine (low_r bits 4 _ Hb64.out (by omega)).mono ?_;rintro e w2 ⟨v2,rfl,how2,hu2⟩;obtain ⟨a2,k2,rfl,n2',d2⟩:=own_news how2;have hz2:=hu2.size;clear how2))
   |(at_builtin;go_must (refine wpList_app eU8 _ (by rfl) _ _ (by rfl) (w.heap.size+1) v1 _ _ (by rfl) (How1.out.kept hu2.to_none (by cases v1.ownBlock <;> simp)) a2 _ k2 (by rfl) (B8 (lowB 4 bits)) (by simp [B8]) n2' d2 (B8_one _) (by omega) (by unfold maxLen;omega) (by omega) ?_;intro v3 w3 how3 hev3)))
  go_ret
  exact ⟨_,rfl,Hfin.out _ _ _ how3 HR.out,(Hu1.out.trans hu2).evo hev3 (fun k hk=>by have:=Hlo.out k hk;omega)⟩
 ·have hul:=Lib.uvarint_length64 (x:=bytes.length) (by omega);have Hsum:=hid (show (T++Lib.uvarint bytes.length).length<=20 by rw [List.length_append];omega);have Hre:=hid (show T++Lib.uvarint bytes.length++bytes=RES by rw [←HR.out,List.append_assoc];rfl);have Hn:=hid (fun W (u:Up w W)=>RdB.news (Hv.out.up stable_u8 u));have Hne:=hid (show v1.ownBlock≠some w.heap.size from fun e=>by have:=Hlo.out _ e;omega);have Hul:=hid hul;have hbl:(bytes.length:Int)=((bytes.length:Nat):Int):=rfl;(have hnn:(Lib.uvarint bytes.length).length*1<=10:=by omega);clear HR Hts hul c2;go_wp2_with fail
  go_region_held3 (fun w'=>w'.cell? ⟨w.heap.size,3,none⟩=some (.slice ao bytes.length cap)) (first|go_keep|exact cell_of_row _ _ 3 _ _ _ (hu2.blk Hblk.out)|exact cell_of_row _ _ 3 _ _ _ (hev3.blk (hu2.blk Hblk.out) Hne.out)|exact cell_of_row _ _ 3 _ _ _ ((hev3.trans hev4).blk (hu2.blk Hblk.out) Hne.out))
   (first
    |(go_at_call 77;refine (num_eq _ bytes.length _ (by first|rfl|(rw [IntKind.wrap_u64];omega)) (by omega)).mono ?_;rintro e w2 ⟨v2,rfl,how2,hu2⟩;obtain ⟨a2,k2,rfl,n2',d2⟩:=own_news how2;have hz2:w1.heap.size<=w2.heap.size:=hu2.size;clear how2)
    |(refine step_app eU8 _ (by rfl) _ _ (by rfl) (w.heap.size+1) v1 _ _ (by rfl) (How1.out.drew.kept hu2.to_none (by cases v1.ownBlock <;> simp)) a2 _ k2 (by rfl) (B8 (Lib.uvarint bytes.length)) (by simp [B8]) n2' d2 (B8_one _) (by omega) (by unfold maxLen;omega) (by omega) ?_;intro v3 w3 how3 hev3;have hz3:=hev3.grown.size)
    |(refine step_app eU8 _ (by rfl) _ _ (by rfl) (w.heap.size+1) v3 _ _ (by rfl) how3 ao bytes.length cap (by rfl) (B8 bytes) (by simp [B8]) (Hn.out w (Up.refl w)).2.1 (Hn.out _ (((Hu1.out.drew).trans hu2).evo hev3 (fun k hk=>by have:=Hlo.out k hk;omega))).2.2 (B8_one _) (by have:=Hul.out;omega) (by have:=Hul.out;unfold maxLen;omega) (by omega) ?_;intro v4 w4 how4 hev4))
  all_goals
   go_wp2_with fail
   go_ret
   refine ⟨_,rfl,?_,((Hu1.out.drew).trans hu2).evo (hev3.trans hev4) (fun k hk=>by have:=Hlo.out k hk;omega)⟩;have h4:=how4;rw [←Hre.out,List.length_append,List.length_append,B8_append,B8_append];exact ⟨h4.1,h4.2.imp id (fun ⟨g,cap,cur,hv,hg,r⟩=>⟨g,cap,cur,hv,by omega,r⟩)⟩
theorem add_sized (base:Nat) (v:Value) (l:List UInt8) (number:Int) (bytes:List UInt8) (vb:Value) (w:World) (hv:RdB (Av v) w vb bytes) (n1:1<=number) (n2:number<536870912) (hl:l.length+bytes.length<=1099511627776 - 8200)
  (hown:w.ownsRow base 5 1 v l.length (B8 l)) (hb:base<=w.heap.size) :
  Calls Tryz.prog 31 #[v,.agg #[.int .i64 number,.int .i64 2,.int .u64 0,vb]] w fun e w'=>∃ v',e=.returned v'/\w'.ownsRow base 5 1 v' (l++oneB ⟨number,2,0,bytes⟩).length (B8 (l++oneB ⟨number,2,0,bytes⟩))/\Evo w w' v v':=by
 obtain ⟨ao,cap,rfl,hc1,hc2⟩:=hv.val;have htl:=tagB_length number.toNat 2 (by omega) (by omega);have Hv:=hid hv;clear hv;have Hown:=hid hown;clear hown;have Hl:=hid hl
 go_enter Tryz.func31,Tryz.ntmps31
 (go_wp2_with fail);refine (tag_own base _ l number 2 _ (by omega) (by omega) (by omega) (by omega) (by omega) (Hown.out.alloc _) (by simp;omega)).mono ?_;rintro e w1 ⟨v1,rfl,how1,hev1⟩;have hblk:=Evo.box hev1 (fun k hk=>(Hown.out.lt k hk).2);have c1:w1.cell? ⟨w.heap.size,1,none⟩=some (.int .i64 2):=cell_of_row w1 _ 1 _ _ _ hblk;have c3:w1.cell? ⟨w.heap.size,3,none⟩=some (.slice ao bytes.length cap):=cell_of_row w1 _ 3 _ _ _ hblk;(have hs1:w.heap.size<w1.heap.size:=by have:=hev1.grown.size;simp at this;omega);(have hlt:(l++tagB number.toNat (Int.toNat 2)).length<=l.length+5:=by simp only [List.length_append];have:Int.toNat 2=2:=rfl;rw [this];omega);have Hblk:=hid hblk;clear hblk;have hev:=Evo.of_alloc hev1;have Hev:=hid hev;clear hev;have How1:=hid how1;clear how1;have Hlt:=hid hlt;clear hlt;have Hv1:=hid (Hv.out.keep stable_u8 (Keep.evo Hev.out))
 have hne:v1.ownBlock≠some w.heap.size:=fun e=>by
  rcases How1.out.2 with ⟨rfl,_⟩|⟨g,cap',cur,rfl,_,hg,_⟩
  ·cases e
  ·simp only [Value.ownBlock,Option.some.injEq] at e;subst e;rw [Hblk.out] at hg;simp at hg
 have Hne:=hid hne;clear hne
 have hsum:(l++tagB number.toNat (Int.toNat 2)++Lib.uvarint bytes.length).length+bytes.length<=1099511627776+100:=by
  have h1:=Hlt.out;have h2:=Lib.uvarint_length64 (x:=bytes.length) (by omega);rw [List.length_append];omega
 have Hsum:=hid hsum;clear hsum;clear hev1 htl hl;go_wp2_with fail
 go_region_held3 (fun w'=>w'.cell? ⟨w.heap.size,3,none⟩=some (.slice ao bytes.length cap)) (first|go_keep|exact cell_of_row _ _ 3 _ _ _ (hev2.undrew.blk Hblk.out Hne.out)|exact cell_of_row _ _ 3 _ _ _ ((hev2.undrew.trans hev3).blk Hblk.out Hne.out))
  (first|(go_at_call 73;refine (put_eq base _ _ _ bytes.length _ (by rw [IntKind.wrap_u64];omega) (by omega) (by have:=Hlt.out;have:=Hl.out;omega) How1.out.drew (by simp;omega)).mono ?_;rintro e w2 ⟨v2,rfl,how2,hev2⟩;have Hrd2:=hid (RdB.news (Hv1.out.keep stable_u8 (Keep.evo hev2.undrew)));have hs2:base<=w2.heap.size:=by have h9:=hev2.undrew.grown.size;omega)|(refine step_app eU8 _ (by rfl) _ _ (by rfl) base v2 _ _ (by rfl) how2 ao bytes.length cap (by rfl) (B8 bytes) (by simp [B8]) (Hrd2.out.2.1) (Hrd2.out.2.2) (B8_one _) (by have:=Hsum.out;omega) (by have:=Hsum.out;unfold maxLen;omega) (by omega) ?_;intro v3 w3 how3 hev3))
 go_wp2_with fail
 go_ret
 refine ⟨_,rfl,?_,Hev.out.trans (hev2.undrew.trans hev3)⟩;(have e:l++oneB ⟨number,2,0,bytes⟩=l++tagB number.toNat (Int.toNat 2)++Lib.uvarint bytes.length++bytes:=by simp [oneB]);rw [e,List.length_append,B8_append];exact how3
theorem fits_any (kind:Int) (n:Nat) (w:World) (hn:n<2 ^ 64) :
  Calls Tryz.prog 120 #[.int .i64 kind,.int .u64 n] w fun e w'=>e=.returned (.int .i64 (fitsN kind n))/\w'=w:=by
 go_enter Tryz.func120,Tryz.ntmps120
 go_wp2_with fail
 all_goals
  go_ret
  refine ⟨ret_int ?_,rfl⟩;unfold fitsN;simp only [beq_iff_eq,beq_eq_false_iff_ne,ne_eq,bne_iff_ne,bne_eq_false_iff_eq,IntKind.wrap_u64,wrap64,wrap32] at *
  (repeat' split) <;> omega
theorem fits_r (kind:Int) (n:Nat) (w:World) (hn:n<2 ^ 64) :
  Calls Tryz.prog 124 #[.int .i64 kind,.int .u64 n] w fun e w'=>e=.returned (.int .i64 (fitsN kind n))/\w'=w:=by
 (have hb:(n:Int)<18446744071562067968∨¬ ((n:Int)<18446744071562067968):=by omega);have hc:(n:Int)<=2147483647∨¬ ((n:Int)<=2147483647):=by omega
 go_enter Tryz.func124,Tryz.ntmps124
 by_cases h1:kind=1
 ·subst h1;go_wp2_with fail
  go_ret
  exact ⟨rfl,rfl⟩
 by_cases h2:kind=2
 ·subst h2;go_wp2_with fail
  go_ret
  exact ⟨rfl,rfl⟩
 by_cases h3:kind=3
 ·subst h3;go_wp2_with fail
  go_ret
  exact ⟨rfl,rfl⟩
 by_cases h6:kind=6
 ·subst h6;go_wp2_with fail
  go_ret
  exact ⟨rfl,rfl⟩
 by_cases h4:kind=4
 ·subst h4;clear hb hc;(have h3:n=0∨n=1∨2<=n:=by omega);rcases h3 with rfl|rfl|h
  ·go_wp2_with fail
   go_ret
   exact ⟨rfl,rfl⟩
  ·go_wp2_with fail
   go_ret
   exact ⟨rfl,rfl⟩
  ·(have b0:((n:Int)==0)=false:=by rw [beq_eq_false_iff_ne];omega);(have b1:((n:Int)==1)=false:=by rw [beq_eq_false_iff_ne];omega);go_wp2_with fail
   go_ret
   refine ⟨ret_int ?_,rfl⟩;unfold fitsN
   (repeat' split) <;> omega
 by_cases h5:kind=5
 ·subst h5;rcases hc with hc|hc
  ·go_wp2_with fail
   go_ret
   refine ⟨ret_int ?_,rfl⟩;unfold fitsN
   (repeat' split) <;> omega
  ·rcases hb with hb|hb
   ·have hb':decide (18446744071562067968<=(n:Int))=false:=decide_eq_false (by omega);go_wp2_with fail
    go_ret
    refine ⟨ret_int ?_,rfl⟩;unfold fitsN
    (repeat' split) <;> omega
   ·have hb':decide (18446744071562067968<=(n:Int))=true:=decide_eq_true (by omega);have hc':decide ((n:Int)<=2147483647)=false:=decide_eq_false hc;have Hb:=hid hb;have Hc:=hid hc;clear hb hc;go_wp2_with fail
    go_ret
    refine ⟨ret_int ?_,rfl⟩;have hb:=Hb.out;have hc:=Hc.out;unfold fitsN
    (repeat' split) <;> omega
 by_cases h7:kind=7
 ·subst h7;clear hb hc
  by_cases hx:(n:Int)<4294967296
  ·have hd:decide ((n:Int)<4294967296)=true:=decide_eq_true hx;have Hx:=hid hx;go_wp2_with fail
   go_ret
   refine ⟨ret_int ?_,rfl⟩;have hx:=Hx.out;unfold fitsN
   (repeat' split) <;> omega
  ·have hd:decide ((n:Int)<4294967296)=false:=decide_eq_false hx;have Hx:=hid hx;clear hx;go_wp2_with fail
   go_ret
   refine ⟨ret_int ?_,rfl⟩;have hx:=Hx.out;unfold fitsN
   (repeat' split) <;> omega
 (have e1:(kind==1)=false:=by simpa using h1);(have e2:(kind==2)=false:=by simpa using h2);(have e3:(kind==3)=false:=by simpa using h3);(have e4:(kind==4)=false:=by simpa using h4);(have e5:(kind==5)=false:=by simpa using h5);(have e6:(kind==6)=false:=by simpa using h6);(have e7:(kind==7)=false:=by simpa using h7);(have hfn:fitsN kind n=1:=by unfold fitsN;rw [if_neg (by omega),if_neg h4,if_neg h5,if_neg h7]);clear h1 h2 h3 h4 h5 h6 h7 hb hc;go_wp2_with fail
 go_ret
 exact ⟨ret_int hfn.symm,rfl⟩
end Go.Proofs.YtbceccblepckhaaGreatDoor
