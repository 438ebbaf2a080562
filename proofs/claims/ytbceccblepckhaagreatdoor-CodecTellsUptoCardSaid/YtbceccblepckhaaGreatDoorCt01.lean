/-
  Cells of a row that is written out.
  Layings of the library's contracts at this dump (made by the kit's program).
  Package wire in plain Lean: what Get says of bytes; its bits.
-/
import Derived.WalkKit
import Derived.OrdersHeld
import Derived.Test.YtbceccblepckhaaGreatDoorProg
import Derived.Shelf.SlSortCmp.NoneTotal
import Derived.Shelf.SlicesG.Cmp
import Derived.Shelf.SlGeneric
import Derived.Ground.SlsfProg
import Derived.Ground.SlgcProg
import Derived.Lib.Varint
import Derived.Lib.VarintBits
import Derived.Lib.Zigzag
import Derived.IntWalk
namespace Go.Proofs.YtbceccblepckhaaGreatDoor
theorem ro0 {w:World} {g:Nat} {a:Value} {l:List Value} {t:TypeId} {z:Nat × Nat} (h:w.heap[g]? = some (.cells (List.toArray (a::l)) t z)):w.cell? ⟨g,0,none⟩=some a:=cell_of_row w g 0 _ t z h
theorem ro1 {w:World} {g:Nat} {a b:Value} {l:List Value} {t:TypeId} {z:Nat × Nat} (h:w.heap[g]? = some (.cells (List.toArray (b::a::l)) t z)):w.cell? ⟨g,1,none⟩=some a:=cell_of_row w g 1 _ t z h
theorem ro2 {w:World} {g:Nat} {a b c:Value} {l:List Value} {t:TypeId} {z:Nat × Nat} (h:w.heap[g]? = some (.cells (List.toArray (b::c::a::l)) t z)):w.cell? ⟨g,2,none⟩=some a:=cell_of_row w g 2 _ t z h
theorem ro3 {w:World} {g:Nat} {a b c d:Value} {l:List Value} {t:TypeId} {z:Nat × Nat} (h:w.heap[g]? = some (.cells (List.toArray (b::c::d::a::l)) t z)):w.cell? ⟨g,3,none⟩=some a:=cell_of_row w g 3 _ t z h
theorem ro4 {w:World} {g:Nat} {a b c d e:Value} {l:List Value} {t:TypeId} {z:Nat × Nat} (h:w.heap[g]? = some (.cells (List.toArray (b::c::d::e::a::l)) t z)):w.cell? ⟨g,4,none⟩=some a:=cell_of_row w g 4 _ t z h
theorem ro5 {w:World} {g:Nat} {a b c d e f:Value} {l:List Value} {t:TypeId} {z:Nat × Nat} (h:w.heap[g]? = some (.cells (List.toArray (b::c::d::e::f::a::l)) t z)):w.cell? ⟨g,5,none⟩=some a:=cell_of_row w g 5 _ t z h
theorem roz {w:World} {g:Nat} {cs:Array Value} {t:TypeId} (h:w.heap[g]? = some (.cells cs t (0,0))):∀ o,w.frozen? ⟨g,o,none⟩=false:=fun o=>frozen_of_row w g o cs t h
theorem wtk {P:Program} {md:Region.Mode} {ops:Array Oper} {Q:Exit->Act->World->Prop} {S:World->Prop} (i:Nat) {oi:Oper} {v:Value} {fuel:Nat} {listed:Array Bool} {a:Act} {w:World} (hi:ops[i]? = some oi) (hy:∀ w,S w->(execOp a.eval oi).run P w=.ok (.value v) w)
  (h:wpAnyH P md ops Q S fuel (listed.setIfInBounds i true) (a.put oi.dst v) w) (hs:Region.noSelect ops=true:=by kernel_rfl) (hf:Region.free md ops listed i=true:=by kernel_rfl) (hr:(Region.ready md ops listed).contains i=true:=by kernel_rfl)
  (hQ:∀ c a w,Q (.panic c) (a.put oi.dst v) w->Q (.panic c) a w:=by exact fun _ _ _ h=>h) (hw:Region.wanted oi (yielded ops a.tmps)=true:=by rfl) (hS:S w:=by assumption):wpAnyH P md ops Q S (fuel+1) listed a w :=
 wpAnyH_take hi hs hf hr hQ (Or.inl ⟨hw,hy⟩) hS h
end Go.Proofs.YtbceccblepckhaaGreatDoor
namespace Go.Proofs
open Go.Shelf
def Tryz.sortL_ren : Go.Shelf.Ren:=⟨fun|6=>13|15=>26|14=>25|28=>62|29=>63|20=>54|21=>55|22=>56|23=>57|24=>58|25=>59|26=>60|27=>61|46=>113|47=>114|48=>115|49=>116|50=>117|57=>143|n=>n,fun|22=>33|24=>3|25=>49|3=>3|39=>75|0=>0|53=>128|55=>72|4=>4|46=>122|45=>121|50=>44|5=>5|9=>9|66=>168|70=>172|76=>203|77=>204|n=>n,fun|n=>n⟩
theorem Tryz.sortL : Go.Proofs.SlLaysF.n6 Tryz.prog Tryz.sortL_ren:={
 mixed:=by kernel_rfl
 f6:=⟨Tryz.f13.name,by decide,Tryz.func13.trans (congrArg some (by kernel_rfl))⟩
 f14:=⟨Tryz.f25.name,by decide,Tryz.func25.trans (congrArg some (by kernel_rfl))⟩
 f15:=Tryz.func26.trans (congrArg some (by kernel_rfl))
 f20:=⟨Tryz.f54.name,by decide,Tryz.func54.trans (congrArg some (by kernel_rfl))⟩
 f21:=⟨Tryz.f55.name,by decide,Tryz.func55.trans (congrArg some (by kernel_rfl))⟩
 f22:=⟨Tryz.f56.name,by decide,Tryz.func56.trans (congrArg some (by kernel_rfl))⟩
 f23:=⟨Tryz.f57.name,by decide,Tryz.func57.trans (congrArg some (by kernel_rfl))⟩
 f24:=⟨Tryz.f58.name,by decide,Tryz.func58.trans (congrArg some (by kernel_rfl))⟩
 f25:=⟨Tryz.f59.name,by decide,Tryz.func59.trans (congrArg some (by kernel_rfl))⟩
 f26:=⟨Tryz.f60.name,by decide,Tryz.func60.trans (congrArg some (by kernel_rfl))⟩
 f27:=⟨Tryz.f61.name,by decide,Tryz.func61.trans (congrArg some (by kernel_rfl))⟩
 f28:=Tryz.func62.trans (congrArg some (by kernel_rfl))
 f29:=Tryz.func63.trans (congrArg some (by kernel_rfl))
 f46:=⟨Tryz.f113.name,by decide,Tryz.func113.trans (congrArg some (by kernel_rfl))⟩
 f47:=Tryz.func114.trans (congrArg some (by kernel_rfl))
 f48:=Tryz.func115.trans (congrArg some (by kernel_rfl))
 f49:=⟨Tryz.f116.name,by decide,Tryz.func116.trans (congrArg some (by kernel_rfl))⟩
 f50:=⟨Tryz.f117.name,by decide,Tryz.func117.trans (congrArg some (by kernel_rfl))⟩
 f57:=⟨Tryz.f143.name,by decide,Tryz.func143.trans (congrArg some (by kernel_rfl))⟩
 t0:=Tryz.underlying0
 a0:=Tryz.isAgg0
 z0:=Tryz.sizeOf0
 v0:=Tryz.zeroValue0
 t3:=Tryz.underlying3
 a3:=Tryz.isAgg3
 z3:=Tryz.sizeOf3
 v3:=Tryz.zeroValue3
 t4:=Tryz.underlying4
 a4:=Tryz.isAgg4
 z4:=Tryz.sizeOf4
 v4:=Tryz.zeroValue4
 t5:=Tryz.underlying5
 a5:=Tryz.isAgg5
 z5:=Tryz.sizeOf5
 v5:=Tryz.zeroValue5
 t9:=Tryz.underlying9
 a9:=Tryz.isAgg9
 z9:=Tryz.sizeOf9
 v9:=Tryz.zeroValue9
 t22:=Tryz.underlying33
 a22:=Tryz.isAgg33
 z22:=Tryz.sizeOf33
 v22:=Tryz.zeroValue33
 a24:=Tryz.isAgg3
 z24:=Tryz.sizeOf3
 t25:=Tryz.underlying49
 a25:=Tryz.isAgg49
 z25:=Tryz.sizeOf49
 v25:=Tryz.zeroValue49
 t39:=Tryz.underlying75
 a39:=Tryz.isAgg75
 z39:=Tryz.sizeOf75
 v39:=Tryz.zeroValue75
 t45:=Tryz.underlying121
 a45:=Tryz.isAgg121
 z45:=Tryz.sizeOf121
 v45:=Tryz.zeroValue121
 t46:=Tryz.underlying122
 a46:=Tryz.isAgg122
 z46:=Tryz.sizeOf122
 v46:=Tryz.zeroValue122
 t50:=Tryz.underlying44
 a50:=Tryz.isAgg44
 z50:=Tryz.sizeOf44
 v50:=Tryz.zeroValue44
 t53:=Tryz.underlying128
 a53:=Tryz.isAgg128
 z53:=Tryz.sizeOf128
 v53:=Tryz.zeroValue128
 t55:=Tryz.underlying72
 a55:=Tryz.isAgg72
 z55:=Tryz.sizeOf72
 v55:=Tryz.zeroValue72
 t66:=Tryz.underlying168
 a66:=Tryz.isAgg168
 z66:=Tryz.sizeOf168
 v66:=Tryz.zeroValue168
 t70:=Tryz.underlying172
 a70:=Tryz.isAgg172
 z70:=Tryz.sizeOf172
 v70:=Tryz.zeroValue172
 t76:=Tryz.underlying203
 a76:=Tryz.isAgg203
 z76:=Tryz.sizeOf203
 v76:=Tryz.zeroValue203
 t77:=Tryz.underlying204
 a77:=Tryz.isAgg204
 z77:=Tryz.sizeOf204
 v77:=Tryz.zeroValue204 }
def Tryz.cmpL_ren : Go.Shelf.Ren:=⟨fun|5=>14|7=>27|n=>n,fun|22=>3|3=>3|4=>4|n=>n,fun|n=>n⟩
theorem Tryz.cmpL : Go.Proofs.SlLaysC2.n5 Tryz.prog Tryz.cmpL_ren:={
 mixed:=by kernel_rfl
 f5:=⟨Tryz.f14.name,by decide,Tryz.func14.trans (congrArg some (by kernel_rfl))⟩
 f7:=⟨Tryz.f27.name,by decide,Tryz.func27.trans (congrArg some (by kernel_rfl))⟩
 t3:=Tryz.underlying3
 a3:=Tryz.isAgg3
 z3:=Tryz.sizeOf3
 v3:=Tryz.zeroValue3
 t4:=Tryz.underlying4
 a4:=Tryz.isAgg4
 z4:=Tryz.sizeOf4
 v4:=Tryz.zeroValue4
 t22:=Tryz.underlying3
 a22:=Tryz.isAgg3
 z22:=Tryz.sizeOf3
 v22:=Tryz.zeroValue3 }
end Go.Proofs
namespace Go.Proofs.YtbceccblepckhaaGreatDoor
open Go.Lib
def getF : Nat->Nat->List UInt8->Nat × Nat × Int
 |_,_,[]=>(0,0,2)
 |i,n,c::r=>if i=9/\1<c.toNat then (0,0,3) else if c.toNat<128 then (n+c.toNat*2 ^ (7*i),i+1,0) else getF (i+1) (n+c.toNat % 128*2 ^ (7*i)) r
abbrev get (l:List UInt8):Nat × Nat × Int:=getF 0 0 l
theorem get_lt (k c:Nat) (hc:c<256) (hk:k<=9) (h9:k=9->c<=1):c % 128*2 ^ (7*k)<2 ^ 64:=by
 by_cases h:k=9
 ·subst h;have:=h9 rfl;(have h2:c % 128<=1:=by omega);have:=Nat.mul_le_mul_right (2 ^ (7*9)) h2;omega
 ·have h1:2 ^ (7*k)<=2 ^ 56:=Nat.pow_le_pow_right (by decide) (by omega);(have h2:c % 128<=127:=by omega);have:=Nat.mul_le_mul h2 h1;omega
theorem get_bits (a k c:Nat) (ha:a<2 ^ (7*k)) (hc:c<256) (hk:k<=9) (h9:k=9->c<=1) :
  bits .or .u64 (a:Int) (IntKind.u64.wrap (IntKind.u64.wrap (bits .and .u8 (c:Int) 127)*2 ^ (7*k)))=((a+c % 128*2 ^ (7*k):Nat):Int):=by
 have hl:=get_lt k c hc hk h9
 have h1:bits .and .u8 (c:Int) 127=((c % 128:Nat):Int):=by
  have:=u8_and127 (x:=(c:Int)) (by omega) (by omega);omega
 rw [h1,wraps_u64 ((c % 128:Nat):Int) (by omega) (by omega)];(have h2:((c % 128:Nat):Int)*2 ^ (7*k)=((c % 128*2 ^ (7*k):Nat):Int):=by simp);rw [h2,wraps_u64 _ (by omega) (by exact_mod_cast hl)];rw [bits_join_low .u64 64 (by decide) wraps_u64 (7*k) (a:Int) _ (by omega) (by exact_mod_cast ha) ?_ (by omega) ?_ (by exact_mod_cast hl)]
 ·simp
 ·have:(2:Nat) ^ (7*k)<=2 ^ 64:=Nat.pow_le_pow_right (by decide) (by omega);(have h3:a<2 ^ 64:=by omega);exact_mod_cast h3
 ·have:(c % 128*2 ^ (7*k)) % 2 ^ (7*k)=0:=Nat.mul_mod_left _ _;exact_mod_cast this
theorem get_step (a k c:Nat) (ha:a<2 ^ (7*k)):a+c % 128*2 ^ (7*k)<2 ^ (7*(k+1)):=by
 (have h1:c % 128+1<=128:=by omega);have h2:=Nat.mul_le_mul_right (2 ^ (7*k)) h1;rw [Nat.add_mul] at h2;(have h3:2 ^ (7*(k+1))=128*2 ^ (7*k):=by rw [show 7*(k+1)=7+7*k by omega,Nat.pow_add]);omega
def unzig (n:Nat):Int:=if n % 2=0 then ((n / 2:Nat):Int) else -((n / 2:Nat):Int) - 1
theorem xor_comm_u64 (a b:Int):bits .xor .u64 a b=bits .xor .u64 b a:=by
 show IntKind.u64.wrap ((BitVec.ofInt 64 a ^^^ BitVec.ofInt 64 b).toNat:Int)=IntKind.u64.wrap ((BitVec.ofInt 64 b ^^^ BitVec.ofInt 64 a).toNat:Int);rw [BitVec.xor_comm]
theorem xor_comm_i64 (a b:Int):bits .xor .i64 a b=bits .xor .i64 b a:=by
 show IntKind.i64.wrap ((BitVec.ofInt 64 a ^^^ BitVec.ofInt 64 b).toNat:Int)=IntKind.i64.wrap ((BitVec.ofInt 64 b ^^^ BitVec.ofInt 64 a).toNat:Int);rw [BitVec.xor_comm]
theorem fold_bits (n:Int) (h0:-9223372036854775808<=n) (h1:n<=9223372036854775807) :
  bits .xor .u64 (IntKind.u64.wrap (IntKind.u64.wrap n*2)) (IntKind.u64.wrap (n / 9223372036854775808))=(zigzag n:Int):=by
 by_cases hn:0<=n
 ·(have e1:IntKind.u64.wrap (n / 9223372036854775808)=((0:Nat):Int):=by rw [IntKind.wrap_u64];omega);(have e2:IntKind.u64.wrap (IntKind.u64.wrap n*2)=((zigzag n:Nat):Int):=by rw [zigzag_nonneg hn,IntKind.wrap_u64,IntKind.wrap_u64];omega);rw [e1,e2,bits_xor_u64_nat _ _ (zigzag_lt h0 h1) (by decide),Nat.xor_zero]
 ·have e1:IntKind.u64.wrap (n / 9223372036854775808)=IntKind.u64.max:=by
   (have:IntKind.u64.max=18446744073709551615:=by decide);rw [IntKind.wrap_u64,this];omega
  rw [e1,xor_comm_u64,zigzag_neg h0 (by omega)]
theorem i64_xor0 (x:Nat) (hx:x<9223372036854775808):bits .xor .i64 (x:Int) 0=(x:Int):=by
 show IntKind.i64.wrap ((BitVec.ofInt 64 (x:Int) ^^^ BitVec.ofInt 64 0).toNat:Int)=_
 have h2:(BitVec.ofInt 64 (x:Int)).toNat=x:=by
  rw [BitVec.ofInt_natCast,BitVec.toNat_ofNat];exact Nat.mod_eq_of_lt (by omega)
 (have h3:(BitVec.ofInt 64 0).toNat=0:=by decide);rw [BitVec.toNat_xor,h2,h3,Nat.xor_zero,IntKind.wrap_i64];omega
theorem open_bits (n:Nat) (h:n<2 ^ 64) :
  bits .xor .i64 (RowKit.wrap64 ((n:Int) / 2)) (RowKit.wrap64 (-RowKit.wrap64 (bits .and .u64 (n:Int) 1)))=unzig n:=by
 rw [u64_and1 _ (by omega) (by omega)];(have e1:RowKit.wrap64 ((n:Int) / 2)=((n / 2:Nat):Int):=by unfold RowKit.wrap64;omega);rw [e1];unfold unzig
 by_cases h2:n % 2=0
 ·(have e2:RowKit.wrap64 (-RowKit.wrap64 ((n:Int) % 2))=0:=by unfold RowKit.wrap64;omega);rw [e2,if_pos h2,i64_xor0 _ (by omega)]
 ·(have e2:RowKit.wrap64 (-RowKit.wrap64 ((n:Int) % 2))=-1:=by unfold RowKit.wrap64;omega);rw [e2,if_neg h2,xor_comm_i64,i64_not _ (by omega)]
structure Rec where
 number:Int
 how:Int
 bits:Nat
 bytes:List UInt8
def wrongRec (r:Rec):Int :=
 if r.how=0∨r.how=1∨r.how=5∨r.how=2 then
  if r.how=2/\4000<r.bytes.length then 4
  else if r.number<1∨536870912<=r.number∨(r.how=5/\4294967295<r.bits) then 3
  else if (r.how=2/\r.bits≠0)∨(r.how≠2/\0<r.bytes.length) then 8
  else 0
 else 1
def tagB (number how:Nat):List UInt8:=uvarint (8*number+how)
def lowB : Nat->Nat->List UInt8
 |0,_=>[]
 |k+1,n=>n.toUInt8::lowB k (n / 256)
def oneB (r:Rec):List UInt8 :=
 tagB r.number.toNat r.how.toNat++(if r.how=0 then uvarint r.bits else if r.how=1 then lowB 8 r.bits else if r.how=5 then lowB 4 r.bits else uvarint r.bytes.length++r.bytes)
theorem or_comm_u64 (a b:Int):bits .or .u64 a b=bits .or .u64 b a:=by
 show IntKind.u64.wrap ((BitVec.ofInt 64 a ||| BitVec.ofInt 64 b).toNat:Int)=IntKind.u64.wrap ((BitVec.ofInt 64 b ||| BitVec.ofInt 64 a).toNat:Int);rw [BitVec.or_comm]
theorem tag_bits (n h:Int) (n0:0<=n) (n1:n<536870912) (h0:0<=h) (h1:h<8):bits .or .u64 (n*8) h=((8*n.toNat+h.toNat:Nat):Int):=by
 rw [or_comm_u64,bits_join_low .u64 64 (by decide) wraps_u64 3 h (n*8) h0 (by omega) (by omega) (by omega) (by omega) (by omega)];omega
theorem lowB_length (k n:Nat):(lowB k n).length=k:=by
 induction k generalizing n with
 |zero=>rfl
 |succ k ih=>simp [lowB,ih]
theorem tagB_length (n h:Nat) (h1:n<536870912) (h2:h<8):(tagB n h).length<=5:=by
 unfold tagB;exact uvarint_length 4 _ (by omega)
theorem wrongRec_ok {r:Rec} (h:wrongRec r=0):1<=r.number/\r.number<536870912/\(r.how=0∨r.how=1∨r.how=5∨r.how=2)/\(r.how=5->r.bits<4294967296)/\((r.how=2/\r.bits=0/\r.bytes.length<=4000)∨(r.how≠2/\r.bytes=[])):=by
 unfold wrongRec at h;split at h
 ·split at h
  ·omega
  ·split at h
   ·omega
   ·split at h
    ·omega
    ·rename_i h1 h2 h3 h4;refine ⟨by omega,by omega,h1,by omega,?_⟩
     by_cases h5:r.how=2
     ·exact .inl ⟨h5,by omega,by omega⟩
     ·exact .inr ⟨h5,List.eq_nil_of_length_eq_zero (by omega)⟩
 ·omega
def lowVal : List UInt8->Nat
 |[]=>0
 |c::r=>c.toNat+256*lowVal r
def numB (k:Nat) (l:List UInt8):Nat × Int:=if l.length<k then (0,2) else (lowVal (l.take k),0)
theorem num_lt (j c:Nat) (hc:c<256) (hj:j<=7):c*2 ^ (8*j)<2 ^ 64:=by
 have h1:2 ^ (8*j)<=2 ^ 56:=Nat.pow_le_pow_right (by decide) (by omega);(have h2:c<=255:=by omega);have:=Nat.mul_le_mul h2 h1;omega
theorem num_bits (a j c:Nat) (ha:a<2 ^ (8*j)) (hc:c<256) (hj:j<=7) :
  bits .or .u64 (a:Int) (IntKind.u64.wrap ((c:Int)*2 ^ (8*j)))=((a+c*2 ^ (8*j):Nat):Int):=by
 have hl:=num_lt j c hc hj;(have h2:(c:Int)*2 ^ (8*j)=((c*2 ^ (8*j):Nat):Int):=by simp);rw [h2,wraps_u64 _ (by omega) (by exact_mod_cast hl)];rw [bits_join_low .u64 64 (by decide) wraps_u64 (8*j) (a:Int) _ (by omega) (by exact_mod_cast ha) ?_ (by omega) ?_ (by exact_mod_cast hl)]
 ·simp
 ·have:(2:Nat) ^ (8*j)<=2 ^ 64:=Nat.pow_le_pow_right (by decide) (by omega);(have h3:a<2 ^ 64:=by omega);exact_mod_cast h3
 ·have:(c*2 ^ (8*j)) % 2 ^ (8*j)=0:=Nat.mul_mod_left _ _;exact_mod_cast this
theorem lowVal_snoc (l:List UInt8) (c:UInt8):lowVal (l++[c])=lowVal l+c.toNat*2 ^ (8*l.length):=by
 induction l with
 |nil=>simp [lowVal]
 |cons x l ih =>
  simp only [List.cons_append,lowVal,ih,List.length_cons];rw [show 8*(l.length+1)=8*l.length+8 by omega,Nat.pow_add,Nat.mul_add,←Nat.mul_assoc (c.toNat),Nat.mul_comm (c.toNat*2 ^ (8*l.length)) (2 ^ 8)];omega
theorem lowVal_lt (l:List UInt8):lowVal l<2 ^ (8*l.length):=by
 induction l with
 |nil=>simp [lowVal]
 |cons x l ih =>
  have:=UInt8.toNat_lt x;simp only [lowVal,List.length_cons];rw [show 8*(l.length+1)=8*l.length+8 by omega,Nat.pow_add];omega
theorem take_snoc (l:List UInt8) (j:Nat) (h:j<l.length):l.take (j+1)=l.take j++[l[j]]:=by
 rw [List.take_succ_eq_append_getElem h]
theorem getF_ok : ∀ (l:List UInt8) (i n:Nat),i<=9->n<2 ^ (7*i)->(getF i n l).2.2=0->i<(getF i n l).2.1/\(getF i n l).2.1<=i+l.length/\(getF i n l).2.1<=10/\(getF i n l).1<2 ^ 64
 |[],i,n,_,_,h=>by simp [getF] at h
 |c::r,i,n,hi,hn,h=>by
  have hc:=UInt8.toNat_lt c;rw [getF] at h ⊢
  by_cases h9:i=9/\1<c.toNat
  ·rw [if_pos h9] at h;simp at h
  ·rw [if_neg h9] at h ⊢
   by_cases h1:c.toNat<128
   ·rw [if_pos h1] at h ⊢;have hl:=get_lt i c.toNat hc hi (by omega);rw [Nat.mod_eq_of_lt h1] at hl;refine ⟨by simp,by simp,by simp;omega,?_⟩;show n+c.toNat*2 ^ (7*i)<2 ^ 64
    by_cases hi9:i=9
    ·subst hi9;(have:c.toNat<=1:=by omega);have:=Nat.mul_le_mul_right (2 ^ (7*9)) this;omega
    ·have hs:=get_step n i c.toNat hn;rw [Nat.mod_eq_of_lt h1] at hs;have:2 ^ (7*(i+1))<=2 ^ 63:=Nat.pow_le_pow_right (by decide) (by omega);omega
   ·rw [if_neg h1] at h ⊢;have ih:=getF_ok r (i+1) _ (by omega) (get_step n i c.toNat hn) h;simp only [List.length_cons];omega
theorem get_ok {l:List UInt8} (h:(get l).2.2=0):0<(get l).2.1/\(get l).2.1<=l.length/\(get l).2.1<=10/\(get l).1<2 ^ 64:=by
 have:=getF_ok l 0 0 (by omega) (by decide) h;simpa using this
theorem getF_err : ∀ (l:List UInt8) (i n:Nat),(getF i n l).2.2≠0->getF i n l=(0,0,2)∨getF i n l=(0,0,3)
 |[],i,n,_=>by simp [getF]
 |c::r,i,n,h=>by
  rw [getF] at h ⊢
  by_cases h9:i=9/\1<c.toNat
  ·rw [if_pos h9];exact .inr rfl
  ·rw [if_neg h9] at h ⊢
   by_cases h1:c.toNat<128
   ·rw [if_pos h1] at h;simp at h
   ·rw [if_neg h1] at h ⊢;exact getF_err r _ _ h
theorem get_err {l:List UInt8} (h:(get l).2.2≠0):get l=(0,0,2)∨get l=(0,0,3):=getF_err l 0 0 h
theorem numB_ok {k:Nat} {l:List UInt8} (h:(numB k l).2=0) (hk:k<=8):k<=l.length/\(numB k l).1<2 ^ 64:=by
 unfold numB at h ⊢
 by_cases hl:l.length<k
 ·rw [if_pos hl] at h;simp at h
 ·rw [if_neg hl];refine ⟨by omega,?_⟩;have:=lowVal_lt (l.take k);rw [List.length_take,Nat.min_eq_left (by omega)] at this;have h2:2 ^ (8*k)<=2 ^ 64:=Nat.pow_le_pow_right (by decide) (by omega);exact Nat.lt_of_lt_of_le this h2
def rec0 : Rec:=⟨0,0,0,[]⟩
def oneP (l:List UInt8):Int × Rec × Nat :=
 let g:=get l
 if g.2.2≠0 then (g.2.2,rec0,0)
 else if g.1 / 8<1∨536870912<=g.1 / 8 then (3,rec0,0)
 else
  let r:=l.drop g.2.1
  let number:Int:=((g.1 / 8:Nat):Int)
  if g.1 % 8=0 then
   let h:=get r
   if h.2.2≠0 then (h.2.2,rec0,0) else (0,⟨number,0,h.1,[]⟩,g.2.1+h.2.1)
  else if g.1 % 8=1 then
   let h:=numB 8 r
   if h.2≠0 then (h.2,rec0,0) else (0,⟨number,1,h.1,[]⟩,g.2.1+8)
  else if g.1 % 8=5 then
   let h:=numB 4 r
   if h.2≠0 then (h.2,rec0,0) else (0,⟨number,5,h.1,[]⟩,g.2.1+4)
  else if g.1 % 8=2 then
   let h:=get r
   if h.2.2≠0 then (h.2.2,rec0,0)
   else if r.length - h.2.1<h.1 then (2,rec0,0)
   else (0,⟨number,2,0,(r.drop h.2.1).take h.1⟩,g.2.1+h.2.1+h.1)
  else (1,rec0,0)
theorem bits_and7 (n:Nat):bits .and .u64 (n:Int) 7=((n % 8:Nat):Int):=by
 by_cases h:n<2 ^ 64
 ·have:=bits_mask .u64 64 (by decide) wraps_u64 3 (by decide) (n:Int) (by omega) (by omega);simpa using this
 ·show IntKind.u64.wrap ((BitVec.ofInt 64 (n:Int) &&& BitVec.ofInt 64 7).toNat:Int)=_;(have h2:(BitVec.ofInt 64 (n:Int)).toNat=n % 2 ^ 64:=by rw [BitVec.ofInt_natCast,BitVec.toNat_ofNat]);(have h3:(BitVec.ofInt 64 7).toNat=2 ^ 3 - 1:=by decide);rw [BitVec.toNat_and,h2,h3,Nat.and_two_pow_sub_one_eq_mod,IntKind.wrap_u64];omega
def parseG : Nat->List UInt8->List Rec × Int × Nat
 |0,_=>([],0,0)
 |f+1,l =>
  if l=[] then ([],0,0)
  else if (oneP l).1≠0 then ([],(oneP l).1,0)
  else
   let p:=parseG f (l.drop (oneP l).2.2)
   if p.2.1≠0 then ([],p.2.1,(oneP l).2.2+p.2.2) else ((oneP l).2.1::p.1,0,0)
def parse (l:List UInt8):List Rec × Int × Nat:=if 4000<l.length then ([],4,0) else parseG (l.length+1) l
def parseC (at_:Nat) (out:List Rec) (p:List Rec × Int × Nat):List Rec × Int × Nat:=if p.2.1≠0 then ([],p.2.1,at_+p.2.2) else (out++p.1,0,0)
theorem parseC_step (at_:Nat) (out:List Rec) (f:Nat) (l:List UInt8) (hl:l≠[]) (h:(oneP l).1=0) :
  parseC at_ out (parseG (f+1) l)=parseC (at_+(oneP l).2.2) (out++[(oneP l).2.1]) (parseG f (l.drop (oneP l).2.2)):=by
 rw [parseG,if_neg hl,if_neg (by simpa using h)];simp only []
 by_cases hp:(parseG f (l.drop (oneP l).2.2)).2.1=0
 ·rw [if_neg (by simpa using hp)];simp [parseC,hp]
 ·rw [if_pos hp];simp [parseC,hp,Nat.add_assoc]
theorem oneP_ok {l:List UInt8} (h:(oneP l).1=0):1<=(oneP l).2.2/\(oneP l).2.2<=l.length/\(oneP l).2.1.bits<2 ^ 64/\1<=(oneP l).2.1.number/\(oneP l).2.1.number<536870912/\0<=(oneP l).2.1.how/\(oneP l).2.1.how<=5:=by
 have hg:=@get_ok l;revert h;unfold oneP;simp only;generalize get l=g at *;obtain ⟨tag,at_,e0⟩:=g;simp only at *
 by_cases he:e0=0
 ·subst he;obtain ⟨k1,k2,k3,k4⟩:=hg rfl;rw [if_neg (by simp)];split
  ·intro h;simp at h
  ·rename_i hn;split
   ·rename_i h0;have h2:=@get_ok (l.drop at_);generalize get (l.drop at_)=h at *;split
    ·rename_i he;intro h;exact absurd h he
    ·rename_i he;intro _;have h3:=h2 (by simpa using he);simp only [List.length_drop] at h3;simp only;omega
   ·split
    ·have h2:=@numB_ok 8 (l.drop at_);generalize numB 8 (l.drop at_)=h at *;split
     ·rename_i he;intro h;exact absurd h he
     ·rename_i he;intro _;have h3:=h2 (by simpa using he) (by omega);simp only [List.length_drop] at h3;simp only;omega
    ·split
     ·have h2:=@numB_ok 4 (l.drop at_);generalize numB 4 (l.drop at_)=h at *;split
      ·rename_i he;intro h;exact absurd h he
      ·rename_i he;intro _;have h3:=h2 (by simpa using he) (by omega);simp only [List.length_drop] at h3;simp only;omega
     ·split
      ·have h2:=@get_ok (l.drop at_);generalize get (l.drop at_)=h at *;split
       ·rename_i he;intro h;exact absurd h he
       ·rename_i he;split
        ·intro h;simp at h
        ·rename_i hx;intro _;have h3:=h2 (by simpa using he);simp only [List.length_drop] at h3 hx;simp only;omega
      ·intro h;simp at h
 ·rw [if_pos he];intro h;exact absurd h he
theorem oneP_err {l:List UInt8} (h:(oneP l).1≠0):oneP l=((oneP l).1,rec0,0):=by
 revert h;unfold oneP;simp only;split
 ·intro;rfl
 ·split
  ·intro;rfl
  ·split
   ·split
    ·intro;rfl
    ·intro h;simp at h
   ·split
    ·split
     ·intro;rfl
     ·intro h;simp at h
    ·split
     ·split
      ·intro;rfl
      ·intro h;simp at h
     ·split
      ·split
       ·intro;rfl
       ·split
        ·intro;rfl
        ·intro h;simp at h
      ·intro;rfl
end Go.Proofs.YtbceccblepckhaaGreatDoor
