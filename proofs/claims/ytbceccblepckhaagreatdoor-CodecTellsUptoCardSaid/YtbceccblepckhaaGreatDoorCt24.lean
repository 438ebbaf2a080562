/-
  (*writer).value; (*writer).body.
  Numbers of a field come back from their bytes, in plain Lean.
  The closures of link.fields and link.items.
  link.items.
  link.typed.
-/
import Derived.Test.YtbceccblepckhaaGreatDoorCt22
import Derived.Test.YtbceccblepckhaaGreatDoorCt23
set_option maxHeartbeats 1600000
set_option linter.unusedVariables false
namespace Go.Proofs.YtbceccblepckhaaGreatDoor
open Go.RowKit
theorem valsN_ok (wv:Fld->Val->Int) (fs:List Fld):∀ (l:List Val) (prev:Option Int) (had:List Int),valsN wv fs prev had l=0->∀ v∈l,∃ x,fldN fs v.1=some x/\wv x v=0
 |[],_,_,_,v,hv=>by cases hv
 |a::l,prev,had,h,v,hv=>by
  rw [valsN] at h
  cases hf:fldN fs a.1 with
  |none=>rw [hf] at h;simp at h
  |some x =>
   rw [hf] at h;simp only at h;split at h
   ·cases h
   split at h
   ·contradiction
   rename_i _ hw;split at h
   ·cases h
   rcases List.mem_cons.1 hv with e|e
   ·subst e;exact ⟨x,hf,by simpa using hw⟩
   ·exact valsN_ok wv fs l _ _ h v e
theorem right_val {f:Fil} {k:Nat} {x:Fld} {v:Val} (h:wrongVF (wrongB f k) f x v=0) (ht:typedN f x=0) :
  (∀ n∈v.2.1,howC x.kind≠2/\(x.kind=7->n<4294967296))/\∀ s∈v.2.2.2,0<=msgI f x.type/\wrongB f k (msgI f x.type) s=0:=by
 unfold wrongVF at h;split at h
 ·cases h
 rename_i h1;split at h
 ·cases h
 split at h
 ·cases h
 split at h
 ·contradiction
 rename_i h2;split at h
 ·contradiction
 (have h2:firstN (v.2.1.map (fitsN x.kind))=0:=by simpa using h2);(have hc:(countN x.kind v).2=true:=by simpa using h1);unfold countN at hc;constructor
 ·intro n hn;obtain ⟨j,hj,rfl⟩:=List.getElem_of_mem hn;have hf:=firstN_zero _ h2 j (by simpa using hj);rw [List.getElem_map] at hf;(have hlen:0<v.2.1.length:=by omega);constructor
  ·intro e;unfold howC at e;split at hc
   ·simp only [beq_iff_eq] at hc;omega
   ·split at hc
    ·simp only [beq_iff_eq] at hc;omega
    ·rename_i g1 g2;split at e
     ·cases e
     split at e
     ·cases e
     split at e
     ·omega
     ·cases e
  ·intro e;unfold fitsN at hf;rw [e] at hf;rw [if_neg (by decide),if_neg (by decide),if_neg (by decide),if_pos rfl] at hf;split at hf
   ·cases hf
   ·omega
 ·intro s hs;obtain ⟨j,hj,rfl⟩:=List.getElem_of_mem hs;have hf:=firstN_zero _ h j (by simpa using hj);rw [List.getElem_map] at hf;refine ⟨(typed_facts ht).2.2.1 ?_,hf⟩;split at hc
  ·simp only [beq_iff_eq] at hc;omega
  ·split at hc
   ·assumption
   ·simp only [beq_iff_eq] at hc;omega
theorem wvalue_c (k d:Nat) (f:Fil) (ih:WBodC k d f) (x:Fld) (v:Val) (cb fb bf fo b o base:Nat) (vb:Value) (l:List UInt8) (a1 a2 a3:Option Addr) (c1 c2 c3:Nat) (w0 w:World) (hu0:Up w0 w) (hbs:w0.heap.size<=base)
  (hc:ChkAt w0 cb fb f) (hx:FldAt w0 bf fo x) (hv:ValAt w0 b o v a1 a2 a3 c1 c2 c3) (hd:DValD d All w0 v [.int .i64 v.1,.slice a1 v.2.1.length c1,.slice a2 v.2.2.1.length c2,.slice a3 v.2.2.2.length c3]) (n1:1<=x.number) (n2:x.number<536870912)
  (hw:wrongVF (wrongB f k) f x v=0) (ht:typedN f x=0)
  (hlen:(l++(valRecs (fun s=>rawB f k (msgI f x.type) s) x v).flatMap oneB).length<=1099511627776 - 8200)
  (hown:w.ownsRow base 5 1 vb l.length (B8 l)) (hb:base<=w.heap.size) :
  Calls Tryz.prog 29 #[.pointer (some ⟨cb,0,none⟩),vb,.pointer (some ⟨bf,fo,none⟩),.pointer (some ⟨b,o,none⟩)] w fun e w'=>∃ v',e=.returned v'/\w'.ownsRow base 5 1 v' (l++(valRecs (fun s=>rawB f k (msgI f x.type) s) x v).flatMap oneB).length (B8 (l++(valRecs (fun s=>rawB f k (msgI f x.type) s) x v).flatMap oneB))/\Evo w w' vb v':=by
 obtain ⟨h1,h2⟩:=right_val hw ht
 by_cases hm:x.many=true/\howC x.kind≠2
 ·rw [val_pack _ _ _ hm] at hlen ⊢;obtain ⟨p1,g1,p2,g2,p3,g3,he,hn,hx1,hx2,hx3,zx⟩:=val_cells hd;simp only [List.cons.injEq,Value.slice.injEq,true_and,and_true] at he;obtain ⟨⟨rfl,rfl⟩,_⟩:=he;refine wvalue_pack k f x v cb bf fo b o base vb l _ _ w0 w hu0 hbs hx hv.2.1 hx1 n1 n2 hm.1 hm.2 (fun n hn=>⟨?_,(h1 n hn).2⟩) hlen hown hb;obtain ⟨j,hj,rfl⟩:=List.getElem_of_mem hn;obtain ⟨_,_,cs,_,_,_,_,hd⟩:=hx1.at hj;exact hd.2
 ·rw [val_flat _ _ _ hm] at hlen ⊢;exact wvalue_flat k d f ih x v cb fb bf fo b o base vb l a1 a2 a3 c1 c2 c3 w0 w hu0 hbs hc hx hv hd n1 n2 hm h1 h2 hlen hown hb
def valG (f:Fil) (k:Nat) (m:Msg) (v:Val):List UInt8:=match fldN m.fields v.1 with|none=>[]|some x=>(valRecs (fun s=>rawB f k (msgI f x.type) s) x v).flatMap oneB
theorem raw_flat {f:Fil} {k:Nat} {msg:Int} {b:Bod} {m:Msg} (h:f.msgs[msg.toNat]? = some m):rawB f (k+1) msg b=b.values.flatMap (valG f k m)++b.unknown.flatMap oneB:=by
 rw [raw_succ h]
 congr 1
 unfold valsRecs;rw [List.flatMap_assoc]
 congr 1
 funext v
 unfold valG;cases fldN m.fields v.1 <;> rfl
end Go.Proofs.YtbceccblepckhaaGreatDoor
namespace Go.Proofs.YtbceccblepckhaaGreatDoor
open Go.RowKit Go.Lib
theorem back_fits {k:Int} {n:Nat} (hk1:1<=k) (hk2:k<=7) (h:n<18446744073709551616) (h7:k=7->n<4294967296):fitsN k (backC k n)=0/\backC k n<18446744073709551616:=by
 (have hk:k=1∨k=2∨k=3∨k=4∨k=5∨k=6∨k=7:=by omega);rcases hk with rfl|rfl|rfl|rfl|rfl|rfl|rfl
 ·exact ⟨rfl,h⟩
 ·refine ⟨rfl,?_⟩;obtain ⟨g1,g2⟩:=unzig_range (n:=n) (by omega);show usg (unzig n)<_;unfold usg;split <;> omega
 ·exact ⟨rfl,h⟩
 ·show fitsN 4 (min n 1)=0/\min n 1<_;refine ⟨?_,by omega⟩;show (if 1<min n 1 then (3:Int) else 0)=0;rw [if_neg (by omega)]
 ·have e:backC 5 n=(if n % 4294967296<2147483648 then n % 4294967296 else n % 4294967296+18446744069414584320):=rfl;rw [e];have e2:∀ z,fitsN 5 z=if z<=2147483647∨18446744071562067968<=z then 0 else 3:=fun _=>rfl;rw [e2];split
  ·exact ⟨by rw [if_pos (by omega)],by omega⟩
  ·exact ⟨by rw [if_pos (by omega)],by omega⟩
 ·exact ⟨rfl,h⟩
 ·refine ⟨?_,h⟩;show (if 4294967295<n then (3:Int) else 0)=0;have:=h7 rfl;rw [if_neg (by omega)]
theorem howC_two {k:Int}:howC k=2 ↔ k=8∨k=9∨k=10:=by
 unfold howC;split
 ·constructor
  ·intro h;cases h
  ·intro h;omega
 ·split
  ·constructor
   ·intro h;cases h
   ·intro h;omega
  ·split
   ·exact ⟨fun _=>by assumption,fun _=>rfl⟩
   ·constructor
    ·intro h;cases h
    ·intro h;exact absurd h (by assumption)
theorem drop_tag (how:Int) (n:Nat) (hh:how=0∨how=1∨how=5):(oneB ⟨1,how,n,[]⟩).drop 1=(if how=0 then uvarint n else if how=1 then lowB 8 n else lowB 4 n):=by
 have ht:tagB 1 how.toNat=[UInt8.ofNat (8+how.toNat)]:=by
  unfold tagB;rw [uvarint_small (by rcases hh with rfl|rfl|rfl <;> decide)]
 unfold oneB;show (tagB 1 how.toNat++_).drop 1=_;rw [ht];rcases hh with rfl|rfl|rfl <;> rfl
end Go.Proofs.YtbceccblepckhaaGreatDoor
namespace Go.Proofs.YtbceccblepckhaaGreatDoor
open Go.RowKit
set_option maxRecDepth 100000
theorem fields1 (n:Int) (w:World) :
  Calls Tryz.prog 84 (#[.int .i64 n]++#[]) w fun e w'=>e=.returned (.bool (decide (n<0∨536870912<=n)))/\Up w w':=by
 show Calls Tryz.prog 84 #[.int .i64 n] w _
 by_cases h:n<0
 all_goals
  go_enter Tryz.func84,Tryz.ntmps84
  go_wp2_with fail
  go_ret
  refine ⟨ret_bool ?_,Up.refl _⟩
  (rw [Bool.eq_iff_iff];simp only [Bool.or_eq_true,decide_eq_true_eq,true_iff];omega)
theorem items1 (x:Itm) (b:Nat) (y:Itm) (cs:List Value) (w:World) (hb:b<w.heap.size) (hc:w.cell? ⟨b,0,none⟩=some (.string ⟨x.name.toArray⟩)) (hd:DItm All w y cs) :
  Calls Tryz.prog 91 (#[.agg cs.toArray]++#[.pointer (some ⟨b,0,none⟩)]) w fun e w'=>e=.returned (.bool (x.name==y.name))/\Up w w':=by
 obtain ⟨hd,_,_⟩:=hd;subst hd;show Calls Tryz.prog 91 #[.agg #[.string ⟨y.name.toArray⟩,.int .i64 y.value],.pointer (some ⟨b,0,none⟩)] w _;have hne:b≠w.heap.size:=by omega
 go_enter Tryz.func91,Tryz.ntmps91
 go_wp2_with fail
 go_ret
 exact ⟨ret_bool (by simp),(Up.refl w).alloc _⟩
theorem items2 (x:Itm) (b:Nat) (y:Itm) (cs:List Value) (w:World) (hb:b<w.heap.size) (hc:w.cell? ⟨b,1,none⟩=some (.int .i64 x.value)) (hd:DItm All w y cs) :
  Calls Tryz.prog 92 (#[.agg cs.toArray]++#[.pointer (some ⟨b,0,none⟩)]) w fun e w'=>e=.returned (.bool (x.value==y.value))/\Up w w':=by
 obtain ⟨hd,_,_⟩:=hd;subst hd;show Calls Tryz.prog 92 #[.agg #[.string ⟨y.name.toArray⟩,.int .i64 y.value],.pointer (some ⟨b,0,none⟩)] w _;have hne:b≠w.heap.size:=by omega
 go_enter Tryz.func92,Tryz.ntmps92
 go_wp2_with fail
 go_ret
 exact ⟨ret_bool (by simp),(Up.refl w).alloc _⟩
theorem fields2 (x:Fld) (c b o:Nat) (y:Fld) (cs:List Value) (w:World) (hb:b<w.heap.size) (hcz:c<w.heap.size) (hp:w.cell? ⟨c,0,none⟩=some (.pointer (some ⟨b,o,none⟩))) (hc:w.cell? ⟨b,o,none⟩=some (.string ⟨x.name.toArray⟩)) (hd:DFld All w y cs) :
  Calls Tryz.prog 86 (#[.agg cs.toArray]++#[.pointer (some ⟨c,0,none⟩)]) w fun e w'=>e=.returned (.bool (x.name==y.name))/\Up w w':=by
 obtain ⟨hd,_,_⟩:=hd;subst hd;show Calls Tryz.prog 86 #[.agg #[.string ⟨y.name.toArray⟩,.int .i64 y.number,.int .i64 y.kind,.string ⟨y.type.toArray⟩,.bool y.many,.int .i64 y.choice],.pointer (some ⟨c,0,none⟩)] w _;(have hne:b≠w.heap.size:=by omega);have hne2:c≠w.heap.size:=by omega
 go_enter Tryz.func86,Tryz.ntmps86
 go_wp2_with fail
 go_quiet (fail)
 go_wp2_with fail
 go_ret
 exact ⟨ret_bool (by simp),((Up.refl w).alloc _).drewN _⟩
theorem fields3 (x:Fld) (c b o:Nat) (y:Fld) (cs:List Value) (w:World) (hb:b<w.heap.size) (hcz:c<w.heap.size) (hp:w.cell? ⟨c,0,none⟩=some (.pointer (some ⟨b,o,none⟩))) (hc:w.cell? ⟨b,o+1,none⟩=some (.int .i64 x.number)) (hd:DFld All w y cs) :
  Calls Tryz.prog 88 (#[.agg cs.toArray]++#[.pointer (some ⟨c,0,none⟩)]) w fun e w'=>e=.returned (.bool (x.number==y.number))/\Up w w':=by
 obtain ⟨hd,_,_⟩:=hd;subst hd;show Calls Tryz.prog 88 #[.agg #[.string ⟨y.name.toArray⟩,.int .i64 y.number,.int .i64 y.kind,.string ⟨y.type.toArray⟩,.bool y.many,.int .i64 y.choice],.pointer (some ⟨c,0,none⟩)] w _;(have hne:b≠w.heap.size:=by omega);have hne2:c≠w.heap.size:=by omega
 go_enter Tryz.func88,Tryz.ntmps88
 go_wp2_with fail
 go_quiet (fail)
 go_wp2_with fail
 go_ret
 exact ⟨ret_bool (by simp),((Up.refl w).alloc _).drewN _⟩
open Lib (hid)
theorem RdS.take {α:Type} {D:Lay α} {size:Nat} {S:Nat->Prop} {w:World} {ao:Option Addr} {n cap:Nat} {l:List α} (h:RdS D size S w (.slice ao n cap) l) (k:Nat) (hk:k<=n):RdS D size S w (.slice ao k cap) (l.take k):=by
 obtain ⟨ao',cap',hv,hc,hm,hn,hf⟩:=h;simp only [Value.slice.injEq] at hv;obtain ⟨rfl,rfl,rfl⟩:=hv;refine ⟨ao,cap,by rw [List.length_take,Nat.min_eq_left hk],by rw [List.length_take];omega,hm,hn,fun i hi=>?_⟩;rw [List.length_take] at hi;obtain ⟨b,o,cs,h1,h2,h3,h4,h5,h6⟩:=hf i (by omega);exact ⟨b,o,cs,h1,h2,h3,h4,h5,by rw [List.getElem_take];exact h6⟩
theorem items_l (v:Value) (l:List Itm) (w:World) (hv:RdS DItm 2 All w v l) :
  Calls Tryz.prog 40 #[v] w fun e w'=>e=.returned (.int .i64 (itemsN l))/\Up w w':=by
 obtain ⟨ao,cap,rfl,hc1,hc2⟩:=hv.val;have Hv:=hid hv;clear hv
 by_cases hlen:l.length<1∨16<l.length
 ·(have hr:itemsN l=5:=by rw [itemsN,if_pos hlen]);rw [hr];(have h2:(l.length:Int)<1∨(1<=(l.length:Int)/\16<(l.length:Int)):=by omega);clear hlen;rcases h2 with h2|⟨h2,h3⟩
  all_goals
   go_enter Tryz.func40,Tryz.ntmps40
   go_wp2_with fail
   go_ret
   exact ⟨rfl,Up.refl _⟩
 ·(have hr:itemsN l=firstN (l.mapIdx (itemN l)):=by rw [itemsN,if_neg hlen]);(have i1:1<=(l.length:Int):=by omega);(have i16:(l.length:Int)<=16:=by omega);rw [hr];clear hlen hr
  go_enter Tryz.func40,Tryz.ntmps40
  (go_wp2_with fail);(go_loopw [15] (fun i wr=>∃ k:Nat,k<=l.length/\i=.int .i64 k/\Up w wr/\∀ j,(hj:j<l.length)->j<k->itemN l j l[j]=0) (fun i _=>l.length - (intOf i).toNat));case atStart=>exact ⟨0,by omega,rfl,Up.refl _,fun j _ h=>absurd h (by omega)⟩
  case round =>
   obtain ⟨k,hk,rfl,hu,hg⟩:=hrel;have Hg:=hid hg;clear hg
   by_cases hlt:k<l.length
   ·obtain ⟨b,o,cs,rfl,hb,hl,hcs,hd⟩:=(Hv.out.up stable_itm hu).at hlt;obtain ⟨hd,hx1,hx2⟩:=hd;subst hd;have c0:=hcs 0 _ rfl;have c1:=hcs 1 _ rfl;simp only [Nat.add_zero] at c0;clear hcs hl;(have j0:(0:Int)<=(k:Int):=by omega);(have j1:(k:Int)<(l.length:Int):=by omega);have hgg:=fun e=>firstN_idx_at (q:=itemN l) hlt Hg.out e;have Hgg:=hid hgg;clear hgg;have Hgn:=hid (fun e=>zero_more (q:=itemN l) hlt Hg.out e);have hu1:=hu.alloc (.cells #[.string ⟨l[k].name.toArray⟩,.int .i64 l[k].value] 112);have hbk:=blk_new wr (.cells #[.string ⟨l[k].name.toArray⟩,.int .i64 l[k].value] 112) rfl;generalize hxx:l[k]=x at *;clear hxx;have Hu:=hid hu;have Hu1:=hid hu1;have Hbk:=hid hbk;clear hu hu1 hbk
    cases hn:named x.name with
    |false =>
     have hN:=named_s ⟨x.name.toArray⟩ (wr.alloc (.cells #[.string ⟨x.name.toArray⟩,.int .i64 x.value] 112));simp only at hN;rw [hn] at hN;have HN:=hid hN;clear hN
     go_wp2_with (first
      |(go_at_call 80;go_must (refine HN.out.mono ?_;rintro e w2 ⟨rfl,hu2⟩)))
     go_ret
     (have hi:itemN l k x=7:=by simp [itemN,hn]);exact ⟨ret_int (by rw [Hgg.out (by rw [hi];decide),hi]),Hu1.out.trans hu2⟩
    |true =>
     have hN:=named_s ⟨x.name.toArray⟩ (wr.alloc (.cells #[.string ⟨x.name.toArray⟩,.int .i64 x.value] 112));simp only at hN;rw [hn] at hN;have HN:=hid hN;clear hN
     go_wp2_with (first
      |(go_at_call 80;go_must (refine HN.out.mono ?_;rintro e w2 ⟨rfl,hu2⟩)))
     have hu12:=Hu1.out.trans hu2;have hb2:=hu2.blk Hbk.out;have p0:=ro0 hb2;have p1:=ro1 hb2;have z2:=lt_of_block hb2;clear hu2 HN hb2 Hbk;refine (containsF_itm _ (l.take k) (fun y=>x.name==y.name) 91 (enters_of Tryz.func91 (by kernel_rfl) rfl) #[.pointer (some ⟨wr.heap.size,0,none⟩)] w2 ((Hv.out.up stable_itm hu12).take k (by omega)) (fun y cs wq _ hwq hd=>items1 x _ y cs wq (Nat.lt_of_lt_of_le z2 hwq.size) (hwq.cell_some p0) hd)).mono ?_;rintro e w3 ⟨rfl,hu3⟩;have q1:=hu3.cell_some p1;have z3:wr.heap.size<w3.heap.size:=Nat.lt_of_lt_of_le z2 hu3.size;have Hu3:=hid (hu12.trans hu3);clear p0 p1 z2 hu3 hu12 Hu1
     cases ha:(l.take k).any (fun y=>x.name==y.name) with
     |true =>
      go_wp2_with fail
      go_ret
      (have hi:itemN l k x=7:=by simp only [itemN,hn,ha,Bool.not_true,Bool.false_or,if_true]);exact ⟨ret_int (by rw [Hgg.out (by rw [hi];decide),hi]),Hu3.out⟩
     |false =>
      have hi1:itemN l k x=if x.value < -2147483648∨2147483647<x.value then 3 else if (k=0/\x.value≠0)∨(l.take k).any (fun y=>x.value==y.value) then 8 else 0:=by
       simp only [itemN,hn,ha,Bool.not_true,Bool.or_false,Bool.false_eq_true,if_false]
      have Hi1:=hid hi1;clear hi1;(have hcs:x.value < -2147483648∨(-2147483648<=x.value/\2147483647<x.value)∨(-2147483648<=x.value/\x.value<=2147483647):=by omega);rcases hcs with h|⟨h,h'⟩|⟨h,h'⟩
      ·go_wp2_with fail
       go_ret
       (have hi:itemN l k x=3:=by rw [Hi1.out,if_pos (by omega)]);exact ⟨ret_int (by rw [Hgg.out (by rw [hi];decide),hi]),Hu3.out⟩
      ·go_wp2_with fail
       go_ret
       (have hi:itemN l k x=3:=by rw [Hi1.out,if_pos (by omega)]);exact ⟨ret_int (by rw [Hgg.out (by rw [hi];decide),hi]),Hu3.out⟩
      ·have hcz:(k=0/\x.value≠0)∨¬ (k=0/\x.value≠0):=Decidable.em _;(have hi2:itemN l k x=if (k=0/\x.value≠0)∨(l.take k).any (fun y=>x.value==y.value) then 8 else 0:=by rw [Hi1.out,if_neg (by omega)]);have Hi2:=hid hi2;clear hi2 Hi1;rcases hcz with ⟨hk0,hv0⟩|hcz
       ·(have hi:itemN l k x=8:=by rw [Hi2.out,if_pos (.inl ⟨hk0,hv0⟩)]);(have hk1:((k:Int)==0)=true:=by simp [hk0]);(have hv1:(x.value != 0)=true:=by simpa using hv0);have Hk0:=hid hk0;clear hk0;go_wp2_with fail
        go_ret
        exact ⟨ret_int (by rw [Hgg.out (by rw [hi];decide),hi]),Hu3.out⟩
       ·have hi3:itemN l k x=if (l.take k).any (fun y=>x.value==y.value)=true then 8 else 0:=by
         rw [Hi2.out];simp only [hcz,false_or]
        have Hi3:=hid hi3;clear hi3 Hi2
        have hkv:((k:Int)==0)=false∨(((k:Int)==0)=true/\(x.value != 0)=false):=by
         by_cases hk0:k=0
         ·right;refine ⟨by simp [hk0],?_⟩;rw [bne_eq_false_iff_eq];exact Decidable.byContradiction fun h=>hcz ⟨hk0,h⟩
         ·left;rw [beq_eq_false_iff_ne];omega
        have Hcz:=hid hcz;clear hcz;rcases hkv with hk1|⟨hk1,hv1⟩
        all_goals
         go_wp2_with (first
          |(go_at_call 90;go_must (refine (containsF_itm _ (l.take k) (fun y=>x.value==y.value) 92 (enters_of Tryz.func92 (by kernel_rfl) rfl) #[.pointer (some ⟨wr.heap.size,0,none⟩)] w3 ((Hv.out.up stable_itm Hu3.out).take k (by omega)) (fun y cs wq _ hwq hd=>items2 x _ y cs wq (Nat.lt_of_lt_of_le z3 hwq.size) (hwq.cell_some q1) hd)).mono ?_;rintro e w4 ⟨rfl,hu4⟩;have Hu4:=hid (Hu3.out.trans hu4);clear hu4;cases hb3:(l.take k).any (fun y=>x.value==y.value))))
         ·go_roundw
          (case rel=>exact ⟨k+1,by omega,by go_num,Hu4.out,Hgn.out (by rw [Hi3.out,if_neg (by rw [hb3];decide)])⟩);case measure=>simp [intOf];omega
         ·go_ret
          (have hi:itemN l k x=8:=by rw [Hi3.out,if_pos hb3]);exact ⟨ret_int (by rw [Hgg.out (by rw [hi];decide),hi]),Hu4.out⟩
   ·go_wp2_with fail
    go_ret
    exact ⟨ret_int (firstN_idx_none (fun j hj=>Hg.out j hj (by omega))).symm,hu⟩
theorem typed_l (f:Fil) (x:Fld) (bf b o:Nat) (vm ve:Value) (w:World) (hf:FilV All w (.agg #[vm,ve]) f) (h0:w.cell? ⟨bf,0,none⟩=some vm) (h1:w.cell? ⟨bf,1,none⟩=some ve)
  (c2:w.cell? ⟨b,o+2,none⟩=some (.int .i64 x.kind)) (c3:w.cell? ⟨b,o+3,none⟩=some (.string ⟨x.type.toArray⟩)) (c4:w.cell? ⟨b,o+4,none⟩=some (.bool x.many)) (c5:w.cell? ⟨b,o+5,none⟩=some (.int .i64 x.choice)) :
  Calls Tryz.prog 89 #[.pointer (some ⟨bf,0,none⟩),.pointer (some ⟨b,o,none⟩)] w fun e w'=>e=.returned (.int .i64 (typedN f x))/\Up w w':=by
 have Hf:=hid hf;clear hf;(have hk:x.kind<1∨(1<=x.kind/\10<x.kind)∨x.kind=10∨x.kind=5∨(1<=x.kind/\x.kind<=10/\x.kind≠10/\x.kind≠5):=by omega);rcases hk with h|⟨h,h'⟩|h|h|⟨k1,k2,k3,k4⟩
 case inl =>
  go_enter Tryz.func89,Tryz.ntmps89
  go_wp2_with fail
  go_ret
  exact ⟨ret_int (by rw [typedN,if_pos (by omega)]),Up.refl _⟩
 case inr.inl =>
  go_enter Tryz.func89,Tryz.ntmps89
  go_wp2_with fail
  go_ret
  exact ⟨ret_int (by rw [typedN,if_pos (by omega)]),Up.refl _⟩
 case inr.inr.inl =>
  have hfm:=fun w1 (hu:Up w w1)=>find_msg_l _ f x.type w1 (Hf.out.up hu);have Hfm:=hid hfm;clear hfm
  have hty:typedN f x=if idxP (fun m=>m.name==x.type) f.msgs<0 then 6 else if 0<x.choice/\x.many=true then 8 else 0:=by
   unfold typedN;rw [h];simp
  have Hty:=hid hty;clear hty;generalize idxP (fun m=>m.name==x.type) f.msgs=i at *;rw [h] at c2
  go_enter Tryz.func89,Tryz.ntmps89
  go_wp2_with fail
  go_region_held3 (fun w'=>w'.cell? ⟨b,o+2,none⟩=some (.int .i64 10)/\w'.cell? ⟨b,o+3,none⟩=some (.string ⟨x.type.toArray⟩)/\w'.cell? ⟨bf,0,none⟩=some vm/\w'.cell? ⟨bf,1,none⟩=some ve) (first|go_keep|exact ⟨c2,c3,h0,h1⟩|exact ⟨hx2.cell_some c2,hx2.cell_some c3,hx2.cell_some h0,hx2.cell_some h1⟩)
   (first|(go_at_call 69;refine (Hfm.out _ (Up.drew (Up.refl _))).mono ?_;rintro e w2 ⟨rfl,hu2⟩;have hx2:=(Up.drew (Up.refl _)).trans hu2))
  have d2:=hx2.cell_some c2;have d4:=hx2.cell_some c4;have d5:=hx2.cell_some c5
  by_cases hi:i<0
  ·go_wp2_with fail
   go_ret
   exact ⟨ret_int (by rw [Hty.out,if_pos hi]),hx2⟩
  ·(have hi':0<=i:=by omega);clear hi;go_wp2_with fail
   go_quiet (fail)
   (have hch:x.choice<=0∨0<x.choice:=by omega);rcases hch with hch|hch
   ·go_wp2_with fail
    go_ret
    exact ⟨ret_int (by rw [Hty.out,if_neg (Int.not_lt.2 hi'),if_neg (by omega)]),hx2.drewN _⟩
   ·cases hm:x.many
    all_goals
     rw [hm] at d4;go_wp2_with fail
     go_ret
    ·exact ⟨ret_int (by rw [Hty.out,if_neg (Int.not_lt.2 hi'),if_neg (by simp [hm])]),hx2.drewN _⟩
    ·exact ⟨ret_int (by rw [Hty.out,if_neg (Int.not_lt.2 hi'),if_pos ⟨hch,hm⟩]),hx2.drewN _⟩
 case inr.inr.inr.inl =>
  have hfm:=fun w1 (hu:Up w w1)=>find_enu_l _ f x.type w1 (Hf.out.up hu);have Hfm:=hid hfm;clear hfm
  have hty:typedN f x=if idxP (fun m=>m.name==x.type) f.enums<0 then 6 else if 0<x.choice/\x.many=true then 8 else 0:=by
   unfold typedN;rw [h];simp
  have Hty:=hid hty;clear hty;generalize idxP (fun m=>m.name==x.type) f.enums=i at *;rw [h] at c2
  go_enter Tryz.func89,Tryz.ntmps89
  go_wp2_with fail
  go_quiet (fail)
  go_wp2_with fail
  go_region_held3 (fun w'=>w'.cell? ⟨b,o+2,none⟩=some (.int .i64 5)/\w'.cell? ⟨b,o+3,none⟩=some (.string ⟨x.type.toArray⟩)/\w'.cell? ⟨bf,0,none⟩=some vm/\w'.cell? ⟨bf,1,none⟩=some ve) (first|go_keep|exact ⟨c2,c3,h0,h1⟩|exact ⟨hx2.cell_some c2,hx2.cell_some c3,hx2.cell_some h0,hx2.cell_some h1⟩)
   (first|(go_at_call 128;refine (Hfm.out _ (Up.drew ((Up.refl _).drewN _))).mono ?_;rintro e w2 ⟨rfl,hu2⟩;have hx2:=(Up.drew ((Up.refl _).drewN _)).trans hu2))
  have d2:=hx2.cell_some c2;have d4:=hx2.cell_some c4;have d5:=hx2.cell_some c5
  by_cases hi:i<0
  ·go_wp2_with fail
   go_ret
   exact ⟨ret_int (by rw [Hty.out,if_pos hi]),hx2⟩
  ·(have hi':0<=i:=by omega);clear hi;(have hch:x.choice<=0∨0<x.choice:=by omega);rcases hch with hch|hch
   ·go_wp2_with fail
    go_ret
    exact ⟨ret_int (by rw [Hty.out,if_neg (Int.not_lt.2 hi'),if_neg (by omega)]),hx2⟩
   ·cases hm:x.many
    all_goals
     rw [hm] at d4;go_wp2_with fail
     go_ret
    ·exact ⟨ret_int (by rw [Hty.out,if_neg (Int.not_lt.2 hi'),if_neg (by simp [hm])]),hx2⟩
    ·exact ⟨ret_int (by rw [Hty.out,if_neg (Int.not_lt.2 hi'),if_pos ⟨hch,hm⟩]),hx2⟩
 case inr.inr.inr.inr =>
  (have e10:(x.kind==10)=false:=by rw [beq_eq_false_iff_ne];exact k3);(have e5:(x.kind==5)=false:=by rw [beq_eq_false_iff_ne];exact k4);(have n10:(x.kind != 10)=true:=by rw [bne_iff_ne];exact k3);have n5:(x.kind != 5)=true:=by rw [bne_iff_ne];exact k4
  have hty:typedN f x=if x.type≠[] then 8 else if 0<x.choice/\x.many=true then 8 else 0:=by
   unfold typedN;rw [if_neg (by omega),if_neg (by omega)]
   by_cases ht:x.type=[]
   ·simp [ht]
   ·rw [if_pos (.inl ⟨k3,k4,ht⟩),if_pos ht]
  have Hty:=hid hty;clear hty;have K3:=hid k3;have K4:=hid k4;clear k3 k4
  go_enter Tryz.func89,Tryz.ntmps89
  go_wp2_with fail
  go_quiet (fail)
  go_wp2_with fail
  go_quiet (fail)
  by_cases ht:x.type=[]
  ·rw [ht] at c3;have d4:=c4;have Ht:=hid ht;clear ht;(have hch:x.choice<=0∨0<x.choice:=by omega);rcases hch with hch|hch
   ·go_wp2_with fail
    go_ret
    exact ⟨ret_int (by rw [Hty.out,if_neg (not_not_intro Ht.out),if_neg (by omega)]),(Up.refl w).drewN _⟩
   ·cases hm:x.many
    all_goals
     rw [hm] at c4 d4;go_wp2_with fail
     go_ret
    ·exact ⟨ret_int (by rw [Hty.out,if_neg (not_not_intro Ht.out),if_neg (by simp [hm])]),(Up.refl w).drewN _⟩
    ·exact ⟨ret_int (by rw [Hty.out,if_neg (not_not_intro Ht.out),if_pos ⟨hch,hm⟩]),(Up.refl w).drewN _⟩
  ·(have hte:x.type.isEmpty=false:=by simpa using ht);have Ht:=hid ht;clear ht;go_wp2_with fail
   go_ret
   exact ⟨ret_int (by rw [Hty.out,if_pos Ht.out]),(Up.refl w).drewN _⟩
end Go.Proofs.YtbceccblepckhaaGreatDoor
