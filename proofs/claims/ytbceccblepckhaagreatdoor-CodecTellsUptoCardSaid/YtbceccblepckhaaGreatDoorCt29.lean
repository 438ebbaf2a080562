/-
  A body that lies has numbers of 64 bits.
  A right body's records have bytes; in plain Lean.
  Package wire: Get.
  Package wire: number, one; slices.Clone of bytes.
  Package wire: one.
  Package wire: one.
-/
import Derived.Test.YtbceccblepckhaaGreatDoorCt28
set_option maxHeartbeats 1600000
set_option linter.unusedVariables false
namespace Go.Proofs.YtbceccblepckhaaGreatDoor
open Go.RowKit
theorem b64_of : ∀ (d:Nat) {S:Nat->Prop} {w:World} {b:Bod} {cs:List Value},DBodF d S w b cs->∀ k,B64 k b
 |0,_,_,_,_,h,_=>h.elim
 |d+1,S,w,b,cs,h,0=>trivial
 |d+1,S,w,b,cs,⟨vv,vu,_,hv,hu,_⟩,k+1=>by
  refine ⟨fun v hv'=>?_,fun r hr=>?_⟩
  ·obtain ⟨i,hi,rfl⟩:=List.getElem_of_mem hv';obtain ⟨ao,cap,_,_,_,_,g4⟩:=hv;obtain ⟨_,_,cs,_,_,_,_,_,vb,vy,vs,rfl,_,h1,_,h3,_⟩:=g4 i hi;refine ⟨fun n hn=>?_,fun s hs=>?_⟩
   ·obtain ⟨j,hj,rfl⟩:=List.getElem_of_mem hn;obtain ⟨ao',cap',_,_,_,_,g4'⟩:=h1;obtain ⟨_,_,cs',_,_,_,_,_,h⟩:=g4' j hj;have:=h.2;simpa using this
   ·obtain ⟨j,hj,rfl⟩:=List.getElem_of_mem hs;obtain ⟨ao',cap',_,_,_,_,g4'⟩:=h3;obtain ⟨_,_,cs',_,_,_,_,_,h⟩:=g4' j hj;exact b64_of d h k
  ·obtain ⟨i,hi,rfl⟩:=List.getElem_of_mem hr;obtain ⟨ao,cap,_,_,_,_,g4⟩:=hu;obtain ⟨_,_,cs,_,_,_,_,_,⟨_,_,_,h64⟩,_⟩:=g4 i hi;simpa using h64
theorem valRecs_okR {wb:Int->Bod->Int} {f:Fil} {x:Fld} {v:Val} {sub:Bod->List UInt8} {M:Nat} (n1:1<=x.number) (n2:x.number<536870912) (ht:typedN f x=0) (hv:FitV wb f x v) (h64:Num64 v) (hM:((valRecs sub x v).flatMap oneB).length<=M) (h4:M<=1099511627776) :
  (∀ r∈valRecs sub x v,OkR r)/\∀ s∈v.2.2.2,(sub s).length<=M:=by
 obtain ⟨t1,t2,_,_⟩:=typed_facts ht;have hsh:=fit_shape hv t1 t2;have hsz:∀ t:List UInt8,t.length<=1099511627776->OkR ⟨x.number,2,0,t⟩:=fun t h=>⟨⟨by simp only;omega,n2⟩,.inr (.inr (.inr rfl)),(show (0:Nat)<18446744073709551616 by decide),h⟩;have hmem:∀ r∈valRecs sub x v,(oneB r).length<=M:=fun r hr=>Nat.le_trans (flat_mem oneB hr) hM;obtain ⟨n,b,y,s⟩:=v;simp only at h64 hsh;rcases hsh with ⟨g,g7,e,hne,hone⟩|⟨g,g8,e,hne,hone⟩|⟨g,g8,e,hne,hone⟩
 ·simp only [Prod.mk.injEq,true_and] at e;obtain ⟨rfl,rfl⟩:=e;refine ⟨?_,fun s hs=>by cases hs⟩
  cases hm:x.many with
  |true =>
   (have e2:valRecs sub x (n,b,[],[])=[⟨x.number,2,0,packC x.kind b⟩]:=by unfold valRecs;rw [if_pos ⟨hm,g⟩]);rw [e2] at hmem ⊢;intro r hr;(obtain rfl:r=⟨x.number,2,0,packC x.kind b⟩:=by simpa using hr);exact hsz _ (Nat.le_trans (oneB_sized _ _) (Nat.le_trans (hmem _ hr) h4))
  |false =>
   obtain ⟨q,rfl⟩:=hone hm;(have e2:valRecs sub x (n,[q],[],[])=[⟨x.number,howC x.kind,toldC x.kind q,[]⟩]:=by unfold valRecs;rw [if_neg (by rw [hm];simp)];rfl);rw [e2];intro r hr;(obtain rfl:r=⟨x.number,howC x.kind,toldC x.kind q,[]⟩:=by simpa using hr);refine ⟨⟨by simp only;omega,n2⟩,?_,told_64 (k:=x.kind) (h64 q (by simp)),by simp⟩;rcases howC_three g with h|h|h
   ·exact .inl h
   ·exact .inr (.inl h)
   ·exact .inr (.inr (.inl h))
 ·simp only [Prod.mk.injEq,true_and] at e;obtain ⟨rfl,rfl⟩:=e;(have e2:valRecs sub x (n,[],y,[])=y.map fun t=>⟨x.number,2,0,t⟩:=by unfold valRecs;rw [if_neg (by rintro ⟨_,h⟩;exact h g)];simp);rw [e2] at hmem ⊢;refine ⟨fun r hr=>?_,fun s hs=>by cases hs⟩;obtain ⟨t,ht,rfl⟩:=List.mem_map.1 hr;exact hsz _ (Nat.le_trans (oneB_sized _ _) (Nat.le_trans (hmem _ hr) h4))
 ·simp only [Prod.mk.injEq,true_and] at e;obtain ⟨rfl,rfl,_⟩:=e;(have e2:valRecs sub x (n,[],[],s)=s.map fun t=>⟨x.number,2,0,sub t⟩:=by unfold valRecs;rw [if_neg (by rintro ⟨_,h⟩;exact h g)];simp);rw [e2] at hmem ⊢;refine ⟨fun r hr=>?_,fun q hq=>?_⟩
  ·obtain ⟨t,ht,rfl⟩:=List.mem_map.1 hr;exact hsz _ (Nat.le_trans (oneB_sized _ _) (Nat.le_trans (hmem _ hr) h4))
  ·exact Nat.le_trans (oneB_sized x.number _) (hmem ⟨x.number,2,0,sub q⟩ (List.mem_map_of_mem hq))
theorem valsRecs_le (sub:Fld->Bod->List UInt8) (fs:List Fld) {l:List Val} {v:Val} (hv:v∈l) {x:Fld} (hx:fldN fs v.1=some x):((valRecs (sub x) x v).flatMap oneB).length<=((valsRecs sub fs l).flatMap oneB).length:=by
 unfold valsRecs;obtain ⟨p,q,e⟩:=List.append_of_mem hv;rw [e,List.flatMap_append,List.flatMap_cons,hx];simp only [List.flatMap_append,List.length_append];omega
theorem recs_okR {f:Fil} (hright:(wrongN f).1=0) {k:Nat} {msg:Int} {b:Bod} {m:Msg} (hm:f.msgs[msg.toNat]? = some m) (hb:wrongB f (k+1) msg b=0) (h64:B64 (k+1) b) {M:Nat} (hM:(rawB f (k+1) msg b).length<=M) (h4:M<=1099511627776) :
  (∀ r∈recsB f (k+1) msg b,OkR r)/\(∀ v∈b.values,∀ x,fldN m.fields v.1=some x->∀ s∈v.2.2.2,(rawB f k (msgI f x.type) s).length<=M):=by
 have hmr:=right_msg hright m (List.mem_of_getElem? hm);have hch:∀ z∈m.fields,0<=z.choice:=fun z hz=>(choice_16 hmr hz).1;obtain ⟨hall,hunk⟩:=(wrongB_is hm hch b).1 hb;have hflat:=raw_succ (k:=k) (b:=b) hm
 have hval:∀ v∈b.values,∀ x,fldN m.fields v.1=some x->(∀ r∈valRecs (fun s=>rawB f k (msgI f x.type) s) x v,OkR r)/\∀ s∈v.2.2.2,(rawB f k (msgI f x.type) s).length<=M:=by
  intro v hv x hx;obtain ⟨y,hy,hw⟩:=hall.fld v hv;rw [hx] at hy;obtain rfl:=Option.some.inj hy;obtain ⟨hxm,hxn⟩:=fldN_mem hx;obtain ⟨i,hi,e⟩:=List.getElem_of_mem hxm;have hff:=field_facts ((msg_field hmr).2.2 i hi);rw [e] at hff;refine valRecs_okR hff.1 hff.2.1 hff.2.2.2.1 (wrongVF_iff.1 hw).1 (h64.1 v hv).1 (M:=M) ?_ h4;refine Nat.le_trans (valsRecs_le (fun x s=>rawB f k (msgI f x.type) s) m.fields hv hx) ?_;rw [hflat,List.length_append] at hM;omega
 refine ⟨fun r hr=>?_,fun v hv x hx=>(hval v hv x hx).2⟩;rw [recsB_succ hm] at hr;rcases List.mem_append.1 hr with h|h
 ·unfold valsRecs at h;obtain ⟨v,hv,hr⟩:=List.mem_flatMap.1 h;obtain ⟨x,hx,_⟩:=hall.fld v hv;rw [hx] at hr;exact (hval v hv x hx).1 r hr
 ·have hu:=hunk r h;unfold unkN at hu
  have hw:wrongRec r=0:=by
   apply Classical.byContradiction;intro g;rw [if_pos g] at hu;exact g hu
  obtain ⟨g1,g2,g3,g4,g5⟩:=wrongRec_ok hw;refine ⟨⟨by omega,g2⟩,g3,h64.2 r h,?_⟩;rcases g5 with h|h
  ·omega
  ·rw [h.2];simp
theorem valRecs_parts {wb:Int->Bod->Int} {f:Fil} {x:Fld} {v:Val} {sub:Bod->List UInt8} (ht:typedN f x=0) (hv:FitV wb f x v) :
  valRecs sub x v=((if x.many=true then [] else v.2.1.map fun n=>(⟨x.number,howC x.kind,toldC x.kind n,[]⟩:Rec))++(if x.many=true/\0<v.2.1.length then [(⟨x.number,2,0,packC x.kind v.2.1⟩:Rec)] else []))++(v.2.2.1.map (fun t=>(⟨x.number,2,0,t⟩:Rec))++v.2.2.2.map (fun s=>(⟨x.number,2,0,sub s⟩:Rec))):=by
 obtain ⟨t1,t2,_,_⟩:=typed_facts ht;have hsh:=fit_shape hv t1 t2;obtain ⟨n,b,y,s⟩:=v;simp only at hsh ⊢;rcases hsh with ⟨g,g7,e,hne,hone⟩|⟨g,g8,e,hne,hone⟩|⟨g,g8,e,hne,hone⟩
 ·simp only [Prod.mk.injEq,true_and] at e;obtain ⟨rfl,rfl⟩:=e;unfold valRecs
  cases hm:x.many with
  |true =>
   have hp:0<b.length:=List.length_pos_iff.2 (by simpa using hne);rw [if_pos ⟨rfl,g⟩,if_pos rfl,if_pos ⟨rfl,hp⟩];simp
  |false=>simp
 ·simp only [Prod.mk.injEq,true_and] at e;obtain ⟨rfl,rfl⟩:=e;unfold valRecs;rw [if_neg (by rintro ⟨_,h⟩;exact h g)];simp
 ·simp only [Prod.mk.injEq,true_and] at e;obtain ⟨rfl,rfl,_⟩:=e;unfold valRecs;rw [if_neg (by rintro ⟨_,h⟩;exact h g)];simp
set_option maxRecDepth 100000
open Lib (hid)
theorem get_any (v:Value) (l:List UInt8) (w:World) (hv:RdB All w v l) :
  Calls Tryz.prog 130 #[v] w fun e w'=>e=.returned (.tuple #[.int .u64 ((get l).1:Int),.int .i64 ((get l).2.1:Int),.int .i64 (get l).2.2])/\w'=w:=by
 obtain ⟨ao,cap,rfl,hc1,hc2⟩:=hv.val
 go_enter Tryz.func130,Tryz.ntmps130
 go_wp2_with fail
 go_loop [5,10] (fun n i=>∃ k a:Nat,k<=l.length/\k<=9/\i=.int .i64 k/\n=.int .u64 a/\a<2 ^ (7*k)/\getF k a (l.drop k)=get l) (fun _ i=>l.length - (intOf i).toNat)
 case atStart=>exact ⟨0,0,by omega,by omega,rfl,rfl,by simp,rfl⟩
 case round =>
  obtain ⟨k,a,hk,hk9,rfl,rfl,ha,hg⟩:=hrel
  by_cases hlt:k<l.length
  ·obtain ⟨b,o,rfl,hcell⟩:=hv.cell hlt;have hd:l.drop k=l[k]::l.drop (k+1):=List.drop_eq_getElem_cons hlt;have hc256:l[k].toNat<256:=UInt8.toNat_lt _;generalize l[k]=c at *;rw [hd,getF] at hg
   by_cases h9:k=9/\1<c.toNat
   ·obtain ⟨rfl,h1⟩:=h9;(have Hg:Hid ((0,0,3)=get l):=by rw [←hg,if_pos ⟨rfl,h1⟩];exact hid rfl);clear hg hd ha;go_wp2_with fail
    go_ret3
    rw [←Hg.out];exact ⟨rfl,rfl⟩
   ·have hb:=get_bits a k c.toNat ha hc256 hk9 (by omega);have hs:=get_step a k c.toNat ha;rw [if_neg h9] at hg;have Hb:=hid hb;clear hb;have Hs:=hid hs;clear hs;have Hg:=hid hg;clear hg;(have h91:k=9->c.toNat<=1:=by omega);clear ha h9 hd
    by_cases h9:k=9
    ·have h1:=h91 h9;clear h91;subst h9;go_wp2_with fail
     go_ret3
     have hg:=Hg.out;rw [if_pos (by omega)] at hg;have hb:=Hb.out;rw [←hg];simp only [Nat.reduceMul,Int.reducePow] at hb;rw [hb];refine ⟨?_,rfl⟩;rw [Nat.mod_eq_of_lt (by omega)];rfl
    ·clear h91;have h9b:((k:Int)==9)=false:=by rw [beq_eq_false_iff_ne];omega
     by_cases h128:c.toNat<128
     ·go_wp2_with fail
      go_ret3
      have hg:=Hg.out;rw [if_pos h128] at hg;rw [←hg,Hb.out];refine ⟨?_,rfl⟩;rw [Nat.mod_eq_of_lt h128];rfl
     ·go_wp2_with fail
      go_round
      case rel =>
       have hg:=Hg.out;rw [if_neg h128] at hg;exact ⟨k+1,_,by omega,by omega,by go_num,by rw [Hb.out],Hs.out,hg⟩
      case measure=>simp [intOf];omega
  ·rw [List.drop_eq_nil_of_le (by omega),getF] at hg;have Hg:=hid hg;clear hg ha;go_wp2_with fail
   go_ret3
   rw [←Hg.out];exact ⟨rfl,rfl⟩
theorem get_eq (v:Value) (l:List UInt8) (w:World) (x m:Nat) (e0:Int) (h:get l=(x,m,e0)) (hv:RdB All w v l) :
  Calls Tryz.prog 130 #[v] w fun e w'=>e=.returned (.tuple #[.int .u64 (x:Int),.int .i64 (m:Int),.int .i64 e0])/\w'=w:=by
 have:=get_any v l w hv;rw [h] at this;exact this
theorem clone8_any (v:Value) (l:List UInt8) (w:World) (hv:RdB All w v l) (hl:l.length<=1099511627776) :
  Calls Tryz.prog 132 #[v] w fun e w'=>∃ v',e=.returned v'/\w'.ownsRow w.heap.size 5 1 v' l.length (B8 l)/\Up w w':=by
 obtain ⟨ao,cap,rfl,hc1,hc2⟩:=hv.val;have Hn:=hid (RdB.news hv);clear hv;have hnil:=fun (w:World) (a:Option Addr) (n c:Nat)=>Lib.run_eql_slice_nil (P:=Tryz.prog) w 30 5 a n c 0 0 Tryz.underlying30
 cases ao with
 |none =>
  have h0:=Hn.out.2.1 rfl;have:l=[]:=List.eq_nil_of_length_eq_zero h0.1;subst this;obtain rfl:=h0.2;clear h0
  go_enter Tryz.func132,Tryz.ntmps132
  go_wp2_with fail
  go_ret
  exact ⟨_,rfl,World.ownsRow_nil _ _ _ _,Up.refl _⟩
 |some ad =>
  go_enter Tryz.func132,Tryz.ntmps132
  go_wp2_with (at_builtin;go_loud (refine wpList_app eU8 _ (by rfl) _ _ (by rfl) w.heap.size _ 0 [] (by rfl) (World.ownsRow_lit w #[] 0 (Nat.le_refl _) (by unfold maxLen;omega) (by simp)) (some ad) l.length cap (by rfl) (B8 l) (by simp [B8]) (by simp) (fun ad' h j u hu=>?_) (B8_one _) (by omega) (by unfold maxLen;omega) (by simp) ?_))
  ·exact (Up.alloc (Up.refl w) _).cell_some (Hn.out.2.2 ad' h j u hu)
  ·intro v1 w1 how1 hev1;go_wp2_with fail
   go_ret
   exact ⟨_,rfl,by simpa using how1,(Up.alloc (Up.refl w) _).evo hev1 (fun k hk=>by simp [Value.ownBlock] at hk;omega)⟩
theorem number_any (v:Value) (l:List UInt8) (k:Nat) (w:World) (hv:RdB All w v l) (hk:k<=8) :
  Calls Tryz.prog 131 #[v,.int .i64 k] w fun e w'=>e=.returned (.tuple #[.int .u64 ((numB k l).1:Int),.int .i64 (numB k l).2])/\w'=w:=by
 obtain ⟨ao,cap,rfl,hc1,hc2⟩:=hv.val
 by_cases hlk:l.length<k
 ·go_enter Tryz.func131,Tryz.ntmps131
  go_wp2_with fail
  go_ret2
  unfold numB;rw [if_pos hlk];exact ⟨rfl,rfl⟩
 ·go_enter Tryz.func131,Tryz.ntmps131
  go_wp2_with fail
  go_loop [6,17] (fun n i=>∃ j:Nat,j<=k/\i=.int .i64 j/\n=.int .u64 (lowVal (l.take j))) (fun _ i=>k - (intOf i).toNat)
  case atStart=>exact ⟨0,by omega,rfl,rfl⟩
  case round =>
   obtain ⟨j,hj,rfl,rfl⟩:=hrel
   by_cases hlt:j<k
   ·obtain ⟨b,o,rfl,hcell⟩:=RdB.cell hv (i:=j) (by omega)
    have hs:lowVal (l.take (j+1))=lowVal (l.take j)+(l[j]'(by omega)).toNat*2 ^ (8*j):=by
     rw [take_snoc l j (by omega),lowVal_snoc,List.length_take,Nat.min_eq_left (by omega)]
    have hlo:lowVal (l.take j)<2 ^ (8*j):=by
     have:=lowVal_lt (l.take j)
     rwa [List.length_take,Nat.min_eq_left (by omega)] at this
    have hc256:(l[j]'(by omega)).toNat<256:=UInt8.toNat_lt _;generalize l[j]'(by omega)=c at *;have hb:=num_bits _ j c.toNat hlo hc256 (by omega);have Hb:=hid hb;clear hb;have Hs:=hid hs;clear hs hlo;generalize lowVal (l.take j)=a at *;go_wp2_with fail
    go_round
    (case rel=>exact ⟨j+1,by omega,by go_num,by rw [Hs.out,←Hb.out]⟩);case measure=>simp [intOf];omega
   ·go_wp2_with fail
    go_ret2
    unfold numB;rw [if_neg hlk,show j=k by omega];exact ⟨rfl,rfl⟩
end Go.Proofs.YtbceccblepckhaaGreatDoor
set_option linter.unusedSimpArgs false
namespace Go.Proofs.YtbceccblepckhaaGreatDoor
open Go.RowKit
set_option maxRecDepth 100000
open Lib (hid)
def OneP (l:List UInt8) (w:World) (e:Ending) (w':World):Prop:=∃ vb,e=.returned (.tuple #[.agg #[.int .i64 (oneP l).2.1.number,.int .i64 (oneP l).2.1.how,.int .u64 ((oneP l).2.1.bits:Int),vb],.int .i64 ((oneP l).2.2:Int),.int .i64 (oneP l).1])/\RdB (fun k=>w.heap.size<=k) w' vb (oneP l).2.1.bytes/\Up w w'
theorem OneP.bad {l:List UInt8} {w w':World} {x:Int} (h:oneP l=(x,rec0,0)) (hu:Up w w'):OneP l w (.returned (.tuple #[.agg #[.int .i64 0,.int .i64 0,.int .u64 0,.slice none 0 0],.int .i64 0,.int .i64 x])) w':=by
 unfold OneP;rw [h];exact ⟨_,rfl,rdB_nil _ _,hu⟩
theorem OneP.good {l:List UInt8} {w w':World} {number how:Int} {bits n:Nat} (h:oneP l=(0,⟨number,how,bits,[]⟩,n)) (hu:Up w w') (a b:Int) (ha:a=number) (hb:b=how) (m:Int) (hm:m=n):OneP l w (.returned (.tuple #[.agg #[.int .i64 a,.int .i64 b,.int .u64 (bits:Int),.slice none 0 0],.int .i64 m,.int .i64 0])) w':=by
 subst ha;subst hb;subst hm;unfold OneP;rw [h];exact ⟨_,rfl,rdB_nil _ _,hu⟩
abbrev box0 : Obj:=.cells #[.int .i64 0,.int .i64 0,.int .u64 0,.slice none 0 0] 87
theorem one_range (l:List UInt8) (w:World) (ao:Option Addr) (cap tag at_:Nat) (hl:l.length<=1099511627776) (hv:RdB All w (.slice ao l.length cap) l) (hc1:l.length<=cap) (hc2:cap<=9223372036854775807)
  (Hg:Hid (Calls Tryz.prog 130 #[.slice ao l.length cap] (w.alloc box0) fun e w'=>e=.returned (.tuple #[.int .u64 (tag:Int),.int .i64 (at_:Int),.int .i64 0])/\w'=w.alloc box0)) (Htag:Hid (tag<2 ^ 64)) (k1:0<at_) (k2:at_<=l.length) (h:tag / 8<1∨536870912<=tag / 8) (Hone:Hid (oneP l=(3,rec0,0))) :
  Calls Tryz.prog 93 #[.slice ao l.length cap] w (OneP l w):=by
 have hv2:RdB All w (.slice (if cap=at_ then ao else ao.map (·.add at_)) (l.length - at_) (cap - at_)) (l.drop at_):=RdB.drop hv at_ k2 (fun h=>by rw [if_neg h]) rfl rfl;have Hv2:=hid hv2;clear hv2;have Hv:=hid hv;clear hv;rcases h with hn|hn
 all_goals
  go_enter Tryz.func93,Tryz.ntmps93
  (go_wp2_with fail);refine Hg.out.mono ?_;rintro e w1 ⟨rfl,rfl⟩;(go_wp2_with fail);refine bodyPost_ret (v:=.tuple #[.agg #[.int .i64 0,.int .i64 0,.int .u64 0,.slice none 0 0],.int .i64 0,.int .i64 3]) (by simp [results,Tryz.results93,go_sem]) rfl ?_;exact OneP.bad Hone.out (by repeat (first|exact Up.refl _|assumption|apply Up.alloc|refine Up.setCell ?_ (by simp) _))
theorem one_kind (l:List UInt8) (w:World) (ao:Option Addr) (cap tag at_:Nat) (hl:l.length<=1099511627776) (hv:RdB All w (.slice ao l.length cap) l) (hc1:l.length<=cap) (hc2:cap<=9223372036854775807)
  (Hg:Hid (Calls Tryz.prog 130 #[.slice ao l.length cap] (w.alloc box0) fun e w'=>e=.returned (.tuple #[.int .u64 (tag:Int),.int .i64 (at_:Int),.int .i64 0])/\w'=w.alloc box0)) (Htag:Hid (tag<2 ^ 64)) (k1:0<at_) (k2:at_<=l.length) (hn1:1<=tag / 8) (hn2:tag / 8<536870912) (h:Nat) (hh:tag % 8=h) (h0:h≠0) (h1:h≠1) (h2:h≠2) (h5:h≠5) (Hone:Hid (oneP l=(1,rec0,0))) :
  Calls Tryz.prog 93 #[.slice ao l.length cap] w (OneP l w):=by
 have hv2:RdB All w (.slice (if cap=at_ then ao else ao.map (·.add at_)) (l.length - at_) (cap - at_)) (l.drop at_):=RdB.drop hv at_ k2 (fun h=>by rw [if_neg h]) rfl rfl;have Hv2:=hid hv2;clear hv2;have Hv:=hid hv;clear hv;(have hb:bits .and .u64 (tag:Int) 7=(h:Int):=by rw [bits_and7,hh]);(have h7:h<8:=by omega);(have hw:wrap64 (h:Int)=(h:Int):=by unfold wrap64;omega);(have g0:((h:Int)==0)=false:=by rw [beq_eq_false_iff_ne];omega);(have g1:((h:Int)==1)=false:=by rw [beq_eq_false_iff_ne];omega);(have g2:((h:Int)==2)=false:=by rw [beq_eq_false_iff_ne];omega);(have g5:((h:Int)==5)=false:=by rw [beq_eq_false_iff_ne];omega);have Hhh:=hid hh;clear hh
 go_enter Tryz.func93,Tryz.ntmps93
 (go_wp2_with fail);refine Hg.out.mono ?_;rintro e w1 ⟨rfl,rfl⟩;(go_wp2_with fail);refine bodyPost_ret (v:=.tuple #[.agg #[.int .i64 0,.int .i64 0,.int .u64 0,.slice none 0 0],.int .i64 0,.int .i64 1]) (by simp [results,Tryz.results93,go_sem]) rfl ?_;exact OneP.bad Hone.out (by repeat (first|exact Up.refl _|assumption|apply Up.alloc|refine Up.setCell ?_ (by simp) _))
theorem one_varint (l:List UInt8) (w:World) (ao:Option Addr) (cap tag at_:Nat) (hl:l.length<=1099511627776) (hv:RdB All w (.slice ao l.length cap) l) (hc1:l.length<=cap) (hc2:cap<=9223372036854775807)
  (Hg:Hid (Calls Tryz.prog 130 #[.slice ao l.length cap] (w.alloc box0) fun e w'=>e=.returned (.tuple #[.int .u64 (tag:Int),.int .i64 (at_:Int),.int .i64 0])/\w'=w.alloc box0)) (Htag:Hid (tag<2 ^ 64)) (k1:0<at_) (k2:at_<=l.length) (hn1:1<=tag / 8) (hn2:tag / 8<536870912) (h:tag % 8=0) (x m:Nat) (e0:Int) (hgx:get (l.drop at_)=(x,m,e0)) (hm:m<=10) (Hone:Hid (oneP l=if e0≠0 then (e0,rec0,0) else (0,⟨((tag / 8:Nat):Int),0,x,[]⟩,at_+m))) :
  Calls Tryz.prog 93 #[.slice ao l.length cap] w (OneP l w):=by
 have hv2:RdB All w (.slice (if cap=at_ then ao else ao.map (·.add at_)) (l.length - at_) (cap - at_)) (l.drop at_):=RdB.drop hv at_ k2 (fun h=>by rw [if_neg h]) rfl rfl;have Hv2:=hid hv2;clear hv2;have Hv:=hid hv;clear hv;(have hb:bits .and .u64 (tag:Int) 7=0:=by rw [bits_and7];omega);have hg2:=fun w' (hu:Up w w')=>get_any _ (l.drop at_) w' (Hv2.out.up stable_u8 hu);rw [hgx] at hg2;have Hg2:=hid hg2;clear hg2 hgx
 by_cases he:e0=0
 ·subst he
  go_enter Tryz.func93,Tryz.ntmps93
  (go_wp2_with fail);refine Hg.out.mono ?_;rintro e w1 ⟨rfl,rfl⟩;go_wp2_with (go_at_call 130;refine (Hg2.out _ (by repeat (first|exact Up.refl _|assumption|apply Up.alloc|refine Up.setCell ?_ (by simp) _))).mono ?_;rintro e w2 ⟨rfl,rfl⟩)
  all_goals
   refine bodyPost_ret (v:=.tuple #[.agg #[.int .i64 ((tag:Int) / 8),.int .i64 0,.int .u64 (x:Int),.slice none 0 0],.int .i64 ((at_:Int)+m),.int .i64 0]) (by simp [results,Tryz.results93,go_sem]) rfl ?_;have hone:=Hone.out;rw [if_neg (by simp)] at hone;exact OneP.good hone (by repeat (first|exact Up.refl _|assumption|apply Up.alloc|refine Up.setCell ?_ (by simp) _)) _ _ (by simp) (by simp) _ (by simp)
 ·(have he2:(e0==0)=false:=by rw [beq_eq_false_iff_ne];exact he);have he3:(e0 != 0)=true:=by rw [bne_iff_ne];exact he
  go_enter Tryz.func93,Tryz.ntmps93
  (go_wp2_with fail);refine Hg.out.mono ?_;rintro e w1 ⟨rfl,rfl⟩;go_wp2_with (go_at_call 130;refine (Hg2.out _ (by repeat (first|exact Up.refl _|assumption|apply Up.alloc|refine Up.setCell ?_ (by simp) _))).mono ?_;rintro e w2 ⟨rfl,rfl⟩)
  all_goals
   refine bodyPost_ret (v:=.tuple #[.agg #[.int .i64 0,.int .i64 0,.int .u64 0,.slice none 0 0],.int .i64 0,.int .i64 e0]) (by simp [results,Tryz.results93,go_sem]) rfl ?_;have hone:=Hone.out;rw [if_pos he] at hone;exact OneP.bad hone (by repeat (first|exact Up.refl _|assumption|apply Up.alloc|refine Up.setCell ?_ (by simp) _))
theorem one_eight (l:List UInt8) (w:World) (ao:Option Addr) (cap tag at_:Nat) (hl:l.length<=1099511627776) (hv:RdB All w (.slice ao l.length cap) l) (hc1:l.length<=cap) (hc2:cap<=9223372036854775807)
  (Hg:Hid (Calls Tryz.prog 130 #[.slice ao l.length cap] (w.alloc box0) fun e w'=>e=.returned (.tuple #[.int .u64 (tag:Int),.int .i64 (at_:Int),.int .i64 0])/\w'=w.alloc box0)) (Htag:Hid (tag<2 ^ 64)) (k1:0<at_) (k2:at_<=l.length) (hn1:1<=tag / 8) (hn2:tag / 8<536870912) (h:tag % 8=1) (x:Nat) (e0:Int) (hgx:numB 8 (l.drop at_)=(x,e0))  (Hone:Hid (oneP l=if e0≠0 then (e0,rec0,0) else (0,⟨((tag / 8:Nat):Int),1,x,[]⟩,at_+8))) :
  Calls Tryz.prog 93 #[.slice ao l.length cap] w (OneP l w):=by
 have hv2:RdB All w (.slice (if cap=at_ then ao else ao.map (·.add at_)) (l.length - at_) (cap - at_)) (l.drop at_):=RdB.drop hv at_ k2 (fun h=>by rw [if_neg h]) rfl rfl;have Hv2:=hid hv2;clear hv2;have Hv:=hid hv;clear hv;(have hb:bits .and .u64 (tag:Int) 7=1:=by rw [bits_and7];omega);have hg2:=fun w' (hu:Up w w')=>number_any _ (l.drop at_) 8 w' (Hv2.out.up stable_u8 hu) (by omega);rw [hgx] at hg2;have Hg2:=hid hg2;clear hg2 hgx
 by_cases he:e0=0
 ·subst he
  go_enter Tryz.func93,Tryz.ntmps93
  (go_wp2_with fail);refine Hg.out.mono ?_;rintro e w1 ⟨rfl,rfl⟩;go_wp2_with (go_at_call 131;refine (Hg2.out _ (by repeat (first|exact Up.refl _|assumption|apply Up.alloc|refine Up.setCell ?_ (by simp) _))).mono ?_;rintro e w2 ⟨rfl,rfl⟩)
  all_goals
   refine bodyPost_ret (v:=.tuple #[.agg #[.int .i64 ((tag:Int) / 8),.int .i64 1,.int .u64 (x:Int),.slice none 0 0],.int .i64 ((at_:Int)+8),.int .i64 0]) (by simp [results,Tryz.results93,go_sem]) rfl ?_;have hone:=Hone.out;rw [if_neg (by simp)] at hone;exact OneP.good hone (by repeat (first|exact Up.refl _|assumption|apply Up.alloc|refine Up.setCell ?_ (by simp) _)) _ _ (by simp) (by simp) _ (by simp)
 ·(have he2:(e0==0)=false:=by rw [beq_eq_false_iff_ne];exact he);have he3:(e0 != 0)=true:=by rw [bne_iff_ne];exact he
  go_enter Tryz.func93,Tryz.ntmps93
  (go_wp2_with fail);refine Hg.out.mono ?_;rintro e w1 ⟨rfl,rfl⟩;go_wp2_with (go_at_call 131;refine (Hg2.out _ (by repeat (first|exact Up.refl _|assumption|apply Up.alloc|refine Up.setCell ?_ (by simp) _))).mono ?_;rintro e w2 ⟨rfl,rfl⟩)
  all_goals
   refine bodyPost_ret (v:=.tuple #[.agg #[.int .i64 0,.int .i64 0,.int .u64 0,.slice none 0 0],.int .i64 0,.int .i64 e0]) (by simp [results,Tryz.results93,go_sem]) rfl ?_;have hone:=Hone.out;rw [if_pos he] at hone;exact OneP.bad hone (by repeat (first|exact Up.refl _|assumption|apply Up.alloc|refine Up.setCell ?_ (by simp) _))
theorem one_four (l:List UInt8) (w:World) (ao:Option Addr) (cap tag at_:Nat) (hl:l.length<=1099511627776) (hv:RdB All w (.slice ao l.length cap) l) (hc1:l.length<=cap) (hc2:cap<=9223372036854775807)
  (Hg:Hid (Calls Tryz.prog 130 #[.slice ao l.length cap] (w.alloc box0) fun e w'=>e=.returned (.tuple #[.int .u64 (tag:Int),.int .i64 (at_:Int),.int .i64 0])/\w'=w.alloc box0)) (Htag:Hid (tag<2 ^ 64)) (k1:0<at_) (k2:at_<=l.length) (hn1:1<=tag / 8) (hn2:tag / 8<536870912) (h:tag % 8=5) (x:Nat) (e0:Int) (hgx:numB 4 (l.drop at_)=(x,e0))  (Hone:Hid (oneP l=if e0≠0 then (e0,rec0,0) else (0,⟨((tag / 8:Nat):Int),5,x,[]⟩,at_+4))) :
  Calls Tryz.prog 93 #[.slice ao l.length cap] w (OneP l w):=by
 have hv2:RdB All w (.slice (if cap=at_ then ao else ao.map (·.add at_)) (l.length - at_) (cap - at_)) (l.drop at_):=RdB.drop hv at_ k2 (fun h=>by rw [if_neg h]) rfl rfl;have Hv2:=hid hv2;clear hv2;have Hv:=hid hv;clear hv;(have hb:bits .and .u64 (tag:Int) 7=5:=by rw [bits_and7];omega);have hg2:=fun w' (hu:Up w w')=>number_any _ (l.drop at_) 4 w' (Hv2.out.up stable_u8 hu) (by omega);rw [hgx] at hg2;have Hg2:=hid hg2;clear hg2 hgx
 by_cases he:e0=0
 ·subst he
  go_enter Tryz.func93,Tryz.ntmps93
  (go_wp2_with fail);refine Hg.out.mono ?_;rintro e w1 ⟨rfl,rfl⟩;go_wp2_with (go_at_call 131;refine (Hg2.out _ (by repeat (first|exact Up.refl _|assumption|apply Up.alloc|refine Up.setCell ?_ (by simp) _))).mono ?_;rintro e w2 ⟨rfl,rfl⟩)
  all_goals
   refine bodyPost_ret (v:=.tuple #[.agg #[.int .i64 ((tag:Int) / 8),.int .i64 5,.int .u64 (x:Int),.slice none 0 0],.int .i64 ((at_:Int)+4),.int .i64 0]) (by simp [results,Tryz.results93,go_sem]) rfl ?_;have hone:=Hone.out;rw [if_neg (by simp)] at hone;exact OneP.good hone (by repeat (first|exact Up.refl _|assumption|apply Up.alloc|refine Up.setCell ?_ (by simp) _)) _ _ (by simp) (by simp) _ (by simp)
 ·(have he2:(e0==0)=false:=by rw [beq_eq_false_iff_ne];exact he);have he3:(e0 != 0)=true:=by rw [bne_iff_ne];exact he
  go_enter Tryz.func93,Tryz.ntmps93
  (go_wp2_with fail);refine Hg.out.mono ?_;rintro e w1 ⟨rfl,rfl⟩;go_wp2_with (go_at_call 131;refine (Hg2.out _ (by repeat (first|exact Up.refl _|assumption|apply Up.alloc|refine Up.setCell ?_ (by simp) _))).mono ?_;rintro e w2 ⟨rfl,rfl⟩)
  all_goals
   refine bodyPost_ret (v:=.tuple #[.agg #[.int .i64 0,.int .i64 0,.int .u64 0,.slice none 0 0],.int .i64 0,.int .i64 e0]) (by simp [results,Tryz.results93,go_sem]) rfl ?_;have hone:=Hone.out;rw [if_pos he] at hone;exact OneP.bad hone (by repeat (first|exact Up.refl _|assumption|apply Up.alloc|refine Up.setCell ?_ (by simp) _))
theorem one_sized (l:List UInt8) (w:World) (ao:Option Addr) (cap tag at_:Nat) (hl:l.length<=1099511627776) (hv:RdB All w (.slice ao l.length cap) l) (hc1:l.length<=cap) (hc2:cap<=9223372036854775807)
  (Hg:Hid (Calls Tryz.prog 130 #[.slice ao l.length cap] (w.alloc box0) fun e w'=>e=.returned (.tuple #[.int .u64 (tag:Int),.int .i64 (at_:Int),.int .i64 0])/\w'=w.alloc box0)) (Htag:Hid (tag<2 ^ 64)) (k1:0<at_) (k2:at_<=l.length) (hn1:1<=tag / 8) (hn2:tag / 8<536870912) (h:tag % 8=2) (x m:Nat) (e0:Int) (hgx:get (l.drop at_)=(x,m,e0)) (hm:e0=0->0<m/\m<=l.length - at_) (Hx:Hid (x<2 ^ 64)) (Hone:Hid (oneP l=if e0≠0 then (e0,rec0,0) else if (l.drop at_).length - m<x then (2,rec0,0) else (0,⟨((tag / 8:Nat):Int),2,0,((l.drop at_).drop m).take x⟩,at_+m+x))) :
  Calls Tryz.prog 93 #[.slice ao l.length cap] w (OneP l w):=by
 have hv2:RdB All w (.slice (if cap=at_ then ao else ao.map (·.add at_)) (l.length - at_) (cap - at_)) (l.drop at_):=RdB.drop hv at_ k2 (fun h=>by rw [if_neg h]) rfl rfl;have Hv2:=hid hv2;clear hv2;have Hv:=hid hv;clear hv;(have hb:bits .and .u64 (tag:Int) 7=2:=by rw [bits_and7];omega);have Hgx:=hid hgx;clear hgx
 by_cases he:e0=0
 ·subst he;obtain ⟨hm0,hm⟩:=hm rfl
  by_cases hx:l.length - at_ - m<x
  ·have hone:=Hone.out;rw [if_neg (by simp),if_pos (by rw [List.length_drop];exact hx)] at hone;have Hone:=hid hone;clear hone
   go_enter Tryz.func93,Tryz.ntmps93
   (go_wp2_with fail);refine Hg.out.mono ?_;rintro e w1 ⟨rfl,rfl⟩;go_wp2_with (go_at_call 130;refine (get_eq _ (l.drop at_) _ x m _ Hgx.out (RdB.drop (Hv.out.up stable_u8 (by repeat (first|exact Up.refl _|assumption|apply Up.alloc|refine Up.setCell ?_ (by simp) _))) at_ k2 (fun h=>by first|rfl|(rw [if_neg h])) (by first|rfl|omega) (by first|rfl|omega))).mono ?_;rintro e w2 ⟨rfl,rfl⟩)
   all_goals
    refine bodyPost_ret (v:=.tuple #[.agg #[.int .i64 0,.int .i64 0,.int .u64 0,.slice none 0 0],.int .i64 0,.int .i64 2]) (by simp [results,Tryz.results93,go_sem]) rfl ?_;exact OneP.bad Hone.out (by repeat (first|exact Up.refl _|assumption|apply Up.alloc|refine Up.setCell ?_ (by simp) _))
  ·have hone:=Hone.out;rw [if_neg (by simp),if_neg (by rw [List.length_drop];exact hx)] at hone;have Hone:=hid hone;clear hone
   have hv3:RdB All w (.slice (if cap=at_+m then ao else ao.map (·.add (at_+m))) x (cap - (at_+m))) ((((l.drop at_).drop m)).take x):=by
    rw [List.drop_drop];exact RdB.take (RdB.drop Hv.out (at_+m) (by omega) (fun h=>by rw [if_neg h]) rfl rfl) x (by omega)
   (have htl:(((l.drop at_).drop m).take x).length=x:=by simp;omega);generalize htk:((l.drop at_).drop m).take x=tk at *;have Htk:=hid htk;clear htk;have Hv3:=hid hv3;clear hv3;have Htl:=hid htl;clear htl
   go_enter Tryz.func93,Tryz.ntmps93
   (go_wp2_with fail);refine Hg.out.mono ?_;rintro e w1 ⟨rfl,rfl⟩;go_wp2_with (first|(go_at_call 130;refine (get_eq _ (l.drop at_) _ x m _ Hgx.out (RdB.drop (Hv.out.up stable_u8 (by repeat (first|exact Up.refl _|assumption|apply Up.alloc|refine Up.setCell ?_ (by simp) _))) at_ k2 (fun h=>by first|rfl|(rw [if_neg h])) (by first|rfl|omega) (by first|rfl|omega))).mono ?_;rintro e w2 ⟨rfl,rfl⟩)|(go_at_call 132;go_must (refine (clone8_any _ _ _ (RdB.take (RdB.drop (Hv.out.up stable_u8 (by repeat (first|exact Up.refl _|assumption|apply Up.alloc|refine Up.setCell ?_ (by simp) _))) (at_+m) (by omega) (fun h=>by first|rfl|(rw [if_neg h])) rfl (by first|rfl|omega)) x (by omega)) (by simp;omega)).mono ?_;rintro e w3 ⟨vb,rfl,how3,hu3⟩;rw [←List.drop_drop,Htk.out] at how3;have Hhow3:=hid how3;clear how3;obtain ⟨a3,c3,rfl,_,_⟩:=(rdB_of_owns (S:=All) Hhow3.out (fun _ _=>trivial)).val;have hz:w.heap.size+1<w3.heap.size:=(by have h9:=hu3.size;simp at h9;omega);have hk0:w3.heap[w.heap.size]? = some box0:=hu3.blk ((Below.heap_alloc _ _ _ (by simp)).trans (heap_alloc_new w _));have hk1:w3.heap[w.heap.size+1]? = some (.cells #[.int .i64 ((tag:Int) / 8),.int .i64 2,.int .u64 0,.slice none 0 0] 87):=hu3.blk (by have h9:=heap_alloc_new (w.alloc box0) (.cells #[.int .i64 ((tag:Int) / 8),.int .i64 2,.int .u64 0,.slice none 0 0] 87);simpa using h9);have q00:w3.cell? ⟨w.heap.size,0,none⟩=some (.int .i64 0):=cell_of_row w3 _ 0 _ _ _ hk0;have q01:w3.cell? ⟨w.heap.size,1,none⟩=some (.int .i64 0):=cell_of_row w3 _ 1 _ _ _ hk0;have q02:=ro2 hk0;have q03:=ro3 hk0;have q10:=ro0 hk1;have q11:=ro1 hk1;have q12:=ro2 hk1;have q13:=ro3 hk1;have f0:∀ o,w3.frozen? ⟨w.heap.size,o,none⟩=false:=(fun o=>frozen_of_row w3 _ o _ _ hk0);have f1:∀ o,w3.frozen? ⟨w.heap.size+1,o,none⟩=false:=(fun o=>frozen_of_row w3 _ o _ _ hk1);clear hk0 hk1)))
   all_goals
    refine bodyPost_ret (v:=.tuple #[.agg #[.int .i64 ((tag:Int) / 8),.int .i64 2,.int .u64 0,.slice a3 tk.length c3],.int .i64 ((at_:Int)+((m:Int)+(x:Int))),.int .i64 0]) (by simp [results,Tryz.results93,go_sem,q00,q01,q02,q03,q10,q11,q12,q13]) rfl ?_;have hr3:RdB (fun k=>w.heap.size+2<=k) w3 (.slice a3 tk.length c3) tk:=rdB_of_owns Hhow3.out (fun k hk=>by have h9:=(Hhow3.out.lt k hk).1;simp at h9;omega);unfold OneP;rw [Hone.out];refine ⟨_,by simp [Int.add_assoc],hr3.keep stable_u8 ?_,?_⟩
    ·refine Keep.trans (S':=fun k=>w.heap.size+2<=k) ?_ (Keep.weak (fun k hk=>by omega))
     with_reducible refine Keep.trans ?_ (Keep.setCell ?_ _)
     with_reducible refine Keep.trans ?_ (Keep.setCell ?_ _)
     with_reducible refine Keep.trans ?_ (Keep.setCell ?_ _)
     with_reducible refine Keep.trans ?_ (Keep.setCell ?_ _)
     with_reducible refine Keep.setCell ?_ _
     all_goals (show ¬ (w.heap.size+2<=_);simp)
    ·repeat (with_reducible refine Up.setCell ?_ ?_ _)
     ·exact (Up.alloc (Up.alloc (Up.refl w) _) _).trans hu3
     all_goals simp
 ·(have he2:(e0==0)=false:=by rw [beq_eq_false_iff_ne];exact he);have he3:(e0 != 0)=true:=by rw [bne_iff_ne];exact he
  go_enter Tryz.func93,Tryz.ntmps93
  (go_wp2_with fail);refine Hg.out.mono ?_;rintro e w1 ⟨rfl,rfl⟩;go_wp2_with (go_at_call 130;refine (get_eq _ (l.drop at_) _ x m _ Hgx.out (RdB.drop (Hv.out.up stable_u8 (by repeat (first|exact Up.refl _|assumption|apply Up.alloc|refine Up.setCell ?_ (by simp) _))) at_ k2 (fun h=>by first|rfl|(rw [if_neg h])) (by first|rfl|omega) (by first|rfl|omega))).mono ?_;rintro e w2 ⟨rfl,rfl⟩)
  all_goals
   refine bodyPost_ret (v:=.tuple #[.agg #[.int .i64 0,.int .i64 0,.int .u64 0,.slice none 0 0],.int .i64 0,.int .i64 e0]) (by simp [results,Tryz.results93,go_sem]) rfl ?_;have hone:=Hone.out;rw [if_pos he] at hone;exact OneP.bad hone (by repeat (first|exact Up.refl _|assumption|apply Up.alloc|refine Up.setCell ?_ (by simp) _))
end Go.Proofs.YtbceccblepckhaaGreatDoor
