/-
  pressref3.Numbers.
-/
import Derived.Test.YtbceccblepckhaaGreatDoorCt04
import Derived.Deep.DeepCutAuto
import Derived.Deep.RegionHeld
set_option maxHeartbeats 6400000
set_option linter.unusedVariables false
namespace Go.Proofs.YtbceccblepckhaaGreatDoor
open Go.RowKit
set_option maxRecDepth 100000
open Lib (hid)
theorem ris_one : ∀ {a b:List Int},a.Pairwise (·<=·)->b.Pairwise (·<=·)->a.Perm b->a=b
 |[],b,_,_,h=>h.nil_eq
 |x::a,[],_,_,h=>absurd h.length_eq (by simp)
 |x::a,y::b,ha,hb,h=>by
  have h1:x<=y:=by
   have hy:y∈x::a:=h.symm.subset List.mem_cons_self;rcases List.mem_cons.1 hy with e|e
   ·omega
   ·exact (List.pairwise_cons.1 ha).1 _ e
  have h2:y<=x:=by
   have hx:x∈y::b:=h.subset List.mem_cons_self;rcases List.mem_cons.1 hx with e|e
   ·omega
   ·exact (List.pairwise_cons.1 hb).1 _ e
  (obtain rfl:x=y:=by omega);rw [ris_one (List.pairwise_cons.1 ha).2 (List.pairwise_cons.1 hb).2 h.cons_inv]
theorem ins_ris {L:List Int} {a:Nat} {x:Int} (h:L.Pairwise (·<=·)) (ha:a<=L.length) (hb:∀ i,(hi:i<L.length)->i+1=a->L[i]<=x) (hc:∀ i,(hi:i<L.length)->a<=i->x<L[i]):(L.take a++[x]++L.drop a).Pairwise (·<=·):=by
 have hd:∀ y∈L.drop a,x<=y:=fun y hy=>by
  obtain ⟨i,hi,rfl⟩:=List.getElem_of_mem hy;rw [List.length_drop] at hi;rw [List.getElem_drop];have:=hc (a+i) (by omega) (by omega);omega
 have ht:∀ y∈L.take a,y<=x:=fun y hy=>by
  obtain ⟨i,hi,rfl⟩:=List.getElem_of_mem hy;rw [List.length_take] at hi;rw [List.getElem_take]
  by_cases e:i+1=a
  ·exact hb i (by omega) e
  ·have h1:=hb (a - 1) (by omega) (by omega);have h2:=List.pairwise_iff_getElem.1 h i (a - 1) (by omega) (by omega) (by omega);omega
 rw [List.append_assoc,List.pairwise_append];refine ⟨h.sublist (List.take_sublist _ _),?_,fun y hy z hz=>?_⟩
 ·exact List.pairwise_cons.2 ⟨hd,h.sublist (List.drop_sublist _ _)⟩
 ·have h1:=ht y hy;rcases List.mem_cons.1 hz with e|e
  ·omega
  ·have:=hd z e;omega
theorem ins_perm (L:List Int) (a:Nat) (x:Int):(L.take a++[x]++L.drop a).Perm (L++[x]):=by
 have h1:(L.take a++[x]++L.drop a).Perm (x::(L.take a++L.drop a)):=by
  rw [List.append_assoc];exact List.perm_middle
 rw [List.take_append_drop] at h1;exact h1.trans (List.perm_append_comm (l₁:=[x]) (l₂:=L))
theorem ris_sort {L l:List Int} (h:L.Pairwise (·<=·)) (hp:L.Perm l):L=l.mergeSort (fun x y=>decide (x<=y)):=by
 refine ris_one h ?_ (hp.trans (List.mergeSort_perm _ _).symm);have:=List.pairwise_mergeSort (le:=fun x y:Int=>decide (x<=y)) (fun a b c h1 h2=>by simp at *;omega) (fun a b=>by simp;omega) l;exact this.imp (fun h=>by simpa using h)
abbrev OwnI (base:Nat) (w:World) (v:Value) (L:List Int):Prop:=w.ownsRow base 3 1 v L.length (L.map (Value.int .i64))
theorem OwnI.base {b b':Nat} {w:World} {v:Value} {L:List Int} (hb:b<=b') (h:OwnI b' w v L):OwnI b w v L:=⟨h.1,h.2.imp id fun ⟨g,cap,cur,e,hg,r⟩=>⟨g,cap,cur,e,Nat.le_trans hb hg,r⟩⟩
theorem OwnI.up {b:Nat} {w w':World} {v:Value} {L:List Int} (h:OwnI b w v L) (u:Up w w'):OwnI b w' v L:=h.kept u.to_none (by cases v.ownBlock <;> simp)
theorem OwnI.lo {b:Nat} {w:World} {v:Value} {L:List Int} (h:OwnI b w v L):∃ ao cap,v=.slice ao L.length cap/\L.length<=cap/\(ao=none->L.length=0/\cap=0)/\(∀ ad,ao=some ad->∃ g,ad=⟨g,0,none⟩/\b<=g/\g<w.heap.size/\∀ i,(hi:i<L.length)->w.cell? ⟨g,i,none⟩=some (.int .i64 L[i])):=by
 have h':=h;rcases h.2 with ⟨rfl,h0⟩|⟨g,cap,cur,rfl,hb,hg,hn,hm,hs,ht⟩
 ·exact ⟨_,_,by rw [h0],by omega,fun _=>⟨h0,rfl⟩,(fun _ e=>by cases e)⟩
 ·refine ⟨_,_,rfl,hn,(fun e=>by cases e),fun ad e=>⟨g,(Option.some.inj e).symm,hb,lt_of_block hg,fun i hi=>?_⟩⟩;rw [World.ownsRow.cellAt h' i (by omega),List.getElem?_map,List.getElem?_eq_getElem hi];rfl
theorem addr_add0 (g i:Nat):(⟨g,0,none⟩:Addr).add i=⟨g,i,none⟩:=by
 rw [Addr.add_lit,Nat.zero_add]
theorem cut_ints {b:Nat} {w:World} {ao:Option Addr} {cap:Nat} {L:List Int} (h:OwnI b w (.slice ao L.length cap) L) (x:Nat) (hx:x<=L.length):∃ a2 c2,
  (∀ wx,(Instr.slice 33 (.slice ao L.length cap) none (some (.int .i64 (x:Int))) none).run Tryz.prog wx=.ok (.slice ao x cap) wx) /\
  (∀ wx,(Instr.slice 33 (.slice ao L.length cap) (some (.int .i64 (x:Int))) none none).run Tryz.prog wx=.ok (.slice a2 (L.length - x) c2) wx) /\
  (ao=none->x=0/\cap=0)/\(a2=none->L.length - x=0/\c2=0) /\
  (∀ ad,ao=some ad->∀ j u,((L.take x).map (Value.int .i64))[j]? = some u->w.cell? (ad.add j)=some u) /\
  (∀ ad,a2=some ad->∀ j u,((L.drop x).map (Value.int .i64))[j]? = some u->w.cell? (ad.add j)=some u):=by
 obtain ⟨ao',cap',e0,hc,hn,hs⟩:=h.lo;simp only [Value.slice.injEq] at e0;obtain ⟨rfl,_,rfl⟩:=e0;(have ht:Tryz.prog.underlying 33=some (.slice (Tryz.prog.elem 33)):=by kernel_rfl);have hz:∀ wx,((sizeOf (Tryz.prog.elem 33)).run Tryz.prog wx)=.ok 1 wx:=fun wx=>by kernel_rfl
 have hcell:∀ ad,ao=some ad->∀ j u,(L.map (Value.int .i64))[j]? = some u->w.cell? (ad.add j)=some u:=fun ad e j u hu=>by
  obtain ⟨g,rfl,_,_,hg⟩:=hs ad e;rw [List.getElem?_map] at hu
  by_cases hj:j<L.length
  ·rw [List.getElem?_eq_getElem hj] at hu;rw [addr_add0,hg j hj];exact hu
  ·rw [List.getElem?_eq_none (by omega)] at hu;cases hu
 refine ⟨if cap=x then ao else ao.map (·.add x),cap - x,fun wx=>?_,fun wx=>?_,fun e=>?_,fun e=>?_,fun ad e j u hu=>?_,fun ad e j u hu=>?_⟩
 ·rw [run_slice_h (P:=Tryz.prog) wx 33 ao L.length cap ht .i64 (x:Int) (by omega) (by omega),hz];show Result.ok _ _=_;unfold sliced;simp only [Nat.zero_mul,Int.toNat_natCast,Nat.sub_zero]
  by_cases h0:cap=0
  ·simp [h0]
  ·cases ao <;> simp [h0,Addr.add]
 ·rw [run_slice_l (P:=Tryz.prog) wx 33 ao L.length cap ht .i64 (x:Int) (by omega) (by omega),hz];show Result.ok _ _=_;unfold sliced;simp
 ·have:=hn e;omega
 ·by_cases hcx:cap=x
  ·rw [if_pos hcx] at e;have:=hn e;omega
  ·rw [if_neg hcx] at e;have:=hn (by cases ao <;> simp at e ⊢);omega
 ·refine hcell ad e j u ?_;rw [List.map_take,List.getElem?_take] at hu;split at hu
  ·exact hu
  ·cases hu
 ·by_cases hcx:cap=x
  ·have:L.drop x=[]:=List.drop_eq_nil_of_le (by omega);rw [this] at hu;cases hu
  ·rw [if_neg hcx] at e
   cases ao with
   |none=>cases e
   |some ad0 =>
    obtain ⟨g,rfl,_,_,_⟩:=hs ad0 rfl;(cases e);rw [List.map_drop,List.getElem?_drop] at hu;have:=hcell _ rfl (x+j) u hu;rw [addr_add0] at this;show w.cell? (Addr.add (Addr.add ⟨g,0,none⟩ x) j)=_;rw [addr_add0,Addr.add_lit];exact this
theorem own_baseI {b b':Nat} {w:World} {e:TypeId} {z:Nat} {v:Value} {n:Nat} {xs:List Value} (hb:b<=b') (h:w.ownsRow b' e z v n xs):w.ownsRow b e z v n xs:=⟨h.1,h.2.imp id fun ⟨g,cap,cur,e,hg,r⟩=>⟨g,cap,cur,e,Nat.le_trans hb hg,r⟩⟩
theorem one_ints (l:List Int):∀ u∈l.map (Value.int .i64),u.oneCell'=true:=fun u hu=>by
 obtain ⟨x,_,rfl⟩:=List.mem_map.1 hu;rfl
theorem int_at {w:World} {g:Nat} {x:Int} (hb:w.heap[g]? = some (.cells #[.int .i64 x] 3 (0,0))):∀ ad,(some ⟨g,0,none⟩:Option Addr)=some ad->∀ j u,[Value.int .i64 x][j]? = some u->w.cell? (ad.add j)=some u:=fun ad h j u hu=>by
 (cases h);rw [Addr.add_lit,Nat.zero_add];rw [cell_of_row _ _ j _ _ _ hb];simpa using hu
theorem put_ints {b a:Nat} {w:World} {s:Option Addr} {n:Nat} {L:List Int} {x:Int} (ha:a<=L.length) (h:w.ownsRow b 3 1 (.slice s (a+1+(L.length - a)) n) (a+1+(L.length - a)) ((L.take a).map (Value.int .i64)++[.int .i64 x]++(L.drop a).map (Value.int .i64))):OwnI b w (.slice s (a+1+(L.length - a)) n) (L.take a++[x]++L.drop a):=by
 (have hlen:(L.take a++[x]++L.drop a).length=a+1+(L.length - a):=by simp;omega);show w.ownsRow b _ 1 _ (L.take a++[x]++L.drop a).length _;rw [hlen,List.map_append,List.map_append];exact h
theorem nums_r (m:Msg) (s vf vb:Value) (w:World) (hs:∃ b,s=.string b) (hvb:∃ a l c,vb=.slice a l c) (hv:RdS DFld 6 All w vf m.fields) (hz:m.fields.length<=2199023255552) :
  Calls Tryz.prog 7 #[.agg #[s,vf,vb]] w fun e w'=>∃ v',e=.returned v'/\OwnI w.heap.size w' v' (numsC m)/\Up w w':=by
 obtain ⟨b,rfl⟩:=hs;obtain ⟨x1,x2,x3,rfl⟩:=hvb;obtain ⟨ao,cap,rfl,hc1,hc2⟩:=hv.val;have Hv:=hid hv;clear hv
 go_enter Tryz.func7,Tryz.ntmps7
 (go_wp2_with fail);(go_loopw [10,3] (fun i v wr=>∃ (k:Nat) (L:List Int),k<=m.fields.length/\L.length=k/\i=.int .i64 k/\L.Pairwise (·<=·)/\L.Perm ((m.fields.take k).map (·.number))/\OwnI w.heap.size wr v L/\Up w wr) (fun i _ _=>m.fields.length - (intOf i).toNat));case atStart=>exact ⟨0,[],by omega,rfl,rfl,List.Pairwise.nil,by simp,World.ownsRow_nil _ _ _ _,(Up.refl w).alloc _⟩
 case round =>
  obtain ⟨k,L,hk,rfl,rfl,hris,hperm,how,hu⟩:=hrel;have How:=hid how;have Hu:=hid hu;have Hris:=hid hris;have Hperm:=hid hperm;clear hris hperm hu
  by_cases hlt:L.length<m.fields.length
  ·obtain ⟨b2,o2,cs,rfl,hb,hl,hcs,hd⟩:=(Hv.out.up stable_fld Hu.out).at hlt;obtain ⟨hd,hx⟩:=hd;subst hd;have c0:=hcs 0 _ rfl;have c1:=hcs 1 _ rfl;have c2:=hcs 2 _ rfl;have c3:=hcs 3 _ rfl;have c4:=hcs 4 _ rfl;have c5:=hcs 5 _ rfl;simp only [Nat.add_zero] at c0;(have k0:(0:Int)<=(L.length:Int):=by omega);(have k1:(L.length:Int)<(m.fields.length:Int):=by omega);have Hsn:=hid (show (m.fields.take (L.length+1)).map (·.number)=(m.fields.take L.length).map (·.number)++[m.fields[L.length].number] by rw [List.take_succ_eq_append_getElem hlt,List.map_append];rfl);clear hcs hl hx how;generalize m.fields[L.length]=x at *;obtain ⟨wo,rfl⟩:∃ wo:World,wo=wr:=⟨_,rfl⟩;obtain ⟨vo,rfl⟩:∃ vo:Value,vo=u3:=⟨_,rfl⟩
   go_upto_region 5 with (fail)
   obtain ⟨X,hX⟩:∃ X,wo.heap.size=X:=⟨_,rfl⟩;have hy:=blk_new wo (.cells #[.string ⟨x.name.toArray⟩,.int .i64 x.number,.int .i64 x.kind,.string ⟨x.type.toArray⟩,.bool x.many,.int .i64 x.choice] 47) rfl;have huy:=(Up.refl wo).alloc (.cells #[.string ⟨x.name.toArray⟩,.int .i64 x.number,.int .i64 x.kind,.string ⟨x.type.toArray⟩,.bool x.many,.int .i64 x.choice] 47);generalize hwy:wo.alloc (.cells #[.string ⟨x.name.toArray⟩,.int .i64 x.number,.int .i64 x.kind,.string ⟨x.type.toArray⟩,.bool x.many,.int .i64 x.choice] 47)=wy at *;rw [hX] at hy ⊢;have Huy:=hid huy;have HX:=hid hX;have p1:=ro1 hy;have P1:=hid p1;have How2:=hid (show OwnI w.heap.size wy vo L from How.out.up Huy.out);clear hwy hy huy c0 c1 c2 c3 c4 c5 hX;obtain ⟨ao2,cap2,rfl,hcap,hnone,hsome⟩:=How2.out.lo;have Hnone:=hid hnone;have Hsome:=hid hsome;have Hcap:=hid hcap;clear hnone hsome hcap p1;have hLz:L.length<=2199023255552:=by omega
   go_upto_region 6 with (fail)
   (go_loopw [6] (fun i wr=>∃ a:Nat,a<=L.length/\i=.int .i64 a/\(∀ q,(hq:q<L.length)->a<=q->x.number<L[q])/\Up wy wr) (fun i _=>(intOf i).toNat));case atStart=>exact ⟨L.length,Nat.le_refl _,rfl,fun q hq h=>absurd hq (by omega),Up.refl _⟩
   case round =>
    obtain ⟨a,ha,rfl,hall,hu2⟩:=hrel;obtain ⟨wz,rfl⟩:∃ wz:World,wz=wr:=⟨_,rfl⟩;have Hu2:=hid hu2;have Hall:=hid hall;have Ha:=hid ha;have z1:wz.cell? ⟨X,1,none⟩=some (.int .i64 x.number):=hu2.cell_some P1.out
    have hcs:∃ t:Bool,((decide ((0:Int)<(a:Int))=false/\decide (0<a)=false/\t=false)∨(decide ((0:Int)<(a:Int))=true/\decide (0<a)=true/\(0:Int)<=(a:Int) - 1/\(a:Int) - 1<(L.length:Int)/\((a:Int) - 1).toNat=a - 1/\∃ g y,ao2=some ⟨g,0,none⟩/\wz.cell? ⟨g,a - 1,none⟩=some (.int .i64 y)/\decide (x.number<y)=t))/\(t=false->∀ q,(hq:q<L.length)->q+1=a->L[q]<=x.number)/\(t=true->0<a/\∀ q,(hq:q<L.length)->q+1=a->x.number<L[q]):=by
     rcases Nat.eq_zero_or_pos a with h|h
     ·exact ⟨false,.inl ⟨decide_eq_false (by omega),decide_eq_false (by omega),rfl⟩,fun _ q hq h=>by omega,fun h=>by cases h⟩
     ·(have hal:a - 1<L.length:=by omega);have hq1:∀ q,q+1=a->q=a - 1:=fun q h=>by omega
      cases hao:ao2 with
      |none=>have:=(Hnone.out hao).1;omega
      |some ad =>
       obtain ⟨g,rfl,_,hgz,hg⟩:=Hsome.out ad hao;refine ⟨decide (x.number<L[a - 1]),.inr ⟨decide_eq_true (by omega),decide_eq_true h,by omega,by omega,by omega,g,L[a - 1],rfl,?_,rfl⟩,fun h q hq e=>?_,fun h=>⟨by omega,fun q hq e=>?_⟩⟩
       ·exact hu2.cell_some (hg (a - 1) hal)
       ·obtain rfl:=hq1 q e;have:=of_decide_eq_false h;omega
       ·obtain rfl:=hq1 q e;exact of_decide_eq_true h
    obtain ⟨t,hcs,hlo,hhi⟩:=hcs;have Hlo:=hid hlo;have Hhi:=hid hhi;clear hu2 hall hlo hhi;have d3:IntKind.i64.wrap ((a:Int) - 1)=(a:Int) - 1:=by rw [IntKind.wrap_i64];omega
    go_upto_region 6 with (fail)
    go_cut [27] (fun bb wc=>bb=.bool t/\Up wz wc)
    case first =>
     rcases hcs with ⟨q1,q1',rfl⟩|⟨q1,q1',q2,q3,q5,g,y,rfl,q4,rfl⟩
     all_goals
      go_quiet (fail)
      go_wp2_with fail
      go_meet
      exact ⟨rfl,(Up.refl wz).drewN _⟩
    case rest =>
    obtain ⟨rfl,hu3⟩:=hcut;clear hcs;have Hu3:=hid (Hu2.out.trans hu3)
    cases t with
    |true =>
     go_wp2_with fail
     go_roundw
     case rel =>
      obtain ⟨h1,h2⟩:=Hhi.out rfl;refine ⟨a - 1,by have:=Ha.out;omega,?_,fun q hq h=>?_,Hu3.out⟩
      ·congr 1;omega
      ·by_cases e:q+1=a
       ·exact h2 q hq e
       ·exact Hall.out q hq (by omega)
     case measure =>
      obtain ⟨h1,h2⟩:=Hhi.out rfl;simp [intOf];omega
    |false =>
     have hris2:=ins_ris Hris.out Ha.out (Hlo.out rfl) Hall.out;have hperm2:=(ins_perm L a x.number).trans (Hperm.out.append_right [x.number]);obtain ⟨wd,rfl⟩:∃ wd:World,wd=wc:=⟨_,rfl⟩;have How3:=hid (show OwnI w.heap.size wd (.slice ao2 L.length cap2) L from How2.out.up Hu3.out);obtain ⟨a3,c3,hsl1,hsl2,hn1,hn2,hn3,hn4⟩:=cut_ints How3.out a Ha.out;have p1:wd.cell? ⟨X,1,none⟩=some (.int .i64 x.number):=Hu3.out.cell_some P1.out;have DD:=hid (fun W (u:Up wd W)=>u.cell_some p1);have HwX:=hid (show w.heap.size<=wd.heap.size from ((Hu.out.trans Huy.out).trans Hu3.out).size);have Hn1:=hid hn1;have Hn2:=hid hn2;have Hn3:=hid hn3;have Hn4:=hid hn4;have Hris2:=hid hris2;have Hperm2:=hid hperm2;have hal:a<=L.length:=Ha.out;clear hn1 hn2 hn3 hn4 hris2 hperm2 hu3 z1 Hnone Hsome Hcap How How2 Hlo Hhi
     go_upto_region 8 with (fail)
     refine wp_region_held_drew (S:=fun w'=>w'.cell? ⟨X,1,none⟩=some (.int .i64 x.number)) (by kernel_rfl) p1 (fun hHeld=>?_);change wpAnyH _ _ _ _ _ _ _ _ wd.drew;clear p1;refine wtk 1 (v:=?_) rfl ?_ ?_
     rotate_left
     ·(intro w hSw;(try dsimp only at hSw);go_simp)
      try with_reducible rfl
     (try simp only [Act.put,List.setIfInBounds_toArray]);refine wtk 2 (v:=?_) rfl ?_ ?_
     rotate_left
     ·(intro w hSw;(try dsimp only at hSw);go_simp)
      try with_reducible rfl
     (try simp only [Act.put]);refine wtk 3 (v:=?_) rfl ?_ ?_
     rotate_left
     ·(intro w hSw;(try dsimp only at hSw);go_simp)
      try with_reducible rfl
     (try simp only [Act.put]);refine wtk 5 (v:=?_) rfl ?_ ?_
     rotate_left
     ·(intro w hSw;(try dsimp only at hSw);go_simp)
      try with_reducible rfl
     (try simp only [Act.put]);refine wtk 6 (v:=?_) rfl ?_ ?_
     rotate_left
     ·(intro w hSw;(try dsimp only at hSw);go_simp)
      try with_reducible rfl
     (try simp only [Act.put]);refine wtk 9 (v:=?_) rfl ?_ ?_
     rotate_left
     ·(intro w hSw;(try dsimp only at hSw);go_simp)
      try with_reducible rfl
     (try simp only [Act.put]);refine wtk 10 (v:=?_) rfl ?_ ?_
     rotate_left
     ·(intro w hSw;(try dsimp only at hSw);go_simp)
      try with_reducible rfl
     (try simp only [Act.put]);refine wtk 11 (v:=?_) rfl ?_ ?_
     rotate_left
     ·(intro w hSw;(try dsimp only at hSw);go_simp)
      try with_reducible rfl
     (try simp only [Act.put]);refine wpAnyH_ready (rs:=[0,7]) (by kernel_rfl) (by simp) ?_;refine AllReadyH.cons rfl (fun K hK=>?_) (AllReadyH.cons rfl (fun K hK=>?_) AllReadyH.nil);go_simp;refine hK.out _ _ (DD.out _ (((Up.refl wd).drew).alloc _)) (fun hHeld=>?_);clear hK K;(try simp only [Act.put,List.setIfInBounds_toArray,List.set_cons_zero,List.set_cons_succ]);change wpAnyH _ _ _ _ _ _ _ _ ((wd.drew).alloc (.cells #[] 3))
     have how0:((wd.drew).alloc (.cells #[] 3)).ownsRow wd.heap.size 3 1 (.slice (some ⟨wd.heap.size,0,none⟩) 0 0) 0 []:=by
      have:=World.ownsRow_lit (e:=3) (size:=1) (base:=wd.heap.size) (wd.drew) #[] 0 ((Up.refl wd).drew).size (by unfold maxLen;omega) (by simp);simpa using this
     have u1:=((Up.refl wd).drew).alloc (.cells #[] 3);refine wpAnyH_ready (rs:=[4,7]) (by kernel_rfl) (by simp) ?_;refine AllReadyH.cons rfl (fun K hK=>?_) (AllReadyH.cons rfl (fun K hK=>?_) AllReadyH.nil);refine step_app eInt _ (by rfl) _ _ (by rfl) wd.heap.size _ 0 [] (by rfl) how0 ao2 a cap2 (by rfl) ((L.take a).map (Value.int .i64)) (by rw [List.length_map,List.length_take];omega) Hn1.out (fun ad h j u hu=>(u1).cell_some (Hn3.out ad h j u hu)) (one_ints _) (by omega) (by unfold maxLen;omega) (u1).size ?_;intro v4 w4 how4 hev4;have u4:=Up.evo (u1) hev4 (fun q hq=>(how0.lt q hq).1);simp only [Nat.zero_add,List.nil_append] at how4;obtain ⟨s4,n4,rfl⟩:=own_val how4;refine hK.out _ _ (DD.out _ u4) (fun hHeld=>?_);clear hK K;(try simp only [Act.put,List.setIfInBounds_toArray]);refine wpAnyH_ready (rs:=[7]) (by kernel_rfl) (by simp) ?_;refine AllReadyH.cons rfl (fun K hK=>?_) AllReadyH.nil;go_simp;refine hK.out _ _ (DD.out _ ((u4).alloc _)) (fun hHeld=>?_);clear hK K;(try simp only [Act.put,List.setIfInBounds_toArray,List.set_cons_zero,List.set_cons_succ]);change wpAnyH _ _ _ _ _ _ _ _ ((w4).alloc (.cells #[.int .i64 x.number] 3));have hb7:=blk_new (w4) (.cells #[.int .i64 x.number] 3) (g:=w4.heap.size) (by simp);have u5:=(u4).alloc (.cells #[.int .i64 x.number] 3);have how4:=how4.alloc (.cells #[.int .i64 x.number] 3);refine wpAnyH_ready (rs:=[8]) (by kernel_rfl) (by simp) ?_;refine AllReadyH.cons rfl (fun K hK=>?_) AllReadyH.nil;refine step_app eInt _ (by rfl) _ _ (by rfl) wd.heap.size _ a ((L.take a).map (Value.int .i64)) (by rfl) how4 _ 1 1 (by rfl) [.int .i64 x.number] (by rfl) (fun h=>by cases h) (int_at hb7) (one_ints [x.number]) (by omega) (by unfold maxLen;omega) (u5).size ?_;intro v8 w8 how8 hev8;have u8:=Up.evo (u5) hev8 (fun q hq=>(how4.lt q hq).1);obtain ⟨s8,n8,rfl⟩:=own_val how8;refine hK.out _ _ (DD.out _ u8) (fun hHeld=>?_);clear hK K;(try simp only [Act.put,List.setIfInBounds_toArray]);refine wpAnyH_ready (rs:=[12]) (by kernel_rfl) (by simp) ?_;refine AllReadyH.cons rfl (fun K hK=>?_) AllReadyH.nil;refine step_app eInt _ (by rfl) _ _ (by rfl) wd.heap.size _ (a+1) _ (by rfl) how8 a3 (L.length - a) c3 (by rfl) ((L.drop a).map (Value.int .i64)) (by simp) Hn2.out (fun ad h j u hu=>(u8).cell_some (Hn4.out ad h j u hu)) (one_ints _) (by omega) (by unfold maxLen;omega) (u8).size ?_;intro v9 w9 how9 hev9;have u9:=Up.evo (u8) hev9 (fun q hq=>(how8.lt q hq).1);obtain ⟨s9,n9,rfl⟩:=own_val how9;refine hK.out _ _ (DD.out _ u9) (fun hHeld=>?_);clear hK K;(try simp only [Act.put]);refine wtk 13 (v:=?_) rfl ?_ ?_
     rotate_left
     ·(intro w hSw;(try dsimp only at hSw);go_simp)
      try with_reducible rfl
     try simp only [Act.put]
     rotate_left
     go_simp;refine hK.out _ _ (DD.out _ ((u1).alloc _)) (fun hHeld=>?_);clear hK K;(try simp only [Act.put,List.setIfInBounds_toArray,List.set_cons_zero,List.set_cons_succ]);change wpAnyH _ _ _ _ _ _ _ _ (((wd.drew).alloc (.cells #[] 3)).alloc (.cells #[.int .i64 x.number] 3));have hb7:=blk_new ((wd.drew).alloc (.cells #[] 3)) (.cells #[.int .i64 x.number] 3) (g:=wd.heap.size+1) (by simp);have u2:=(u1).alloc (.cells #[.int .i64 x.number] 3);have how0:=how0.alloc (.cells #[.int .i64 x.number] 3);refine wpAnyH_ready (rs:=[4]) (by kernel_rfl) (by simp) ?_;refine AllReadyH.cons rfl (fun K hK=>?_) AllReadyH.nil;refine step_app eInt _ (by rfl) _ _ (by rfl) wd.heap.size _ 0 [] (by rfl) how0 ao2 a cap2 (by rfl) ((L.take a).map (Value.int .i64)) (by rw [List.length_map,List.length_take];omega) Hn1.out (fun ad h j u hu=>(u2).cell_some (Hn3.out ad h j u hu)) (one_ints _) (by omega) (by unfold maxLen;omega) (u2).size ?_;intro v4 w4 how4 hev4;have u4:=Up.evo (u2) hev4 (fun q hq=>(how0.lt q hq).1);simp only [Nat.zero_add,List.nil_append] at how4;obtain ⟨s4,n4,rfl⟩:=own_val how4;refine hK.out _ _ (DD.out _ u4) (fun hHeld=>?_);clear hK K;(try simp only [Act.put,List.setIfInBounds_toArray]);have hb7:=hev4.blk hb7 (fun e=>by have h:=Option.some.inj e;simp at h);refine wpAnyH_ready (rs:=[8]) (by kernel_rfl) (by simp) ?_;refine AllReadyH.cons rfl (fun K hK=>?_) AllReadyH.nil;refine step_app eInt _ (by rfl) _ _ (by rfl) wd.heap.size _ a ((L.take a).map (Value.int .i64)) (by rfl) how4 _ 1 1 (by rfl) [.int .i64 x.number] (by rfl) (fun h=>by cases h) (int_at hb7) (one_ints [x.number]) (by omega) (by unfold maxLen;omega) (u4).size ?_;intro v8 w8 how8 hev8;have u8:=Up.evo (u4) hev8 (fun q hq=>(how4.lt q hq).1);obtain ⟨s8,n8,rfl⟩:=own_val how8;refine hK.out _ _ (DD.out _ u8) (fun hHeld=>?_);clear hK K;(try simp only [Act.put]);refine wpAnyH_ready (rs:=[12]) (by kernel_rfl) (by simp) ?_;refine AllReadyH.cons rfl (fun K hK=>?_) AllReadyH.nil;refine step_app eInt _ (by rfl) _ _ (by rfl) wd.heap.size _ (a+1) _ (by rfl) how8 a3 (L.length - a) c3 (by rfl) ((L.drop a).map (Value.int .i64)) (by simp) Hn2.out (fun ad h j u hu=>(u8).cell_some (Hn4.out ad h j u hu)) (one_ints _) (by omega) (by unfold maxLen;omega) (u8).size ?_;intro v9 w9 how9 hev9;have u9:=Up.evo (u8) hev9 (fun q hq=>(how8.lt q hq).1);obtain ⟨s9,n9,rfl⟩:=own_val how9;refine hK.out _ _ (DD.out _ u9) (fun hHeld=>?_);clear hK K;(try simp only [Act.put]);refine wtk 13 (v:=?_) rfl ?_ ?_
     rotate_left
     ·(intro w hSw;(try dsimp only at hSw);go_simp)
      try with_reducible rfl
     try simp only [Act.put]
     rotate_left
     go_simp;refine hK.out _ _ (DD.out _ (((Up.refl wd).drew).alloc _)) (fun hHeld=>?_);clear hK K;(try simp only [Act.put,List.setIfInBounds_toArray,List.set_cons_zero,List.set_cons_succ]);change wpAnyH _ _ _ _ _ _ _ _ ((wd.drew).alloc (.cells #[.int .i64 x.number] 3));have hb7:=blk_new (wd.drew) (.cells #[.int .i64 x.number] 3) (g:=wd.heap.size) (by simp);have u1:=((Up.refl wd).drew).alloc (.cells #[.int .i64 x.number] 3);refine wpAnyH_ready (rs:=[0]) (by kernel_rfl) (by simp) ?_;refine AllReadyH.cons rfl (fun K hK=>?_) AllReadyH.nil;go_simp;refine hK.out _ _ (DD.out _ ((u1).alloc _)) (fun hHeld=>?_);clear hK K;(try simp only [Act.put,List.setIfInBounds_toArray,List.set_cons_zero,List.set_cons_succ]);change wpAnyH _ _ _ _ _ _ _ _ (((wd.drew).alloc (.cells #[.int .i64 x.number] 3)).alloc (.cells #[] 3))
     have how0:(((wd.drew).alloc (.cells #[.int .i64 x.number] 3)).alloc (.cells #[] 3)).ownsRow wd.heap.size 3 1 (.slice (some ⟨wd.heap.size+1,0,none⟩) 0 0) 0 []:=by
      have:=World.ownsRow_lit (e:=3) (size:=1) (base:=wd.heap.size) ((wd.drew).alloc (.cells #[.int .i64 x.number] 3)) #[] 0 (u1).size (by unfold maxLen;omega) (by simp);simpa using this
     have u2:=(u1).alloc (.cells #[] 3);have hb7:=blk_old (.cells #[] 3) hb7;refine wpAnyH_ready (rs:=[4]) (by kernel_rfl) (by simp) ?_;refine AllReadyH.cons rfl (fun K hK=>?_) AllReadyH.nil;refine step_app eInt _ (by rfl) _ _ (by rfl) wd.heap.size _ 0 [] (by rfl) how0 ao2 a cap2 (by rfl) ((L.take a).map (Value.int .i64)) (by rw [List.length_map,List.length_take];omega) Hn1.out (fun ad h j u hu=>(u2).cell_some (Hn3.out ad h j u hu)) (one_ints _) (by omega) (by unfold maxLen;omega) (u2).size ?_;intro v4 w4 how4 hev4;have u4:=Up.evo (u2) hev4 (fun q hq=>(how0.lt q hq).1);simp only [Nat.zero_add,List.nil_append] at how4;obtain ⟨s4,n4,rfl⟩:=own_val how4;refine hK.out _ _ (DD.out _ u4) (fun hHeld=>?_);clear hK K;(try simp only [Act.put,List.setIfInBounds_toArray]);have hb7:=hev4.blk hb7 (fun e=>by have h:=Option.some.inj e;simp at h);refine wpAnyH_ready (rs:=[8]) (by kernel_rfl) (by simp) ?_;refine AllReadyH.cons rfl (fun K hK=>?_) AllReadyH.nil;refine step_app eInt _ (by rfl) _ _ (by rfl) wd.heap.size _ a ((L.take a).map (Value.int .i64)) (by rfl) how4 _ 1 1 (by rfl) [.int .i64 x.number] (by rfl) (fun h=>by cases h) (int_at hb7) (one_ints [x.number]) (by omega) (by unfold maxLen;omega) (u4).size ?_;intro v8 w8 how8 hev8;have u8:=Up.evo (u4) hev8 (fun q hq=>(how4.lt q hq).1);obtain ⟨s8,n8,rfl⟩:=own_val how8;refine hK.out _ _ (DD.out _ u8) (fun hHeld=>?_);clear hK K;(try simp only [Act.put]);refine wpAnyH_ready (rs:=[12]) (by kernel_rfl) (by simp) ?_;refine AllReadyH.cons rfl (fun K hK=>?_) AllReadyH.nil;refine step_app eInt _ (by rfl) _ _ (by rfl) wd.heap.size _ (a+1) _ (by rfl) how8 a3 (L.length - a) c3 (by rfl) ((L.drop a).map (Value.int .i64)) (by simp) Hn2.out (fun ad h j u hu=>(u8).cell_some (Hn4.out ad h j u hu)) (one_ints _) (by omega) (by unfold maxLen;omega) (u8).size ?_;intro v9 w9 how9 hev9;have u9:=Up.evo (u8) hev9 (fun q hq=>(how8.lt q hq).1);obtain ⟨s9,n9,rfl⟩:=own_val how9;refine hK.out _ _ (DD.out _ u9) (fun hHeld=>?_);clear hK K;(try simp only [Act.put]);refine wtk 13 (v:=?_) rfl ?_ ?_
     rotate_left
     ·(intro w hSw;(try dsimp only at hSw);go_simp)
      try with_reducible rfl
     try simp only [Act.put]
     rotate_left
     all_goals
      refine wpAnyH_done (by kernel_rfl) ?_ _;have Hw9:=hid (own_baseI HwX.out how9);have Hu9:=hid u9;clear hHeld how4 how8 how9 hev4 hev8 hev9 u9 u8;go_wp2_with fail
      go_roundw
      case rel =>
       refine ⟨L.length+1,L.take a++[x.number]++L.drop a,by omega,by have:=Ha.out;simp;omega,by go_num,Hris2.out,?_,put_ints Ha.out Hw9.out,((Hu.out.trans Huy.out).trans Hu3.out).trans Hu9.out⟩;rw [Hsn.out];exact Hperm2.out
      case measure=>simp [intOf];omega
  ·have hfin:m.fields.take L.length=m.fields:=List.take_of_length_le (by omega);have hp:=Hperm.out;rw [hfin] at hp;have He:=hid (show L=numsC m from ris_sort Hris.out hp);clear hp hfin how;obtain ⟨vo,rfl⟩:∃ vo:Value,vo=u3:=⟨_,rfl⟩;go_wp2_with fail
   go_ret
   exact ⟨_,rfl,by rw [←He.out];exact How.out,Hu.out⟩
end Go.Proofs.YtbceccblepckhaaGreatDoor
