/-
  (*writer).value: its closure; what a body's walk asks.
  body.Set, of values as they are.
  pressref3.Set's loop, in plain Lean.
  pressref2.Empty.
-/
import Derived.Test.YtbceccblepckhaaGreatDoorCt16
set_option maxHeartbeats 3200000
set_option linter.unusedVariables false
namespace Go.Proofs.YtbceccblepckhaaGreatDoor
open Go.RowKit
set_option maxRecDepth 100000
open Lib (hid)
theorem sized_c (base:Nat) (v:Value) (l:List UInt8) (bx bf fo:Nat) (num:Int) (bytes:List UInt8) (vd:Value) (w:World) (hbx:w.cell? ⟨bx,0,none⟩=some (.pointer (some ⟨bf,fo,none⟩))) (hn:w.cell? ⟨bf,fo+1,none⟩=some (.int .i64 num))
  (hv:RdB (Av v) w vd bytes) (n1:1<=num) (n2:num<536870912) (hl:l.length+bytes.length<=1099511627776 - 8200)
  (hown:w.ownsRow base 5 1 v l.length (B8 l)) (hb:base<=w.heap.size) :
  Calls Tryz.prog 66 (#[v,vd]++#[.pointer (some ⟨bx,0,none⟩)]) w fun e w'=>∃ v',e=.returned v'/\w'.ownsRow base 5 1 v' (l++oneB ⟨num,2,0,bytes⟩).length (B8 (l++oneB ⟨num,2,0,bytes⟩))/\Evo w w' v v':=by
 show Calls Tryz.prog 66 #[v,vd,.pointer (some ⟨bx,0,none⟩)] w _;obtain ⟨ao,cap,rfl,_,_⟩:=hv.val;have Hadd:=hid (add_sized base v l num bytes _ w hv n1 n2 hl hown hb);clear hv hown
 go_enter Tryz.func66,Tryz.ntmps66
 go_wp2_with (go_at_call 31;go_must (refine Hadd.out.mono ?_;rintro e w1 ⟨v1,rfl,how1,hev1⟩))
 go_ret
 exact ⟨_,rfl,how1,hev1⟩
abbrev WBodC (k d:Nat) (f:Fil):Prop:=∀ (msg:Int) (x:Bod) (cb fb b o:Nat) (w:World),0<=msg->msg<f.msgs.length->ChkAt w cb fb f->BodAt d w b o x->wrongB f k msg x=0->(rawB f k msg x).length<=1099511627776 - 8200 ->
 Calls Tryz.prog 16 #[.pointer (some ⟨cb,0,none⟩),.int .i64 msg,.pointer (some ⟨b,o,none⟩)] w fun e w'=>∃ v',e=.returned v'/\w'.ownsRow w.heap.size 5 1 v' (rawB f k msg x).length (B8 (rawB f k msg x))/\Up w w'
def rec1 (x:Fld) (n:Nat):List UInt8:=oneB ⟨x.number,howC x.kind,toldC x.kind n,[]⟩
def recS (num:Int) (t:List UInt8):List UInt8:=oneB ⟨num,2,0,t⟩
theorem val_flat (sub:Bod->List UInt8) (x:Fld) (v:Val) (h:¬ (x.many=true/\howC x.kind≠2)):(valRecs sub x v).flatMap oneB=v.2.1.flatMap (rec1 x)++(v.2.2.1.flatMap (recS x.number)++v.2.2.2.flatMap (fun s=>recS x.number (sub s))):=by
 unfold valRecs;rw [if_neg h,List.flatMap_append,List.flatMap_append,List.flatMap_map,List.flatMap_map,List.flatMap_map];rfl
theorem val_pack (sub:Bod->List UInt8) (x:Fld) (v:Val) (h:x.many=true/\howC x.kind≠2):(valRecs sub x v).flatMap oneB=recS x.number (packC x.kind v.2.1):=by
 unfold valRecs;rw [if_pos h];simp [recS]
theorem take_flat {α:Type} (g:α->List UInt8) {L:List α} {k:Nat} (h:k<L.length):(L.take (k+1)).flatMap g=(L.take k).flatMap g++g L[k]:=by
 rw [List.take_succ_eq_append_getElem h,List.flatMap_append];simp
theorem flat_le {α:Type} (g:α->List UInt8) (L:List α) (k:Nat):((L.take k).flatMap g).length<=(L.flatMap g).length:=by
 (have:L.flatMap g=(L.take k).flatMap g++(L.drop k).flatMap g:=by rw [←List.flatMap_append,List.take_append_drop]);rw [this,List.length_append];omega
theorem own_ne {base g n:Nat} {w:World} {v:Value} {l:List Value} {cs:Array Value} {t:TypeId} (h:w.ownsRow base 5 1 v n l) (hg:w.heap[g]? = some (.cells cs t (0,0))) (ht:t≠5):v.ownBlock≠some g:=fun e=>by
 rcases h.2 with ⟨rfl,_⟩|⟨g',cap',cur,rfl,_,hg',_⟩
 ·cases e
 ·simp only [Value.ownBlock,Option.some.injEq] at e;subst e;rw [hg] at hg';simp only [Option.some.injEq,Obj.cells.injEq] at hg';exact ht hg'.2.1
theorem evo_cell {w w':World} {v v':Value} (h:Evo w w' v v') {a:Addr} {u:Value} (hc:w.cell? a=some u) (hne:v.ownBlock≠some a.block):w'.cell? a=some u :=
 (World.cell?_of_block (w:=w) (h.grown.block a.block (World.block_lt_of_cell? w a hc) (fun e=>hne e.symm))).trans hc
end Go.Proofs.YtbceccblepckhaaGreatDoor
namespace Go.Proofs.YtbceccblepckhaaGreatDoor
open Go.RowKit
abbrev PV : Type:=Val × Value × Value × Value
def pv4 (p:PV):SV:=(p.1.1,p.2)
theorem zip4 {d:Nat} {S:Nat->Prop} {w:World}:∀ {l:List Val} {l4:List SV},l4.length=l.length->(∀ i,(h1:i<l4.length)->(h2:i<l.length)->l4[i].1=l[i].1/\DValD d S w l[i] [.int .i64 l4[i].1,l4[i].2.1,l4[i].2.2.1,l4[i].2.2.2]) ->
  ∃ L:List PV,L.map Prod.fst=l/\L.map pv4=l4/\∀ p∈L,DValD d S w p.1 (c4 (pv4 p))
 |[],[],_,_=>⟨[],rfl,rfl,fun p h=>by cases h⟩
 |x::l,[],h,_=>by simp at h
 |[],y::l4,h,_=>by simp at h
 |x::l,y::l4,h,hd=>by
  obtain ⟨L,h1,h2,h3⟩:=zip4 (d:=d) (S:=S) (w:=w) (l:=l) (l4:=l4) (by simpa using h) (fun i h1 h2=>hd (i+1) (by simpa using h1) (by simpa using h2));have h0:=hd 0 (by simp) (by simp);simp only [List.getElem_cons_zero] at h0;refine ⟨(x,y.2)::L,by rw [List.map_cons,h1],?_,fun p hp=>?_⟩
  ·rw [List.map_cons,h2]
   congr 1
   show (x.1,y.2)=y;rw [←h0.1]
  ·rcases List.mem_cons.1 hp with rfl|hp
   ·show DValD d S w x [.int .i64 x.1,y.2.1,y.2.2.1,y.2.2.2];rw [←h0.1];exact h0.2
   ·exact h3 p hp
theorem rd_of4 {d:Nat} {S:Nat->Prop} {w:World} {v:Value} {L:List PV} (h:RdS DVal4 4 S w v (L.map pv4)) (hd:∀ p∈L,DValD d S w p.1 (c4 (pv4 p))):RdS (DValD d) 4 S w v (L.map Prod.fst):=by
 obtain ⟨ao,cap,rfl,h1,h2,h3,h4⟩:=h;refine ⟨ao,cap,by simp,by simpa using h1,h2,h3,fun i hi=>?_⟩;(have hi':i<L.length:=by simpa using hi);obtain ⟨b,o,cs,e1,e2,e3,e4,e5,e6⟩:=h4 i (by simpa using hi');refine ⟨b,o,cs,e1,e2,e3,e4,e5,?_⟩;have h5:=hd L[i] (List.getElem_mem hi');obtain ⟨ha,hb,hc,he⟩:=e6
 have hcs:cs=c4 (pv4 L[i]):=by
  (have hg:(L.map pv4)[i]'(by simpa using hi')=pv4 L[i]:=by simp);simp only [hg] at ha;exact ha
 rw [hcs];simpa using h5
theorem RdS.weak {α:Type} {D:Lay α} (hD:Stable D) {size:Nat} {S S':Nat->Prop} {w:World} {v:Value} {l:List α} (h:RdS D size S w v l) (hs:∀ k,S k->S' k):RdS D size S' w v l:=h.keep hD (Keep.weak hs)
theorem lift_set {d:Nat} {S S':Nat->Prop} {w w':World} {vv vv':Value} {fs:List Fld} {l:List Val} {x:Val} {a1 a2 a3:Option Addr} {c1 c2 c3:Nat} {L:List PV} (h1:L.map Prod.fst=l) (h3:∀ p∈L,DValD d S w p.1 (c4 (pv4 p)))
  (hx:DValD d S w x [.int .i64 x.1,.slice a1 x.2.1.length c1,.slice a2 x.2.2.1.length c2,.slice a3 x.2.2.2.length c3]) (hS:∀ k,S k->S' k) (hu:Up w w')
  (hr:RdS DVal4 4 S' w' vv' (setG (fun y:SV=>y.1) fs (L.map pv4) (x.1,.slice a1 x.2.1.length c1,.slice a2 x.2.2.1.length c2,.slice a3 x.2.2.2.length c3) (fun f=>plainN f x))):RdS (DValD d) 4 S' w' vv' (setV fs l x):=by
 subst h1
 have e1:setV fs (L.map Prod.fst) x=(setG (fun p:PV=>p.1.1) fs L (x,.slice a1 x.2.1.length c1,.slice a2 x.2.2.1.length c2,.slice a3 x.2.2.2.length c3) (fun f=>plainN f x)).map Prod.fst :=
  setG_map Prod.fst (fun y:Val=>y.1) fs L (x,.slice a1 x.2.1.length c1,.slice a2 x.2.2.1.length c2,.slice a3 x.2.2.2.length c3) (fun f=>plainN f x)
 have e2:=setG_map pv4 (fun y:SV=>y.1) fs L (x,.slice a1 x.2.1.length c1,.slice a2 x.2.2.1.length c2,.slice a3 x.2.2.2.length c3) (fun f=>plainN f x);rw [e1];refine rd_of4 (by have e3:=e2.symm;exact (show List.map pv4 _=_ from e3) ▸ hr) (fun p hp=>?_);refine stable_val d _ _ _ _ _ _ ((Keep.upS hu).trans (Keep.weak hS)) ?_;rcases setG_mem _ _ _ _ _ p hp with h|rfl
 ·exact h3 p h
 ·exact hx
theorem set_v (d:Nat) {S:Nat->Prop} (s vf vb vv vu:Value) (fs:List Fld) (l:List Val) (x:Val) (a1 a2 a3:Option Addr) (c1 c2 c3:Nat) (w:World) (hs:∃ b,s=.string b) (hvb:IsS vb) (hvu:IsS vu) (hf:RdS DFld 6 All w vf fs) (hv:RdS (DValD d) 4 S w vv l) (hr:RisingV l) (hz:(l.length+1)*80<=140737488355328)
  (hx:DValD d S w x [.int .i64 x.1,.slice a1 x.2.1.length c1,.slice a2 x.2.2.1.length c2,.slice a3 x.2.2.2.length c3]) :
  Calls Tryz.prog 101 #[.agg #[s,vf,vb],.agg #[vv,vu],.agg #[.int .i64 x.1,.slice a1 x.2.1.length c1,.slice a2 x.2.2.1.length c2,.slice a3 x.2.2.2.length c3]] w fun e w' =>
   ∃ vv',e=.returned (.agg #[vv',vu])/\RdS (DValD d) 4 (Sx S w) w' vv' (setV fs l x)/\Up w w':=by
 obtain ⟨l4,h1,h2,h3⟩:=rd4 hv;obtain ⟨L,e1,e2,e3⟩:=zip4 h2 h3;obtain ⟨p1,g1,p2,g2,p3,g3,he,hn,hx1,hx2,hx3,zx⟩:=val_cells hx;simp only [List.cons.injEq,Value.slice.injEq,true_and,and_true] at he;obtain ⟨⟨rfl,rfl⟩,⟨rfl,rfl⟩,rfl,rfl⟩:=he;have hx':=hx
 have hr4:Rising l4:=by
  rw [←e2];rw [←e1] at hr;have hq:L.Pairwise (fun p q=>p.1.1<q.1.1):=(List.pairwise_map (f:=Prod.fst) (R:=fun a b:Val=>a.1<b.1)).1 hr;exact (List.pairwise_map (f:=pv4) (R:=fun a b:SV=>a.1<b.1)).2 hq
 refine (set_b (S:=S) s vf vb vv vu fs l4 x a1 a2 a3 c1 c2 c3 w hs hvb hvu hf h1 hr4 (by rw [h2];exact hz) (hx1.keep stable_u64 Keep.all) (hx2.keep stable_bytes Keep.all)).mono ?_;rintro e w' ⟨vv',rfl,hrd,hu⟩;rw [←e2] at hrd;refine ⟨vv',rfl,?_,hu⟩;exact lift_set (vv:=vv) e1 e3 hx (fun k h=>.inl h) hu hrd
theorem nodup_le : ∀ {l1 l2:List Int},l1.Nodup->(∀ x∈l1,x∈l2)->l1.length<=l2.length
 |[],_,_,_=>by simp
 |a::t,l2,hn,hs=>by
  have ha:=hs a List.mem_cons_self;have h1:=nodup_le (l1:=t) (l2:=l2.erase a) (List.nodup_cons.1 hn).2 (fun x hx=>(List.mem_erase_of_ne (by rintro rfl;exact (List.nodup_cons.1 hn).1 hx)).2 (hs x (List.mem_cons_of_mem _ hx)));rw [List.length_erase_of_mem ha] at h1;have:=List.length_pos_of_mem ha;simp only [List.length_cons];omega
theorem vals_le {wv:Fld->Val->Int} {fs:List Fld} {l:List Val} {had:List Int} {prev:Option Int} (h:valsN wv fs prev had l=0):l.length<=fs.length:=by
 obtain ⟨h1,h2,_,_⟩:=valsN_zero h
 have h3:(l.map (fun x=>x.1)).length<=(fs.map (fun x=>x.number)).length:=by
  refine nodup_le ?_ ?_
  ·unfold List.Nodup;rw [List.pairwise_map];exact h2.imp (fun h e=>by omega)
  ·intro n hn;obtain ⟨v,hv,rfl⟩:=List.mem_map.1 hn;obtain ⟨x,hx,_⟩:=h1 v hv;obtain ⟨hx1,hx2⟩:=fldN_mem hx;exact List.mem_map.2 ⟨x,hx1,hx2⟩
 simpa using h3
def SetSt (kp:SV->Bool) (n:Int) (X:SV) (pl:Bool) (l:List SV) (k:Nat) (pb:Bool) (L:List SV):Prop :=
 (pb=true/\pl=false/\L=(l.take k).filter kp/\∀ y∈l.take k,y.1<=n) ∨
 (pb=false/\pl=true/\L=(l.take k).filter kp) ∨
 (pb=false/\pl=false/\∃ i,i<=k/\(∀ y∈l.take i,y.1<=n)/\(∃ h:i<l.length,n<l[i].1)/\L=(l.take i).filter kp++X::((l.take k).drop i).filter kp)
theorem SetSt.ins {kp:SV->Bool} {n:Int} {X:SV} {pl:Bool} {l:List SV} {k:Nat} {L:List SV} (h:SetSt kp n X pl l k true L) (hk:k<l.length) (hn:n<l[k].1):SetSt kp n X pl l k false (L++[X]):=by
 rcases h with ⟨_,h2,h3,h4⟩|⟨h,_⟩|⟨h,_⟩
 ·refine .inr (.inr ⟨rfl,h2,k,Nat.le_refl k,h4,⟨hk,hn⟩,?_⟩);have:(l.take k).drop k=[]:=List.drop_eq_nil_of_le (by rw [List.length_take];omega);rw [this,h3];rfl
 ·cases h
 ·cases h
theorem SetSt.next {kp:SV->Bool} {n:Int} {X:SV} {pl:Bool} {l:List SV} {k:Nat} {pb:Bool} {L:List SV} (h:SetSt kp n X pl l k pb L) (hk:k<l.length) (hn:pb=true->¬ n<l[k].1):SetSt kp n X pl l (k+1) pb (L++if kp l[k]=true then [l[k]] else []):=by
 have hs:=filter_take_succ kp l k hk;rcases h with ⟨rfl,h2,h3,h4⟩|⟨h1,h2,h3⟩|⟨h1,h2,i,hi,h4,h5,h6⟩
 ·refine .inl ⟨rfl,h2,by rw [hs,h3],fun y hy=>?_⟩;rw [List.take_succ_eq_append_getElem hk] at hy;rcases List.mem_append.1 hy with h|h
  ·exact h4 y h
  ·have:=hn rfl;simp only [List.mem_singleton] at h;subst h;omega
 ·exact .inr (.inl ⟨h1,h2,by rw [hs,h3]⟩)
 ·refine .inr (.inr ⟨h1,h2,i,by omega,h4,h5,?_⟩);rw [h6,List.take_succ_eq_append_getElem hk,List.drop_append_of_le_length (by rw [List.length_take];omega),List.filter_append,List.append_assoc]
  congr 1
  show _++_=X::_;rw [List.cons_append]
  congr 1
  rw [List.filter_cons];rfl
theorem takeWhile_split {p:SV->Bool} {A B:List SV} (ha:∀ a∈A,p a=true) (hb:∀ b∈B,p b=false):((A++B).takeWhile p).length=A.length:=by
 induction A with
 |nil =>
  cases B with
  |nil=>rfl
  |cons b B=>rw [List.nil_append,List.takeWhile_cons,if_neg (by rw [hb b List.mem_cons_self];decide)]
 |cons a A ih =>
  rw [List.cons_append,List.takeWhile_cons,if_pos (ha a List.mem_cons_self),List.length_cons,List.length_cons,ih (fun x hx=>ha x (List.mem_cons_of_mem _ hx))]
theorem insG_split {X:SV} {A B:List SV} (ha:∀ a∈A,a.1<X.1) (hb:∀ b∈B,¬ b.1<X.1):insG (fun y:SV=>y.1) (A++B) X=A++X::B:=by
 unfold insG;rw [takeWhile_split (p:=fun y:SV=>decide (y.1<X.1)) (fun a h=>decide_eq_true (ha a h)) (fun b h=>decide_eq_false (hb b h))];rw [List.take_left' rfl,List.drop_left' rfl]
theorem SetSt.last {fs:List Fld} {F:Fld} {X:SV} {pl:Bool} {l:List SV} {pb:Bool} {L:List SV} {k:Nat} (hk:l.length<=k) (hr:Rising l) (h:SetSt (fun y=>keepN fs F X.1 y.1) X.1 X pl l k pb L) :
  (if pb=true then L++[X] else L)=if pl=true then l.filter (fun y=>keepN fs F X.1 y.1) else insG (fun y:SV=>y.1) (l.filter fun y=>keepN fs F X.1 y.1) X:=by
 have ht:l.take k=l:=List.take_of_length_le hk;rcases h with ⟨rfl,rfl,rfl,h4⟩|⟨rfl,rfl,rfl⟩|⟨rfl,rfl,i,hi,h4,⟨h5,h5'⟩,rfl⟩
 ·rw [if_pos rfl,if_neg (by decide),ht]
  have:=insG_split (X:=X) (A:=l.filter fun y=>keepN fs F X.1 y.1) (B:=[]) (fun a ha=>by
   obtain ⟨h1,h2⟩:=List.mem_filter.1 ha;have h3:=keepN_ne h2;have h4':=h4 a (by rw [ht];exact h1);omega) (fun b hb=>by cases hb)
  rw [List.append_nil] at this;rw [this]
 ·rw [if_neg (by decide),if_pos rfl,ht]
 ·rw [if_neg (by decide),if_neg (by decide),ht]
  have hsp:l.filter (fun y=>keepN fs F X.1 y.1)=(l.take i).filter (fun y=>keepN fs F X.1 y.1)++(l.drop i).filter (fun y=>keepN fs F X.1 y.1):=by
   rw [←List.filter_append,List.take_append_drop]
  rw [hsp];refine (insG_split ?_ ?_).symm
  ·intro a ha;obtain ⟨h1,h2⟩:=List.mem_filter.1 ha;have h3:=keepN_ne h2;have h4':=h4 a h1;omega
  ·intro b hb;obtain ⟨h1,h2⟩:=List.mem_filter.1 hb;obtain ⟨j,hj,rfl⟩:=List.getElem_of_mem h1;rw [List.getElem_drop];rw [List.length_drop] at hj;rcases Nat.eq_zero_or_pos j with rfl|hpos
   ·simp only [Nat.add_zero];omega
   ·have:=hr.at (i:=i) (j:=i+j) (by omega) (by omega);omega
theorem SetSt.len {kp:SV->Bool} {n:Int} {X:SV} {pl:Bool} {l:List SV} {k:Nat} {pb:Bool} {L:List SV} (h:SetSt kp n X pl l k pb L):L.length<=k+1/\(pb=true->L.length<=k)/\L.length<=l.length+1:=by
 rcases h with ⟨_,_,rfl,_⟩|⟨_,_,rfl⟩|⟨rfl,_,i,hi,_,_,rfl⟩
 ·have:=List.length_filter_le kp (l.take k);rw [List.length_take] at this;exact ⟨by omega,fun _=>by omega,by omega⟩
 ·have:=List.length_filter_le kp (l.take k);rw [List.length_take] at this;exact ⟨by omega,fun _=>by omega,by omega⟩
 ·have h1:=List.length_filter_le kp (l.take i);have h2:=List.length_filter_le kp ((l.take k).drop i);rw [List.length_take] at h1;rw [List.length_drop,List.length_take] at h2;rw [List.length_append,List.length_cons];exact ⟨by omega,fun h=>(by cases h),by omega⟩
set_option maxRecDepth 100000
open Lib (hid)
theorem empty_any (f:Fld) (bf of:Nat) (x:Val) (a1 a2 a3:Option Addr) (c1 c2 c3:Nat) (w:World) (hk:w.cell? ⟨bf,of+2,none⟩=some (.int .i64 f.kind)) (hm:w.cell? ⟨bf,of+4,none⟩=some (.bool f.many)) (hc:w.cell? ⟨bf,of+5,none⟩=some (.int .i64 f.choice))
  (hbf:bf<w.heap.size) (h1:RdS DU64 1 All w (.slice a1 x.2.1.length c1) x.2.1) (h2:RdS DBytes 1 All w (.slice a2 x.2.2.1.length c2) x.2.2.1) :
  Calls Tryz.prog 112 #[.pointer (some ⟨bf,of,none⟩),.agg #[.int .i64 x.1,.slice a1 x.2.1.length c1,.slice a2 x.2.2.1.length c2,.slice a3 x.2.2.2.length c3]] w fun e w'=>e=.returned (.bool (plainN f x))/\Up w w':=by
 obtain ⟨xn,xb,xy,xs⟩:=x;simp only at h1 h2;simp only;obtain ⟨fn,fnum,fk,ft,fm,fc⟩:=f;simp only at hk hm hc;have hpl:plainN ⟨fn,fnum,fk,ft,fm,fc⟩ (xn,xb,xy,xs)=(!(fm || decide (0<fc) || fk==10) && ((xb==[0]) || (xy==[[]]))):=rfl;rw [hpl];clear hpl
 cases fm with
 |true =>
  clear h1 h2
  go_enter Tryz.func112,Tryz.ntmps112
  go_wp2_with fail
  go_ret
  exact ⟨ret_bool (by simp),(Up.refl w).alloc _⟩
 |false =>
  by_cases hfc:0<fc
  ·have dc:decide (0<fc)=true:=decide_eq_true hfc;clear h1 h2
   go_enter Tryz.func112,Tryz.ntmps112
   go_wp2_with fail
   go_ret
   exact ⟨ret_bool (by simp [hfc]),(Up.refl w).alloc _⟩
  ·have dc:decide (0<fc)=false:=decide_eq_false hfc;rw [dc]
   cases hfk:(fk==10) with
   |true =>
    clear h1 h2
    go_enter Tryz.func112,Tryz.ntmps112
    go_wp2_with fail
    go_ret
    exact ⟨ret_bool (by simp),(Up.refl w).alloc _⟩
   |false =>
    have q1:xb=[0]∨(∃ n,n≠0/\xb=[n])∨xb.length≠1:=by
     rcases xb with _|⟨n,_|⟨m,l⟩⟩
     ·exact .inr (.inr (by simp))
     ·by_cases hn:n=0
      ·subst hn;exact .inl rfl
      ·exact .inr (.inl ⟨n,hn,rfl⟩)
     ·exact .inr (.inr (by simp))
    have q2:xy=[[]]∨(∃ y,y≠[]/\xy=[y])∨xy.length≠1:=by
     rcases xy with _|⟨n,_|⟨m,l⟩⟩
     ·exact .inr (.inr (by simp))
     ·by_cases hn:n=[]
      ·subst hn;exact .inl rfl
      ·exact .inr (.inl ⟨n,hn,rfl⟩)
     ·exact .inr (.inr (by simp))
    rcases q1 with rfl|hq
    ·obtain ⟨b1,o1,cs,rfl,hb1,hcs,hd⟩:=h1.head;obtain ⟨rfl,_⟩:=hd;have n0:=hcs 0 _ rfl;simp only [Nat.add_zero,List.length_cons,List.length_nil,Nat.zero_add] at n0 ⊢;clear h1 h2 hcs q2
     go_enter Tryz.func112,Tryz.ntmps112
     go_wp2_with fail
     go_ret
     exact ⟨ret_bool (by simp []),(Up.refl w).alloc _⟩
    ·have q3:(xb==[0])=false:=by
      rw [beq_eq_false_iff_ne];rintro rfl;rcases hq with ⟨n,hn,h⟩|h
      ·simp at h;exact hn h.symm
      ·simp at h
     have q4:((xb.length:Int)==1)=false∨∃ n b1 o1,a1=some ⟨b1,o1,none⟩/\b1<w.heap.size/\xb.length=1/\w.cell? ⟨b1,o1,none⟩=some (.int .u64 (n:Int))/\((n:Int)==0)=false:=by
      rcases hq with ⟨n,hn,rfl⟩|h
      ·obtain ⟨b1,o1,cs,rfl,hb1,hcs,hd⟩:=h1.head;obtain ⟨rfl,_⟩:=hd;have n0:=hcs 0 _ rfl;simp only [Nat.add_zero] at n0;exact .inr ⟨n,b1,o1,rfl,hb1,rfl,n0,by rw [beq_eq_false_iff_ne];omega⟩
      ·exact .inl (by rw [beq_eq_false_iff_ne];omega)
     have Q3:=hid q3;clear h1 hq q3;rcases q2 with rfl|hq
     ·obtain ⟨b2,o2,cs,rfl,hb2,hcs,hd⟩:=h2.head;obtain ⟨vy,hd,hy,_⟩:=hd;subst hd;obtain ⟨ay,cy,rfl,_,_⟩:=hy.val;have n0:=hcs 0 _ rfl;simp only [Nat.add_zero,List.length_cons,List.length_nil,Nat.zero_add] at n0 ⊢;clear h2 hcs hy;rcases q4 with q4|⟨n,b1,o1,rfl,hb1,hl1,n1,n2⟩
      ·go_enter Tryz.func112,Tryz.ntmps112
       go_wp2_with fail
       go_ret
       exact ⟨ret_bool (by simp []),(Up.refl w).alloc _⟩
      ·rw [hl1]
       go_enter Tryz.func112,Tryz.ntmps112
       go_wp2_with fail
       go_ret
       exact ⟨ret_bool (by simp []),(Up.refl w).alloc _⟩
     ·have q5:(xy==[[]])=false:=by
       rw [beq_eq_false_iff_ne];rintro rfl;rcases hq with ⟨n,hn,h⟩|h
       ·simp at h;exact hn h
       ·simp at h
      have q6:((xy.length:Int)==1)=false∨∃ (y:List UInt8) (b2 o2:Nat) (ay:Option Addr) (cy:Nat),a2=some ⟨b2,o2,none⟩/\b2<w.heap.size/\xy.length=1/\w.cell? ⟨b2,o2,none⟩=some (.slice ay y.length cy)/\((y.length:Int)==0)=false:=by
       rcases hq with ⟨y,hn,rfl⟩|h
       ·obtain ⟨b2,o2,cs,rfl,hb2,hcs,hd⟩:=h2.head;obtain ⟨vy,hd,hy,_⟩:=hd;subst hd;obtain ⟨ay,cy,rfl,_,_⟩:=hy.val;have n0:=hcs 0 _ rfl;simp only [Nat.add_zero] at n0;exact .inr ⟨y,b2,o2,ay,cy,rfl,hb2,rfl,n0,by rw [beq_eq_false_iff_ne];have:=List.length_pos_iff.2 hn;omega⟩
       ·exact .inl (by rw [beq_eq_false_iff_ne];omega)
      rw [q5,Q3.out];clear h2 hq q5;rcases q4 with q4|⟨n,b1,o1,rfl,hb1,hl1,n1,n2⟩
      ·rcases q6 with q6|⟨y,b2,o2,ay,cy,rfl,hb2,hl2,n3,n4⟩
       ·go_enter Tryz.func112,Tryz.ntmps112
        go_wp2_with fail
        go_ret
        exact ⟨ret_bool (by simp []),(Up.refl w).alloc _⟩
       ·rw [hl2];clear hl2
        go_enter Tryz.func112,Tryz.ntmps112
        go_wp2_with fail
        go_ret
        exact ⟨ret_bool (by simp []),(Up.refl w).alloc _⟩
      ·rw [hl1];clear hl1;rcases q6 with q6|⟨y,b2,o2,ay,cy,rfl,hb2,hl2,n3,n4⟩
       ·go_enter Tryz.func112,Tryz.ntmps112
        go_wp2_with fail
        go_ret
        exact ⟨ret_bool (by simp []),(Up.refl w).alloc _⟩
       ·rw [hl2];clear hl2
        go_enter Tryz.func112,Tryz.ntmps112
        go_wp2_with fail
        go_ret
        exact ⟨ret_bool (by simp []),(Up.refl w).alloc _⟩
end Go.Proofs.YtbceccblepckhaaGreatDoor
