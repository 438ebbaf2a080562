/-
  body.Field; pressref2.Field.
  Lists put one behind the other: what 'append' takes, what it makes.
  Rows of the call's own: more about them.
  A world that has drawn more is as the one before.
  codec.Numbers, beside the codec's plain texts (turned from XNums).
-/
import Derived.Test.YtbceccblepckhaaGreatDoorCt03
import Derived.Lib.SortBridge
set_option maxHeartbeats 1600000
set_option linter.unusedVariables false
namespace Go.Proofs.YtbceccblepckhaaGreatDoor
open Go.RowKit
set_option maxRecDepth 100000
open Lib (hid)
theorem field_p (n:Int) (b:Nat) (x:Fld) (cs:List Value) (w:World) (hb:b<w.heap.size) (hc:w.cell? ⟨b,0,none⟩=some (.int .i64 n)) (hd:DFld All w x cs) :
  Calls Tryz.prog 71 (#[.agg cs.toArray]++#[.pointer (some ⟨b,0,none⟩)]) w fun e w'=>e=.returned (.bool (x.number==n))/\Up w w':=by
 obtain ⟨hd,_⟩:=hd;subst hd;show Calls Tryz.prog 71 #[.agg #[.string ⟨x.name.toArray⟩,.int .i64 x.number,.int .i64 x.kind,.string ⟨x.type.toArray⟩,.bool x.many,.int .i64 x.choice],.pointer (some ⟨b,0,none⟩)] w _;have hne:b≠w.heap.size:=by omega
 go_enter Tryz.func71,Tryz.ntmps71
 go_wp2_with fail
 go_ret
 exact ⟨ret_bool (by simp),(Up.refl w).alloc _⟩
theorem field_any (s:Value) (vf vb:Value) (l:List Fld) (n:Int) (w:World) (hs:∃ b,s=.string b) (hvb:∃ a l c,vb=.slice a l c) (hv:RdS DFld 6 All w vf l) :
  Calls Tryz.prog 30 #[.agg #[s,vf,vb],.int .i64 n] w fun e w'=>e=.returned (.int .i64 (idxP (fun x=>x.number==n) l))/\Up w w':=by
 obtain ⟨b,rfl⟩:=hs;obtain ⟨x1,x2,x3,rfl⟩:=hvb;obtain ⟨ao,cap,rfl,hc1,hc2⟩:=hv.val;have Hv:=hid hv;clear hv
 go_enter Tryz.func30,Tryz.ntmps30
 (go_wp2_with fail);have hu:Up w ((w.alloc (.cells #[.string b,.slice ao l.length cap,.slice x1 x2 x3] 35)).alloc (.cells #[.int .i64 n] 3)):=((Up.refl w).alloc _).alloc _
 have hc:((w.alloc (.cells #[.string b,.slice ao l.length cap,.slice x1 x2 x3] 35)).alloc (.cells #[.int .i64 n] 3)).cell? ⟨w.heap.size+1,0,none⟩=some (.int .i64 n) :=
  cell_of_row _ _ 0 _ _ _ (blk_new (w.alloc (.cells #[.string b,.slice ao l.length cap,.slice x1 x2 x3] 35)) (.cells #[.int .i64 n] 3) (g:=w.heap.size+1) (by simp))
 (have hz:w.heap.size+1<((w.alloc (.cells #[.string b,.slice ao l.length cap,.slice x1 x2 x3] 35)).alloc (.cells #[.int .i64 n] 3)).heap.size:=by simp);generalize (w.alloc (.cells #[.string b,.slice ao l.length cap,.slice x1 x2 x3] 35)).alloc (.cells #[.int .i64 n] 3)=w1 at *;refine (indexF_fld _ _ (fun x=>x.number==n) 71 (enters_of Tryz.func71 (by kernel_rfl) rfl) #[.pointer (some ⟨w.heap.size+1,0,none⟩)] w1 (Hv.out.up stable_fld hu) (fun x cs wr _ hwr hd=>field_p n _ x cs wr (Nat.lt_of_lt_of_le hz hwr.size) (hwr.cell_some hc) hd)).mono ?_;rintro e w2 ⟨rfl,hu2⟩;go_wp2_with fail
 go_ret
 exact ⟨rfl,hu.trans hu2⟩
end Go.Proofs.YtbceccblepckhaaGreatDoor
namespace Go.Proofs.YtbceccblepckhaaGreatDoor
open Go.RowKit
theorem ex_list {α:Type} (P:Nat->α->Prop):∀ n,(∀ i,i<n->∃ x,P i x)->∃ xs:List α,xs.length=n/\∀ i,i<n->∃ x,xs[i]? = some x/\P i x
 |0,_=>⟨[],rfl,fun i hi=>absurd hi (Nat.not_lt_zero i)⟩
 |n+1,h=>by
  obtain ⟨xs,hl,hx⟩:=ex_list P n (fun i hi=>h i (by omega));obtain ⟨x,hp⟩:=h n (by omega);refine ⟨xs++[x],by simp [hl],fun i hi=>?_⟩
  by_cases he:i=n
  ·subst he;exact ⟨x,by rw [List.getElem?_append_right (by omega)];simp [hl],hp⟩
  ·obtain ⟨y,hy,hq⟩:=hx i (by omega);exact ⟨y,by rw [List.getElem?_append_left (by omega)];exact hy,hq⟩
theorem flatten_len : ∀ (css:List (List Value)) (size:Nat),(∀ c∈css,c.length=size)->css.flatten.length=css.length*size
 |[],size,_=>by simp
 |c::css,size,h=>by
  rw [List.flatten_cons,List.length_append,flatten_len css size (fun x hx=>h x (by simp [hx])),h c (by simp),List.length_cons,Nat.succ_mul];omega
theorem RdS.css {α:Type} {D:Lay α} {size:Nat} {S:Nat->Prop} {w:World} {ao:Option Addr} {n cap:Nat} {l:List α} (hs:0<size) (h:RdS D size S w (.slice ao n cap) l):n=l.length/\(ao=none->n=0/\cap=0) /\
  ∃ css:List (List Value),css.length=l.length/\(∀ i,(h:i<l.length)->∃ cs,css[i]? = some cs/\cs.length=size/\D S w l[i] cs)/\css.flatten.length=n*size/\(∀ ad,ao=some ad->∀ j u,css.flatten[j]? = some u->w.cell? (ad.add j)=some u):=by
 obtain ⟨ao',cap',hv,hc,hm,hn,hf⟩:=h;simp only [Value.slice.injEq] at hv;obtain ⟨rfl,rfl,rfl⟩:=hv
 obtain ⟨css,hl,hx⟩:=ex_list (fun i cs=>∃ (h:i<l.length) (b o:Nat),ao=some ⟨b,o,none⟩/\cs.length=size/\CellsAt w b (o+i*size) cs/\D S w l[i] cs) l.length (fun i hi=>by
  obtain ⟨b,o,cs,ha,_,_,hl,hcs,hd⟩:=hf i hi;exact ⟨cs,hi,b,o,ha,hl,hcs,hd⟩)
 have hall:∀ c∈css,c.length=size:=fun c hcm=>by
  obtain ⟨i,hi,rfl⟩:=List.getElem_of_mem hcm;obtain ⟨cs,h4,_,_,_,_,h5,_⟩:=hx i (by omega);rw [List.getElem?_eq_getElem hi] at h4;rw [Option.some.inj h4];exact h5
 have hfl:=flatten_len css size hall;refine ⟨rfl,fun e=>by have:=hn e;omega,css,hl,fun i hi=>?_,by rw [hfl,hl],fun ad had j u hu=>?_⟩
 ·obtain ⟨cs,h4,h3,_,_,_,h5,_,h6⟩:=hx i hi;exact ⟨cs,h4,h5,h6⟩
 ·have hj:j<l.length*size:=by
   rw [←hl,←hfl];exact (List.getElem?_eq_some_iff.1 hu).1
  have hi:j / size<l.length:=Nat.div_lt_of_lt_mul (by rw [Nat.mul_comm];exact hj);have hjm:=Nat.mod_lt j hs;obtain ⟨cs,h4,_,b,o,ha,h5,hcs,_⟩:=hx (j / size) hi;have h7:cs[j % size]? = some cs[j % size]:=List.getElem?_eq_getElem (by omega);have h8:=getElem?_flatten_block css size (j / size) (j % size) _ cs hall h4 h7;(have h9:j / size*size+j % size=j:=by rw [Nat.mul_comm];exact Nat.div_add_mod j size);rw [h9,hu] at h8;have h10:=hcs _ _ h7;rw [Option.some.inj h8];rw [ha] at had;obtain rfl:=Option.some.inj had;rw [show o+j / size*size+j % size=o+j by omega] at h10
  have e:(⟨b,o,none⟩:Addr).add j=⟨b,o+j,none⟩:=by
   unfold Addr.add;split
   ·rename_i h0;(have h0:j=0:=by simpa using h0);subst h0;rfl
   ·rfl
  rw [e];exact h10
theorem rdS_of_row {α:Type} {D:Lay α} (hD:Stable D) {base:Nat} {e:TypeId} {size:Nat} {w:World} {v:Value} {l:List α} {css:List (List Value)} (how:w.ownsRow base e size v l.length css.flatten) (hl:css.length=l.length)
  (hel:∀ i,(h:i<l.length)->∃ cs,css[i]? = some cs/\cs.length=size/\D (fun k=>k<base) w l[i] cs):RdS D size All w v l:=by
 refine OwnS.rd (S:=All) hD ⟨css,hl,how,fun i hi=>?_⟩ (fun _ _=>trivial) (fun _ _=>trivial);obtain ⟨cs,h1,h2,h3⟩:=hel i hi;refine ⟨cs,h1,h2,hD _ _ _ _ _ _ (Keep.weak (fun k hk=>⟨trivial,fun e=>?_⟩)) h3⟩;have:=(how.lt k e).1;omega
section
variable {P:Program} {t e:TypeId} {size bytes:Nat} {z:Value} (E:Elem P t e size bytes z) (w:World)
include E
end
theorem ones_rec {S:Nat->Prop} {w:World} {l:List Rec} {css:List (List Value)} (hl:css.length=l.length) (hel:∀ i,(h:i<l.length)->∃ cs,css[i]? = some cs/\cs.length=4/\DRec S w l[i] cs):∀ u∈css.flatten,u.oneCell'=true:=by
 intro u hu;obtain ⟨cs,hcs,hu⟩:=List.mem_flatten.1 hu;obtain ⟨i,hi,rfl⟩:=List.getElem_of_mem hcs;obtain ⟨cs,h1,h2,vb,rfl,hb,_⟩:=hel i (by omega);rw [List.getElem?_eq_getElem hi] at h1;obtain ⟨a,c,rfl,_,_⟩:=hb.val;rw [Option.some.inj h1] at hu;simp only [List.mem_cons,List.not_mem_nil,or_false] at hu;rcases hu with rfl|rfl|rfl|rfl <;> rfl
end Go.Proofs.YtbceccblepckhaaGreatDoor
namespace Go.Proofs.YtbceccblepckhaaGreatDoor
open Go.RowKit
def FilSz (f:Fil):Prop:=f.msgs.length*64<=140737488355328/\f.enums.length*40<=140737488355328/\(∀ m∈f.msgs,m.fields.length*64<=140737488355328/\m.barred.length*8<=140737488355328)/\∀ e∈f.enums,e.items.length*24<=140737488355328
abbrev No : Nat->Prop:=fun _=>False
theorem RdS.lt {α:Type} {D:Lay α} (hD:Stable D) {size:Nat} {w:World} {v:Value} {l:List α} (h:RdS D size All w v l):RdS D size (Lt w) w v l:=h.keep hD (Keep.lt (S:=All))
theorem FilV.setCell {S:Nat->Prop} {w:World} {v:Value} {f:Fil} (h:FilV S w v f) {p:Addr} (hp:¬ S p.block) (u:Value):FilV S (w.setCell p u) v f:=h.keep (Keep.setCell hp u)
theorem FilV.alloc {S:Nat->Prop} {w:World} {v:Value} {f:Fil} (h:FilV S w v f) (o:Obj):FilV S (w.alloc o) v f:=h.keep (Keep.alloc o)
theorem FilV.all {S:Nat->Prop} {w:World} {v:Value} {f:Fil} (h:FilV S w v f):FilV All w v f:=h.keep (Keep.weak (fun _ _=>trivial))
theorem OwnS.lo {α:Type} {D:Lay α} {base:Nat} {e:TypeId} {size:Nat} {S:Nat->Prop} {w:World} {v:Value} {l:List α} (h:OwnS D base e size S w v l):∀ j,v.ownBlock=some j->base<=j/\j<w.heap.size:=fun j hj=>by
 obtain ⟨css,_,h2,_⟩:=h;exact h2.lt j hj
theorem own_val {w:World} {base:Nat} {e:TypeId} {size:Nat} {v:Value} {n:Nat} {xs:List Value} (h:w.ownsRow base e size v n xs):∃ ao cap,v=.slice ao n cap:=by
 rcases h.2 with ⟨rfl,rfl⟩|⟨g,cap,cur,rfl,_⟩
 ·exact ⟨_,_,rfl⟩
 ·exact ⟨_,_,rfl⟩
theorem ones_of {α:Type} {D:Lay α} {S:Nat->Prop} {w:World} {l:List α} {size:Nat} {css:List (List Value)} (h1:∀ S w a cs,D S w a cs->∀ u∈cs,u.oneCell'=true) (hl:css.length=l.length) (hel:∀ i,(h:i<l.length)->∃ cs,css[i]? = some cs/\cs.length=size/\D S w l[i] cs):∀ u∈css.flatten,u.oneCell'=true:=by
 intro u hu;obtain ⟨cs,hcs,hu⟩:=List.mem_flatten.1 hu;obtain ⟨i,hi,rfl⟩:=List.getElem_of_mem hcs;obtain ⟨cs,h2,_,h3⟩:=hel i (by omega);rw [List.getElem?_eq_getElem hi] at h2;rw [Option.some.inj h2] at hu;exact h1 _ _ _ _ h3 u hu
theorem Up.drewN {a w:World} (h:Up a w) (n:Nat):Up a (w.drewN n):=⟨h.os,h.tape,h.output,h.size,h.block⟩
end Go.Proofs.YtbceccblepckhaaGreatDoor
namespace Go.Proofs.YtbceccblepckhaaGreatDoor
open Go.RowKit Go.Shelf Go.Lib Go.Sort
set_option maxRecDepth 100000
open Lib (hid)
def numsC (m:Msg):List Int:=(m.fields.map (·.number)).mergeSort (fun x y=>decide (x<=y))
theorem ltC (x y:Int):ltOf Lib.compareInt x y=decide (x<y):=by
 unfold ltOf Lib.compareInt
 by_cases h1:x<y
 ·simp [h1]
 ·by_cases h2:y<x <;> simp [h1,h2]
theorem swoC : SWO (ltOf Lib.compareInt) where
 irrefl x:=by rw [ltC];simp
 trans x y z h1 h2:=by rw [ltC] at *;simp at *;omega
 ntrans x y z h1 h2:=by rw [ltC] at *;simp at *;omega
theorem totC (x y:Int) (h1:ltOf Lib.compareInt x y=false) (h2:ltOf Lib.compareInt y x=false):x=y:=by rw [ltC] at *;simp at *;omega
theorem leC : (fun x y:Int=>!ltOf Lib.compareInt y x)=fun x y=>decide (x<=y):=by
 funext x y
 rw [ltC]
 by_cases h:x<=y
 ·(have h':¬ y<x:=by omega);simp [h,h']
 ·(have h':y<x:=by omega);simp [h,h']
theorem cmp_reads (blk off size:Nat) (w:World):CmpReads Tryz.prog 14 #[] (Value.int .i64) Lib.compareInt blk off size w:=fun _ _ _ _ x y=>by
 refine (AnyG.cmp_Compare_int Tryz.cmpL x y _).mono ?_;rintro e w' ⟨he,hw⟩;exact ⟨he,0,hw⟩
theorem take_putCells (s:List Int) (cur:Array Value) (h:s.length<=cur.size):(putCells (Value.int .i64) 0 s.toArray cur).toList.take s.length=s.map (Value.int .i64):=by
 apply List.ext_getElem?;intro j;rw [List.getElem?_take,List.getElem?_map]
 by_cases hj:j<s.length
 ·rw [if_pos hj,Array.getElem?_toList,putCells,Array.getElem?_mapIdx,Array.getElem?_eq_getElem (by omega)];simp [hj]
 ·rw [if_neg hj,List.getElem?_eq_none (by omega)];rfl
theorem flat1 : ∀ l:List Int,(l.map (fun x=>[Value.int .i64 x])).flatten=l.map (Value.int .i64)
 |[]=>rfl
 |a::l=>by simpa using flat1 l
theorem sort_own (base:Nat) (v:Value) (l:List Int) (w:World) (h:OwnS DInt base 3 1 No w v l) (hl:l.length<4611686018427387904) :
  Calls Tryz.prog 13 #[v,.func (.func 14) #[] #[]] w fun e w'=>e=.returned (.tuple #[])/\OwnS DInt base 3 1 No w' v (l.mergeSort fun x y=>decide (x<=y))/\Evo w w' v v:=by
 obtain ⟨css,h1,h2,h3⟩:=h
 have hfl:css.flatten=l.map (Value.int .i64):=by
  have:css=l.map (fun x=>[Value.int .i64 x]):=by
   apply List.ext_getElem?;intro i
   by_cases hi:i<l.length
   ·obtain ⟨cs,h4,h5,h6⟩:=h3 i hi;rw [h4,List.getElem?_map,List.getElem?_eq_getElem hi];rw [h6.1];rfl
   ·rw [List.getElem?_eq_none (by omega),List.getElem?_eq_none (by simp;omega)]
  rw [this,flat1]
 rw [hfl] at h2;rcases h2.2 with ⟨rfl,h0⟩|⟨g,cap,cur,rfl,hb,hg,hn,hm,hs,ht⟩
 ·have:l=[]:=List.eq_nil_of_length_eq_zero h0;subst this;refine (AnyF.slices_SortFunc_none (P:=Tryz.prog) (ρ:=Tryz.sortL_ren) { Tryz.sortL with } none 0 _ w).mono ?_;rintro e w' ⟨rfl,rfl⟩;exact ⟨rfl,by rw [List.mergeSort_nil];exact OwnS.nil _ _ _ _ _ _,Evo.refl _ _⟩
 ·have hgz:=lt_of_block hg;(have hcur:l.length<=cur.size:=by rw [hs];omega);rw [Nat.mul_one] at ht
  have hget:∀ j,(hj:j<l.length)->cur[j]? = some (.int .i64 l[j]):=fun j hj=>by
   have h:=congrArg (fun x:List Value=>x[j]?) ht;simp only [List.getElem?_take,if_pos hj,List.getElem?_map,List.getElem?_eq_getElem hj,Array.getElem?_toList] at h;simpa using h
  have hH:Holds (Value.int .i64) w g 0 l.toArray:=fun j hj=>by
   (have hj':j<l.length:=by simpa using hj);refine ⟨?_,frozen_of_row w g _ _ _ hg⟩;rw [cell_of_row w g _ _ _ _ hg,Nat.zero_add,hget j hj'];simp [hj']
  have hS:=Any.slices_SortFunc_total Tryz.sortL (Value.int .i64) (fun _=>rfl) Lib.compareInt swoC 14 #[] g 0 cap l.toArray w (enters_of Tryz.func14 (by kernel_rfl) rfl) (cmp_reads g 0 _ w).lays hH hgz (by simpa using hl) totC;rw [leC] at hS;refine hS.mono ?_;rintro e w' ⟨rfl,n,os,rfl⟩;rw [List.toList_toArray];have hsl:(l.mergeSort fun x y=>decide (x<=y)).length=l.length:=List.length_mergeSort _;have hmem:∀ x∈l.mergeSort fun x y=>decide (x<=y),x∈l:=fun x hx=>List.mem_mergeSort.1 hx;generalize (l.mergeSort fun x y=>decide (x<=y))=s at *;have hsz:(putRow (Value.int .i64) (Sort.ahead w n) g 0 s.toArray).heap.size=w.heap.size:=by unfold putRow mapBlock Sort.ahead;simp
  have hh:(sortWorld (Value.int .i64) w g 0 n s.toArray os).heap[g]? = some (.cells (putCells (Value.int .i64) 0 s.toArray cur) 3 (0,0)):=by
   unfold sortWorld;rw [Sort.heap_grow_old _ _ (by rw [hsz];exact hgz)];unfold putRow mapBlock Sort.ahead;simp [Array.getElem?_modify,hg,onCells]
  refine ⟨rfl,⟨s.map (fun x=>[Value.int .i64 x]),by simp,⟨by rw [flat1];simp,.inr ⟨g,cap,putCells (Value.int .i64) 0 s.toArray cur,?_,hb,hh,by omega,hm,?_,?_⟩⟩,fun i hi=>?_⟩,⟨?_,fun k hk=>.inl hk⟩⟩
  ·rw [hsl]
  ·rw [←hs];simp [putCells]
  ·rw [Nat.mul_one,take_putCells s cur (by omega)];exact (flat1 s).symm
  ·refine ⟨[.int .i64 s[i]],by rw [List.getElem?_map,List.getElem?_eq_getElem hi];rfl,rfl,rfl,?_⟩;obtain ⟨j,hj,he⟩:=List.getElem_of_mem (hmem _ (List.getElem_mem hi));rw [←he];obtain ⟨cs,_,_,h6⟩:=h3 j hj;exact h6.2
  ·refine ⟨rfl,rfl,rfl,?_,fun k hk hne=>?_⟩
   ·unfold sortWorld grow;rw [Array.size_append,hsz];omega
   ·unfold sortWorld;rw [Sort.heap_grow_old _ _ (by rw [hsz];exact hk)];unfold putRow mapBlock Sort.ahead;have:¬ g=k:=fun e=>hne (by rw [e];rfl);simp [Array.getElem?_modify,this]
theorem eInt : Elem Tryz.prog 33 3 1 8 (.int .i64 0):=⟨Tryz.underlying33,info_parts (by kernel_rfl),rfl,by decide⟩
theorem numbers_any (m:Msg) (s vf vb:Value) (w:World) (hs:∃ b,s=.string b) (hvb:∃ a l c,vb=.slice a l c) (hv:RdS DFld 6 All w vf m.fields) (hz:m.fields.length<=2199023255552) :
  Calls Tryz.prog 6 #[.agg #[s,vf,vb]] w fun e w'=>∃ v',e=.returned v'/\OwnS DInt w.heap.size 3 1 No w' v' (numsC m)/\Up w w':=by
 obtain ⟨b,rfl⟩:=hs;obtain ⟨x1,x2,x3,rfl⟩:=hvb;obtain ⟨ao,cap,rfl,hc1,hc2⟩:=hv.val;have Hv:=hid hv;clear hv
 go_enter Tryz.func6,Tryz.ntmps6
 (go_wp2_with fail);(go_loopw [9,3] (fun i v wr=>∃ k:Nat,k<=m.fields.length/\i=.int .i64 k/\OwnS DInt w.heap.size 3 1 No wr v ((m.fields.take k).map (·.number))/\Up w wr) (fun i _ _=>m.fields.length - (intOf i).toNat));case atStart=>exact ⟨0,by omega,rfl,OwnS.nil _ _ _ _ _ _,(Up.refl w).alloc _⟩
 case round =>
  obtain ⟨k,hk,rfl,how,hu⟩:=hrel;have How:=hid how;clear how
  by_cases hlt:k<m.fields.length
  ·obtain ⟨b2,o2,cs,rfl,hb,hl,hcs,hd⟩:=(Hv.out.up stable_fld hu).at hlt;obtain ⟨hd,hx⟩:=hd;subst hd;have c0:=hcs 0 _ rfl;have c1:=hcs 1 _ rfl;have c2:=hcs 2 _ rfl;have c3:=hcs 3 _ rfl;have c4:=hcs 4 _ rfl;have c5:=hcs 5 _ rfl;simp only [Nat.add_zero] at c0;(have k0:(0:Int)<=(k:Int):=by omega);(have k1:(k:Int)<(m.fields.length:Int):=by omega);(have hsn:(m.fields.take (k+1)).map (·.number)=(m.fields.take k).map (·.number)++[m.fields[k].number]:=by rw [List.take_succ_eq_append_getElem hlt,List.map_append];rfl);(have hll:((m.fields.take k).map (·.number)).length+1<=m.fields.length:=by rw [List.length_map,List.length_take];omega);have Hsn:=hid hsn;have Hx:=hid hx;have Hu:=hid hu;clear hcs hl hsn hx hu;generalize (m.fields.take k).map (·.number)=L at *;generalize m.fields[k]=x at *;obtain ⟨wo,rfl⟩:∃ wo:World,wo=wr:=⟨_,rfl⟩
   go_upto_region 5 with (fail)
   have hy:=blk_new wo (.cells #[.string ⟨x.name.toArray⟩,.int .i64 x.number,.int .i64 x.kind,.string ⟨x.type.toArray⟩,.bool x.many,.int .i64 x.choice] 47) rfl;have huy:=(Up.refl wo).alloc (.cells #[.string ⟨x.name.toArray⟩,.int .i64 x.number,.int .i64 x.kind,.string ⟨x.type.toArray⟩,.bool x.many,.int .i64 x.choice] 47);have Hy:=hid hy;have Huy:=hid huy;generalize hwy:wo.alloc (.cells #[.string ⟨x.name.toArray⟩,.int .i64 x.number,.int .i64 x.kind,.string ⟨x.type.toArray⟩,.bool x.many,.int .i64 x.choice] 47)=wy at *;have p1:=ro1 Hy.out;clear hwy hy huy c0 c1 c2 c3 c4 c5;obtain ⟨xs,hxs⟩:=(How.out.up stable_int Huy.out).own;have Hxs:=hid hxs;clear hxs;have hwz:w.heap.size<=wy.heap.size:=Nat.le_trans Hu.out.size Huy.out.size
   go_wp2_with (first
    |(at_builtin;go_must (refine wpList_app1 eInt _ (by rfl) _ _ (by rfl) w.heap.size _ _ _ (by rfl) Hxs.out _ (by rfl) (by first|rfl|simp) (by rfl) (oc (by rfl)) (by omega) (by unfold maxLen;omega) (by first|omega|(simp;omega)) ?_;intro v3 w3 how3 hev3;have How3:=hid how3;have Hev3:=hid hev3;clear how3 hev3)))
   go_roundw
   case rel =>
    refine ⟨k+1,by omega,by go_num,?_,Up.evo (Hu.out.trans Huy.out) Hev3.out (fun j hj=>(How.out.lo j hj).1)⟩;rw [Hsn.out];exact OwnS.snoc stable_int (a:=x.number) (How.out.up stable_int Huy.out) Hxs.out How3.out Hev3.out (by rfl) ⟨rfl,Hx.out.1⟩
   case measure=>simp [intOf];omega
  ·have hfin:m.fields.take k=m.fields:=List.take_of_length_le (by omega);have how:=How.out;rw [hfin] at how;obtain ⟨ao2,co2,rfl⟩:=own_val how.own.choose_spec;have hso:=sort_own _ _ _ wr how (by rw [List.length_map];omega);simp only [List.length_map] at hso;have Hso:=hid hso;clear hso;have hlo:=how.lo;simp only [List.length_map] at hlo;have Hlo:=hid hlo;clear hlo;clear how How hfin;go_wp2_with fail
   (with_reducible refine Hso.out.mono ?_)
   rintro e w2 ⟨rfl,how2,hev2⟩;go_wp2_with fail
   go_ret
   exact ⟨_,rfl,how2,Up.evo hu hev2 (fun j hj=>(Hlo.out j hj).1)⟩
end Go.Proofs.YtbceccblepckhaaGreatDoor
