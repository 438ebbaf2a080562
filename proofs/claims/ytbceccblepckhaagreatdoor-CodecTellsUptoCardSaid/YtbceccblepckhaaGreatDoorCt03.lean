/-
  More of the plain words.
  Slices that lie in a block that is known whole.
  Files in plain Lean, and how they lie.
  slices.IndexFunc, slices.ContainsFunc (written by gen_idx.py).
-/
import Derived.Test.YtbceccblepckhaaGreatDoorCt02
import Derived.Laws.BytesArg
import Derived.Outline
import Derived.Deep.DeepMust
import Derived.Deep.QuietTactic
import Derived.BigQuiet
import Derived.Shelf.Abstract
set_option maxHeartbeats 800000
namespace Go.Proofs.YtbceccblepckhaaGreatDoor
open Go.RowKit
abbrev bs (l:List UInt8):ByteArray:=⟨l.toArray⟩
theorem leq_true {l m:List UInt8} (h:l=m):(l==m)=true:=by simp [h]
theorem leq_false {l m:List UInt8} (h:l≠m):(l==m)=false:=by rw [beq_eq_false_iff_ne];exact h
theorem run_conv {P:Program} {S:Nat->Prop} {w:World} {v:Value} {l:List UInt8} (h:RdB S w v l) (src e dst:TypeId) (hs:P.underlying src=some (.slice e)) (he:P.underlying e=some (.int .u8)) (hd:P.underlying dst=some .string) :
  (convert src dst v).run P w=.ok (.string ⟨l.toArray⟩) w:=by
 obtain ⟨ao,cap,rfl,hc1,hc2⟩:=h.val
 cases ao with
 |none =>
  have h0:=(RdB.news h).2.1 rfl;have:l=[]:=List.eq_nil_of_length_eq_zero h0.1;subst this;exact run_convert_bytes_nil w src e hs he _ _ dst hd
 |some ad =>
  by_cases hl:l=[]
  ·subst hl;rw [run_convert_bytes_string w src dst e _ _ _ hs he hd,run_bytesToString w ad _ cap [] (by simp [loadCells,loadCellsFrom])];rfl
  ·have hp:0<l.length:=List.length_pos_iff.2 hl;obtain ⟨b,o,ha,_⟩:=RdB.cell h hp;simp only [Option.some.injEq] at ha;subst ha
   rw [run_convert_bytes_arg w src e hs he b o l.length cap (l.map fun c=>(c.toNat:Int)) (by simp) (fun i hi=>by
    obtain ⟨b',o',ha',hc⟩:=RdB.cell h hi;simp only [Option.some.injEq,Addr.mk.injEq,and_true] at ha';obtain ⟨rfl,rfl⟩:=ha';rw [hc];simp [List.getD,List.getElem?_eq_getElem hi]) dst hd]
   congr 2
   unfold strOfNums
   congr 1
   congr 1
   rw [List.map_map]
   conv=>rhs;rw [←List.map_id l]
   apply List.map_congr_left;intro c _;simp
def Lt (w:World) (k:Nat):Prop:=k<w.heap.size
theorem Keep.lt {S:Nat->Prop} {w:World}:Keep S w (Lt w) w:=fun _ _ h=>⟨rfl,h⟩
theorem rdRec_cell {S:Nat->Prop} {w:World} {ao:Option Addr} {n cap:Nat} {l:List Rec} (h:RdS DRec 4 S w (.slice ao n cap) l) {i:Nat} (hi:i<l.length):∃ b o a3 c3,ao=some ⟨b,o,none⟩/\RdB S w (.slice a3 l[i].bytes.length c3) l[i].bytes/\l[i].bits<2 ^ 64 /\
  w.cell? ⟨b,o+i*4,none⟩=some (.int .i64 l[i].number)/\w.cell? ⟨b,o+i*4+1,none⟩=some (.int .i64 l[i].how)/\w.cell? ⟨b,o+i*4+2,none⟩=some (.int .u64 (l[i].bits:Int))/\w.cell? ⟨b,o+i*4+3,none⟩=some (.slice a3 l[i].bytes.length c3):=by
 obtain ⟨ao',cap',hv,hc,hm,hn,hf⟩:=h;obtain ⟨b,o,cs,ha,hS,hb,hl,hcs,vb,rfl,hrb,h64⟩:=hf i hi;simp only [Value.slice.injEq] at hv;obtain ⟨rfl,rfl,rfl⟩:=hv;obtain ⟨a3,c3,rfl,_,_⟩:=hrb.val;exact ⟨b,o,a3,c3,ha,hrb,h64,by simpa using hcs 0 _ rfl,by simpa using hcs 1 _ rfl,by simpa using hcs 2 _ rfl,by simpa using hcs 3 _ rfl⟩
theorem parseG_err : ∀ (f:Nat) (l:List UInt8),(parseG f l).2.1≠0->(parseG f l).1=[]
 |0,_,h=>by simp [parseG] at h
 |f+1,l,h=>by
  rw [parseG] at h ⊢
  by_cases h1:l=[]
  ·rw [if_pos h1]
  ·rw [if_neg h1] at h ⊢
   by_cases h2:(oneP l).1≠0
   ·rw [if_pos h2]
   ·rw [if_neg h2] at h ⊢;simp only at h ⊢
    by_cases h3:(parseG f (l.drop (oneP l).2.2)).2.1≠0
    ·rw [if_pos h3]
    ·rw [if_neg h3] at h;simp at h
theorem parseG_ok : ∀ (f:Nat) (l:List UInt8),(parseG f l).2.1=0->(parseG f l).2.2=0
 |0,_,h=>by simp [parseG]
 |f+1,l,h=>by
  rw [parseG] at h ⊢
  by_cases h1:l=[]
  ·rw [if_pos h1]
  ·rw [if_neg h1] at h ⊢
   by_cases h2:(oneP l).1≠0
   ·rw [if_pos h2]
   ·rw [if_neg h2] at h ⊢;simp only at h ⊢
    by_cases h3:(parseG f (l.drop (oneP l).2.2)).2.1≠0
    ·rw [if_pos h3] at h;exact absurd h h3
    ·rw [if_neg h3]
theorem parseC_start {f:Nat} (l:List UInt8):parseC 0 [] (parseG f l)=parseG f l:=by
 by_cases h:(parseG f l).2.1=0
 ·have h2:=parseG_ok f l h;unfold parseC;rw [if_neg (by simpa using h)];generalize parseG f l=p at *;obtain ⟨a,b,c⟩:=p
  simp_all
 ·have h2:=parseG_err f l h;unfold parseC;rw [if_pos h];generalize parseG f l=p at *;obtain ⟨a,b,c⟩:=p
  simp_all
theorem oc {cs:Array Value} (h:cs.toList.all (·.oneCell')=true):∀ u∈cs.toList,u.oneCell'=true:=List.all_eq_true.mp h
section
variable {P:Program} {t e:TypeId} {size bytes:Nat} {z:Value} (E:Elem P t e size bytes z) (w:World)
include E
theorem wpList_app1 {cs:Array Value} {ops:Array Oper} {rest:List Oper} {o:Oper} {a:Act} {Q:Exit->Act->World->Prop} (hgd:o.guard=none) (s x:Operand)
  (ho:o.op=.call { callee:=.builtin .append,args:=#[s,x],argTypes:=#[t,t] })
  (base:Nat) (v:Value) (n:Nat) (xs:List Value) (hs:a.eval s=v) (hown:w.ownsRow base e size v n xs) (g:Nat) (hx:a.eval x=.slice (some ⟨g,0,none⟩) 1 1) (hg:g=w.heap.size) (hl:cs.size=size) (h1:∀ u∈cs.toList,u.oneCell'=true)
  (hbytes:(n+1)*bytes<=140737488355328) (h63:n+1<=maxLen) (hbase:base<=w.heap.size)
  (h:∀ v' w',w'.ownsRow base e size v' (n+1) (xs++cs.toList)->Evo w w' v v'->wpList P ops Q rest (a.put o.dst v') w'):wpList P ops Q (o::rest) a (w.alloc (.cells cs e)):=by
 subst hg;exact wpList_app_one E w hgd s x ho base v n xs hs hown hx hl h1 hbytes h63 hbase h
theorem step_app1 {cs:Array Value} {ops:Array Oper} {o:Oper} {a:Act} {K:Act->World->Prop} {Q:Exit->Act->World->Prop} {F:Prop} (hgd:o.guard=none) (s x:Operand)
  (ho:o.op=.call { callee:=.builtin .append,args:=#[s,x],argTypes:=#[t,t] })
  (base:Nat) (v:Value) (n:Nat) (xs:List Value) (hs:a.eval s=v) (hown:w.ownsRow base e size v n xs) (g:Nat) (hx:a.eval x=.slice (some ⟨g,0,none⟩) 1 1) (hg:g=w.heap.size) (hl:cs.size=size) (h1:∀ u∈cs.toList,u.oneCell'=true)
  (hbytes:(n+1)*bytes<=140737488355328) (h63:n+1<=maxLen) (hbase:base<=w.heap.size)
  (h:∀ v' w',w'.ownsRow base e size v' (n+1) (xs++cs.toList)->Evo w w' v v'->K (a.put o.dst v') w'):if Region.wanted o (yielded ops a.tmps)=true then Oper.wp P o a (w.alloc (.cells cs e)) K Q else F:=by
 subst hg;exact step_app_one E w hgd s x ho base v n xs hs hown hx hl h1 hbytes h63 hbase h
end
end Go.Proofs.YtbceccblepckhaaGreatDoor
namespace Go.Proofs.YtbceccblepckhaaGreatDoor
open Go.RowKit
theorem rdS_of_block {α:Type} {D:Lay α} {size:Nat} {S:Nat->Prop} {w:World} {g:Nat} {e:TypeId} {f:Nat × Nat} {cells:Array Value} (l:List α) (css:List (List Value)) (hb:w.heap[g]? = some (.cells cells e f)) (hcs:cells=css.flatten.toArray) (hS:S g) (hl:css.length=l.length)
  (hel:∀ i,(h:i<l.length)->∃ cs,css[i]? = some cs/\cs.length=size/\D S w l[i] cs) {n cap:Nat} (hn:n=l.length) (hc:n<=cap) (hm:cap<=maxLen):RdS D size S w (.slice (some ⟨g,0,none⟩) n cap) l:=by
 subst hcs;subst hn
 have hall:∀ c∈css,c.length=size:=fun c hc=>by
  obtain ⟨i,hi,rfl⟩:=List.getElem_of_mem hc;obtain ⟨cs,h4,h5,_⟩:=hel i (by omega);rw [List.getElem?_eq_getElem hi] at h4;rw [Option.some.inj h4];exact h5
 refine ⟨some ⟨g,0,none⟩,cap,rfl,hc,hm,(fun e=>nomatch e),fun i hi=>?_⟩;obtain ⟨cs,h4,h5,h6⟩:=hel i hi;refine ⟨g,0,cs,rfl,hS,lt_of_block hb,h5,fun j u hu=>?_,h6⟩;have:=getElem?_flatten_block css size i j u cs hall h4 hu;rw [show 0+i*size+j=i*size+j by omega,cell_of_row w g _ _ e f hb];simpa using this
theorem blk_new (w:World) (o:Obj) {g:Nat} (h:g=w.heap.size):(w.alloc o).heap[g]? = some o:=by subst h;exact heap_alloc_new w o
theorem blk_old {w:World} (o:Obj) {g:Nat} {o':Obj} (h:w.heap[g]? = some o'):(w.alloc o).heap[g]? = some o':=(Below.heap_alloc w o g (lt_of_block h)).trans h
end Go.Proofs.YtbceccblepckhaaGreatDoor
set_option linter.unusedVariables false
namespace Go.Proofs.YtbceccblepckhaaGreatDoor
open Go.RowKit
structure Fld where
 name:List UInt8
 number:Int
 kind:Int
 type:List UInt8
 many:Bool
 choice:Int
deriving DecidableEq
structure Msg where
 name:List UInt8
 fields:List Fld
 barred:List Int
deriving DecidableEq
structure Itm where
 name:List UInt8
 value:Int
deriving DecidableEq
structure Enu where
 name:List UInt8
 items:List Itm
deriving DecidableEq
structure Fil where
 msgs:List Msg
 enums:List Enu
deriving DecidableEq
def okI (n:Int):Prop:=-9223372036854775808<=n/\n<=9223372036854775807
def okS (s:List UInt8):Prop:=s.length<=140737488355328
def DFld : Lay Fld:=fun _ _ x cs=>cs=[.string ⟨x.name.toArray⟩,.int .i64 x.number,.int .i64 x.kind,.string ⟨x.type.toArray⟩,.bool x.many,.int .i64 x.choice]/\okI x.number/\okI x.kind/\okI x.choice/\okS x.name/\okS x.type
def DItm : Lay Itm:=fun _ _ x cs=>cs=[.string ⟨x.name.toArray⟩,.int .i64 x.value]/\okI x.value/\okS x.name
def DEnu : Lay Enu:=fun S w x cs=>∃ v,cs=[.string ⟨x.name.toArray⟩,v]/\RdS DItm 2 S w v x.items/\okS x.name
def DMsg : Lay Msg:=fun S w x cs=>∃ vf vb,cs=[.string ⟨x.name.toArray⟩,vf,vb]/\RdS DFld 6 S w vf x.fields/\RdS DInt 1 S w vb x.barred/\okS x.name
def FilV (S:Nat->Prop) (w:World) (v:Value) (f:Fil):Prop:=∃ vm ve,v=.agg #[vm,ve]/\RdS DMsg 3 S w vm f.msgs/\RdS DEnu 2 S w ve f.enums
theorem stable_fld : Stable DFld:=fun _ _ _ _ _ _ _ h=>h
theorem stable_itm : Stable DItm:=fun _ _ _ _ _ _ _ h=>h
theorem stable_enu : Stable DEnu:=by
 rintro S w S' w' x cs k ⟨v,h,hv,hn⟩;exact ⟨v,h,hv.keep stable_itm k,hn⟩
theorem stable_msg : Stable DMsg:=by
 rintro S w S' w' x cs k ⟨vf,vb,h,hf,hb,hn⟩;exact ⟨vf,vb,h,hf.keep stable_fld k,hb.keep stable_int k,hn⟩
theorem FilV.keep {S S':Nat->Prop} {w w':World} {v:Value} {f:Fil} (h:FilV S w v f) (k:Keep S w S' w'):FilV S' w' v f:=by
 obtain ⟨vm,ve,h1,hm,he⟩:=h;exact ⟨vm,ve,h1,hm.keep stable_msg k,he.keep stable_enu k⟩
theorem FilV.up {S:Nat->Prop} {w w':World} {v:Value} {f:Fil} (h:FilV S w v f) (u:Up w w'):FilV S w' v f:=h.keep (Keep.upS u)
theorem RdS.at {α:Type} {D:Lay α} {size:Nat} {S:Nat->Prop} {w:World} {ao:Option Addr} {n cap:Nat} {l:List α} (h:RdS D size S w (.slice ao n cap) l) {i:Nat} (hi:i<l.length):∃ b o cs,ao=some ⟨b,o,none⟩/\b<w.heap.size/\cs.length=size/\CellsAt w b (o+i*size) cs/\D S w l[i] cs:=by
 obtain ⟨ao',cap',hv,hc,hm,hn,hf⟩:=h;obtain ⟨b,o,cs,ha,hS,hb,hl,hcs,hd⟩:=hf i hi;simp only [Value.slice.injEq] at hv;obtain ⟨rfl,rfl,rfl⟩:=hv;exact ⟨b,o,cs,ha,hb,hl,hcs,hd⟩
def idxP {α:Type} (p:α->Bool):List α->Int
 |[]=>-1
 |a::l=>if p a then 0 else if idxP p l<0 then -1 else idxP p l+1
theorem idxP_at {α:Type} (p:α->Bool):∀ (l:List α) (k:Nat) (hk:k<l.length),(∀ j,(hj:j<l.length)->j<k->p l[j]=false)->p l[k]=true->idxP p l=k
 |[],k,hk,_,_=>by simp at hk
 |a::l,0,hk,_,h=>by
  have h:p a=true:=h;rw [idxP,if_pos h];rfl
 |a::l,k+1,hk,hb,h=>by
  have h0:p a=false:=hb 0 (by simp) (by omega);have ih:=idxP_at p l k (by simpa using hk) (fun j hj hjk=>hb (j+1) (by simpa using hj) (by omega)) h;simp only [idxP,h0,Bool.false_eq_true,if_false];rw [ih,if_neg (by omega)];omega
theorem idxP_none {α:Type} (p:α->Bool):∀ (l:List α),(∀ j,(hj:j<l.length)->p l[j]=false)->idxP p l=-1
 |[],_=>rfl
 |a::l,hb=>by
  have h0:p a=false:=hb 0 (by simp);have ih:=idxP_none p l (fun j hj=>hb (j+1) (by simpa using hj));simp only [idxP,h0,Bool.false_eq_true,if_false];rw [ih];rfl
theorem idxP_any {α:Type} (p:α->Bool):∀ (l:List α),decide (0<=idxP p l)=l.any p
 |[]=>rfl
 |a::l=>by
  have ih:=idxP_any p l;rw [List.any_cons,←ih,idxP];cases hp:p a
  ·simp only [Bool.false_eq_true,if_false,Bool.false_or]
   by_cases h:idxP p l<0
   ·rw [if_pos h,decide_eq_false (by omega),decide_eq_false (by omega)]
   ·rw [if_neg h,decide_eq_true (by omega),decide_eq_true (by omega)]
  ·simp
theorem no_more {α:Type} {p:α->Bool} {l:List α} {k:Nat} (hk:k<l.length) (hg:∀ j,(hj:j<l.length)->j<k->p l[j]=false) (e:p l[k]=false):∀ j,(hj:j<l.length)->j<k+1->p l[j]=false:=fun j hj hjk=>by
 by_cases h:j=k
 ·subst h;exact e
 ·exact hg j hj (by omega)
set_option maxRecDepth 100000
open Lib (hid)
theorem indexF_msg (v:Value) (l:List Msg) (p:Msg->Bool) (g:FuncId) (eg:∀ args w,(callFunc g args).run Tryz.prog w=.ok (.enter g args) w) (caps:Array Value) (w:World) (hv:RdS DMsg 3 All w v l)
  (hp:∀ x cs wr,x∈l->Up w wr->DMsg All wr x cs->Calls Tryz.prog g (#[.agg cs.toArray]++caps) wr fun e w'=>e=.returned (.bool (p x))/\Up wr w') :
  Calls Tryz.prog 122 #[v,.func (.func g) #[] caps] w fun e w'=>e=.returned (.int .i64 (idxP p l))/\Up w w':=by
 obtain ⟨ao,cap,rfl,hc1,hc2⟩:=hv.val;have Hv:=hid hv;clear hv;have Hp:=hid hp;clear hp
 go_enter Tryz.func122,Tryz.ntmps122
 (go_wp2_with fail);(go_loopw [8] (fun i wr=>∃ k:Nat,k<=l.length/\i=.int .i64 k/\Up w wr/\∀ j,(hj:j<l.length)->j<k->p l[j]=false) (fun i _=>l.length - (intOf i).toNat));case atStart=>exact ⟨0,by omega,rfl,Up.refl _,fun j _ h=>absurd h (by omega)⟩
 case round =>
  obtain ⟨k,hk,rfl,hu,hg⟩:=hrel;have Hg:=hid hg;clear hg
  by_cases hlt:k<l.length
  ·obtain ⟨b,o,cs,rfl,hb,hl,hcs,hd⟩:=(Hv.out.up stable_msg hu).at hlt;have hcall:=Hp.out _ _ wr (List.getElem_mem hlt) hu hd;obtain ⟨vf,vb,hd,_,_,_⟩:=hd;subst hd;have c0:=hcs 0 _ rfl;have c1:=hcs 1 _ rfl;have c2:=hcs 2 _ rfl;simp only [Nat.add_zero] at c0;clear hcs hl;(have i0:(0:Int)<=(k:Int):=by omega);(have i1:(k:Int)<(l.length:Int):=by omega);have hgg:=fun e=>idxP_at p l k hlt Hg.out e;have Hgg:=hid hgg;clear hgg;have Hgn:=hid (fun e=>no_more (p:=p) hlt Hg.out e);have Hu:=hid hu;clear hu;generalize l[k]=x at *
   cases he:p x with
   |true =>
    rw [he] at hcall;have Hcall:=hid hcall;clear hcall;go_wp2_with (go_at_fn g;refine Hcall.out.mono ?_;rintro e w1 ⟨rfl,hu1⟩)
    go_ret
    exact ⟨ret_int (Hgg.out he).symm,Hu.out.trans hu1⟩
   |false =>
    rw [he] at hcall;have Hcall:=hid hcall;clear hcall;go_wp2_with (go_at_fn g;refine Hcall.out.mono ?_;rintro e w1 ⟨rfl,hu1⟩)
    go_roundw
    (case rel=>exact ⟨k+1,by omega,by go_num,Hu.out.trans hu1,Hgn.out he⟩);case measure=>simp [intOf];omega
  ·go_wp2_with fail
   go_ret
   exact ⟨ret_int (idxP_none _ _ (fun j hj=>Hg.out j hj (by omega))).symm,hu⟩
theorem indexF_enu (v:Value) (l:List Enu) (p:Enu->Bool) (g:FuncId) (eg:∀ args w,(callFunc g args).run Tryz.prog w=.ok (.enter g args) w) (caps:Array Value) (w:World) (hv:RdS DEnu 2 All w v l)
  (hp:∀ x cs wr,x∈l->Up w wr->DEnu All wr x cs->Calls Tryz.prog g (#[.agg cs.toArray]++caps) wr fun e w'=>e=.returned (.bool (p x))/\Up wr w') :
  Calls Tryz.prog 144 #[v,.func (.func g) #[] caps] w fun e w'=>e=.returned (.int .i64 (idxP p l))/\Up w w':=by
 obtain ⟨ao,cap,rfl,hc1,hc2⟩:=hv.val;have Hv:=hid hv;clear hv;have Hp:=hid hp;clear hp
 go_enter Tryz.func144,Tryz.ntmps144
 (go_wp2_with fail);(go_loopw [8] (fun i wr=>∃ k:Nat,k<=l.length/\i=.int .i64 k/\Up w wr/\∀ j,(hj:j<l.length)->j<k->p l[j]=false) (fun i _=>l.length - (intOf i).toNat));case atStart=>exact ⟨0,by omega,rfl,Up.refl _,fun j _ h=>absurd h (by omega)⟩
 case round =>
  obtain ⟨k,hk,rfl,hu,hg⟩:=hrel;have Hg:=hid hg;clear hg
  by_cases hlt:k<l.length
  ·obtain ⟨b,o,cs,rfl,hb,hl,hcs,hd⟩:=(Hv.out.up stable_enu hu).at hlt;have hcall:=Hp.out _ _ wr (List.getElem_mem hlt) hu hd;obtain ⟨vf,hd,_,_⟩:=hd;subst hd;have c0:=hcs 0 _ rfl;have c1:=hcs 1 _ rfl;simp only [Nat.add_zero] at c0;clear hcs hl;(have i0:(0:Int)<=(k:Int):=by omega);(have i1:(k:Int)<(l.length:Int):=by omega);have hgg:=fun e=>idxP_at p l k hlt Hg.out e;have Hgg:=hid hgg;clear hgg;have Hgn:=hid (fun e=>no_more (p:=p) hlt Hg.out e);have Hu:=hid hu;clear hu;generalize l[k]=x at *
   cases he:p x with
   |true =>
    rw [he] at hcall;have Hcall:=hid hcall;clear hcall;go_wp2_with (go_at_fn g;refine Hcall.out.mono ?_;rintro e w1 ⟨rfl,hu1⟩)
    go_ret
    exact ⟨ret_int (Hgg.out he).symm,Hu.out.trans hu1⟩
   |false =>
    rw [he] at hcall;have Hcall:=hid hcall;clear hcall;go_wp2_with (go_at_fn g;refine Hcall.out.mono ?_;rintro e w1 ⟨rfl,hu1⟩)
    go_roundw
    (case rel=>exact ⟨k+1,by omega,by go_num,Hu.out.trans hu1,Hgn.out he⟩);case measure=>simp [intOf];omega
  ·go_wp2_with fail
   go_ret
   exact ⟨ret_int (idxP_none _ _ (fun j hj=>Hg.out j hj (by omega))).symm,hu⟩
theorem indexF_fld (v:Value) (l:List Fld) (p:Fld->Bool) (g:FuncId) (eg:∀ args w,(callFunc g args).run Tryz.prog w=.ok (.enter g args) w) (caps:Array Value) (w:World) (hv:RdS DFld 6 All w v l)
  (hp:∀ x cs wr,x∈l->Up w wr->DFld All wr x cs->Calls Tryz.prog g (#[.agg cs.toArray]++caps) wr fun e w'=>e=.returned (.bool (p x))/\Up wr w') :
  Calls Tryz.prog 70 #[v,.func (.func g) #[] caps] w fun e w'=>e=.returned (.int .i64 (idxP p l))/\Up w w':=by
 obtain ⟨ao,cap,rfl,hc1,hc2⟩:=hv.val;have Hv:=hid hv;clear hv;have Hp:=hid hp;clear hp
 go_enter Tryz.func70,Tryz.ntmps70
 (go_wp2_with fail);(go_loopw [8] (fun i wr=>∃ k:Nat,k<=l.length/\i=.int .i64 k/\Up w wr/\∀ j,(hj:j<l.length)->j<k->p l[j]=false) (fun i _=>l.length - (intOf i).toNat));case atStart=>exact ⟨0,by omega,rfl,Up.refl _,fun j _ h=>absurd h (by omega)⟩
 case round =>
  obtain ⟨k,hk,rfl,hu,hg⟩:=hrel;have Hg:=hid hg;clear hg
  by_cases hlt:k<l.length
  ·obtain ⟨b,o,cs,rfl,hb,hl,hcs,hd⟩:=(Hv.out.up stable_fld hu).at hlt;have hcall:=Hp.out _ _ wr (List.getElem_mem hlt) hu hd;obtain ⟨hd,_,_,_,_,_⟩:=hd;subst hd;have c0:=hcs 0 _ rfl;have c1:=hcs 1 _ rfl;have c2:=hcs 2 _ rfl;have c3:=hcs 3 _ rfl;have c4:=hcs 4 _ rfl;have c5:=hcs 5 _ rfl;simp only [Nat.add_zero] at c0;clear hcs hl;(have i0:(0:Int)<=(k:Int):=by omega);(have i1:(k:Int)<(l.length:Int):=by omega);have hgg:=fun e=>idxP_at p l k hlt Hg.out e;have Hgg:=hid hgg;clear hgg;have Hgn:=hid (fun e=>no_more (p:=p) hlt Hg.out e);have Hu:=hid hu;clear hu;generalize l[k]=x at *
   cases he:p x with
   |true =>
    rw [he] at hcall;have Hcall:=hid hcall;clear hcall;go_wp2_with (go_at_fn g;refine Hcall.out.mono ?_;rintro e w1 ⟨rfl,hu1⟩)
    go_ret
    exact ⟨ret_int (Hgg.out he).symm,Hu.out.trans hu1⟩
   |false =>
    rw [he] at hcall;have Hcall:=hid hcall;clear hcall;go_wp2_with (go_at_fn g;refine Hcall.out.mono ?_;rintro e w1 ⟨rfl,hu1⟩)
    go_roundw
    (case rel=>exact ⟨k+1,by omega,by go_num,Hu.out.trans hu1,Hgn.out he⟩);case measure=>simp [intOf];omega
  ·go_wp2_with fail
   go_ret
   exact ⟨ret_int (idxP_none _ _ (fun j hj=>Hg.out j hj (by omega))).symm,hu⟩
theorem containsF_fld (v:Value) (l:List Fld) (p:Fld->Bool) (g:FuncId) (eg:∀ args w,(callFunc g args).run Tryz.prog w=.ok (.enter g args) w) (caps:Array Value) (w:World) (hv:RdS DFld 6 All w v l)
  (hp:∀ x cs wr,x∈l->Up w wr->DFld All wr x cs->Calls Tryz.prog g (#[.agg cs.toArray]++caps) wr fun e w'=>e=.returned (.bool (p x))/\Up wr w') :
  Calls Tryz.prog 85 #[v,.func (.func g) #[] caps] w fun e w'=>e=.returned (.bool (l.any p))/\Up w w':=by
 go_enter Tryz.func85,Tryz.ntmps85
 (go_wp2_with fail);refine (indexF_fld v l p g eg caps w hv hp).mono ?_;rintro e w1 ⟨rfl,hu⟩;have hi:=idxP_any p l;generalize idxP p l=i at *;go_wp2_with fail
 go_ret
 exact ⟨rfl,hu⟩
theorem indexF_itm (v:Value) (l:List Itm) (p:Itm->Bool) (g:FuncId) (eg:∀ args w,(callFunc g args).run Tryz.prog w=.ok (.enter g args) w) (caps:Array Value) (w:World) (hv:RdS DItm 2 All w v l)
  (hp:∀ x cs wr,x∈l->Up w wr->DItm All wr x cs->Calls Tryz.prog g (#[.agg cs.toArray]++caps) wr fun e w'=>e=.returned (.bool (p x))/\Up wr w') :
  Calls Tryz.prog 129 #[v,.func (.func g) #[] caps] w fun e w'=>e=.returned (.int .i64 (idxP p l))/\Up w w':=by
 obtain ⟨ao,cap,rfl,hc1,hc2⟩:=hv.val;have Hv:=hid hv;clear hv;have Hp:=hid hp;clear hp
 go_enter Tryz.func129,Tryz.ntmps129
 (go_wp2_with fail);(go_loopw [8] (fun i wr=>∃ k:Nat,k<=l.length/\i=.int .i64 k/\Up w wr/\∀ j,(hj:j<l.length)->j<k->p l[j]=false) (fun i _=>l.length - (intOf i).toNat));case atStart=>exact ⟨0,by omega,rfl,Up.refl _,fun j _ h=>absurd h (by omega)⟩
 case round =>
  obtain ⟨k,hk,rfl,hu,hg⟩:=hrel;have Hg:=hid hg;clear hg
  by_cases hlt:k<l.length
  ·obtain ⟨b,o,cs,rfl,hb,hl,hcs,hd⟩:=(Hv.out.up stable_itm hu).at hlt;have hcall:=Hp.out _ _ wr (List.getElem_mem hlt) hu hd;obtain ⟨hd,_,_⟩:=hd;subst hd;have c0:=hcs 0 _ rfl;have c1:=hcs 1 _ rfl;simp only [Nat.add_zero] at c0;clear hcs hl;(have i0:(0:Int)<=(k:Int):=by omega);(have i1:(k:Int)<(l.length:Int):=by omega);have hgg:=fun e=>idxP_at p l k hlt Hg.out e;have Hgg:=hid hgg;clear hgg;have Hgn:=hid (fun e=>no_more (p:=p) hlt Hg.out e);have Hu:=hid hu;clear hu;generalize l[k]=x at *
   cases he:p x with
   |true =>
    rw [he] at hcall;have Hcall:=hid hcall;clear hcall;go_wp2_with (go_at_fn g;refine Hcall.out.mono ?_;rintro e w1 ⟨rfl,hu1⟩)
    go_ret
    exact ⟨ret_int (Hgg.out he).symm,Hu.out.trans hu1⟩
   |false =>
    rw [he] at hcall;have Hcall:=hid hcall;clear hcall;go_wp2_with (go_at_fn g;refine Hcall.out.mono ?_;rintro e w1 ⟨rfl,hu1⟩)
    go_roundw
    (case rel=>exact ⟨k+1,by omega,by go_num,Hu.out.trans hu1,Hgn.out he⟩);case measure=>simp [intOf];omega
  ·go_wp2_with fail
   go_ret
   exact ⟨ret_int (idxP_none _ _ (fun j hj=>Hg.out j hj (by omega))).symm,hu⟩
theorem containsF_itm (v:Value) (l:List Itm) (p:Itm->Bool) (g:FuncId) (eg:∀ args w,(callFunc g args).run Tryz.prog w=.ok (.enter g args) w) (caps:Array Value) (w:World) (hv:RdS DItm 2 All w v l)
  (hp:∀ x cs wr,x∈l->Up w wr->DItm All wr x cs->Calls Tryz.prog g (#[.agg cs.toArray]++caps) wr fun e w'=>e=.returned (.bool (p x))/\Up wr w') :
  Calls Tryz.prog 90 #[v,.func (.func g) #[] caps] w fun e w'=>e=.returned (.bool (l.any p))/\Up w w':=by
 go_enter Tryz.func90,Tryz.ntmps90
 (go_wp2_with fail);refine (indexF_itm v l p g eg caps w hv hp).mono ?_;rintro e w1 ⟨rfl,hu⟩;have hi:=idxP_any p l;generalize idxP p l=i at *;go_wp2_with fail
 go_ret
 exact ⟨rfl,hu⟩
theorem indexF_int (v:Value) (l:List Int) (p:Int->Bool) (g:FuncId) (eg:∀ args w,(callFunc g args).run Tryz.prog w=.ok (.enter g args) w) (caps:Array Value) (w:World) (hv:RdS DInt 1 All w v l)
  (hp:∀ x cs wr,x∈l->Up w wr->DInt All wr x cs->Calls Tryz.prog g (#[.int .i64 x]++caps) wr fun e w'=>e=.returned (.bool (p x))/\Up wr w') :
  Calls Tryz.prog 126 #[v,.func (.func g) #[] caps] w fun e w'=>e=.returned (.int .i64 (idxP p l))/\Up w w':=by
 obtain ⟨ao,cap,rfl,hc1,hc2⟩:=hv.val;have Hv:=hid hv;clear hv;have Hp:=hid hp;clear hp
 go_enter Tryz.func126,Tryz.ntmps126
 (go_wp2_with fail);(go_loopw [8] (fun i wr=>∃ k:Nat,k<=l.length/\i=.int .i64 k/\Up w wr/\∀ j,(hj:j<l.length)->j<k->p l[j]=false) (fun i _=>l.length - (intOf i).toNat));case atStart=>exact ⟨0,by omega,rfl,Up.refl _,fun j _ h=>absurd h (by omega)⟩
 case round =>
  obtain ⟨k,hk,rfl,hu,hg⟩:=hrel;have Hg:=hid hg;clear hg
  by_cases hlt:k<l.length
  ·obtain ⟨b,o,cs,rfl,hb,hl,hcs,hd⟩:=(Hv.out.up stable_int hu).at hlt;have hcall:=Hp.out _ _ wr (List.getElem_mem hlt) hu hd;obtain ⟨hd,_⟩:=hd;subst hd;have c0:=hcs 0 _ rfl;simp only [Nat.add_zero,Nat.mul_one] at c0;clear hcs hl;(have i0:(0:Int)<=(k:Int):=by omega);(have i1:(k:Int)<(l.length:Int):=by omega);have hgg:=fun e=>idxP_at p l k hlt Hg.out e;have Hgg:=hid hgg;clear hgg;have Hgn:=hid (fun e=>no_more (p:=p) hlt Hg.out e);have Hu:=hid hu;clear hu;generalize l[k]=x at *
   cases he:p x with
   |true =>
    rw [he] at hcall;have Hcall:=hid hcall;clear hcall;go_wp2_with (go_at_fn g;refine Hcall.out.mono ?_;rintro e w1 ⟨rfl,hu1⟩)
    go_ret
    exact ⟨ret_int (Hgg.out he).symm,Hu.out.trans hu1⟩
   |false =>
    rw [he] at hcall;have Hcall:=hid hcall;clear hcall;go_wp2_with (go_at_fn g;refine Hcall.out.mono ?_;rintro e w1 ⟨rfl,hu1⟩)
    go_roundw
    (case rel=>exact ⟨k+1,by omega,by go_num,Hu.out.trans hu1,Hgn.out he⟩);case measure=>simp [intOf];omega
  ·go_wp2_with fail
   go_ret
   exact ⟨ret_int (idxP_none _ _ (fun j hj=>Hg.out j hj (by omega))).symm,hu⟩
theorem containsF_int (v:Value) (l:List Int) (p:Int->Bool) (g:FuncId) (eg:∀ args w,(callFunc g args).run Tryz.prog w=.ok (.enter g args) w) (caps:Array Value) (w:World) (hv:RdS DInt 1 All w v l)
  (hp:∀ x cs wr,x∈l->Up w wr->DInt All wr x cs->Calls Tryz.prog g (#[.int .i64 x]++caps) wr fun e w'=>e=.returned (.bool (p x))/\Up wr w') :
  Calls Tryz.prog 83 #[v,.func (.func g) #[] caps] w fun e w'=>e=.returned (.bool (l.any p))/\Up w w':=by
 go_enter Tryz.func83,Tryz.ntmps83
 (go_wp2_with fail);refine (indexF_int v l p g eg caps w hv hp).mono ?_;rintro e w1 ⟨rfl,hu⟩;have hi:=idxP_any p l;generalize idxP p l=i at *;go_wp2_with fail
 go_ret
 exact ⟨rfl,hu⟩
end Go.Proofs.YtbceccblepckhaaGreatDoor
