/-
  The plain words that the walks of this claim use: slices that read as lists, worlds that grow, appends of one element. No program is named here.
-/
import Derived.Lib.Hide
import Derived.Laws.AppendOwnNone
import Derived.Test.YtbceccblepckhaaGreatDoorCt01
namespace Go.Proofs.YtbceccblepckhaaGreatDoor
open Go.RowKit
theorem ret_int {k:IntKind} {a b:Int} (h:a=b):Ending.returned (.int k a)=.returned (.int k b):=by rw [h]
theorem ret_bool {a b:Bool} (h:a=b):Ending.returned (.bool a)=.returned (.bool b):=by rw [h]
def B8 (l:List UInt8):List Value:=l.map fun c=>.int .u8 (c.toNat:Int)
theorem B8_append (l m:List UInt8):B8 (l++m)=B8 l++B8 m:=by simp [B8]
theorem B8_one (l:List UInt8):∀ u∈B8 l,u.oneCell'=true:=by
 intro u hu;obtain ⟨_,_,rfl⟩:=List.mem_map.1 hu;rfl
abbrev Up (w w':World):Prop:=Below w.heap.size w w'
theorem Up.refl (w:World):Up w w:=Below.refl _ _
theorem Up.trans {a b c:World} (h:Up a b) (k:Up b c):Up a c:=Below.trans h (k.mono h.size)
theorem Up.alloc {a w:World} (h:Up a w) (o:Obj):Up a (w.alloc o):=Below.alloc h h.size o
theorem Up.drew {a w:World} (h:Up a w):Up a w.drew:=Below.drew h
theorem Up.setCell {a w:World} (h:Up a w) {p:Addr} (hp:a.heap.size<=p.block) (u:Value):Up a (w.setCell p u):=Below.setCell h hp u
theorem Up.grown {a w w':World} {row:Option Nat} (h:Up a w) (hg:w.grownBy w' row) (hr:∀ k,row=some k->a.heap.size<=k):Up a w':=Below.grown h hg h.size hr
theorem Up.to_none {w w':World} (h:Up w w'):w.grownBy w' none:=⟨h.os,h.tape,h.output,h.size,fun k hk _=>h.block k hk⟩
structure Evo (w w':World) (v v':Value):Prop where
 grown:w.grownBy w' v.ownBlock
 place:∀ k,v'.ownBlock=some k->v.ownBlock=some k∨w.heap.size<=k
theorem Evo.refl (w:World) (v:Value):Evo w w v v:=⟨World.grownBy.refl _ _,fun _ h=>.inl h⟩
theorem Evo.step {w w1 w2:World} {v v1 v2:Value} (h:Evo w w1 v v1) (hg:w1.grownBy w2 v1.ownBlock) (hp:∀ k,v2.ownBlock=some k->v1.ownBlock=some k∨w1.heap.size<=k):Evo w w2 v v2:=by
 refine ⟨⟨hg.os.trans h.grown.os,hg.tape.trans h.grown.tape,hg.output.trans h.grown.output,Nat.le_trans h.grown.size hg.size,fun k hk hne=>?_⟩,fun k hk=>?_⟩
 ·rw [hg.block k (Nat.lt_of_lt_of_le hk h.grown.size) (fun e=>by
   rcases h.place k e.symm with h1|h1
   ·exact hne h1.symm
   ·omega)]
  exact h.grown.block k hk hne
 ·rcases hp k hk with h1|h1
  ·exact h.place k h1
  ·exact .inr (Nat.le_trans h.grown.size h1)
theorem Evo.trans {w w1 w2:World} {v v1 v2:Value} (h:Evo w w1 v v1) (k:Evo w1 w2 v1 v2):Evo w w2 v v2:=h.step k.grown k.place
theorem Up.evo {a w w':World} {v v':Value} (h:Up a w) (k:Evo w w' v v') (hr:∀ k,v.ownBlock=some k->a.heap.size<=k):Up a w':=h.grown k.grown hr
theorem Evo.base {w w':World} {v v':Value} (k:Evo w w' v v') {B:Nat} (hB:B<=w.heap.size) (hr:∀ k,v.ownBlock=some k->B<=k):∀ k,v'.ownBlock=some k->B<=k:=fun j hj=>by
 rcases k.place j hj with h1|h1
 ·exact hr j h1
 ·omega
theorem Evo.of_alloc {w w':World} {o:Obj} {v v':Value} (h:Evo (w.alloc o) w' v v'):Evo w w' v v' :=
 ⟨⟨h.grown.os,h.grown.tape,h.grown.output,by have:=h.grown.size;simp at this;omega,fun k hk hne=>(h.grown.block k (by simp;omega) hne).trans (Below.heap_alloc w _ k hk)⟩,
  fun k hk=>(h.place k hk).imp id (fun h=>by simp at h;omega)⟩
theorem Evo.undrew {w w':World} {v v':Value} (h:Evo w.drew w' v v'):Evo w w' v v':=⟨⟨h.grown.os,h.grown.tape,h.grown.output,h.grown.size,h.grown.block⟩,h.place⟩
theorem Evo.box {w w':World} {cs:Array Value} {t:TypeId} {v v':Value} (h:Evo (w.alloc (.cells cs t)) w' v v') (hv:∀ k,v.ownBlock=some k->k<w.heap.size):w'.heap[w.heap.size]? = some (.cells cs t (0,0)) :=
 (h.grown.block w.heap.size (by simp) (fun e=>by have:=hv _ e.symm;omega)).trans (heap_alloc_new w _)
theorem Evo.blk {w w':World} {v v':Value} (h:Evo w w' v v') {b:Nat} {o:Obj} (hb:w.heap[b]? = some o) (hne:v.ownBlock≠some b):w'.heap[b]? = some o :=
 (h.grown.block b (lt_of_block hb) (fun e=>hne e.symm)).trans hb
theorem Up.blk {w w':World} (h:Up w w') {b:Nat} {o:Obj} (hb:w.heap[b]? = some o):w'.heap[b]? = some o:=(h.block b (lt_of_block hb)).trans hb
theorem Up.cell_some {w w':World} (h:Up w w') {a:Addr} {u:Value} (hc:w.cell? a=some u):w'.cell? a=some u :=
 (World.cell?_of_block (w:=w) (h.block a.block (World.block_lt_of_cell? w a hc))).trans hc
structure Elem (P:Program) (t e:TypeId) (size bytes:Nat) (z:Value):Prop where
 ht:P.underlying t=some (.slice e)
 info:∃ i,P.info? e=some i/\i.zero=some z/\i.size=size/\i.bytes=bytes
 hzs:z.cells.size=size
 hsz:0<size
section
variable {P:Program} {t e:TypeId} {size bytes:Nat} {z:Value} (E:Elem P t e size bytes z) (w:World)
include E
theorem run_app (base:Nat) (ty:TypeId) (v:Value) (n:Nat) (xs:List Value) (hown:w.ownsRow base e size v n xs)
  (a:Addr) (m c:Nat) (news:List Value) (hl:news.length=m*size) (hnews:∀ j u,news[j]? = some u->w.cell? (a.add j)=some u) (h1:∀ u∈news,u.oneCell'=true)
  (h63:n+m<=maxLen) (hbytes:(n+m)*bytes<=140737488355328) (hbase:base<=w.heap.size) :
  ∃ v' w',(Builtin.append_ #[t,t] ty #[v,.slice (some a) m c]).run P w=.ok v' w'/\w'.ownsRow base e size v' (n+m) (xs++news)/\Evo w w' v v'/\(v'=.slice none 0 0 ↔ v=.slice none 0 0/\m=0):=by
 obtain ⟨i,hi,hz,hsize,hby⟩:=E.info;obtain ⟨v',w',hr,h2,h3,h4⟩:=run_append_own (P:=P) w base t ty e i z size bytes E.ht hi hz hsize hby E.hzs E.hsz v n xs hown a m c news hl hnews h1 h63 hbytes hbase;refine ⟨v',w',hr,h2,⟨h3,fun k hk=>?_⟩,h4⟩
 by_cases hkw:w.heap.size<=k
 ·exact .inr hkw
 ·left;rcases hown.2 with ⟨rfl,rfl⟩|⟨g0,cap0,cur0,rfl,hb0,hg0,hn0,hm0,hs0,ht0⟩
  ·by_cases hm:m=0
   ·rw [h4.2 ⟨rfl,hm⟩] at hk;simp [Value.ownBlock] at hk
   ·exfalso
    have hr2:=run_append_nil (P:=P) w t ty e i z E.ht hi hz a m c news (by rw [hl,hsize]) hnews (by omega) (by simp only [maxLen] at h63;omega) (by rw [hby];simp only [Nat.zero_add] at hbytes;omega);rw [hr2] at hr;simp only [Result.ok.injEq] at hr;rw [←hr.1] at hk;simp [Value.ownBlock] at hk;omega
  ·by_cases hroom:n+m<=cap0
   ·(have hfit:n*i.size+news.length<=cur0.size:=by rw [hs0,hl,hsize,←Nat.add_mul];exact Nat.mul_le_mul_right _ hroom);have hr2:=run_append_room (P:=P) w t ty e i E.ht hi g0 n cap0 cur0 hg0 a m c news (by rw [hl,hsize]) hnews h1 hroom hfit;rw [hr2] at hr;simp only [Result.ok.injEq] at hr;rw [←hr.1] at hk;simpa [Value.ownBlock] using hk
   ·exfalso
    have hr2:=run_append_grow (P:=P) w t ty e i z E.ht hi hz ⟨g0,0,none⟩ n cap0 xs (by rw [hsize];exact hown.1) (hown.cells (g:=g0) rfl) a m c news (by rw [hl,hsize]) hnews (by omega) (by simp only [maxLen] at h63;omega) (growslice_fits (by omega) (by rw [hby];exact hbytes));rw [hr2] at hr;simp only [Result.ok.injEq] at hr;rw [←hr.1] at hk;simp [Value.ownBlock] at hk;omega
theorem run_app_none (base:Nat) (ty:TypeId) (v:Value) (n:Nat) (xs:List Value) (hown:w.ownsRow base e size v n xs) :
  (Builtin.append_ #[t,t] ty #[v,.slice none 0 0]).run P w=.ok v w:=by
 obtain ⟨i,hi,hz,hsize,hby⟩:=E.info;exact run_append_owned_none w base t ty e i size E.ht hi v n xs hown
theorem run_app_one (base:Nat) (ty:TypeId) (v:Value) (n:Nat) (xs:List Value) (hown:w.ownsRow base e size v n xs) (cs:Array Value) (hl:cs.size=size) (h1:∀ u∈cs.toList,u.oneCell'=true)
  (hbytes:(n+1)*bytes<=140737488355328) (h63:n+1<=maxLen) (hbase:base<=w.heap.size) :
  ∃ v' w',(Builtin.append_ #[t,t] ty #[v,.slice (some ⟨w.heap.size,0,none⟩) 1 1]).run P (w.alloc (.cells cs e))=.ok v' w'/\w'.ownsRow base e size v' (n+1) (xs++cs.toList)/\Evo w w' v v':=by
 obtain ⟨v',w',hr,h2,h3,h4⟩:=run_app E (w.alloc (.cells cs e)) base ty v n xs (hown.alloc _) ⟨w.heap.size,0,none⟩ 1 1 cs.toList (by simp [hl])
  (fun j u hu=>by
   (have hadd:((⟨w.heap.size,0,none⟩:Addr).add j)=⟨w.heap.size,j,none⟩:=by unfold Addr.add;split <;> simp_all);rw [hadd,cell_of_row (w.alloc (.cells cs e)) w.heap.size j cs e (0,0) (heap_alloc_new w _)];simpa using hu) h1 h63 hbytes (by simp;omega)
 refine ⟨v',w',hr,h2,⟨⟨h3.grown.os,h3.grown.tape,h3.grown.output,by have:=h3.grown.size;simp at this;omega,fun k hk hne=>?_⟩,fun k hk=>?_⟩⟩
 ·rw [h3.grown.block k (by simp;omega) hne];exact Below.heap_alloc w _ k hk
 ·rcases h3.place k hk with h|h
  ·exact .inl h
  ·exact .inr (by simp at h;omega)
theorem wp_app_one {cs:Array Value} {o:Oper} {a:Act} {K:Act->World->Prop} {Q:Exit->Act->World->Prop} (s x:Operand)
  (ho:o.op=.call { callee:=.builtin .append,args:=#[s,x],argTypes:=#[t,t] })
  (base:Nat) (v:Value) (n:Nat) (xs:List Value) (hs:a.eval s=v) (hown:w.ownsRow base e size v n xs) (hx:a.eval x=.slice (some ⟨w.heap.size,0,none⟩) 1 1) (hl:cs.size=size) (h1:∀ u∈cs.toList,u.oneCell'=true)
  (hbytes:(n+1)*bytes<=140737488355328) (h63:n+1<=maxLen) (hbase:base<=w.heap.size)
  (h:∀ v' w',w'.ownsRow base e size v' (n+1) (xs++cs.toList)->Evo w w' v v'->K (a.put o.dst v') w'):o.wp P a (w.alloc (.cells cs e)) K Q:=by
 obtain ⟨v',w',hr,h2,h3⟩:=run_app_one E w base o.type v n xs hown cs hl h1 hbytes h63 hbase;unfold Oper.wp execOp;simp only [ho,resolve,invoke,builtin,Sem.run_bind,Sem.run_pure,Result.andThen_ok,List.map_toArray,List.map_cons,List.map_nil,hs,hx,hr];exact h v' w' h2 h3
theorem wpList_app_one {cs:Array Value} {ops:Array Oper} {rest:List Oper} {o:Oper} {a:Act} {Q:Exit->Act->World->Prop} (hgd:o.guard=none) (s x:Operand)
  (ho:o.op=.call { callee:=.builtin .append,args:=#[s,x],argTypes:=#[t,t] })
  (base:Nat) (v:Value) (n:Nat) (xs:List Value) (hs:a.eval s=v) (hown:w.ownsRow base e size v n xs) (hx:a.eval x=.slice (some ⟨w.heap.size,0,none⟩) 1 1) (hl:cs.size=size) (h1:∀ u∈cs.toList,u.oneCell'=true)
  (hbytes:(n+1)*bytes<=140737488355328) (h63:n+1<=maxLen) (hbase:base<=w.heap.size)
  (h:∀ v' w',w'.ownsRow base e size v' (n+1) (xs++cs.toList)->Evo w w' v v'->wpList P ops Q rest (a.put o.dst v') w'):wpList P ops Q (o::rest) a (w.alloc (.cells cs e)) :=
 wpList_plain hgd fun _ hK=>wp_app_one E w s x ho base v n xs hs hown hx hl h1 hbytes h63 hbase fun v' w' h2 h3=>hK _ _ (h v' w' h2 h3)
theorem wp_app {o:Oper} {a:Act} {K:Act->World->Prop} {Q:Exit->Act->World->Prop} (s x:Operand)
  (ho:o.op=.call { callee:=.builtin .append,args:=#[s,x],argTypes:=#[t,t] })
  (base:Nat) (v:Value) (n:Nat) (xs:List Value) (hs:a.eval s=v) (hown:w.ownsRow base e size v n xs) (ao:Option Addr) (m c:Nat) (hx:a.eval x=.slice ao m c) (news:List Value) (hl:news.length=m*size)
  (hnone:ao=none->m=0/\c=0) (hnews:∀ ad,ao=some ad->∀ j u,news[j]? = some u->w.cell? (ad.add j)=some u) (h1:∀ u∈news,u.oneCell'=true)
  (hbytes:(n+m)*bytes<=140737488355328) (h63:n+m<=maxLen) (hbase:base<=w.heap.size)
  (h:∀ v' w',w'.ownsRow base e size v' (n+m) (xs++news)->Evo w w' v v'->K (a.put o.dst v') w'):o.wp P a w K Q:=by
 cases ao with
 |some ad =>
  obtain ⟨v',w',hr,h2,h3,h4⟩:=run_app E w base o.type v n xs hown ad m c news hl (hnews ad rfl) h1 h63 hbytes hbase;unfold Oper.wp execOp;simp only [ho,resolve,invoke,builtin,Sem.run_bind,Sem.run_pure,Result.andThen_ok,List.map_toArray,List.map_cons,List.map_nil,hs,hx,hr];exact h v' w' h2 h3
 |none =>
  obtain ⟨rfl,rfl⟩:=hnone rfl;have hnews:news=[]:=List.eq_nil_of_length_eq_zero (by simpa using hl);subst hnews;have hr:=run_app_none E w base o.type v n xs hown;unfold Oper.wp execOp;simp only [ho,resolve,invoke,builtin,Sem.run_bind,Sem.run_pure,Result.andThen_ok,List.map_toArray,List.map_cons,List.map_nil,hs,hx,hr];exact h v w (by simpa using hown) (Evo.refl w v)
theorem wpList_app {ops:Array Oper} {rest:List Oper} {o:Oper} {a:Act} {Q:Exit->Act->World->Prop} (hgd:o.guard=none) (s x:Operand)
  (ho:o.op=.call { callee:=.builtin .append,args:=#[s,x],argTypes:=#[t,t] })
  (base:Nat) (v:Value) (n:Nat) (xs:List Value) (hs:a.eval s=v) (hown:w.ownsRow base e size v n xs) (ao:Option Addr) (m c:Nat) (hx:a.eval x=.slice ao m c) (news:List Value) (hl:news.length=m*size)
  (hnone:ao=none->m=0/\c=0) (hnews:∀ ad,ao=some ad->∀ j u,news[j]? = some u->w.cell? (ad.add j)=some u) (h1:∀ u∈news,u.oneCell'=true)
  (hbytes:(n+m)*bytes<=140737488355328) (h63:n+m<=maxLen) (hbase:base<=w.heap.size)
  (h:∀ v' w',w'.ownsRow base e size v' (n+m) (xs++news)->Evo w w' v v'->wpList P ops Q rest (a.put o.dst v') w'):wpList P ops Q (o::rest) a w :=
 wpList_plain hgd fun _ hK=>wp_app E w s x ho base v n xs hs hown ao m c hx news hl hnone hnews h1 hbytes h63 hbase fun v' w' h2 h3=>hK _ _ (h v' w' h2 h3)
theorem step_app_one {cs:Array Value} {ops:Array Oper} {o:Oper} {a:Act} {K:Act->World->Prop} {Q:Exit->Act->World->Prop} {F:Prop} (hgd:o.guard=none) (s x:Operand)
  (ho:o.op=.call { callee:=.builtin .append,args:=#[s,x],argTypes:=#[t,t] })
  (base:Nat) (v:Value) (n:Nat) (xs:List Value) (hs:a.eval s=v) (hown:w.ownsRow base e size v n xs) (hx:a.eval x=.slice (some ⟨w.heap.size,0,none⟩) 1 1) (hl:cs.size=size) (h1:∀ u∈cs.toList,u.oneCell'=true)
  (hbytes:(n+1)*bytes<=140737488355328) (h63:n+1<=maxLen) (hbase:base<=w.heap.size)
  (h:∀ v' w',w'.ownsRow base e size v' (n+1) (xs++cs.toList)->Evo w w' v v'->K (a.put o.dst v') w'):if Region.wanted o (yielded ops a.tmps)=true then Oper.wp P o a (w.alloc (.cells cs e)) K Q else F:=by
 rw [if_pos (by simp [Region.wanted,hgd])];exact wp_app_one E w s x ho base v n xs hs hown hx hl h1 hbytes h63 hbase h
theorem step_app {ops:Array Oper} {o:Oper} {a:Act} {K:Act->World->Prop} {Q:Exit->Act->World->Prop} {F:Prop} (hgd:o.guard=none) (s x:Operand)
  (ho:o.op=.call { callee:=.builtin .append,args:=#[s,x],argTypes:=#[t,t] })
  (base:Nat) (v:Value) (n:Nat) (xs:List Value) (hs:a.eval s=v) (hown:w.ownsRow base e size v n xs) (ao:Option Addr) (m c:Nat) (hx:a.eval x=.slice ao m c) (news:List Value) (hl:news.length=m*size)
  (hnone:ao=none->m=0/\c=0) (hnews:∀ ad,ao=some ad->∀ j u,news[j]? = some u->w.cell? (ad.add j)=some u) (h1:∀ u∈news,u.oneCell'=true)
  (hbytes:(n+m)*bytes<=140737488355328) (h63:n+m<=maxLen) (hbase:base<=w.heap.size)
  (h:∀ v' w',w'.ownsRow base e size v' (n+m) (xs++news)->Evo w w' v v'->K (a.put o.dst v') w'):if Region.wanted o (yielded ops a.tmps)=true then Oper.wp P o a w K Q else F:=by
 rw [if_pos (by simp [Region.wanted,hgd])];exact wp_app E w s x ho base v n xs hs hown ao m c hx news hl hnone hnews h1 hbytes h63 hbase h
end
def Keep (S:Nat->Prop) (w:World) (S':Nat->Prop) (w':World):Prop:=∀ k,S k->k<w.heap.size->w'.heap[k]? = w.heap[k]?/\S' k
abbrev All : Nat->Prop:=fun _=>True
def Av (v:Value) (k:Nat):Prop:=v.ownBlock≠some k
theorem Keep.up {w w':World} (h:Up w w'):Keep All w All w':=fun k _ hk=>⟨h.block k hk,trivial⟩
theorem Keep.upS {S:Nat->Prop} {w w':World} (h:Up w w'):Keep S w S w':=fun k hs hk=>⟨h.block k hk,hs⟩
theorem Keep.evo {w w':World} {v v':Value} (h:Evo w w' v v'):Keep (Av v) w (Av v') w':=fun k hs hk =>
 ⟨h.grown.block k hk (fun e=>hs e.symm),fun e=>by
  rcases h.place k e with h1|h1
  ·exact hs h1
  ·omega⟩
theorem Keep.weak {S S':Nat->Prop} {w:World} (h:∀ k,S k->S' k):Keep S w S' w:=fun k hs _=>⟨rfl,h k hs⟩
theorem Keep.trans {S S' S2:Nat->Prop} {w w' w2:World} (h:Keep S w S' w') (k:Keep S' w' S2 w2):Keep S w S2 w2:=fun b hb hlt=>by
 obtain ⟨h1,h2⟩:=h b hb hlt
 have hlt':b<w'.heap.size:=by
  rcases Nat.lt_or_ge b w'.heap.size with h|h
  ·exact h
  ·rw [Array.getElem?_eq_none h,Array.getElem?_eq_getElem hlt] at h1;cases h1
 obtain ⟨h3,h4⟩:=k b h2 hlt';exact ⟨h3.trans h1,h4⟩
theorem Keep.setCell {S:Nat->Prop} {w:World} {p:Addr} (h:¬ S p.block) (u:Value):Keep S w S (w.setCell p u):=fun b hb _ =>
 ⟨Below.heap_setCell w p u b (fun e=>h (e ▸ hb)),hb⟩
theorem Keep.alloc {S:Nat->Prop} {w:World} (o:Obj):Keep S w S (w.alloc o):=fun b hb hlt=>⟨Below.heap_alloc w o b hlt,hb⟩
theorem Keep.all {S:Nat->Prop} {w:World}:Keep S w All w:=Keep.weak fun _ _=>trivial
abbrev Lay (α:Type):=(Nat->Prop)->World->α->List Value->Prop
def Stable {α:Type} (D:Lay α):Prop:=∀ S w S' w' a cs,Keep S w S' w'->D S w a cs->D S' w' a cs
def DU8 : Lay UInt8:=fun _ _ c cs=>cs=[.int .u8 (c.toNat:Int)]
def DInt : Lay Int:=fun _ _ n cs=>cs=[.int .i64 n]/\-9223372036854775808<=n/\n<=9223372036854775807
def DU64 : Lay Nat:=fun _ _ n cs=>cs=[.int .u64 (n:Int)]/\n<2 ^ 64
def DStr : Lay (List UInt8):=fun _ _ s cs=>cs=[.string ⟨s.toArray⟩]/\s.length<=140737488355328
theorem stable_u8 : Stable DU8:=fun _ _ _ _ _ _ _ h=>h
theorem stable_int : Stable DInt:=fun _ _ _ _ _ _ _ h=>h
theorem stable_u64 : Stable DU64:=fun _ _ _ _ _ _ _ h=>h
theorem stable_str : Stable DStr:=fun _ _ _ _ _ _ _ h=>h
def CellsAt (w:World) (b o:Nat) (cs:List Value):Prop:=∀ j u,cs[j]? = some u->w.cell? ⟨b,o+j,none⟩=some u
def RdS {α:Type} (D:Lay α) (size:Nat) (S:Nat->Prop) (w:World) (v:Value) (l:List α):Prop :=
 ∃ ao cap,v=.slice ao l.length cap/\l.length<=cap/\cap<=maxLen/\(ao=none->cap=0) /\
  ∀ i,(h:i<l.length)->∃ b o cs,ao=some ⟨b,o,none⟩/\S b/\b<w.heap.size/\cs.length=size/\CellsAt w b (o+i*size) cs/\D S w l[i] cs
theorem RdS.keep {α:Type} {D:Lay α} (hD:Stable D) {size:Nat} {S S':Nat->Prop} {w w':World} {v:Value} {l:List α} (h:RdS D size S w v l) (k:Keep S w S' w'):RdS D size S' w' v l:=by
 obtain ⟨ao,cap,hv,hc,hm,hn,hi⟩:=h;refine ⟨ao,cap,hv,hc,hm,hn,fun i hil=>?_⟩;obtain ⟨b,o,cs,ha,hS,hb,hl,hcs,hd⟩:=hi i hil;obtain ⟨h1,h2⟩:=k b hS hb;refine ⟨b,o,cs,ha,h2,?_,hl,fun j u hu=>?_,hD _ _ _ _ _ _ k hd⟩
 ·rcases Nat.lt_or_ge b w'.heap.size with h|h
  ·exact h
  ·rw [Array.getElem?_eq_none h] at h1;rw [Array.getElem?_eq_getElem hb] at h1;cases h1
 ·exact (World.cell?_of_block (w:=w) (a:=⟨b,_,none⟩) h1).trans (hcs j u hu)
theorem RdS.up {α:Type} {D:Lay α} (hD:Stable D) {size:Nat} {S:Nat->Prop} {w w':World} {v:Value} {l:List α} (h:RdS D size S w v l) (k:Up w w'):RdS D size S w' v l:=h.keep hD (Keep.upS k)
abbrev RdB (S:Nat->Prop) (w:World) (v:Value) (l:List UInt8):Prop:=RdS DU8 1 S w v l
theorem RdS.val {α:Type} {D:Lay α} {size:Nat} {S:Nat->Prop} {w:World} {v:Value} {l:List α} (h:RdS D size S w v l):∃ ao cap,v=.slice ao l.length cap/\l.length<=cap/\cap<=9223372036854775807:=by
 obtain ⟨ao,cap,hv,hc,hm,_⟩:=h;exact ⟨ao,cap,hv,hc,hm⟩
theorem RdB.news {S:Nat->Prop} {w:World} {ao:Option Addr} {n cap:Nat} {l:List UInt8} (h:RdB S w (.slice ao n cap) l):n=l.length/\(ao=none->n=0/\cap=0)/\∀ ad,ao=some ad->∀ j u,(B8 l)[j]? = some u->w.cell? (ad.add j)=some u:=by
 obtain ⟨ao',cap',hv,hc,hm,hn,hf⟩:=h;simp only [Value.slice.injEq] at hv;obtain ⟨rfl,rfl,rfl⟩:=hv;refine ⟨rfl,fun e=>by have:=hn e;omega,fun ad had j u hu=>?_⟩
 have hj:j<l.length:=by
  have:=(List.getElem?_eq_some_iff.1 hu).1;simpa [B8] using this
 obtain ⟨b,o,cs,ha,hS,hb,hl,hcs,hd⟩:=hf j hj;rw [ha] at had;obtain rfl:=Option.some.inj had
 have hu':u=.int .u8 (l[j].toNat:Int):=by
  rw [B8,List.getElem?_map,List.getElem?_eq_getElem hj] at hu;exact (Option.some.inj hu).symm
 subst hu';rw [Addr.add_lit];have:=hcs 0 (.int .u8 (l[j].toNat:Int)) (by rw [hd];rfl);simpa using this
theorem RdB.cell {S:Nat->Prop} {w:World} {ao:Option Addr} {n cap:Nat} {l:List UInt8} (h:RdB S w (.slice ao n cap) l) {i:Nat} (hi:i<l.length):∃ b o,ao=some ⟨b,o,none⟩/\w.cell? ⟨b,o+i,none⟩=some (.int .u8 (l[i].toNat:Int)):=by
 obtain ⟨ao',cap',hv,hc,hm,hn,hf⟩:=h;obtain ⟨b,o,cs,ha,hS,hb,hl,hcs,hd⟩:=hf i hi;simp only [Value.slice.injEq] at hv;obtain ⟨rfl,rfl,rfl⟩:=hv;refine ⟨b,o,ha,?_⟩;have:=hcs 0 (.int .u8 (l[i].toNat:Int)) (by rw [hd];rfl);simpa using this
theorem rdB_of_owns {base:Nat} {e:TypeId} {S:Nat->Prop} {w:World} {v:Value} {l:List UInt8} (h:w.ownsRow base e 1 v l.length (B8 l)) (hS:∀ k,v.ownBlock=some k->S k):RdB S w v l:=by
 rcases h.2 with ⟨rfl,h0⟩|⟨g,cap,cur,rfl,hb,hg,hc,hm,hs,ht⟩
 ·have:l=[]:=List.eq_nil_of_length_eq_zero h0;subst this;exact ⟨none,0,rfl,by simp,by unfold maxLen;omega,fun _=>rfl,fun i hi=>by simp at hi⟩
 ·refine ⟨some ⟨g,0,none⟩,cap,rfl,hc,hm,(fun e=>nomatch e),fun i hi=>⟨g,0,[.int .u8 (l[i].toNat:Int)],rfl,hS g rfl,lt_of_block hg,rfl,fun j u hu=>?_,rfl⟩⟩
  have hj:j=0:=by
   have:=(List.getElem?_eq_some_iff.1 hu).1;simpa using this
  subst hj;simp at hu;subst hu;have:=h.cells (g:=g) rfl i (.int .u8 (l[i].toNat:Int)) (by rw [B8,List.getElem?_map,List.getElem?_eq_getElem hi];rfl);rw [Addr.add_lit] at this;simpa using this
theorem rdB_nil (S:Nat->Prop) (w:World):RdB S w (.slice none 0 0) []:=⟨none,0,rfl,by simp,by unfold maxLen;omega,fun _=>rfl,fun i hi=>by simp at hi⟩
theorem RdB.drop {S:Nat->Prop} {w:World} {ao:Option Addr} {n cap:Nat} {l:List UInt8} (h:RdB S w (.slice ao n cap) l) (k:Nat) (hk:k<=n) {ao':Option Addr} (hao:¬ cap=k->ao'=ao.map (·.add k)) {n' cap':Nat} (hn':n'=n - k) (hcap':cap'=cap - k):RdB S w (.slice ao' n' cap') (l.drop k):=by
 subst hn';subst hcap';obtain ⟨ao0,cap0,hv,hc,hm,hn,hf⟩:=h;simp only [Value.slice.injEq] at hv;obtain ⟨rfl,rfl,rfl⟩:=hv;refine ⟨ao',cap - k,by simp,by simp;omega,by omega,fun e=>?_,fun i hi=>?_⟩
 ·by_cases hck:cap=k
  ·omega
  ·have:=hao hck;rw [e] at this;(have h0:ao=none:=by cases ao <;> simp at this ⊢);have:=hn h0;omega
 ·simp only [List.length_drop] at hi;obtain ⟨b,o,cs,ha,hS,hb,hl,hcs,hd⟩:=hf (k+i) (by omega);refine ⟨b,o+k,cs,?_,hS,hb,hl,?_,?_⟩
  ·rw [hao (by omega),ha];simp [Addr.add_lit]
  ·intro j u hu;have:=hcs j u hu
   rwa [show o+(k+i)*1+j=o+k+i*1+j by omega] at this
  ·rw [List.getElem_drop];exact hd
theorem RdB.take {S:Nat->Prop} {w:World} {ao:Option Addr} {n cap:Nat} {l:List UInt8} (h:RdB S w (.slice ao n cap) l) (k:Nat) (hk:k<=n):RdB S w (.slice ao k cap) (l.take k):=by
 obtain ⟨ao0,cap0,hv,hc,hm,hn,hf⟩:=h;simp only [Value.slice.injEq] at hv;obtain ⟨rfl,rfl,rfl⟩:=hv;refine ⟨ao,cap,by simp;omega,by simp;omega,hm,hn,fun i hi=>?_⟩;simp only [List.length_take] at hi;obtain ⟨b,o,cs,ha,hS,hb,hl,hcs,hd⟩:=hf i (by omega);exact ⟨b,o,cs,ha,hS,hb,hl,hcs,by rw [List.getElem_take];exact hd⟩
def Av2 (S:Nat->Prop) (v:Value) (k:Nat):Prop:=S k/\v.ownBlock≠some k
theorem Keep.evoS {S:Nat->Prop} {w w':World} {v v':Value} (h:Evo w w' v v') (hS:∀ k,S k->S k:=by exact fun _ h=>h):Keep (Av2 S v) w (Av2 S v') w':=fun k hs hk =>
 ⟨h.grown.block k hk (fun e=>hs.2 e.symm),hS k hs.1,fun e=>by
  rcases h.place k e with h1|h1
  ·exact hs.2 h1
  ·omega⟩
def OwnS {α:Type} (D:Lay α) (base:Nat) (e:TypeId) (size:Nat) (S:Nat->Prop) (w:World) (v:Value) (l:List α):Prop :=
 ∃ css:List (List Value),css.length=l.length/\w.ownsRow base e size v l.length css.flatten/\∀ i,(h:i<l.length)->∃ cs,css[i]? = some cs/\cs.length=size/\D (Av2 S v) w l[i] cs
theorem OwnS.nil {α:Type} (D:Lay α) (base:Nat) (e:TypeId) (size:Nat) (S:Nat->Prop) (w:World):OwnS D base e size S w (.slice none 0 0) ([]:List α) :=
 ⟨[],rfl,World.ownsRow_nil _ _ _ _,fun i hi=>by simp at hi⟩
theorem OwnS.own {α:Type} {D:Lay α} {base:Nat} {e:TypeId} {size:Nat} {S:Nat->Prop} {w:World} {v:Value} {l:List α} (h:OwnS D base e size S w v l):∃ xs,w.ownsRow base e size v l.length xs:=by
 obtain ⟨css,_,h,_⟩:=h;exact ⟨_,h⟩
theorem OwnS.up {α:Type} {D:Lay α} (hD:Stable D) {base:Nat} {e:TypeId} {size:Nat} {S:Nat->Prop} {w w':World} {v:Value} {l:List α} (h:OwnS D base e size S w v l) (hu:Up w w'):OwnS D base e size S w' v l:=by
 obtain ⟨css,h1,h2,h3⟩:=h;refine ⟨css,h1,h2.kept hu.to_none (by cases hv:v.ownBlock <;> simp),fun i hi=>?_⟩;obtain ⟨cs,h4,h5,h6⟩:=h3 i hi;exact ⟨cs,h4,h5,hD _ _ _ _ _ _ (Keep.upS hu) h6⟩
theorem OwnS.setCell {α:Type} {D:Lay α} (hD:Stable D) {base:Nat} {e:TypeId} {size:Nat} {S:Nat->Prop} {w:World} {v:Value} {l:List α} (h:OwnS D base e size S w v l) {p:Addr} (hp:v.ownBlock≠some p.block) (hS:¬ S p.block) (u:Value):OwnS D base e size S (w.setCell p u) v l:=by
 obtain ⟨css,h1,h2,h3⟩:=h;refine ⟨css,h1,ownsRow_setCell_other h2 hp u,fun i hi=>?_⟩;obtain ⟨cs,h4,h5,h6⟩:=h3 i hi;exact ⟨cs,h4,h5,hD _ _ _ _ _ _ (Keep.setCell (fun h=>hS h.1) u) h6⟩
theorem OwnS.snoc {α:Type} {D:Lay α} (hD:Stable D) {base:Nat} {e:TypeId} {size:Nat} {S:Nat->Prop} {w w':World} {v v':Value} {l:List α} (h:OwnS D base e size S w v l) {a:α} {cs xs:List Value} (hxs:w.ownsRow base e size v l.length xs)
  (hown:w'.ownsRow base e size v' (l.length+1) (xs++cs)) (hev:Evo w w' v v') (hcs:cs.length=size) (hd:D (Av2 S v) w a cs):OwnS D base e size S w' v' (l++[a]):=by
 obtain ⟨css,h1,h2,h3⟩:=h
 have hx:xs=css.flatten:=by
  rcases hxs.2 with ⟨rfl,h0⟩|⟨g,cap,cur,rfl,_,hg,_,_,_,ht⟩
  ·have e1:xs=[]:=List.eq_nil_of_length_eq_zero (by have:=hxs.1;rw [h0] at this;simpa using this);have e2:css.flatten=[]:=List.eq_nil_of_length_eq_zero (by have:=h2.1;rw [h0] at this;simpa using this);rw [e1,e2]
  ·rcases h2.2 with ⟨h,_⟩|⟨g',cap',cur',h,_,hg',_,_,_,ht'⟩
   ·cases h
   ·simp only [Value.slice.injEq,Option.some.injEq,Addr.mk.injEq,and_true,true_and] at h;obtain ⟨rfl,rfl⟩:=h;rw [hg] at hg';simp only [Option.some.injEq,Obj.cells.injEq] at hg';obtain ⟨rfl,_⟩:=hg';rw [←ht,←ht']
 subst hx;refine ⟨css++[cs],by simp [h1],by simpa using hown,fun i hi=>?_⟩;have hk:=Keep.evoS (S:=S) hev
 by_cases hil:i<l.length
 ·obtain ⟨cs',h4,h5,h6⟩:=h3 i hil;refine ⟨cs',by rw [List.getElem?_append_left (by omega)];exact h4,h5,?_⟩;rw [List.getElem_append_left hil];exact hD _ _ _ _ _ _ hk h6
 ·(have:i=l.length:=by simp at hi;omega);subst this;refine ⟨cs,by rw [List.getElem?_append_right (by omega)];simp [h1],hcs,?_⟩;rw [List.getElem_append_right (by omega)];simp only [Nat.sub_self,List.getElem_cons_zero];exact hD _ _ _ _ _ _ hk hd
theorem getElem?_flatten_block : ∀ (css:List (List Value)) (size i j:Nat) (u:Value) (cs:List Value),(∀ c∈css,c.length=size)->css[i]? = some cs->cs[j]? = some u->css.flatten[i*size+j]? = some u
 |[],_,_,_,_,_,_,h,_=>by simp at h
 |c::css,size,0,j,u,cs,hs,h,hu=>by
  simp at h;subst h;rw [List.flatten_cons,List.getElem?_append_left (by have:=(List.getElem?_eq_some_iff.1 hu).1;omega)];simpa using hu
 |c::css,size,i+1,j,u,cs,hs,h,hu=>by
  have hc:c.length=size:=hs c (by simp);rw [List.flatten_cons,List.getElem?_append_right (by rw [hc,Nat.add_mul];omega),hc,show (i+1)*size+j - size=i*size+j by rw [Nat.add_mul];omega];exact getElem?_flatten_block css size i j u cs (fun c hc=>hs c (by simp [hc])) (by simpa using h) hu
theorem OwnS.rd {α:Type} {D:Lay α} (hD:Stable D) {base:Nat} {e:TypeId} {size:Nat} {S S':Nat->Prop} {w:World} {v:Value} {l:List α} (h:OwnS D base e size S w v l) (hS:∀ k,S k->S' k) (hv:∀ k,v.ownBlock=some k->S' k):RdS D size S' w v l:=by
 obtain ⟨css,h1,h2,h3⟩:=h
 have hall:∀ c∈css,c.length=size:=fun c hc=>by
  obtain ⟨i,hi,rfl⟩:=List.getElem_of_mem hc;obtain ⟨cs,h4,h5,_⟩:=h3 i (by omega);rw [List.getElem?_eq_getElem hi] at h4;rw [Option.some.inj h4];exact h5
 rcases h2.2 with ⟨rfl,h0⟩|⟨g,cap,cur,rfl,hb,hg,hc,hm,hs,ht⟩
 ·have:l=[]:=List.eq_nil_of_length_eq_zero h0;subst this;exact ⟨none,0,rfl,by simp,by unfold maxLen;omega,fun _=>rfl,fun i hi=>by simp at hi⟩
 ·refine ⟨some ⟨g,0,none⟩,cap,rfl,hc,hm,(fun e=>nomatch e),fun i hi=>?_⟩;obtain ⟨cs,h4,h5,h6⟩:=h3 i hi;refine ⟨g,0,cs,rfl,hv g rfl,lt_of_block hg,h5,fun j u hu=>?_,hD _ _ _ _ _ _ (Keep.weak (fun k hk=>hS k hk.1)) h6⟩;have:=h2.cells (g:=g) rfl (i*size+j) u (getElem?_flatten_block css size i j u cs hall h4 hu);rw [Addr.add_lit] at this
  rwa [show 0+i*size+j=0+(i*size+j) by omega]
def DRec : Lay Rec:=fun S w r cs=>∃ vb,cs=[.int .i64 r.number,.int .i64 r.how,.int .u64 (r.bits:Int),vb]/\RdB S w vb r.bytes/\r.bits<2 ^ 64
theorem stable_rec : Stable DRec:=by
 rintro S w S' w' r cs k ⟨vb,h,hb,h64⟩;exact ⟨vb,h,hb.keep stable_u8 k,h64⟩
end Go.Proofs.YtbceccblepckhaaGreatDoor
