/-
  How Go's data, as they come in, read as lists and records.
  How Go's data, as they come in, read as lists and records, none larger than the form's own reach.
  A file, as it comes in.
  Records, as they come in.
  Bodies, as they come in: what a reading of so little bulk gives.
  Bodies, as they come in: their weight is bounded by their bulk.
-/
import Derived.Deep.Slices
import Derived.ChangeArms
import Derived.ChangeSame
import Derived.DataReads
import Derived.SizedLaws
import Derived.Test.YtbceccblepckhaaGreatDoorRows
import Derived.Test.YtbceccblepckhaaGreatDoorCt49
set_option linter.unusedVariables false
namespace Go.Proofs.YtbceccblepckhaaGreatDoor
open Go.RowKit
def Reads {α:Type} (P:Program) (t:TypeId) (D:Lay α):Prop :=
 ∀ {H:Type} (enc:TypeId × Value->H) (w:World) (base:Nat) (spare:Nat->Bool) (held:Bool) (fuel:Nat) (cs:List Value) (x:DataW H × List MemPlace),DataW.trod enc P w base spare held fuel t cs=some x->∃ a:α,D All w a cs
theorem reads_u8 {P:Program} {t:TypeId} (ht:P.underlying t=some (.int .u8)):Reads P t DU8:=fun enc w base spare held fuel cs x h=>by
 obtain ⟨n,rfl,_,hwf⟩:=DataW.trod_int ht h;(have hx:0<=n/\n<=255:=by simpa [Lit.wf,IntKind.min,IntKind.max,IntKind.signed,IntKind.bits] using hwf);refine ⟨UInt8.ofNat n.toNat,?_⟩;unfold DU8;(have:(UInt8.ofNat n.toNat).toNat=n.toNat:=by simp;omega);rw [this]
 congr 2;omega
theorem reads_int {P:Program} {t:TypeId} (ht:P.underlying t=some (.int .i64)):Reads P t DInt:=fun enc w base spare held fuel cs x h=>by
 obtain ⟨n,rfl,_,hwf⟩:=DataW.trod_int ht h;(have hx:-9223372036854775808<=n/\n<=9223372036854775807:=by simpa [Lit.wf,IntKind.min,IntKind.max,IntKind.signed,IntKind.bits] using hwf);exact ⟨n,rfl,hx.1,hx.2⟩
theorem reads_u64 {P:Program} {t:TypeId} (ht:P.underlying t=some (.int .u64)):Reads P t DU64:=fun enc w base spare held fuel cs x h=>by
 obtain ⟨n,rfl,_,hwf⟩:=DataW.trod_int ht h;(have hx:0<=n/\n<=18446744073709551615:=by simpa [Lit.wf,IntKind.min,IntKind.max,IntKind.signed,IntKind.bits] using hwf);refine ⟨n.toNat,?_,by omega⟩
 congr 2;omega
theorem cells?_at {w:World} {base:Nat} {a:Addr} {n:Nat} {cs:List Value} (h:w.cells? base a n=some cs):cs.length=n/\∀ j u,cs[j]? = some u->w.cell? (a.add j)=some u:=by
 obtain ⟨_,hl,hc⟩:=World.cells?_some h;refine ⟨hl,fun j u hu=>?_⟩;(have hj:j<n:=by rw [←hl];exact (List.getElem?_eq_some_iff.1 hu).1);rw [hc j hj];exact hu
def ReadsZ {α:Type} (P:Program) (t:TypeId) (D:Lay α):Prop :=
 ∀ {H:Type} (enc:TypeId × Value->H) (w:World) (base:Nat) (spare:Nat->Bool) (held:Bool) (fuel:Nat) (cs:List Value) (x:DataW H × List MemPlace),DataW.trod enc P w base spare held fuel t cs=some x->(∀ n∈x.1.weights P t,n<=reachBytes)->∃ a:α,D All w a cs
theorem Reads.z {α:Type} {P:Program} {t:TypeId} {D:Lay α} (h:Reads P t D):ReadsZ P t D:=fun enc w base spare held fuel cs x hx _=>h enc w base spare held fuel cs x hx
theorem reads_bool {P:Program} {t:TypeId} (ht:P.underlying t=some .bool):Reads P t (fun _ _ (b:Bool) cs=>cs=[.bool b]):=fun enc w base spare held fuel cs x h=>by
 obtain ⟨b,rfl,_⟩:=DataW.trod_bool ht h;exact ⟨b,rfl⟩
theorem readsZ_str {P:Program} {t:TypeId} (ht:P.underlying t=some .string):ReadsZ P t DStr:=fun enc w base spare held fuel cs x h hw=>by
 obtain ⟨s,rfl,rfl,_⟩:=DataW.trod_string ht h;have:=hw s.data.toList.length (by simp [DataW.weights]);refine ⟨s.data.toList,by simp,?_⟩;simp only [reachBytes] at this;omega
theorem weights_all {H:Type} {P:Program} {e:TypeId}:∀ {ds:List (DataW H)} {d:DataW H},d∈ds->∀ n∈d.weights P e,n∈DataW.weightsAll P e ds
 |d0::ds,d,hd,n,hn=>by
  simp only [DataW.weightsAll,List.mem_append];rcases List.mem_cons.1 hd with rfl|hd
  ·exact .inl hn
  ·exact .inr (weights_all hd n hn)
theorem readsZ_slice {α:Type} [Inhabited α] {D:Lay α} {P:Program} {t e:TypeId} {size bytes:Nat} (ht:P.underlying t=some (.slice e)) (hs:P.cellsOf e=size) (hby:P.bytesOf e=bytes) (hp:0<size) (he:ReadsZ P e D):ReadsZ P t (fun S w l cs=>∃ v,cs=[v]/\RdS D size S w v l/\l.length*bytes<=140737488351232):=fun enc w base spare held fuel cs x h hw=>by
 rcases Go.Deep.open_slice ht h with ⟨rfl,_⟩|⟨a,len,cap,m,n,Dt,Pl,rfl,hb,hl,hm,hmm,rfl,hel⟩
 ·exact ⟨[],_,rfl,⟨none,0,rfl,by simp,by unfold maxLen;omega,fun _=>rfl,fun i hi=>by simp at hi⟩,by simp⟩
 ·have hlm:len<=m:=by rw [hmm];split <;> omega
  have hz:∀ i,i<len->∀ n∈(Dt i).weights P e,n<=reachBytes:=fun i hi n hn=>hw n (by
   simp only [DataW.weights,ht];refine List.mem_cons_of_mem _ (List.mem_append_left _ (weights_all (d:=Dt i) ?_ n hn));exact List.mem_map.2 ⟨i,List.mem_range.2 hi,rfl⟩)
  have hlen:len*bytes<=140737488351232:=by
   have:=hw _ (by simp only [DataW.weights,ht];exact List.mem_cons_self);rw [hby] at this;simp only [List.length_map,List.length_range,reachBytes] at this;exact Nat.le_trans (Nat.mul_le_mul_right _ (Nat.le_add_right _ _)) this
  obtain ⟨f,hf⟩:=Go.Deep.choose_lt (α:=α × List Value) (n:=len) (p:=fun i ac=>ac.2.length=size/\(∀ j u,ac.2[j]? = some u->w.cell? ((a.add (i*size)).add j)=some u)/\D All w ac.1 ac.2) (fun i hi=>by
   obtain ⟨cs',h1,h2⟩:=hel i (by omega);rw [hs] at h1;obtain ⟨h3,h4⟩:=cells?_at h1;obtain ⟨y,hy⟩:=he enc w base spare held n cs' _ h2 (hz i hi);exact ⟨(y,cs'),h3,h4,hy⟩)
  refine ⟨(List.range len).map fun i=>(f i).1,_,rfl,⟨some a,cap,by simp,by simpa using hl,hm,(fun e=>nomatch e),fun i hi=>?_⟩,by simpa using hlen⟩;have hi':i<len:=by simpa using hi
  have hspot:a.spot=none:=by
   have h0:=hf 0 (by omega);obtain ⟨u,hu⟩:∃ u,(f 0).2[0]? = some u:=⟨_,List.getElem?_eq_getElem (by omega)⟩;have:=h0.2.1 0 u hu;(have e:(a.add (0*size)).add 0=a:=by simp [Addr.add]);rw [e] at this;exact World.cell?_spot this
  obtain ⟨b,o,spot⟩:=a;simp only at hspot;subst hspot;have hfi:=hf i hi'
  have hcell:∀ j u,(f i).2[j]? = some u->w.cell? ⟨b,o+i*size+j,none⟩=some u:=fun j u hu=>by
   have:=hfi.2.1 j u hu
   rwa [Go.WideShapes.add_plain,Go.WideShapes.add_plain] at this
  obtain ⟨u,hu⟩:∃ u,(f i).2[0]? = some u:=⟨_,List.getElem?_eq_getElem (by omega)⟩;exact ⟨b,o,(f i).2,rfl,trivial,World.block_lt_of_cell? w _ (hcell 0 u hu),hfi.1,hcell,by simpa using hfi.2.2⟩
theorem structZ {H:Type} {enc:TypeId × Value->H} {P:Program} {w:World} {base:Nat} {spare:Nat->Bool} {held:Bool} {t:TypeId} {fs:Array Field} {fuel:Nat} {cs:List Value} {x:DataW H × List MemPlace} (ht:P.underlying t=some (.struct fs)) (h:DataW.trod enc P w base spare held fuel t cs=some x) (hw:∀ n∈x.1.weights P t,n<=reachBytes) :
  ∃ n,cs.length=P.cellsOf t/\∀ (i:Nat) (f:Field),fs[i]? = some f->∃ y,DataW.trod enc P w base spare held n f.type ((cs.drop f.offset).take (P.cellsOf f.type))=some y/\∀ n∈y.1.weights P f.type,n<=reachBytes:=by
 obtain ⟨xs,n,_,rfl,hl,hlen,hf⟩:=DataW.trod_struct ht h;refine ⟨n,hl,fun i f hi=>?_⟩;have h1:=hf i f hi;(have hlt:i<xs.length:=by rw [hlen];exact (Array.getElem?_eq_some_iff.1 hi).1);rw [List.getElem?_eq_getElem hlt] at h1;refine ⟨_,h1,fun k hk=>hw k ?_⟩;simp only [DataW.weights,ht];refine DataW.weights_mem_each (j:=i) (t:=f.type) (d:=xs[i].1) ?_ ?_ k hk
 ·rw [List.getElem?_map,Array.getElem?_toList,hi];rfl
 ·rw [List.getElem?_map,List.getElem?_eq_getElem hlt];rfl
theorem fieldZ {α:Type} {D:Lay α} {H:Type} {enc:TypeId × Value->H} {P:Program} {w:World} {base:Nat} {spare:Nat->Bool} {held:Bool} {t:TypeId} {n:Nat} {cs:List Value} (o:Nat) (hr:ReadsZ P t D) (hc:P.cellsOf t=1)
  (h:∃ y,DataW.trod enc P w base spare held n t ((cs.drop o).take (P.cellsOf t))=some y/\∀ n∈y.1.weights P t,n<=reachBytes):∃ a:α,D All w a ((cs.drop o).take 1):=by
 obtain ⟨y,h1,h2⟩:=h;rw [hc] at h1;exact hr _ _ _ _ _ _ _ _ h1 h2
theorem list2 {α:Type} {l:List α} (h:l.length=2):∃ a b,l=[a,b]:=by
 match l,h with
 |[a,b],_=>exact ⟨a,b,rfl⟩
theorem list3 {α:Type} {l:List α} (h:l.length=3):∃ a b c,l=[a,b,c]:=by
 match l,h with
 |[a,b,c],_=>exact ⟨a,b,c,rfl⟩
theorem list6 {α:Type} {l:List α} (h:l.length=6):∃ a b c d e f,l=[a,b,c,d,e,f]:=by
 match l,h with
 |[a,b,c,d,e,f],_=>exact ⟨a,b,c,d,e,f,rfl⟩
theorem RdS.both {α:Type} {D:Lay α} {Z:α->Prop} {size:Nat} {S:Nat->Prop} {w:World} {v:Value} {l:List α} (h:RdS (fun S w a cs=>D S w a cs/\Z a) size S w v l):RdS D size S w v l/\∀ a∈l,Z a:=by
 obtain ⟨ao,cap,hv,h1,h2,h3,h4⟩:=h;refine ⟨⟨ao,cap,hv,h1,h2,h3,fun i hi=>?_⟩,fun a ha=>?_⟩
 ·obtain ⟨b,o,cs,e1,e2,e3,e4,e5,e6⟩:=h4 i hi;exact ⟨b,o,cs,e1,e2,e3,e4,e5,e6.1⟩
 ·obtain ⟨i,hi,rfl⟩:=List.getElem_of_mem ha;obtain ⟨b,o,cs,e1,e2,e3,e4,e5,e6⟩:=h4 i hi;exact e6.2
instance : Inhabited Fld:=⟨⟨[],0,0,[],false,0⟩⟩
instance : Inhabited Msg:=⟨⟨[],[],[]⟩⟩
instance : Inhabited Itm:=⟨⟨[],0⟩⟩
instance : Inhabited Enu:=⟨⟨[],[]⟩⟩
def LBool : Lay (Bool):=fun _ _ b cs=>cs=[.bool b]
def LFlds : Lay (List Fld):=fun S w l cs=>∃ v,cs=[v]/\RdS DFld 6 S w v l/\l.length*64<=140737488351232
def LInts : Lay (List Int):=fun S w l cs=>∃ v,cs=[v]/\RdS DInt 1 S w v l/\l.length*8<=140737488351232
def LItms : Lay (List Itm):=fun S w l cs=>∃ v,cs=[v]/\RdS DItm 2 S w v l/\l.length*24<=140737488351232
def LMsg : Lay (Msg):=fun S w m cs=>DMsg S w m cs/\(m.fields.length*64<=140737488355328/\m.barred.length*8<=140737488355328)
def LEnu : Lay (Enu):=fun S w m cs=>DEnu S w m cs/\m.items.length*24<=140737488355328
def LMsgs : Lay (List Msg):=fun S w l cs=>∃ v,cs=[v]/\RdS LMsg 3 S w v l/\l.length*64<=140737488351232
def LEnus : Lay (List Enu):=fun S w l cs=>∃ v,cs=[v]/\RdS LEnu 2 S w v l/\l.length*40<=140737488351232
theorem cz_int : Tryz.prog.cellsOf 3=1:=by kernel_rfl
theorem cz_bool : Tryz.prog.cellsOf 4=1:=by kernel_rfl
theorem cz_string : Tryz.prog.cellsOf 9=1:=by kernel_rfl
theorem rz_int : ReadsZ Tryz.prog 3 DInt:=Reads.z (reads_int Tryz.underlying3)
theorem rz_bool : ReadsZ Tryz.prog 4 LBool:=Reads.z (reads_bool Tryz.underlying4)
theorem rz_string : ReadsZ Tryz.prog 9 DStr:=readsZ_str Tryz.underlying9
theorem rz_fld : ReadsZ Tryz.prog 47 DFld:=fun enc w base spare held fuel cs x h hw=>by
 obtain ⟨n,hl,hf⟩:=structZ Tryz.underlying47 h hw;rw [show Tryz.prog.cellsOf 47=6 by kernel_rfl] at hl;obtain ⟨c0,c1,c2,c3,c4,c5,rfl⟩:=list6 hl;obtain ⟨a0,e0,f0⟩:=fieldZ (D:=DStr) 0 rz_string cz_string (hf 0 _ rfl);obtain ⟨a1,e1,f1⟩:=fieldZ (D:=DInt) 1 rz_int cz_int (hf 1 _ rfl);obtain ⟨a2,e2,f2⟩:=fieldZ (D:=DInt) 2 rz_int cz_int (hf 2 _ rfl);obtain ⟨a3,e3,f3⟩:=fieldZ (D:=DStr) 3 rz_string cz_string (hf 3 _ rfl);obtain ⟨a4,e4⟩:=fieldZ (D:=LBool) 4 rz_bool cz_bool (hf 4 _ rfl);obtain ⟨a5,e5,f5⟩:=fieldZ (D:=DInt) 5 rz_int cz_int (hf 5 _ rfl);unfold LBool at e4;simp at e0 e1 e2 e3 e4 e5;subst e0 e1 e2 e3 e4 e5;exact ⟨⟨a0,a1,a2,a3,a4,a5⟩,rfl,f1,f2,f5,f0,f3⟩
theorem rz_flds : ReadsZ Tryz.prog 32 LFlds:=readsZ_slice Tryz.underlying32 (by kernel_rfl) (by kernel_rfl) (by decide) rz_fld
theorem rz_ints : ReadsZ Tryz.prog 33 LInts:=readsZ_slice Tryz.underlying33 (by kernel_rfl) (by kernel_rfl) (by decide) rz_int
theorem cz_flds : Tryz.prog.cellsOf 32=1:=by kernel_rfl
theorem cz_ints : Tryz.prog.cellsOf 33=1:=by kernel_rfl
theorem rz_msg : ReadsZ Tryz.prog 35 LMsg:=fun enc w base spare held fuel cs x h hw=>by
 obtain ⟨n,hl,hf⟩:=structZ Tryz.underlying35 h hw;rw [show Tryz.prog.cellsOf 35=3 by kernel_rfl] at hl;obtain ⟨c0,c1,c2,rfl⟩:=list3 hl;obtain ⟨a0,e0,f0⟩:=fieldZ (D:=DStr) 0 rz_string cz_string (hf 0 _ rfl);obtain ⟨a1,v1,e1,f1,g1⟩:=fieldZ (D:=LFlds) 1 rz_flds cz_flds (hf 1 _ rfl);obtain ⟨a2,v2,e2,f2,g2⟩:=fieldZ (D:=LInts) 2 rz_ints cz_ints (hf 2 _ rfl);simp at e0 e1 e2;subst e0 e1 e2;exact ⟨⟨a0,a1,a2⟩,⟨_,_,rfl,f1,f2,f0⟩,by show a1.length*64<=_;omega,by show a2.length*8<=_;omega⟩
theorem rz_itm : ReadsZ Tryz.prog 112 DItm:=fun enc w base spare held fuel cs x h hw=>by
 obtain ⟨n,hl,hf⟩:=structZ Tryz.underlying112 h hw;rw [show Tryz.prog.cellsOf 112=2 by kernel_rfl] at hl;obtain ⟨c0,c1,rfl⟩:=list2 hl;obtain ⟨a0,e0,f0⟩:=fieldZ (D:=DStr) 0 rz_string cz_string (hf 0 _ rfl);obtain ⟨a1,e1,f1⟩:=fieldZ (D:=DInt) 1 rz_int cz_int (hf 1 _ rfl);simp at e0 e1;subst e0 e1;exact ⟨⟨a0,a1⟩,rfl,f1,f0⟩
theorem rz_itms : ReadsZ Tryz.prog 95 LItms:=readsZ_slice Tryz.underlying95 (by kernel_rfl) (by kernel_rfl) (by decide) rz_itm
theorem cz_itms : Tryz.prog.cellsOf 95=1:=by kernel_rfl
theorem rz_enu : ReadsZ Tryz.prog 97 LEnu:=fun enc w base spare held fuel cs x h hw=>by
 obtain ⟨n,hl,hf⟩:=structZ Tryz.underlying97 h hw;rw [show Tryz.prog.cellsOf 97=2 by kernel_rfl] at hl;obtain ⟨c0,c1,rfl⟩:=list2 hl;obtain ⟨a0,e0,f0⟩:=fieldZ (D:=DStr) 0 rz_string cz_string (hf 0 _ rfl);obtain ⟨a1,v1,e1,f1,g1⟩:=fieldZ (D:=LItms) 1 rz_itms cz_itms (hf 1 _ rfl);simp at e0 e1;subst e0 e1;exact ⟨⟨a0,a1⟩,⟨_,rfl,f1,f0⟩,by show a1.length*24<=_;omega⟩
theorem rz_msgs : ReadsZ Tryz.prog 22 LMsgs:=readsZ_slice Tryz.underlying22 (by kernel_rfl) (by kernel_rfl) (by decide) rz_msg
theorem rz_enus : ReadsZ Tryz.prog 23 LEnus:=readsZ_slice Tryz.underlying23 (by kernel_rfl) (by kernel_rfl) (by decide) rz_enu
theorem cz_msgs : Tryz.prog.cellsOf 22=1:=by kernel_rfl
theorem cz_enus : Tryz.prog.cellsOf 23=1:=by kernel_rfl
theorem rz_file : ReadsZ Tryz.prog 25 (fun S w f cs=>∃ vm ve,cs=[vm,ve]/\FilV S w (.agg #[vm,ve]) f/\FilSz f):=fun enc w base spare held fuel cs x h hw=>by
 obtain ⟨n,hl,hf⟩:=structZ Tryz.underlying25 h hw;rw [show Tryz.prog.cellsOf 25=2 by kernel_rfl] at hl;obtain ⟨c0,c1,rfl⟩:=list2 hl;obtain ⟨a0,v0,e0,f0,g0⟩:=fieldZ (D:=LMsgs) 0 rz_msgs cz_msgs (hf 0 _ rfl);obtain ⟨a1,v1,e1,f1,g1⟩:=fieldZ (D:=LEnus) 1 rz_enus cz_enus (hf 1 _ rfl);simp at e0 e1;subst e0 e1;have h0:=RdS.both f0;have h1:=RdS.both f1;exact ⟨⟨a0,a1⟩,_,_,rfl,⟨_,_,rfl,h0.1,h1.1⟩,by show a0.length*64<=_;omega,by show a1.length*40<=_;omega,h0.2,h1.2⟩
instance : Inhabited Rec:=⟨rec0⟩
theorem list4 {α:Type} {l:List α} (h:l.length=4):∃ a b c d,l=[a,b,c,d]:=by
 match l,h with
 |[a,b,c,d],_=>exact ⟨a,b,c,d,rfl⟩
theorem cells_rec : Tryz.prog.cellsOf 87=4:=by kernel_rfl
theorem cells_int : Tryz.prog.cellsOf 3=1:=by kernel_rfl
theorem cells_u64 : Tryz.prog.cellsOf 72=1:=by kernel_rfl
theorem cells_bytes : Tryz.prog.cellsOf 30=1:=by kernel_rfl
theorem bulk_one {H:Type} (d:DataW H):1<=Rows.uptoBulk d:=by
 cases d with
 |lit l=>cases l <;> simp [Rows.uptoBulk]
 |nil=>simp [Rows.uptoBulk]
 |ptr d=>simp [Rows.uptoBulk]
 |slice elems spare=>simp [Rows.uptoBulk]
 |agg parts=>simp [Rows.uptoBulk]
 |iface t d=>simp [Rows.uptoBulk]
 |map entries=>simp [Rows.uptoBulk]
 |held h=>simp [Rows.uptoBulk]
theorem bulk_part {H:Type} {d:DataW H} {l:List (DataW H)} (h:d∈l):Rows.uptoBulk d<=Rows.uptoBulkAll l:=by
 induction l with
 |nil=>cases h
 |cons x r ih =>
  simp only [Rows.uptoBulkAll]
  cases List.mem_cons.1 h with
  |inl e=>subst e;omega
  |inr e=>have:=ih e;omega
theorem bulk_length {H:Type} (l:List (DataW H)):l.length<=Rows.uptoBulkAll l:=by
 induction l with
 |nil=>simp [Rows.uptoBulkAll]
 |cons x r ih=>have:=bulk_one x;simp only [Rows.uptoBulkAll,List.length_cons];omega
def ReadsU {α:Type} (M:Nat) (P:Program) (t:TypeId) (D:Lay α):Prop :=
 ∀ {H:Type} (enc:TypeId × Value->H) (w:World) (base:Nat) (spare:Nat->Bool) (held:Bool) (fuel:Nat) (cs:List Value) (x:DataW H × List MemPlace),DataW.trod enc P w base spare held fuel t cs=some x->Rows.uptoBulk x.1<=M->∃ a:α,D All w a cs
theorem Reads.u {α:Type} {M:Nat} {P:Program} {t:TypeId} {D:Lay α} (h:Reads P t D):ReadsU M P t D:=fun enc w base spare held fuel cs x hx _=>h enc w base spare held fuel cs x hx
theorem readsU_slice {α:Type} [Inhabited α] {D:Lay α} {P:Program} {t e:TypeId} {size M:Nat} (ht:P.underlying t=some (.slice e)) (hs:P.cellsOf e=size) (hp:0<size) (he:ReadsU M P e D):ReadsU M P t (fun S w l cs=>∃ v,cs=[v]/\RdS D size S w v l/\l.length<=M):=fun enc w base spare held fuel cs x h hw=>by
 rcases Go.Deep.open_slice ht h with ⟨rfl,_⟩|⟨a,len,cap,m,n,Dt,Pl,rfl,hb,hl,hm,hmm,rfl,hel⟩
 ·exact ⟨[],_,rfl,⟨none,0,rfl,by simp,by unfold maxLen;omega,fun _=>rfl,fun i hi=>by simp at hi⟩,by simp⟩
 ·(have hlm:len<=m:=by rw [hmm];split <;> omega);simp only [Rows.uptoBulk] at hw
  have hz:∀ i,i<len->Rows.uptoBulk (Dt i)<=M:=fun i hi=>by
   have:=bulk_part (d:=Dt i) (l:=(List.range len).map Dt) (List.mem_map.2 ⟨i,List.mem_range.2 hi,rfl⟩);omega
  have hlen:len<=M:=by
   have:=bulk_length ((List.range len).map Dt);simp only [List.length_map,List.length_range] at this;omega
  obtain ⟨f,hf⟩:=Go.Deep.choose_lt (α:=α × List Value) (n:=len) (p:=fun i ac=>ac.2.length=size/\(∀ j u,ac.2[j]? = some u->w.cell? ((a.add (i*size)).add j)=some u)/\D All w ac.1 ac.2) (fun i hi=>by
   obtain ⟨cs',h1,h2⟩:=hel i (by omega);rw [hs] at h1;obtain ⟨h3,h4⟩:=cells?_at h1;obtain ⟨y,hy⟩:=he enc w base spare held n cs' _ h2 (hz i hi);exact ⟨(y,cs'),h3,h4,hy⟩)
  refine ⟨(List.range len).map fun i=>(f i).1,_,rfl,⟨some a,cap,by simp,by simpa using hl,hm,(fun e=>nomatch e),fun i hi=>?_⟩,by simpa using hlen⟩;have hi':i<len:=by simpa using hi
  have hspot:a.spot=none:=by
   have h0:=hf 0 (by omega);obtain ⟨u,hu⟩:∃ u,(f 0).2[0]? = some u:=⟨_,List.getElem?_eq_getElem (by omega)⟩;have:=h0.2.1 0 u hu;(have e:(a.add (0*size)).add 0=a:=by simp [Addr.add]);rw [e] at this;exact World.cell?_spot this
  obtain ⟨b,o,spot⟩:=a;simp only at hspot;subst hspot;have hfi:=hf i hi'
  have hcell:∀ j u,(f i).2[j]? = some u->w.cell? ⟨b,o+i*size+j,none⟩=some u:=fun j u hu=>by
   have:=hfi.2.1 j u hu
   rwa [Go.WideShapes.add_plain,Go.WideShapes.add_plain] at this
  obtain ⟨u,hu⟩:∃ u,(f i).2[0]? = some u:=⟨_,List.getElem?_eq_getElem (by omega)⟩;exact ⟨b,o,(f i).2,rfl,trivial,World.block_lt_of_cell? w _ (hcell 0 u hu),hfi.1,hcell,by simpa using hfi.2.2⟩
theorem ReadsU.le {α:Type} {M N:Nat} {P:Program} {t:TypeId} {D:Lay α} (h:ReadsU M P t D) (k:N<=M):ReadsU N P t D:=fun enc w base spare held fuel cs x hx hw=>h enc w base spare held fuel cs x hx (Nat.le_trans hw k)
def LU64s (M:Nat):Lay (List Nat):=fun S w l cs=>∃ v,cs=[v]/\RdS DU64 1 S w v l/\l.length<=M
def LByts (M:Nat):Lay (List (List UInt8)):=fun S w l cs=>∃ v,cs=[v]/\RdS DBytes 1 S w v l/\l.length<=M
def LRecs (M:Nat):Lay (List Rec):=fun S w l cs=>∃ v,cs=[v]/\RdS DRecZ 4 S w v l/\l.length<=M
theorem cu_u64s : Tryz.prog.cellsOf 67=1:=by kernel_rfl
theorem cu_byts : Tryz.prog.cellsOf 68=1:=by kernel_rfl
theorem cu_bods : Tryz.prog.cellsOf 69=1:=by kernel_rfl
theorem cu_vals : Tryz.prog.cellsOf 26=1:=by kernel_rfl
theorem cu_recs : Tryz.prog.cellsOf 27=1:=by kernel_rfl
theorem ru_int {M:Nat}:ReadsU M Tryz.prog 3 DInt:=Reads.u (reads_int Tryz.underlying3)
theorem ru_u64 {M:Nat}:ReadsU M Tryz.prog 72 DU64:=Reads.u (reads_u64 Tryz.underlying72)
theorem ru_bytes {M:Nat}:ReadsU M Tryz.prog 30 (fun S w l cs=>∃ v,cs=[v]/\RdS DU8 1 S w v l/\l.length<=M):=readsU_slice Tryz.underlying30 (by kernel_rfl) (by decide) (Reads.u (reads_u8 Tryz.underlying5))
def UBod (M:Nat):Lay Bod:=fun S w b cs=>DBodF M S w b cs/\∀ k,UnkLe 1048576 k b
def UVal (M:Nat):Lay Val:=fun S w x cs=>DValD M S w x cs/\∀ b∈x.2.2.2,∀ k,UnkLe 1048576 k b
def LBods (M:Nat):Lay (List Bod):=fun S w l cs=>∃ v,cs=[v]/\RdS (UBod M) 2 S w v l/\l.length<=M
def LVals (M:Nat):Lay (List Val):=fun S w l cs=>∃ v,cs=[v]/\RdS (UVal M) 4 S w v l/\l.length<=M
instance : Inhabited Val:=⟨val0⟩
def ReadsQ {α:Type} (M:Nat) (P:Program) (t:TypeId) (D:Lay α) (g:Nat->α->Nat):Prop :=
 ∀ {H:Type} (enc:TypeId × Value->H) (w:World) (base:Nat) (spare:Nat->Bool) (held:Bool) (fuel:Nat) (cs:List Value) (x:DataW H × List MemPlace),DataW.trod enc P w base spare held fuel t cs=some x->Rows.uptoBulk x.1<=M->∃ a:α,D All w a cs/\∀ k,g k a+25<=25*Rows.uptoBulk x.1
theorem ReadsU.q {α:Type} {M:Nat} {P:Program} {t:TypeId} {D:Lay α} (h:ReadsU M P t D):ReadsQ M P t D (fun _ _=>0):=fun enc w base spare held fuel cs x hx hw=>by
 obtain ⟨a,ha⟩:=h enc w base spare held fuel cs x hx hw;have:=bulk_one x.1;exact ⟨a,ha,fun k=>by show 0+25<=_;omega⟩
theorem ReadsQ.le {α:Type} {M N:Nat} {P:Program} {t:TypeId} {D:Lay α} {g:Nat->α->Nat} (h:ReadsQ M P t D g) (k:N<=M):ReadsQ N P t D g:=fun enc w base spare held fuel cs x hx hw=>h enc w base spare held fuel cs x hx (Nat.le_trans hw k)
theorem bulk_sum {H:Type} (Dt:Nat->DataW H) (g:Nat->Nat):∀ n,(∀ i,i<n->g i<=25*Rows.uptoBulk (Dt i))->((List.range n).map g).sum<=25*Rows.uptoBulkAll ((List.range n).map Dt):=by
 have happ:∀ (l r:List (DataW H)),Rows.uptoBulkAll (l++r)=Rows.uptoBulkAll l+Rows.uptoBulkAll r:=by
  intro l r
  induction l with
  |nil=>simp [Rows.uptoBulkAll]
  |cons a l ih=>simp only [List.cons_append,Rows.uptoBulkAll,ih];omega
 intro n
 induction n with
 |zero=>intro _;simp [Rows.uptoBulkAll]
 |succ n ih =>
  intro h;have h1:=ih (fun i hi=>h i (by omega));have h2:=h n (by omega);rw [List.range_succ,List.map_append,List.map_append,happ,sum_append];simp only [List.map_cons,List.map_nil,List.sum_cons,List.sum_nil,Rows.uptoBulkAll];omega
theorem readsQ_slice {α:Type} [Inhabited α] {D:Lay α} {P:Program} {t e:TypeId} {size M:Nat} {g:Nat->α->Nat} (ht:P.underlying t=some (.slice e)) (hs:P.cellsOf e=size) (hp:0<size) (he:ReadsQ M P e D g):ReadsQ M P t (fun S w l cs=>∃ v,cs=[v]/\RdS D size S w v l/\l.length<=M) (fun k l=>(l.map fun a=>g k a+25).sum):=fun enc w base spare held fuel cs x h hw=>by
 rcases Go.Deep.open_slice ht h with ⟨rfl,_⟩|⟨a,len,cap,m,n,Dt,Pl,rfl,hb,hl,hm,hmm,rfl,hel⟩
 ·have:=bulk_one x.1;exact ⟨[],⟨_,rfl,⟨none,0,rfl,by simp,by unfold maxLen;omega,fun _=>rfl,fun i hi=>by simp at hi⟩,by simp⟩,fun k=>by simp;omega⟩
 ·(have hlm:len<=m:=by rw [hmm];split <;> omega);simp only [Rows.uptoBulk] at hw
  have hz:∀ i,i<len->Rows.uptoBulk (Dt i)<=M:=fun i hi=>by
   have:=bulk_part (d:=Dt i) (l:=(List.range len).map Dt) (List.mem_map.2 ⟨i,List.mem_range.2 hi,rfl⟩);omega
  have hlen:len<=M:=by
   have:=bulk_length ((List.range len).map Dt);simp only [List.length_map,List.length_range] at this;omega
  obtain ⟨f,hf⟩:=Go.Deep.choose_lt (α:=α × List Value) (n:=len) (p:=fun i ac=>ac.2.length=size/\(∀ j u,ac.2[j]? = some u->w.cell? ((a.add (i*size)).add j)=some u)/\D All w ac.1 ac.2/\∀ k,g k ac.1+25<=25*Rows.uptoBulk (Dt i)) (fun i hi=>by
   obtain ⟨cs',h1,h2⟩:=hel i (by omega);rw [hs] at h1;obtain ⟨h3,h4⟩:=cells?_at h1;obtain ⟨y,hy,hyw⟩:=he enc w base spare held n cs' _ h2 (hz i hi);exact ⟨(y,cs'),h3,h4,hy,hyw⟩)
  refine ⟨(List.range len).map fun i=>(f i).1,⟨_,rfl,⟨some a,cap,by simp,by simpa using hl,hm,(fun e=>nomatch e),fun i hi=>?_⟩,by simpa using hlen⟩,fun k=>?_⟩
  ·have hi':i<len:=by simpa using hi
   have hspot:a.spot=none:=by
    have h0:=hf 0 (by omega);obtain ⟨u,hu⟩:∃ u,(f 0).2[0]? = some u:=⟨_,List.getElem?_eq_getElem (by omega)⟩;have:=h0.2.1 0 u hu;(have e:(a.add (0*size)).add 0=a:=by simp [Addr.add]);rw [e] at this;exact World.cell?_spot this
   obtain ⟨b,o,spot⟩:=a;simp only at hspot;subst hspot;have hfi:=hf i hi'
   have hcell:∀ j u,(f i).2[j]? = some u->w.cell? ⟨b,o+i*size+j,none⟩=some u:=fun j u hu=>by
    have:=hfi.2.1 j u hu
    rwa [Go.WideShapes.add_plain,Go.WideShapes.add_plain] at this
   obtain ⟨u,hu⟩:∃ u,(f i).2[0]? = some u:=⟨_,List.getElem?_eq_getElem (by omega)⟩;exact ⟨b,o,(f i).2,rfl,trivial,World.block_lt_of_cell? w _ (hcell 0 u hu),hfi.1,hcell,by simpa using hfi.2.2.1⟩
  ·have:=bulk_sum Dt (fun i=>g k (f i).1+25) len (fun i hi=>(hf i hi).2.2.2 k);simp only [Rows.uptoBulk,List.map_map];show ((List.range len).map (fun i=>g k (f i).1+25)).sum+25<=_;omega
theorem structQ {H:Type} {enc:TypeId × Value->H} {P:Program} {w:World} {base:Nat} {spare:Nat->Bool} {held:Bool} {t:TypeId} {fs:Array Field} {fuel:Nat} {cs:List Value} {x:DataW H × List MemPlace} (ht:P.underlying t=some (.struct fs)) (h:DataW.trod enc P w base spare held fuel t cs=some x) :
  ∃ (n:Nat) (xs:List (DataW H × List MemPlace)),cs.length=P.cellsOf t/\xs.length=fs.size/\Rows.uptoBulk x.1=Rows.uptoBulkAll (xs.map (·.1))+1/\∀ (i:Nat) (f:Field) (y:DataW H × List MemPlace),fs[i]? = some f->xs[i]? = some y->DataW.trod enc P w base spare held n f.type ((cs.drop f.offset).take (P.cellsOf f.type))=some y:=by
 obtain ⟨xs,n,_,rfl,hl,hlen,hf⟩:=DataW.trod_struct ht h;refine ⟨n,xs,hl,hlen,by simp only [Rows.uptoBulk],fun i f y hi hy=>?_⟩;have h1:=hf i f hi;rw [hy] at h1;exact h1
theorem fieldQ {α:Type} {D:Lay α} {g:Nat->α->Nat} {H:Type} {enc:TypeId × Value->H} {P:Program} {w:World} {base:Nat} {spare:Nat->Bool} {held:Bool} {t:TypeId} {n M:Nat} {cs:List Value} {y:DataW H × List MemPlace} (o:Nat) (hr:ReadsQ M P t D g) (hc:P.cellsOf t=1)
  (h:DataW.trod enc P w base spare held n t ((cs.drop o).take (P.cellsOf t))=some y) (hM:Rows.uptoBulk y.1<=M):∃ a:α,D All w a ((cs.drop o).take 1)/\∀ k,g k a+25<=25*Rows.uptoBulk y.1:=by
 rw [hc] at h;exact hr _ _ _ _ _ _ _ _ h hM
theorem list2' {α:Type} {l:List α} (h:l.length=2):∃ a b,l=[a,b]:=list2 h
theorem rq_u64s {M:Nat}:ReadsQ M Tryz.prog 67 (LU64s M) (fun _ l=>25*l.length):=fun enc w base spare held fuel cs x h hw=>by
 obtain ⟨l,h1,h2⟩:=readsQ_slice (size:=1) (M:=M) Tryz.underlying67 (by kernel_rfl) (by decide) ru_u64.q enc w base spare held fuel cs x h hw;refine ⟨l,h1,fun k=>?_⟩;have:=h2 k;simp only [Nat.zero_add] at this;rw [sum_25] at this;exact this
theorem sum_le {α:Type} (g h:α->Nat):∀ l:List α,(∀ a∈l,g a<=h a)->(l.map g).sum<=(l.map h).sum
 |[],_=>Nat.le_refl _
 |a::l,k=>by
  have:=sum_le g h l (fun b hb=>k b (List.mem_cons_of_mem _ hb));have:=k a List.mem_cons_self;simp only [List.map_cons,List.sum_cons];omega
theorem rq_byt {M:Nat} (hM:M<=1048576):ReadsQ M Tryz.prog 30 DBytes (fun _ l=>l.length):=fun enc w base spare held fuel cs x h hw=>by
 obtain ⟨l,⟨v,h1,h2,h3⟩,h4⟩:=readsQ_slice (size:=1) (M:=M) Tryz.underlying30 (by kernel_rfl) (by decide) (ReadsU.q (Reads.u (reads_u8 Tryz.underlying5))) enc w base spare held fuel cs x h hw;refine ⟨l,⟨v,h1,h2,by omega⟩,fun k=>?_⟩;have:=h4 k;simp only [Nat.zero_add] at this
 have e:∀ l:List UInt8,(l.map fun _=>25).sum=25*l.length:=by
  intro l
  induction l with
  |nil=>rfl
  |cons a l ih=>simp only [List.map_cons,List.sum_cons,List.length_cons,ih];omega
 rw [e] at this;show l.length+25<=_;omega
theorem rq_byts {M:Nat} (hM:M<=1048576):ReadsQ M Tryz.prog 68 (LByts M) (fun _ l=>(l.map fun t=>t.length+25).sum):=readsQ_slice Tryz.underlying68 (by kernel_rfl) (by decide) (rq_byt hM)
theorem rq_rec {M:Nat} (hM:M<=1048576):ReadsQ M Tryz.prog 87 DRecZ (fun _ r=>r.bytes.length):=fun enc w base spare held fuel cs x h hw=>by
 obtain ⟨n,xs,hl,hxs,hb,hf⟩:=structQ Tryz.underlying87 h;rw [cells_rec] at hl;obtain ⟨c0,c1,c2,c3,rfl⟩:=list4 hl;obtain ⟨x0,x1,x2,x3,rfl⟩:=list4 (hxs.trans (by rfl));simp only [List.map_cons,List.map_nil,Rows.uptoBulkAll] at hb;obtain ⟨a0,e0,f0⟩:=fieldQ (M:=M) (D:=DInt) 0 ru_int.q cells_int (hf 0 _ _ rfl rfl) (by omega);obtain ⟨a1,e1,f1⟩:=fieldQ (M:=M) (D:=DInt) 1 ru_int.q cells_int (hf 1 _ _ rfl rfl) (by omega);obtain ⟨a2,⟨e2,e2'⟩,f2⟩:=fieldQ (M:=M) (D:=DU64) 2 ru_u64.q cells_u64 (hf 2 _ _ rfl rfl) (by omega);obtain ⟨a3,⟨v,e3,f3,g3⟩,h3⟩:=fieldQ (M:=M) (D:=DBytes) 3 (rq_byt hM) cells_bytes (hf 3 _ _ rfl rfl) (by omega);obtain ⟨e0,e0'⟩:=e0;obtain ⟨e1,e1'⟩:=e1;simp at e0 e1 e2 e3;subst e0 e1 e2 e3;exact ⟨⟨a0,a1,a2,a3⟩,⟨⟨_,rfl,f3,e2'⟩,g3⟩,fun k=>by have:=h3 k;show a3.length+25<=_;omega⟩
theorem rq_recs {M:Nat} (hM:M<=1048576):ReadsQ M Tryz.prog 27 (LRecs M) (fun _ l=>wgtU l):=readsQ_slice Tryz.underlying27 cells_rec (by decide) (rq_rec hM)
theorem rq_bods {M:Nat} (ih:ReadsQ M Tryz.prog 29 (UBod M) wgt):ReadsQ M Tryz.prog 69 (LBods M) (fun k l=>(l.map fun s=>wgt k s+25).sum):=readsQ_slice Tryz.underlying69 (by kernel_rfl) (by decide) ih
theorem rq_val {M:Nat} (hM:M<=1048576) (ih:ReadsQ M Tryz.prog 29 (UBod M) wgt):ReadsQ M Tryz.prog 71 (UVal M) (fun k v=>wgtV (wgt k) v):=fun enc w base spare held fuel cs x h hw=>by
 obtain ⟨n,xs,hl,hxs,hb,hf⟩:=structQ Tryz.underlying71 h;rw [show Tryz.prog.cellsOf 71=4 by kernel_rfl] at hl;obtain ⟨c0,c1,c2,c3,rfl⟩:=list4 hl;obtain ⟨x0,x1,x2,x3,rfl⟩:=list4 (hxs.trans (by rfl));simp only [List.map_cons,List.map_nil,Rows.uptoBulkAll] at hb;obtain ⟨a0,⟨e0,e0'⟩,f0⟩:=fieldQ (M:=M) (D:=DInt) 0 ru_int.q cells_int (hf 0 _ _ rfl rfl) (by omega);obtain ⟨a1,⟨v1,e1,f1,g1⟩,q1⟩:=fieldQ (M:=M) (D:=LU64s M) 1 rq_u64s cu_u64s (hf 1 _ _ rfl rfl) (by omega);obtain ⟨a2,⟨v2,e2,f2,g2⟩,q2⟩:=fieldQ (M:=M) (D:=LByts M) 2 (rq_byts hM) cu_byts (hf 2 _ _ rfl rfl) (by omega);obtain ⟨a3,⟨v3,e3,f3,g3⟩,q3⟩:=fieldQ (M:=M) (D:=LBods M) 3 (rq_bods ih) cu_bods (hf 3 _ _ rfl rfl) (by omega);simp at e0 e1 e2 e3;subst e0 e1 e2 e3;have h3:=RdS.both f3;refine ⟨(a0,a1,a2,a3),⟨⟨_,_,_,rfl,e0',f1,f2,h3.1,by show a1.length*8<=_/\a2.length*24<=_/\a3.length*48<=_;omega⟩,h3.2⟩,fun k=>?_⟩;have:=q1 k;have:=q2 k;have:=q3 k;show 25*a1.length+((a2.map fun t=>t.length+25).sum+(a3.map fun s=>wgt k s+25).sum)+25<=_;omega
theorem rq_vals {M:Nat} (ih:ReadsQ M Tryz.prog 71 (UVal M) (fun k v=>wgtV (wgt k) v)):ReadsQ M Tryz.prog 26 (LVals M) (fun k l=>(l.map fun v=>wgtV (wgt k) v+25).sum):=readsQ_slice Tryz.underlying26 (by kernel_rfl) (by decide) ih
theorem rq_bod : ∀ {M:Nat},M<=1048576->ReadsQ M Tryz.prog 29 (UBod M) wgt
 |0,_=>fun enc w base spare held fuel cs x h hw=>by have:=bulk_one x.1;omega
 |M+1,hM=>fun enc w base spare held fuel cs x h hw=>by
  obtain ⟨n,xs,hl,hxs,hb,hf⟩:=structQ Tryz.underlying29 h;rw [show Tryz.prog.cellsOf 29=2 by kernel_rfl] at hl;obtain ⟨c0,c1,rfl⟩:=list2 hl;obtain ⟨x0,x1,rfl⟩:=list2' (hxs.trans (by rfl));simp only [List.map_cons,List.map_nil,Rows.uptoBulkAll] at hb;obtain ⟨a0,⟨v0,e0,f0,g0⟩,q0⟩:=fieldQ (M:=M) (D:=LVals M) 0 (rq_vals (rq_val (by omega) (rq_bod (M:=M) (by omega)))) cu_vals (hf 0 _ _ rfl rfl) (by omega);obtain ⟨a1,⟨v1,e1,f1,g1⟩,q1⟩:=fieldQ (M:=M) (D:=LRecs M) 1 (rq_recs (by omega)) cu_recs (hf 1 _ _ rfl rfl) (by omega);simp at e0 e1;subst e0 e1;have h0:=RdS.both f0;refine ⟨.mk a0 a1,⟨⟨_,_,rfl,h0.1,f1,by unfold BodSz Bod.values Bod.unknown;simp only;omega⟩,fun k=>?_⟩,fun k=>?_⟩
  ·cases k with
   |zero=>exact (show a1.length<=_ by omega)
   |succ k=>exact ⟨show a1.length<=_ by omega,fun v hv s hs=>h0.2 v hv s hs k⟩
  ·cases k with
   |zero =>
    show 0+25<=_;omega
   |succ k =>
    have h1:=q0 k;have h2:=q1 k;have h3:=sum_le (wgtV (wgt k)) (fun v=>wgtV (wgt k) v+25) a0 (fun a _=>Nat.le_add_right _ _);show (a0.map (wgtV (wgt k))).sum+wgtU a1+25<=_;omega
end Go.Proofs.YtbceccblepckhaaGreatDoor
