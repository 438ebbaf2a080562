/-
  syntax.Words, link.free; pressref1.Words.
  Bodies: what they are, and how they lie.
  What is wrong with a file, in plain Lean.
  How many choices begin: one field more.
  The first thing that is wrong with a file, phase by phase.
  What is wrong with a body, in plain Lean.
  A body's records and bytes, in plain Lean.
  pressref3.How: a map that is written out, then asked.
  The walks of package wire's numbers: Put.
-/
import Derived.Test.YtbceccblepckhaaGreatDoorCt06
import Derived.Test.YtbceccblepckhaaGreatDoorCt04
import Derived.Lib.ValidAsc
import Derived.Maps.OwnOps
import Derived.Maps.OwnSet
import Derived.Maps.Keyed
set_option maxHeartbeats 1600000
set_option linter.unusedVariables false
namespace Go.Proofs.YtbceccblepckhaaGreatDoor
open Go.RowKit
set_option maxRecDepth 100000
open Lib (hid)
def wInt64 : List UInt8:=[105,110,116,54,52]
def wSint64 : List UInt8:=[115,105,110,116,54,52]
def wUint64 : List UInt8:=[117,105,110,116,54,52]
def wBool : List UInt8:=[98,111,111,108]
def wFixed64 : List UInt8:=[102,105,120,101,100,54,52]
def wFixed32 : List UInt8:=[102,105,120,101,100,51,50]
def wString : List UInt8:=[115,116,114,105,110,103]
def wBytes : List UInt8:=[98,121,116,101,115]
def wRepeated : List UInt8:=[114,101,112,101,97,116,101,100]
def wReserved : List UInt8:=[114,101,115,101,114,118,101,100]
def wOneof : List UInt8:=[111,110,101,111,102]
def words : List (List UInt8):=[wInt64,wSint64,wUint64,wBool,[],wFixed64,wFixed32,wString,wBytes]
def wordsV : List Value:=words.map fun s=>.string ⟨s.toArray⟩
def freeN (s:List UInt8):Bool:=named s && !(words++[wRepeated,wReserved,wOneof]).any (fun x=>s==x)
theorem words_rd (w:World) (e:TypeId):RdS DStr 1 All (w.alloc (.cells wordsV.toArray e)) (.slice (some ⟨w.heap.size,0,none⟩) 9 9) words:=by
 refine rdS_of_block words (words.map fun s=>[.string ⟨s.toArray⟩]) (blk_new w _ rfl) ?_ trivial (by rfl) (fun i hi=>⟨[.string ⟨words[i].toArray⟩],by simp [hi],rfl,rfl,?_⟩) rfl (Nat.le_refl _) (by unfold maxLen;omega)
 ·rfl
 ·(have h:∀ x∈words,x.length<=140737488355328:=by decide);exact h _ (List.getElem_mem hi)
theorem words_s (w:World) :
  Calls Tryz.prog 81 #[] w fun e w'=>e=.returned (.slice (some ⟨w.heap.size,0,none⟩) 9 9)/\w'=w.alloc (.cells wordsV.toArray 9):=by
 go_enter Tryz.func81,Tryz.ntmps81
 go_wp2_with fail
 go_ret
 exact ⟨rfl,rfl⟩
theorem words_r (w:World) :
  Calls Tryz.prog 102 #[] w fun e w'=>e=.returned (.slice (some ⟨w.heap.size,0,none⟩) 9 9)/\w'=w.alloc (.cells wordsV.toArray 9):=by
 go_enter Tryz.func102,Tryz.ntmps102
 go_wp2_with fail
 go_ret
 exact ⟨rfl,rfl⟩
theorem free_l (s:List UInt8) (w:World) :
  Calls Tryz.prog 37 #[.string ⟨s.toArray⟩] w fun e w'=>e=.returned (.bool (freeN s))/\Up w w':=by
 have hn:=named_s ⟨s.toArray⟩ w;simp only at hn
 cases hnn:named s with
 |false =>
  rw [hnn] at hn;have Hn:=hid hn;clear hn
  go_enter Tryz.func37,Tryz.ntmps37
  go_wp2_with (first
   |(go_at_call 80;go_must (refine Hn.out.mono ?_;rintro e w1 ⟨rfl,hu1⟩)))
  go_ret
  exact ⟨ret_bool (by simp [freeN,hnn]),hu1⟩
 |true =>
  rw [hnn] at hn;have Hn:=hid hn;clear hn
  have hf:freeN s=(!(words.any (fun x=>s==x)) && (!(s==wRepeated) && (!(s==wReserved) && !(s==wOneof)))):=by
   unfold freeN;rw [hnn,List.any_append];simp only [List.any_cons,List.any_nil,Bool.true_and,Bool.or_false,Bool.not_or]
  have Hf:=hid hf;clear hf
  go_enter Tryz.func37,Tryz.ntmps37
  go_wp2_with (first
   |(go_at_call 80;go_must (refine Hn.out.mono ?_;rintro e w1 ⟨rfl,hu1⟩))
   |(go_at_call 81;go_must (refine (words_s w1).mono ?_;rintro e w2 ⟨rfl,rfl⟩))
   |(go_at_call 38;go_must (refine (contains_str _ words s _ (words_rd w1 _)).mono ?_;rintro e w3 ⟨rfl,rfl⟩;generalize words.any (fun x=>s==x)=c at *)))
  all_goals
   clear Hn
   go_ret
   refine ⟨ret_bool ?_,hu1.alloc _⟩;rw [Hf.out]
   simp_all [wRepeated,wReserved,wOneof]
   try rw [Bool.and_assoc]
theorem eStr : Elem Tryz.prog 94 9 1 16 (.string .empty):=⟨Tryz.underlying94,info_parts (by kernel_rfl),rfl,by decide⟩
end Go.Proofs.YtbceccblepckhaaGreatDoor
namespace Go.Proofs.YtbceccblepckhaaGreatDoor
open Go.RowKit
inductive Bod where
 |mk (values:List (Int × List Nat × List (List UInt8) × List Bod)) (unknown:List Rec):Bod
abbrev Val : Type:=Int × List Nat × List (List UInt8) × List Bod
def Bod.values : Bod->List Val|.mk v _=>v
def Bod.unknown : Bod->List Rec|.mk _ u=>u
def bod0 : Bod:=.mk [] []
instance : Inhabited Bod:=⟨bod0⟩
abbrev Val.num (x:Val):Int:=x.1
abbrev Val.bits (x:Val):List Nat:=x.2.1
abbrev Val.bytes (x:Val):List (List UInt8):=x.2.2.1
abbrev Val.subs (x:Val):List Bod:=x.2.2.2
def val0 : Val:=(0,[],[],[])
def DBytes : Lay (List UInt8):=fun S w l cs=>∃ v,cs=[v]/\RdB S w v l/\l.length<=140737488355328
theorem stable_bytes : Stable DBytes:=by
 rintro S w S' w' l cs k ⟨v,rfl,h,hz⟩;exact ⟨v,rfl,h.keep stable_u8 k,hz⟩
def DRecZ : Lay Rec:=fun S w r cs=>DRec S w r cs/\r.bytes.length<=140737488355328
theorem stable_recz : Stable DRecZ:=fun S w S' w' r cs k h=>⟨stable_rec S w S' w' r cs k h.1,h.2⟩
def ValSz (x:Val):Prop:=x.2.1.length*8<=140737488355328/\x.2.2.1.length*24<=140737488355328/\x.2.2.2.length*48<=140737488355328
def BodSz (b:Bod):Prop:=b.values.length*80<=140737488355328/\b.unknown.length*48<=140737488355328
def DValF (DB:Lay Bod):Lay Val:=fun S w x cs=>∃ vb vy vs,cs=[.int .i64 x.1,vb,vy,vs]/\okI x.1/\RdS DU64 1 S w vb x.2.1/\RdS DBytes 1 S w vy x.2.2.1/\RdS DB 2 S w vs x.2.2.2/\ValSz x
def DBodF : Nat->Lay Bod
 |0=>fun _ _ _ _=>False
 |d+1=>fun S w b cs=>∃ vv vu,cs=[vv,vu]/\RdS (DValF (DBodF d)) 4 S w vv b.values/\RdS DRecZ 4 S w vu b.unknown/\BodSz b
abbrev DValD (d:Nat):Lay Val:=DValF (DBodF d)
theorem stable_valF {DB:Lay Bod} (h:Stable DB):Stable (DValF DB):=by
 rintro S w S' w' x cs k ⟨vb,vy,vs,rfl,h0,h1,h2,h3,hz⟩;exact ⟨vb,vy,vs,rfl,h0,h1.keep stable_u64 k,h2.keep stable_bytes k,h3.keep h k,hz⟩
theorem stable_bod : ∀ d,Stable (DBodF d)
 |0=>fun _ _ _ _ _ _ _ h=>h
 |d+1=>by
  rintro S w S' w' b cs k ⟨vv,vu,rfl,h0,h1,hz⟩;exact ⟨vv,vu,rfl,h0.keep (stable_valF (stable_bod d)) k,h1.keep stable_recz k,hz⟩
theorem stable_val (d:Nat):Stable (DValD d):=stable_valF (stable_bod d)
theorem RdS.imp {α:Type} {D D':Lay α} {size:Nat} {S:Nat->Prop} {w:World} {v:Value} {l:List α} (h:RdS D size S w v l) (f:∀ a∈l,∀ cs,D S w a cs->D' S w a cs):RdS D' size S w v l:=by
 obtain ⟨ao,cap,hv,h1,h2,h3,h4⟩:=h;refine ⟨ao,cap,hv,h1,h2,h3,fun i hi=>?_⟩;obtain ⟨b,o,cs,e1,e2,e3,e4,e5,e6⟩:=h4 i hi;exact ⟨b,o,cs,e1,e2,e3,e4,e5,f _ (List.getElem_mem hi) _ e6⟩
theorem val_cells {d:Nat} {S:Nat->Prop} {w:World} {x:Val} {cs:List Value} (h:DValD d S w x cs):∃ a1 c1 a2 c2 a3 c3,cs=[.int .i64 x.1,.slice a1 x.2.1.length c1,.slice a2 x.2.2.1.length c2,.slice a3 x.2.2.2.length c3] /\
  okI x.1/\RdS DU64 1 S w (.slice a1 x.2.1.length c1) x.2.1/\RdS DBytes 1 S w (.slice a2 x.2.2.1.length c2) x.2.2.1/\RdS (DBodF d) 2 S w (.slice a3 x.2.2.2.length c3) x.2.2.2/\ValSz x:=by
 obtain ⟨vb,vy,vs,rfl,h0,h1,h2,h3,hz⟩:=h;obtain ⟨a1,c1,rfl,_,_⟩:=h1.val;obtain ⟨a2,c2,rfl,_,_⟩:=h2.val;obtain ⟨a3,c3,rfl,_,_⟩:=h3.val;exact ⟨a1,c1,a2,c2,a3,c3,rfl,h0,h1,h2,h3,hz⟩
def fitsN (kind:Int) (n:Nat):Int :=
 if kind=1∨kind=2∨kind=3∨kind=6 then 0
 else if kind=4 then if 1<n then 3 else 0
 else if kind=5 then if n<=2147483647∨18446744071562067968<=n then 0 else 3
 else if kind=7 then if 4294967295<n then 3 else 0
 else 1
def countN (kind:Int) (v:Val):Nat × Bool :=
 if kind=8∨kind=9 then (v.2.2.1.length,v.2.1.length+v.2.2.2.length==0)
 else if kind=10 then (v.2.2.2.length,v.2.1.length+v.2.2.1.length==0)
 else (v.2.1.length,v.2.2.1.length+v.2.2.2.length==0)
def plainN (x:Fld) (v:Val):Bool:=!(x.many || decide (0<x.choice) || x.kind==10) && ((v.2.1==[0]) || (v.2.2.1==[[]]))
def itemN (l:List Itm) (i:Nat) (x:Itm):Int :=
 if !named x.name || (l.take i).any (fun y=>x.name==y.name) then 7
 else if x.value < -2147483648∨2147483647<x.value then 3
 else if (i=0/\x.value≠0)∨(l.take i).any (fun y=>x.value==y.value) then 8
 else 0
def firstN : List Int->Int
 |[]=>0
 |a::l=>if a≠0 then a else firstN l
def itemsN (l:List Itm):Int:=if l.length<1∨16<l.length then 5 else firstN (l.mapIdx (itemN l))
def typedN (f:Fil) (x:Fld):Int :=
 if x.kind<1∨10<x.kind then 1
 else if (x.kind=10/\idxP (fun m=>m.name==x.type) f.msgs<0)∨(x.kind=5/\idxP (fun m=>m.name==x.type) f.enums<0) then 6
 else if (x.kind≠10/\x.kind≠5/\x.type≠[])∨(0<x.choice/\x.many=true) then 8
 else 0
def begun : Int->List Fld->Int
 |_,[]=>0
 |last,y::l=>(if y.choice≠0/\y.choice≠last then 1 else 0)+begun y.choice l
def lastC (l:List Fld):Int:=match l.getLast? with|some y=>y.choice|none=>0
def fieldN (f:Fil) (m:Msg) (i:Nat) (x:Fld):Int :=
 if !named x.name || (m.fields.take i).any (fun y=>x.name==y.name) then 7
 else if x.number<1∨536870912<=x.number∨(19000<=x.number/\x.number<20000) then 3
 else if m.barred.any (fun n=>x.number==n) || (m.fields.take i).any (fun y=>x.number==y.number) then 8
 else if typedN f x≠0 then typedN f x
 else if x.choice≠0/\x.choice≠lastC (m.fields.take i)/\x.choice≠begun 0 (m.fields.take i)+1 then 2
 else 0
def msgN (f:Fil) (m:Msg):Int :=
 if 16<m.fields.length∨16<m.barred.length then 5
 else if m.barred.any (fun n=>decide (n<0∨536870912<=n)) then 3
 else firstN (m.fields.mapIdx (fieldN f m))
def hadN (f:Fil):List (List UInt8):=f.msgs.map (·.name)++f.enums.map (·.name)
def nameN (l:List (List UInt8)) (i:Nat) (n:List UInt8):Int:=if !freeN n || (l.take i).any (fun x=>n==x) then 7 else 0
def firstAt : Nat->List Int->Int × Nat
 |_,[]=>(0,0)
 |k,a::l=>if a≠0 then (a,k) else firstAt (k+1) l
def wrongN (f:Fil):Int × Nat :=
 if 10<f.msgs.length+f.enums.length then (5,0)
 else if (firstAt 0 ((hadN f).mapIdx (nameN (hadN f)))).1≠0 then firstAt 0 ((hadN f).mapIdx (nameN (hadN f)))
 else if (firstAt 0 (f.msgs.map (msgN f))).1≠0 then firstAt 0 (f.msgs.map (msgN f))
 else firstAt f.msgs.length (f.enums.map fun e=>itemsN e.items)
theorem firstN_at : ∀ (l:List Int) (k:Nat) (hk:k<l.length),(∀ j,(hj:j<l.length)->j<k->l[j]=0)->l[k]≠0->firstN l=l[k]
 |[],k,hk,_,_=>by simp at hk
 |a::l,0,hk,_,h=>by
  have h:a≠0:=h;rw [firstN,if_pos h];rfl
 |a::l,k+1,hk,hb,h=>by
  have h0:a=0:=hb 0 (by simp) (by omega);rw [firstN,if_neg (by simpa using h0)];exact firstN_at l k (by simpa using hk) (fun j hj hjk=>hb (j+1) (by simpa using hj) (by omega)) h
theorem firstN_none : ∀ (l:List Int),(∀ j,(hj:j<l.length)->l[j]=0)->firstN l=0
 |[],_=>rfl
 |a::l,hb=>by
  have h0:a=0:=hb 0 (by simp);rw [firstN,if_neg (by simpa using h0)];exact firstN_none l (fun j hj=>hb (j+1) (by simpa using hj))
theorem firstAt_at : ∀ (l:List Int) (i k:Nat) (hk:k<l.length),(∀ j,(hj:j<l.length)->j<k->l[j]=0)->l[k]≠0->firstAt i l=(l[k],i+k)
 |[],i,k,hk,_,_=>by simp at hk
 |a::l,i,0,hk,_,h=>by
  have h:a≠0:=h;rw [firstAt,if_pos h];rfl
 |a::l,i,k+1,hk,hb,h=>by
  have h0:a=0:=hb 0 (by simp) (by omega);rw [firstAt,if_neg (by simpa using h0),firstAt_at l (i+1) k (by simpa using hk) (fun j hj hjk=>hb (j+1) (by simpa using hj) (by omega)) h];simp only [List.getElem_cons_succ,Prod.mk.injEq,true_and];omega
theorem firstAt_none : ∀ (l:List Int) (i:Nat),(∀ j,(hj:j<l.length)->l[j]=0)->firstAt i l=(0,0)
 |[],_,_=>rfl
 |a::l,i,hb=>by
  have h0:a=0:=hb 0 (by simp);rw [firstAt,if_neg (by simpa using h0)];exact firstAt_none l _ (fun j hj=>hb (j+1) (by simpa using hj))
theorem zero_more {α:Type} {q:Nat->α->Int} {l:List α} {k:Nat} (hk:k<l.length) (hg:∀ j,(hj:j<l.length)->j<k->q j l[j]=0) (e:q k l[k]=0):∀ j,(hj:j<l.length)->j<k+1->q j l[j]=0:=fun j hj hjk=>by
 by_cases h:j=k
 ·subst h;exact e
 ·exact hg j hj (by omega)
theorem firstN_idx_at {α:Type} {q:Nat->α->Int} {l:List α} {k:Nat} (hk:k<l.length) (hg:∀ j,(hj:j<l.length)->j<k->q j l[j]=0) (e:q k l[k]≠0):firstN (l.mapIdx q)=q k l[k]:=by
 have h:=firstN_at (l.mapIdx q) k (by simpa using hk) (fun j hj hjk=>by simpa using hg j (by simpa using hj) hjk) (by simpa using e);simpa using h
theorem firstN_idx_none {α:Type} {q:Nat->α->Int} {l:List α} (hg:∀ j,(hj:j<l.length)->q j l[j]=0):firstN (l.mapIdx q)=0 :=
 firstN_none _ (fun j hj=>by simpa using hg j (by simpa using hj))
def lastD : Int->List Fld->Int
 |last,[]=>last
 |_,y::l=>lastD y.choice l
theorem begun_snoc : ∀ (l:List Fld) (last:Int) (y:Fld),begun last (l++[y])=begun last l+(if y.choice≠0/\y.choice≠lastD last l then 1 else 0)
 |[],last,y=>by
  simp only [List.nil_append,begun,lastD];omega
 |z::l,last,y=>by
  have ih:=begun_snoc l z.choice y;simp only [List.cons_append,begun,lastD];rw [ih];omega
theorem lastD_eq : ∀ (l:List Fld) (last:Int),lastD last l=match l.getLast? with|some z=>z.choice|none=>last
 |[],last=>rfl
 |[z],last=>rfl
 |z::y::l,last=>by
  have ih:=lastD_eq (y::l) z.choice;rw [lastD,ih,List.getLast?_cons_cons]
  cases h:(y::l).getLast? with
  |none=>simp at h
  |some u=>rfl
theorem begun_take {l:List Fld} {k:Nat} (hk:k<l.length):begun 0 (l.take (k+1))=begun 0 (l.take k)+(if l[k].choice≠0/\l[k].choice≠lastC (l.take k) then 1 else 0):=by
 rw [List.take_succ_eq_append_getElem hk,begun_snoc,lastD_eq];rfl
theorem begun_bd : ∀ (l:List Fld) (last:Int),0<=begun last l/\begun last l<=l.length
 |[],_=>by simp [begun]
 |z::l,last=>by
  have ih:=begun_bd l z.choice;simp only [begun,List.length_cons];split <;> omega
theorem lastC_take {l:List Fld} {k:Nat} (h0:0<k) (hk:k<=l.length):lastC (l.take k)=(l[k - 1]'(by omega)).choice:=by
 unfold lastC;rw [List.getLast?_eq_getElem?,List.length_take,Nat.min_eq_left hk,List.getElem?_take_of_lt (by omega),List.getElem?_eq_getElem (by omega)]
theorem firstAt_idx_at {α:Type} {q:Nat->α->Int} {l:List α} {i k:Nat} (hk:k<l.length) (hg:∀ j,(hj:j<l.length)->j<k->q j l[j]=0) (e:q k l[k]≠0):firstAt i (l.mapIdx q)=(q k l[k],i+k):=by
 have h:=firstAt_at (l.mapIdx q) i k (by simpa using hk) (fun j hj hjk=>by simpa using hg j (by simpa using hj) hjk) (by simpa using e);simpa using h
theorem firstAt_idx_none {α:Type} {q:Nat->α->Int} {l:List α} {i:Nat} (hg:∀ j,(hj:j<l.length)->q j l[j]=0):firstAt i (l.mapIdx q)=(0,0) :=
 firstAt_none _ _ (fun j hj=>by simpa using hg j (by simpa using hj))
theorem firstAt_map_at {α:Type} {q:α->Int} {l:List α} {i k:Nat} (hk:k<l.length) (hg:∀ j,(hj:j<l.length)->j<k->q l[j]=0) (e:q l[k]≠0):firstAt i (l.map q)=(q l[k],i+k):=by
 have h:=firstAt_at (l.map q) i k (by simpa using hk) (fun j hj hjk=>by simpa using hg j (by simpa using hj) hjk) (by simpa using e);simpa using h
theorem firstAt_map_none {α:Type} {q:α->Int} {l:List α} {i:Nat} (hg:∀ j,(hj:j<l.length)->q l[j]=0):firstAt i (l.map q)=(0,0) :=
 firstAt_none _ _ (fun j hj=>by simpa using hg j (by simpa using hj))
theorem zero_more' {α:Type} {q:α->Int} {l:List α} {k:Nat} (hk:k<l.length) (hg:∀ j,(hj:j<l.length)->j<k->q l[j]=0) (e:q l[k]=0):∀ j,(hj:j<l.length)->j<k+1->q l[j]=0:=fun j hj hjk=>by
 by_cases h:j=k
 ·subst h;exact e
 ·exact hg j hj (by omega)
theorem wrong_many {f:Fil} (h:10<f.msgs.length+f.enums.length):wrongN f=(5,0):=by rw [wrongN,if_pos h]
theorem wrong_name {f:Fil} (h:¬ 10<f.msgs.length+f.enums.length) {k:Nat} (hk:k<(hadN f).length) (hg:∀ j,(hj:j<(hadN f).length)->j<k->nameN (hadN f) j (hadN f)[j]=0) (e:nameN (hadN f) k (hadN f)[k]=7):wrongN f=(7,k):=by
 have h1:=firstAt_idx_at (i:=0) hk hg (by rw [e];decide);rw [e] at h1;rw [wrongN,if_neg h,h1,if_pos (show (7:Int)≠0 by decide)];simp
def namesOk (f:Fil):Prop:=∀ j,(hj:j<(hadN f).length)->nameN (hadN f) j (hadN f)[j]=0
theorem wrong_msg {f:Fil} (h:¬ 10<f.msgs.length+f.enums.length) (hn:namesOk f) {k:Nat} (hk:k<f.msgs.length) (hg:∀ j,(hj:j<f.msgs.length)->j<k->msgN f f.msgs[j]=0) (e:msgN f f.msgs[k]≠0):wrongN f=(msgN f f.msgs[k],k):=by
 have h1:=firstAt_map_at (i:=0) hk hg e;rw [wrongN,if_neg h,if_neg (by rw [firstAt_idx_none hn];decide),h1,if_pos e];simp
def msgsOk (f:Fil):Prop:=∀ j,(hj:j<f.msgs.length)->msgN f f.msgs[j]=0
theorem wrong_enum {f:Fil} (h:¬ 10<f.msgs.length+f.enums.length) (hn:namesOk f) (hm:msgsOk f) {k:Nat} (hk:k<f.enums.length) (hg:∀ j,(hj:j<f.enums.length)->j<k->itemsN f.enums[j].items=0) (e:itemsN f.enums[k].items≠0):wrongN f=(itemsN f.enums[k].items,f.msgs.length+k):=by
 have h1:=firstAt_map_at (i:=f.msgs.length) (q:=fun e:Enu=>itemsN e.items) hk hg e;rw [wrongN,if_neg h,if_neg (by rw [firstAt_idx_none hn];decide),if_neg (by rw [firstAt_map_none hm];decide),h1]
theorem wrong_none {f:Fil} (h:¬ 10<f.msgs.length+f.enums.length) (hn:namesOk f) (hm:msgsOk f) (he:∀ j,(hj:j<f.enums.length)->itemsN f.enums[j].items=0):wrongN f=(0,0):=by
 rw [wrongN,if_neg h,if_neg (by rw [firstAt_idx_none hn];decide),if_neg (by rw [firstAt_map_none hm];decide),firstAt_map_none (q:=fun e:Enu=>itemsN e.items) he]
theorem name_cases (l:List (List UInt8)) (i:Nat) (n:List UInt8):nameN l i n=if (!freeN n || (l.take i).any (fun x=>n==x))=true then 7 else 0:=rfl
def byteN (kind:Int) (b:List UInt8):Int:=if 4000<b.length then 4 else if kind=8/\Lib.validD b=false then 9 else 0
def msgI (f:Fil) (s:List UInt8):Int:=idxP (fun m=>m.name==s) f.msgs
def wrongVF (wb:Int->Bod->Int) (f:Fil) (x:Fld) (v:Val):Int :=
 if (countN x.kind v).2=false then 8
 else if (countN x.kind v).1<1∨60<(countN x.kind v).1∨(x.many=false/\1<(countN x.kind v).1) then 5
 else if plainN x v=true then 2
 else if firstN (v.2.1.map (fitsN x.kind))≠0 then firstN (v.2.1.map (fitsN x.kind))
 else if firstN (v.2.2.1.map (byteN x.kind))≠0 then firstN (v.2.2.1.map (byteN x.kind))
 else firstN (v.2.2.2.map (wb (msgI f x.type)))
abbrev fldN (fs:List Fld) (n:Int):Option Fld:=fs.find? fun z=>z.number==n
def badPrev (prev:Option Int) (n:Int):Bool:=match prev with|some p=>decide (n<=p)|none=>false
def valsN (wv:Fld->Val->Int) (fs:List Fld):Option Int->List Int->List Val->Int
 |_,_,[]=>0
 |prev,had,v::l =>
  match fldN fs v.1 with
  |none=>6
  |some x =>
   if badPrev prev v.1=true then 2
   else if wv x v≠0 then wv x v
   else if 0<x.choice/\x.choice∈had then 8
   else valsN wv fs (some v.1) (if 0<x.choice then x.choice::had else had) l
def unkN (fs:List Fld) (r:Rec):Int:=if wrongRec r≠0 then wrongRec r else if (fldN fs r.number).isSome then 7 else 0
def wrongBF (wv:Fld->Val->Int) (m:Msg) (b:Bod):Int :=
 if valsN wv m.fields none [] b.values≠0 then valsN wv m.fields none [] b.values else firstN (b.unknown.map (unkN m.fields))
def wrongB (f:Fil):Nat->Int->Bod->Int
 |0,_,_=>10
 |k+1,msg,b=>match f.msgs[msg.toNat]? with
  |none=>6
  |some m=>wrongBF (wrongVF (wrongB f k) f) m b
def wrongA (f:Fil) (msg:Int) (b:Bod):Int :=
 if (wrongN f).1≠0 then (wrongN f).1 else if msg<0∨f.msgs.length<=msg then 6 else wrongB f 12 msg b
theorem firstN_map_at {α:Type} {q:α->Int} {l:List α} {k:Nat} (hk:k<l.length) (hg:∀ j,(hj:j<l.length)->j<k->q l[j]=0) (e:q l[k]≠0):firstN (l.map q)=q l[k]:=by
 have h:=firstN_at (l.map q) k (by simpa using hk) (fun j hj hjk=>by simpa using hg j (by simpa using hj) hjk) (by simpa using e);simpa using h
theorem firstN_map_none {α:Type} {q:α->Int} {l:List α} (hg:∀ j,(hj:j<l.length)->q l[j]=0):firstN (l.map q)=0 :=
 firstN_none _ (fun j hj=>by simpa using hg j (by simpa using hj))
theorem firstN_zero : ∀ (l:List Int),firstN l=0->∀ j,(hj:j<l.length)->l[j]=0
 |[],_,j,hj=>by simp at hj
 |a::l,h,j,hj=>by
  by_cases ha:a=0
  ·rw [firstN,if_neg (by simpa using ha)] at h
   cases j with
   |zero=>exact ha
   |succ j=>exact firstN_zero l h j (by simpa using hj)
  ·rw [firstN,if_pos ha] at h;exact absurd h ha
theorem firstAt_zero : ∀ (l:List Int) (i:Nat),(firstAt i l).1=0->∀ j,(hj:j<l.length)->l[j]=0
 |[],_,_,j,hj=>by simp at hj
 |a::l,i,h,j,hj=>by
  by_cases ha:a=0
  ·rw [firstAt,if_neg (by simpa using ha)] at h
   cases j with
   |zero=>exact ha
   |succ j=>exact firstAt_zero l _ h j (by simpa using hj)
  ·rw [firstAt,if_pos ha] at h;exact absurd h ha
theorem right_msg {f:Fil} (h:(wrongN f).1=0):∀ m∈f.msgs,msgN f m=0:=by
 intro m hm;unfold wrongN at h;split at h
 ·cases h
 ·split at h
  ·contradiction
  ·split at h
   ·contradiction
   ·rename_i _ _ h3;obtain ⟨j,hj,rfl⟩:=List.getElem_of_mem hm;have:=firstAt_zero _ _ (by simpa using h3) j (by simpa using hj);simpa using this
theorem msg_field {f:Fil} {m:Msg} (h:msgN f m=0):m.fields.length<=16/\m.barred.length<=16/\∀ i,(hi:i<m.fields.length)->fieldN f m i m.fields[i]=0:=by
 unfold msgN at h;split at h
 ·cases h
 ·split at h
  ·cases h
  ·refine ⟨by omega,by omega,fun i hi=>?_⟩;have:=firstN_zero _ h i (by simpa using hi);simpa using this
theorem field_facts {f:Fil} {m:Msg} {i:Nat} {x:Fld} (h:fieldN f m i x=0):1<=x.number/\x.number<536870912/\(∀ y∈m.fields.take i,y.number≠x.number)/\typedN f x=0/\(x.choice≠0->x.choice≠lastC (m.fields.take i)->x.choice=begun 0 (m.fields.take i)+1):=by
 unfold fieldN at h;split at h
 ·cases h
 split at h
 ·cases h
 rename_i _ h2;split at h
 ·cases h
 rename_i h3;split at h
 ·contradiction
 rename_i h4;split at h
 ·cases h
 rename_i h5;refine ⟨by omega,by omega,fun y hy e=>h3 ?_,by simpa using h4,fun g1 g2=>?_⟩
 ·rw [Bool.or_eq_true];exact .inr (List.any_eq_true.2 ⟨y,hy,by simp [e]⟩)
 ·by_cases g:x.choice=begun 0 (m.fields.take i)+1
  ·exact g
  ·exact absurd ⟨g1,g2,g⟩ h5
theorem typed_facts {f:Fil} {x:Fld} (h:typedN f x=0):1<=x.kind/\x.kind<=10/\(x.kind=10->0<=msgI f x.type)/\(0<x.choice->x.many=false):=by
 unfold typedN at h;split at h
 ·cases h
 split at h
 ·cases h
 rename_i h1 h2;split at h
 ·cases h
 rename_i h3;refine ⟨by omega,by omega,fun g=>?_,fun g=>?_⟩
 ·unfold msgI
  by_cases g2:idxP (fun m=>m.name==x.type) f.msgs<0
  ·exact absurd (.inl ⟨g,g2⟩) h2
  ·omega
 ·cases g2:x.many with
  |false=>rfl
  |true=>exact absurd (.inr ⟨g,g2⟩) h3
theorem choice_bd {f:Fil} {m:Msg} (h:msgN f m=0):∀ i,(hi:i<m.fields.length)->0<=m.fields[i].choice/\m.fields[i].choice<=begun 0 (m.fields.take (i+1)):=by
 obtain ⟨h1,h2,h3⟩:=msg_field h;intro i
 induction i with
 |zero =>
  intro hi;have h4:=(field_facts (h3 0 hi)).2.2.2.2;have h6:=begun_take hi;have h7:=begun_bd (m.fields.take 0) 0
  by_cases e:m.fields[0].choice=0
  ·have:=begun_bd (m.fields.take (0+1)) 0;omega
  ·(have e2:m.fields[0].choice≠lastC (m.fields.take 0):=by rw [List.take_zero];exact e);have:=h4 e e2;rw [h6,if_pos ⟨e,e2⟩];omega
 |succ i ih =>
  intro hi;have h5:=ih (by omega);have h4:=(field_facts (h3 (i+1) hi)).2.2.2.2;have h6:=begun_take hi;have h7:=begun_bd (m.fields.take (i+1)) 0
  by_cases e:m.fields[i+1].choice=0
  ·have:=begun_bd (m.fields.take (i+1+1)) 0;omega
  ·by_cases e2:m.fields[i+1].choice=lastC (m.fields.take (i+1))
   ·have e3:=lastC_take (l:=m.fields) (k:=i+1) (by omega) (by omega);simp only [Nat.add_sub_cancel] at e3;rw [e3] at e2;rw [h6];split <;> omega
   ·have:=h4 e e2;rw [h6,if_pos ⟨e,e2⟩];omega
theorem choice_16 {f:Fil} {m:Msg} (h:msgN f m=0) {x:Fld} (hx:x∈m.fields):0<=x.choice/\x.choice<=16:=by
 obtain ⟨i,hi,rfl⟩:=List.getElem_of_mem hx;have h1:=choice_bd h i hi;have h2:=begun_bd (m.fields.take (i+1)) 0;have h3:=(msg_field h).1;rw [List.length_take] at h2;omega
theorem msgI_bd (f:Fil) (s:List UInt8):msgI f s=-1∨(0<=msgI f s/\msgI f s<f.msgs.length):=by
 unfold msgI;generalize f.msgs=l
 induction l with
 |nil=>exact .inl rfl
 |cons a l ih =>
  rw [idxP];split
  ·exact .inr ⟨by omega,by simp⟩
  ·split
   ·exact .inl rfl
   ·refine .inr ⟨by omega,?_⟩;simp only [List.length_cons];omega
theorem fldN_mem {fs:List Fld} {n:Int} {x:Fld} (h:fldN fs n=some x):x∈fs/\x.number=n:=⟨List.mem_of_find?_eq_some h,by have:=List.find?_some h;simpa using this⟩
end Go.Proofs.YtbceccblepckhaaGreatDoor
namespace Go.Proofs.YtbceccblepckhaaGreatDoor
def howC (k:Int):Int:=if k=6 then 1 else if k=7 then 5 else if k=8∨k=9∨k=10 then 2 else 0
def sgn (n:Nat):Int:=if n<9223372036854775808 then (n:Int) else (n:Int) - 18446744073709551616
def toldC (kind:Int) (n:Nat):Nat:=if kind=2 then Lib.zigzag (sgn n) else n
def packC (kind:Int) (l:List Nat):List UInt8:=l.flatMap fun n=>(oneB ⟨1,howC kind,toldC kind n,[]⟩).drop 1
def valRecs (sub:Bod->List UInt8) (x:Fld) (v:Val):List Rec :=
 if x.many=true/\howC x.kind≠2 then [⟨x.number,2,0,packC x.kind v.2.1⟩]
 else v.2.1.map (fun n=>⟨x.number,howC x.kind,toldC x.kind n,[]⟩)++(v.2.2.1.map (fun t=>⟨x.number,2,0,t⟩)++v.2.2.2.map (fun s=>⟨x.number,2,0,sub s⟩))
def valsRecs (sub:Fld->Bod->List UInt8) (fs:List Fld) (l:List Val):List Rec :=
 l.flatMap fun v=>match fldN fs v.1 with|none=>[]|some x=>valRecs (sub x) x v
def recsB (f:Fil):Nat->Int->Bod->List Rec
 |0,_,_=>[]
 |k+1,msg,b=>match f.msgs[msg.toNat]? with
  |none=>[]
  |some m=>valsRecs (fun x s=>(recsB f k (msgI f x.type) s).flatMap oneB) m.fields b.values++b.unknown
def rawB (f:Fil) (k:Nat) (msg:Int) (b:Bod):List UInt8:=(recsB f k msg b).flatMap oneB
theorem raw_succ {f:Fil} {k:Nat} {msg:Int} {b:Bod} {m:Msg} (h:f.msgs[msg.toNat]? = some m) :
  rawB f (k+1) msg b=(valsRecs (fun x s=>rawB f k (msgI f x.type) s) m.fields b.values).flatMap oneB++b.unknown.flatMap oneB:=by
 unfold rawB;rw [recsB,h,List.flatMap_append]
def bytesC (f:Fil) (msg:Int) (b:Bod):List UInt8 × Int :=
 if wrongA f msg b≠0 then ([],wrongA f msg b) else if 4000<(rawB f 12 msg b).length then ([],4) else (rawB f 12 msg b,0)
open Go.RowKit Go.Maps
set_option maxRecDepth 100000
theorem step_insert {H:Type} {P:Program} (w:World) {ops:Array Oper} {rest:List Oper} {o:Oper} {a:Act} {Q:Exit->Act->World->Prop}
  (hg:o.guard=none) (m x v:Operand) (t:TypeId) (hop:o.op=Op.insert t m x v)
  (k e:TypeId) (K:Keyed P k) (ht:P.underlying t=some (.map k e)) (R:Value->Option (DataW H × List MemPlace)) (b n:Nat) (D:DataW H)
  (hm:a.eval m=.map (some b)) (hown:w.ownsMap P k R b n D) (hn:n<maxLen) (key val:Value) (kl:Lit) (hx:a.eval x=key) (hv:a.eval v=val) (hkey:keyOf P k key=some kl)
  (d:DataW H) (ps:List MemPlace) (hval:R val=some (d,ps))
  (hK:∀ w',w'.ownsMap P k R b (n+1) (D.put kl d)->w.grownBy w' (some b)->wpList P ops Q rest (a.put o.dst undef) w') :
  wpList P ops Q (o::rest) a w:=by
 refine wpList_plain hg fun K' hK'=>?_;obtain ⟨w',hrun,r1,r2⟩:=hown.update K ht hn hkey hval;unfold Oper.wp;simp [execOp,hop,hm,hx,hv,hrun,Result.andThen];exact hK' _ _ (hK w' r1 r2)
theorem law_int : Keyed Tryz.prog 3:=int_keyed Tryz.underlying3
theorem zero_int (w:World):(zeroValue 3).run Tryz.prog w=.ok (.int .i64 0) w:=by kernel_rfl
def howM : DataW Unit:=.map [(.int .i64 6,.lit (.int .i64 1)),(.int .i64 7,.lit (.int .i64 5)),(.int .i64 8,.lit (.int .i64 2)),(.int .i64 9,.lit (.int .i64 2)),(.int .i64 10,.lit (.int .i64 2))]
theorem howM_eq : ((((((DataW.map []:DataW Unit).put (.int .i64 6) (.lit (.int .i64 1))).put (.int .i64 7) (.lit (.int .i64 5))).put (.int .i64 8) (.lit (.int .i64 2))).put (.int .i64 9) (.lit (.int .i64 2))).put (.int .i64 10) (.lit (.int .i64 2)))=howM:=by rfl
theorem howM_has (k:Int):Maps.has howM (.int .i64 k)=decide (k=6∨k=7∨k=8∨k=9∨k=10):=by
 unfold howM;rw [Maps.has_eq];simp only [List.any_cons,List.any_nil,Lit.sameKey,true_and,Bool.or_false];rw [Bool.eq_iff_iff];simp only [Bool.or_eq_true,decide_eq_true_eq];omega
theorem howM_at (k c:Int) (h:howM.atKey (.int .i64 k) (.lit (.int .i64 0))=.lit (.int .i64 c)):c=howC k:=by
 have hd:∀ n,n=6∨n=7∨n=8∨n=9∨n=10->k=n->c=howC k:=by
  rintro n hn rfl;rcases hn with rfl|rfl|rfl|rfl|rfl <;> (simp [howM,DataW.atKey,Lit.sameKey] at h;rw [←h];rfl)
 by_cases h6:k=6
 ·exact hd 6 (by omega) h6
 by_cases h7:k=7
 ·exact hd 7 (by omega) h7
 by_cases h8:k=8
 ·exact hd 8 (by omega) h8
 by_cases h9:k=9
 ·exact hd 9 (by omega) h9
 by_cases h10:k=10
 ·exact hd 10 (by omega) h10
 have:c=0:=by
  simp [howM,DataW.atKey,Lit.sameKey,Ne.symm h6,Ne.symm h7,Ne.symm h8,Ne.symm h9,Ne.symm h10] at h;exact h.symm
 rw [this];unfold howC;rw [if_neg h6,if_neg h7,if_neg (by omega)]
theorem how_r (k:Int) (w:World) (hk:(Lit.int .i64 k).wf=true):Calls Tryz.prog 5 #[.int .i64 k] w fun e w'=>e=.returned (.int .i64 (howC k))/\Up w w':=by
 have hmm:=@run_makeMap Tryz.prog
 go_enter Tryz.func5,Tryz.ntmps5
 have hown0:=World.ownsMap_made w Tryz.prog 3 (plainElem (H:=Unit) Tryz.prog 3);have hu0:Up w (w.alloc (.map #[] 0)):=(Up.refl w).alloc _
 go_wp2_with (first
  |(refine step_insert _ rfl _ _ _ 45 rfl 3 3 law_int Tryz.underlying45 (plainElem (H:=Unit) Tryz.prog 3) w.heap.size _ _ rfl (by assumption) (by unfold maxLen;omega) _ _ _ rfl rfl (keyOf_int_mk Tryz.underlying3 (by decide)) _ [] (plainElem_int Tryz.underlying3 (by decide)) ?_;intro w1 hown1 hgrow1;have hx1:Up w w1:=Up.grown (by assumption) hgrow1 (fun j hj=>by cases hj;exact Nat.le_refl _);clear hgrow1)
  |(refine wpList_lookup_own_ok_int _ rfl _ _ 45 rfl 3 3 .i64 law_int Tryz.underlying45 Tryz.underlying3 (zero_int _) w.heap.size _ _ rfl (by assumption) _ _ rfl (keyOf_int_mk Tryz.underlying3 hk) ?_;intro c hat hwc))
 ·have hn:Maps.has howM (.int .i64 k)=false:=by
   rw [←howM_eq];simpa using (by assumption:(!Maps.has _ _)=true)
  rw [howM_has] at hn;have hn':=of_decide_eq_false hn
  have h0:howC k=0:=by
   unfold howC;rw [if_neg (by omega),if_neg (by omega),if_neg (by omega)]
  rw [h0]
  go_ret
  exact ⟨rfl,by assumption⟩
 ·rw [howM_eq] at hat;have hc:=howM_at k c hat;subst hc
  go_ret
  exact ⟨rfl,by assumption⟩
end Go.Proofs.YtbceccblepckhaaGreatDoor
namespace Go.Proofs.YtbceccblepckhaaGreatDoor
open Go.RowKit
set_option maxRecDepth 100000
open Lib (hid)
theorem eU8 : Elem Tryz.prog 30 5 1 1 (.int .u8 0):=⟨Tryz.underlying30,info_parts (by kernel_rfl),rfl,by decide⟩
theorem toNat_toUInt8 {n:Nat} (h:n<256):n.toUInt8.toNat=n:=by
 simp only [Nat.toUInt8_eq,UInt8.toNat_ofNat'];omega
theorem put_byte (z:Nat):Value.int .u8 (bits .or .u8 ((z:Int) % 256) 128)=.int .u8 (((z % 128+128).toUInt8.toNat:Nat):Int):=by
 rw [Lib.u8_or128_any _ (by omega) (by omega),toNat_toUInt8 (by omega)]
 congr 1;omega
theorem put_last (z:Nat) (h:z<128):Value.int .u8 (z:Int)=.int .u8 ((z.toUInt8.toNat:Nat):Int):=by
 rw [toNat_toUInt8 (by omega)]
theorem put_own (base:Nat) (v:Value) (l:List UInt8) (x:Nat) (w:World) (hx:x<2 ^ 64) (hl:l.length<=1099511627776)
  (hown:w.ownsRow base 5 1 v l.length (B8 l)) (hb:base<=w.heap.size) :
  Calls Tryz.prog 73 #[v,.int .u64 x] w fun e w'=>∃ v',e=.returned v'/\w'.ownsRow base 5 1 v' (l++Lib.uvarint x).length (B8 (l++Lib.uvarint x))/\Evo w w' v v':=by
 have Hx:=hid hx;clear hx
 go_enter Tryz.func73,Tryz.ntmps73
 go_wp2_with fail
 go_loopw [0,1] (fun s y wr=>∃ (d:List UInt8) (z:Nat),z<2 ^ 64/\y=.int .u64 z/\d++Lib.uvarint z=Lib.uvarint x/\wr.ownsRow base 5 1 s (l++d).length (B8 (l++d))/\Evo w wr v s)
  (fun _ y _=>(intOf y).toNat)
 case atStart=>exact ⟨[],x,Hx.out,rfl,rfl,by simpa using hown,Evo.refl _ _⟩
 case round =>
  obtain ⟨d,z,hz,rfl,hd,how,hev⟩:=hrel
  have hdl:(l++d).length<=1099511627776+10:=by
   have h1:=congrArg List.length hd;have h2:=Lib.uvarint_length64 Hx.out;simp only [List.length_append] at h1 ⊢;omega
  (have hsz:base<=wr.heap.size:=by have:=hev.grown.size;omega);have Hz:=hid hz;clear hz;have Hd:=hid hd;clear hd;have Hev:=hid hev;clear hev
  by_cases h128:128<=z
  ·go_wp2_with (at_builtin;go_loud (refine wpList_app_one eU8 wr rfl _ _ rfl base _ _ _ rfl how rfl rfl (by intro u hu;simp at hu;subst hu;rfl) (by omega) (by unfold maxLen;omega) (by omega) ?_);intro v1 w1 how1 (hev1:Evo wr w1 u0 v1))
   go_roundw
   case rel =>
    refine ⟨d++[(z % 128+128).toUInt8],z / 128,by have:=Hz.out;omega,rfl,?_,?_,Hev.out.trans hev1⟩
    ·rw [←Hd.out,Lib.uvarint_big h128];simp
    ·rw [put_byte] at how1;simpa [B8,←List.append_assoc,Nat.add_assoc] using how1
   case measure=>simp [intOf];omega
  ·go_wp2_with (at_builtin;go_loud (refine wpList_app_one eU8 wr rfl _ _ rfl base _ _ _ rfl how rfl rfl (by intro u hu;simp at hu;subst hu;rfl) (by omega) (by unfold maxLen;omega) (by omega) ?_);intro v1 w1 how1 (hev1:Evo wr w1 u0 v1))
   go_ret
   refine ⟨v1,rfl,?_,Hev.out.trans hev1⟩;rw [←Hd.out,Lib.uvarint_small (by omega)];rw [put_last z (by omega)] at how1;simpa [B8,←List.append_assoc,Nat.add_assoc] using how1
end Go.Proofs.YtbceccblepckhaaGreatDoor
