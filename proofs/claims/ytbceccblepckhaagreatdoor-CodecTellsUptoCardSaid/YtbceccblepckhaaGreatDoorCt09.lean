/-
  slices.Insert of one value into a row of the call's own.
-/
import Derived.Test.YtbceccblepckhaaGreatDoorCt08
import Derived.Laws.CopyRow
import Derived.Laws.Externs
import Derived.Lib.Overlaps
import Derived.Lib.AppendZerosOnto
import Derived.Laws.NewBlocks
import Derived.Deep.RegionLaw
set_option maxHeartbeats 3200000
set_option linter.unusedVariables false
namespace Go.Proofs.YtbceccblepckhaaGreatDoor
open Go.RowKit
set_option maxRecDepth 100000
open Lib (hid)
theorem run_copy_rowK {P:Program} (w:World) (dT sT ty elem:TypeId) (size:Nat) (g o dLen dCap:Nat) (a:Addr) (sLen sCap:Nat) (cur:Array Value) (t:TypeId) (cs:List Value)
  (hu:P.underlying dT=some (.slice elem)) (hs:(P.info? elem).map (·.size)=some size)
  (hg:w.heap[g]? = some (.cells cur t (0,0))) (hn:cs.length=Nat.min sLen dLen*size)
  (hsrc:∀ j v,cs[j]? = some v->w.cell? (a.add j)=some v) (hfit:o+cs.length<=cur.size) (h1:∀ v∈cs,v.oneCell'=true) :
  (Builtin.copy_ #[dT,sT] ty #[.slice (some ⟨g,o,none⟩) dLen dCap,.slice (some a) sLen sCap]).run P w =
   .ok (goInt (Nat.min sLen dLen)) (w.setRow g (cur.toList.take o++cs++cur.toList.drop (o+cs.length)).toArray):=by
 have hl:=run_loadCells_list (P:=P) w a cs hsrc;rw [hn] at hl;have hst:=run_storeCells_at P g o t cs 0 cur w hg (by simpa using hfit) h1
 cases hq:P.info? elem with
 |none=>simp [hq] at hs
 |some i =>
  (have hi:i.size=size:=by simpa [hq] using hs);simp [Builtin.copy_,run_underlying hu,Builtin.lenOf,Builtin.firstCells,sizeOf,typeInfo,hq,hi,hl,hst]
theorem wp_copy_run {P:Program} (w:World) {o:Oper} {a:Act} {K:Act->World->Prop} {Q:Exit->Act->World->Prop} (d s:Operand) (t t':TypeId)
  (ho:o.op=.call { callee:=.builtin .copy,args:=#[d,s],argTypes:=#[t,t'] }) (v u:Value) (hd:a.eval d=v) (hs:a.eval s=u) {v':Value} {w':World}
  (hr:(Builtin.copy_ #[t,t'] o.type #[v,u]).run P w=.ok v' w') (h:K (a.put o.dst v') w'):o.wp P a w K Q:=by
 unfold Oper.wp execOp;simp only [ho,resolve,invoke,builtin,Sem.run_bind,Sem.run_pure,Result.andThen_ok,List.map_toArray,List.map_cons,List.map_nil,hd,hs,hr];exact h
theorem step_copy_run {P:Program} {ops:Array Oper} {o:Oper} {a:Act} {w:World} {K:Act->World->Prop} {Q:Exit->Act->World->Prop} {F:Prop}
  (hg:o.guard=none) (d x:Operand) (dT sT:TypeId) (ho:o.op=Op.call { callee:=Callee.builtin Builtin.copy,args:=#[d,x],argTypes:=#[dT,sT] })
  (v u:Value) (hd:a.eval d=v) (hx:a.eval x=u) {v':Value} {w':World} (hr:(Builtin.copy_ #[dT,sT] o.type #[v,u]).run P w=.ok v' w') (hK:K (a.put o.dst v') w') :
  if Region.wanted o (yielded ops a.tmps)=true then Oper.wp P o a w K Q else F:=by
 rw [if_pos (by simp [Region.wanted,hg])];exact wp_copy_run w d x dT sT ho v u hd hx hr hK
theorem setRow_up {a w:World} (h:Up a w) {g:Nat} (cs:Array Value) (hg:a.heap.size<=g):Up a (w.setRow g cs):=by
 refine ⟨h.os,h.tape,h.output,by simpa [World.setRow] using h.size,fun k hk=>?_⟩;rw [←h.block k hk];unfold World.setRow
 by_cases hlt:k<w.heap.size
 ·rw [Array.getElem?_eq_getElem (by simpa using hlt),Array.getElem_modify,Array.getElem?_eq_getElem hlt,if_neg (by omega)]
 ·rw [Array.getElem?_eq_none (by simpa using hlt),Array.getElem?_eq_none (by omega)]
theorem setRow_other (w:World) (g:Nat) (cs:Array Value) (k:Nat) (h:k≠g):(w.setRow g cs).heap[k]? = w.heap[k]? := by
 unfold World.setRow
 by_cases hlt:k<w.heap.size
 ·rw [Array.getElem?_eq_getElem (by simpa using hlt),Array.getElem_modify,Array.getElem?_eq_getElem hlt,if_neg (by omega)]
 ·rw [Array.getElem?_eq_none (by simpa using hlt),Array.getElem?_eq_none (by omega)]
theorem insert_end (base:Nat) (vo:Value) (n:Nat) (xs vs:List Value) (g:Nat) (w:World) (hown:w.ownsRow base 71 4 vo n xs) (hvl:vs.length=4) (hg:w.heap[g]? = some (.cells vs.toArray 71 (0,0)))
  (h1v:∀ u∈vs,u.oneCell'=true) (hz:(n+1)*80<=140737488355328) (hbase:base<=w.heap.size) :
  Calls Tryz.prog 141 #[vo,.int .i64 n,.slice (some ⟨g,0,none⟩) 1 1] w fun e w'=>∃ v',e=.returned v'/\w'.ownsRow base 71 4 v' (n+1) (xs++vs)/\Evo w w' vo v':=by
 obtain ⟨ao,co,rfl⟩:=own_val hown;have Hown:=hid hown
 have hcn:n<=co:=by
  rcases hown.2 with ⟨h,h0⟩|⟨g,cap,cur,h,_,_,h1,h2,_⟩
  ·omega
  ·simp only [Value.slice.injEq] at h;omega
 have hcm:co<=9223372036854775807:=by
  rcases hown.2 with ⟨h,h0⟩|⟨g,cap,cur,h,_,_,h1,h2,_⟩
  ·simp only [Value.slice.injEq] at h;omega
  ·simp only [Value.slice.injEq] at h;unfold maxLen at h2;omega
 have Hg:=hid hg;clear hown hg
 have hnw:∀ W:World,W.heap[g]? = some (.cells vs.toArray 71 (0,0))->∀ ad,some (⟨g,0,none⟩:Addr)=some ad->∀ j u,vs[j]? = some u->W.cell? (ad.add j)=some u:=fun W hW ad h j u hu=>by
  simp only [Option.some.injEq] at h;subst h;rw [Addr.add_lit,cell_of_row W g _ _ _ _ hW];simpa using hu
 have Hnw:=hid (hnw w Hg.out);clear hnw
 go_enter Tryz.func141,Tryz.ntmps141
 go_wp2_with (at_builtin;go_must (refine wpList_app eVal _ (by rfl) _ _ (by rfl) base _ n xs (by rfl) Hown.out (some ⟨g,0,none⟩) 1 1 (by rfl) vs (by omega) (fun h=>nomatch h) Hnw.out h1v (by omega) (by unfold maxLen;omega) hbase ?_;intro v' w' how hev))
 all_goals
  go_ret
  first|exact ⟨_,rfl,how,hev⟩|(obtain rfl:=‹co=n›;exact ⟨_,rfl,how,hev⟩)
theorem insert_shift (base b co:Nat) (n i:Nat) (xs vs:List Value) (g:Nat) (w:World) (hown:w.ownsRow base 71 4 (.slice (some ⟨b,0,none⟩) n co) n xs) (hi:i<n) (hroom:n+1<=co) (hvl:vs.length=4) (hg:w.heap[g]? = some (.cells vs.toArray 71 (0,0))) (hgb:g≠b)
  (h1x:∀ u∈xs,u.oneCell'=true) (h1v:∀ u∈vs,u.oneCell'=true) (hz:(n+1)*80<=140737488355328) :
  Calls Tryz.prog 141 #[.slice (some ⟨b,0,none⟩) n co,.int .i64 i,.slice (some ⟨g,0,none⟩) 1 1] w fun e w'=>∃ v',e=.returned v'/\w'.ownsRow base 71 4 v' (n+1) (xs.take (i*4)++vs++xs.drop (i*4))/\Evo w w' (.slice (some ⟨b,0,none⟩) n co) v':=by
 obtain ⟨hxl,hr⟩:=hown;rcases hr with ⟨h,_⟩|⟨b',co',cur,h,hbb,hb,_,hcm,hcs,hct⟩
 ·cases h
 simp only [Value.slice.injEq,Option.some.injEq,Addr.mk.injEq,and_true,true_and] at h;obtain ⟨rfl,rfl⟩:=h;have hcm':co<=9223372036854775807:=by unfold maxLen at hcm;omega
 have hsz:(Tryz.prog.info? 71).map (·.size)=some 4:=by
  obtain ⟨i0,h0,_,h2,_⟩:=eVal.info;rw [h0];simp [h2]
 have hdl:(xs.drop (i*4)).length=(n - i)*4:=by rw [List.length_drop,hxl];omega
 have hcells:∀ j v,xs[j]? = some v->w.cell? ⟨b,j,none⟩=some v:=fun j v hj=>by
  rw [cell_of_row w b j _ _ _ hb,←Array.getElem?_toList];rw [←hct,List.getElem?_take] at hj;split at hj
  ·exact hj
  ·cases hj
 (have hmin:Nat.min (n+1 - i) (n - i)=n - i:=by simp only [Nat.min_def];split <;> omega);have hmin2:Nat.min 1 (n+1 - i)=1:=by simp only [Nat.min_def];split <;> omega
 have hcp1:∀ ty dc sc,(Builtin.copy_ #[26,26] ty #[.slice (some ⟨b,(i+1)*4,none⟩) (n - i) dc,.slice (some ⟨b,i*4,none⟩) (n+1 - i) sc]).run Tryz.prog w.drew=.ok (goInt ((n - i:Nat):Int)) (w.drew.setRow b (cur.toList.take ((i+1)*4)++xs.drop (i*4)++cur.toList.drop ((i+1)*4+(xs.drop (i*4)).length)).toArray):=fun ty dc sc=>by
  have:=run_copy_rowK (P:=Tryz.prog) w.drew 26 26 ty 71 4 b ((i+1)*4) (n - i) dc ⟨b,i*4,none⟩ (n+1 - i) sc cur 71 (xs.drop (i*4)) eVal.ht hsz hb (by rw [hdl,hmin])
   (fun j v hj=>by rw [Addr.add_lit];exact hcells (i*4+j) v (by rwa [List.getElem?_drop] at hj)) (by rw [hdl,hcs];omega) (fun v hv=>h1x v (List.mem_of_mem_drop hv))
  rw [hmin] at this;exact this
 obtain ⟨row1,hrow1⟩:∃ r,r=cur.toList.take ((i+1)*4)++xs.drop (i*4)++cur.toList.drop ((i+1)*4+(xs.drop (i*4)).length):=⟨_,rfl⟩;rw [←hrow1] at hcp1;have hcl:cur.toList.length=co*4:=by simpa using hcs
 have hr1l:row1.length=co*4:=by
  rw [hrow1];simp only [List.length_append,List.length_take,List.length_drop,hcl,hxl];omega
 obtain ⟨W1,hW1⟩:∃ W1,W1=w.drew.setRow b row1.toArray:=⟨_,rfl⟩;rw [←hW1] at hcp1;(have hb1:W1.heap[b]? = some (.cells row1.toArray 71 (0,0)):=by rw [hW1];exact setRow_heap w.drew b cur row1.toArray _ _ hb);(have hg1:W1.heap[g]? = some (.cells vs.toArray 71 (0,0)):=by rw [hW1,setRow_other _ _ _ _ hgb];exact hg);obtain ⟨row2,hrow2d⟩:∃ r,r=row1.take (i*4)++vs++row1.drop (i*4+vs.length):=⟨_,rfl⟩;have hr2l:row2.length=co*4:=by rw [hrow2d];simp only [List.length_append,List.length_take,List.length_drop,hr1l,hvl];omega
 have hcp2:∀ ty dc,(Builtin.copy_ #[26,26] ty #[.slice (some ⟨b,i*4,none⟩) (n+1 - i) dc,.slice (some ⟨g,0,none⟩) 1 1]).run Tryz.prog W1=.ok (goInt 1) (W1.setRow b row2.toArray):=fun ty dc=>by
  have:=run_copy_rowK (P:=Tryz.prog) W1 26 26 ty 71 4 b (i*4) (n+1 - i) dc ⟨g,0,none⟩ 1 1 row1.toArray 71 vs eVal.ht hsz hb1 (by rw [hvl,hmin2])
   (fun j v hj=>by rw [Addr.add_lit,cell_of_row W1 g _ _ _ _ hg1];simpa using hj) (by simp only [List.size_toArray,hr1l,hvl];omega) h1v
  rw [hmin2,←hrow2d] at this;exact this
 have hrow2:∃ t,row2=(xs.take (i*4)++vs++xs.drop (i*4))++t:=by
  (have e1:cur.toList=xs++cur.toList.drop (n*4):=by rw [←hct,List.take_append_drop]);refine ⟨cur.toList.drop ((n+1)*4),?_⟩
  have e2:row1.take (i*4)=xs.take (i*4):=by
   rw [hrow1,List.append_assoc,List.take_append_of_le_length (by simp only [List.length_take,hcl];omega),List.take_take,e1,List.take_append_of_le_length (by rw [hxl];omega)]
   congr 1;omega
  have e3:row1.drop (i*4+vs.length)=xs.drop (i*4)++cur.toList.drop ((n+1)*4):=by
   (have e4:(cur.toList.take ((i+1)*4)).length=i*4+vs.length:=by rw [List.length_take,hcl,hvl];omega);(have e5:(i+1)*4+(xs.drop (i*4)).length=(n+1)*4:=by rw [hdl];omega);rw [hrow1,List.append_assoc,←e4,List.drop_left,e5]
  rw [hrow2d,e2,e3,List.append_assoc,List.append_assoc,List.append_assoc]
 have hw':∃ v',v'=Value.slice (some ⟨b,0,none⟩) (n+1) co/\(W1.setRow b row2.toArray).ownsRow base 71 4 v' (n+1) (xs.take (i*4)++vs++xs.drop (i*4))/\Evo w (W1.setRow b row2.toArray) (.slice (some ⟨b,0,none⟩) n co) v':=by
  refine ⟨_,rfl,⟨by simp only [List.length_append,List.length_take,List.length_drop,hxl,hvl];omega,.inr ⟨b,co,_,rfl,hbb,setRow_heap W1 b row1.toArray _ _ _ hb1,hroom,hcm,by simp only [List.size_toArray,hr2l],?_⟩⟩,⟨?_,fun k hk=>.inl hk⟩⟩
  ·obtain ⟨t,ht⟩:=hrow2;simp only [ht];rw [List.take_left' (by simp only [List.length_append,List.length_take,List.length_drop,hxl,hvl];omega)]
  ·refine ⟨by rw [hW1];rfl,by rw [hW1];rfl,by rw [hW1];rfl,by rw [hW1];simp [World.setRow],fun k hk hne=>?_⟩;have hkb:k≠b:=fun e=>hne (by rw [e];rfl);rw [setRow_other _ _ _ _ hkb,hW1,setRow_other _ _ _ _ hkb];rfl
 obtain ⟨_,rfl,hfo,hfe⟩:=hw';have Hfo:=hid hfo;have Hfe:=hid hfe
 have hov:∀ lb cb,(callFunc 148 #[.slice (some ⟨g,0,none⟩) 1 1,.slice (some ⟨b,(i+1)*4,none⟩) lb cb]).run Tryz.prog w=.ok (.value (.bool false)) w:=fun lb cb=>by
  rw [run_callFunc_extern Tryz.func148 (by kernel_rfl) (by kernel_rfl) (by kernel_rfl) (e:=Extern.SlicesOverlaps.overlaps #[26,26] #[4]) (by kernel_rfl),
   Lib.run_overlaps_apart w 26 4 71 eVal.ht 4 (fun w=>by obtain ⟨i0,h0,_,h2,_⟩:=eVal.info;simp [Go.sizeOf,typeInfo,h0,h2]) ⟨g,0,none⟩ ⟨b,(i+1)*4,none⟩ 1 1 lb cb hgb 71 71 4 (co*4) (by simp [World.shape?,hg,hvl]) (by simp [World.shape?,hb,hcs]) (by omega) (frozen_of_row w g _ _ _ hg) (frozen_of_row w g _ _ _ hg)]
  rfl
 (have q1:¬ ((i:Int)=(n:Int)):=by omega);(have q8:IntKind.i64.wrap ((i:Int)+1)=(i:Int)+1:=by rw [IntKind.wrap_i64];omega);(have q9:((i:Int)+1).toNat=i+1:=by omega);(have q10:(0:Int)<=(i:Int)+1:=by omega);(have q2:¬ ((co:Int)<(n:Int)+1):=by omega);(have q3:¬ co=i:=by omega);(have q4:¬ co=i+1:=by omega);(have q5:(i:Int)+1<=(n:Int)+1:=by omega);(have q6:(i:Int)<=(n:Int)+1:=by omega);(have q7:i<=n:=by omega);clear hW1 hrow2d hr2l hfo hfe hrow2 hrow1 hcells hb1 hg1 hxl hct hcs hdl hmin hmin2 hcl hr1l hb hg hbb
 go_enter Tryz.func141,Tryz.ntmps141
 go_wp2_with (simp only [hov])
 go_region_law (refine step_copy_run rfl _ _ 26 26 rfl _ _ (by simp [Act.eval,Act.put]) (by simp [Act.eval,Act.put]) (hcp1 _ _ _) ?_)
 go_wp2_with fail
 go_ret
 exact ⟨_,rfl,Hfo.out,Hfe.out⟩
theorem insert_grow (base b co:Nat) (n i:Nat) (xs vs:List Value) (g:Nat) (w:World) (hown:w.ownsRow base 71 4 (.slice (some ⟨b,0,none⟩) n co) n xs) (hi:i<n) (hroom:co<n+1) (hvl:vs.length=4) (hg:w.heap[g]? = some (.cells vs.toArray 71 (0,0)))
  (h1x:∀ u∈xs,u.oneCell'=true) (h1v:∀ u∈vs,u.oneCell'=true) (hz:(n+1)*80<=140737488355328) (hbase:base<=w.heap.size) :
  Calls Tryz.prog 141 #[.slice (some ⟨b,0,none⟩) n co,.int .i64 i,.slice (some ⟨g,0,none⟩) 1 1] w fun e w'=>∃ v',e=.returned v'/\w'.ownsRow base 71 4 v' (n+1) (xs.take (i*4)++vs++xs.drop (i*4))/\Evo w w' (.slice (some ⟨b,0,none⟩) n co) v':=by
 obtain ⟨hxl,hr⟩:=hown;rcases hr with ⟨h,_⟩|⟨b',co',cur,h,hbb,hb,hnc,hcm,hcs,hct⟩
 ·cases h
 simp only [Value.slice.injEq,Option.some.injEq,Addr.mk.injEq,and_true,true_and] at h;obtain ⟨rfl,rfl⟩:=h;(have hcm':co<=9223372036854775807:=by unfold maxLen at hcm;omega);have hbw:b<w.heap.size:=lt_of_block hb;have hgw:g<w.heap.size:=lt_of_block hg;obtain ⟨i0,hi0,hz0,hzs,hzb⟩:=eVal.info;(have hsz:(Tryz.prog.info? 71).map (·.size)=some 4:=by rw [hi0];simp [hzs]);(have hdl:(xs.drop (i*4)).length=(n - i)*4:=by rw [List.length_drop,hxl];omega);have htl:(xs.take (i*4)).length=i*4:=by rw [List.length_take,hxl];omega
 have hcells:∀ j v,xs[j]? = some v->w.cell? ⟨b,j,none⟩=some v:=fun j v hj=>by
  rw [cell_of_row w b j _ _ _ hb,←Array.getElem?_toList];rw [←hct,List.getElem?_take] at hj;split at hj
  ·exact hj
  ·cases hj
 have hold:(Builtin.firstCells i0.size i (.slice (some ⟨b,0,none⟩) i co)).run Tryz.prog w.drew=.ok (xs.take (i*4)).toArray w.drew:=by
  rw [hzs]
  have:=run_loadCells_list (P:=Tryz.prog) w.drew ⟨b,0,none⟩ (xs.take (i*4)) (fun j v hj=>by
   rw [Addr.add_lit];rw [List.getElem?_take] at hj;split at hj
   ·simpa using hcells j v hj
   ·cases hj)
  rw [htl] at this;simpa [Builtin.firstCells] using this
 obtain ⟨k,hk⟩:∃ k,k=n+1 - i:=⟨_,rfl⟩;(have hik:i+k=n+1:=by omega);(have hkk:(n:Int)+1 - (i:Int)=(k:Int):=by omega);obtain ⟨G,hG⟩:∃ G,G=grownCap w (n+1) co 71:=⟨_,rfl⟩;obtain ⟨row,hrow⟩:∃ r:List Value,r=xs.take (i*4)++((Builtin.zeroCells (Value.agg #[.int .i64 0,.slice none 0 0,.slice none 0 0,.slice none 0 0]).cells k).toList++(Builtin.zeroCells (Value.agg #[.int .i64 0,.slice none 0 0,.slice none 0 0,.slice none 0 0]).cells (G - (n+1))).toList):=⟨_,rfl⟩;(have hGn:n+1<=G:=by rw [hG];exact grownCap_ge w _ _ _);(have hGm:G<=maxLen:=by rw [hG];exact grownCap_le_maxLen w (n+1) co _ (by unfold maxLen;omega));have hG63:G<=9223372036854775807:=by unfold maxLen at hGm;omega
 have hzc:∀ m,(Builtin.zeroCells (Value.agg #[.int .i64 0,.slice none 0 0,.slice none 0 0,.slice none 0 0]).cells m).toList.length=m*4:=fun m=>by
  simp [Builtin.zeroCells,Value.cells]
 have hrl:row.length=G*4:=by
  rw [hrow,List.length_append,List.length_append,htl,hzc,hzc];omega
 obtain ⟨W1,hW1⟩:∃ W1,W1=w.drew.alloc (.cells row.toArray 71):=⟨_,rfl⟩
 have hrz:∀ ty,(Builtin.append_ #[26,3] ty #[.slice (some ⟨b,0,none⟩) i co,.int .i64 ((n:Int)+1 - (i:Int))]).run Tryz.prog w=.ok (.slice (some ⟨w.heap.size,0,none⟩) (n+1) G) W1:=fun ty=>by
  have h:=Lib.run_append_grow_zeros (P:=Tryz.prog) w 26 3 ty 71 i0 _ .i64 .i64 eVal.ht Tryz.underlying3 hi0 hz0 (some ⟨b,0,none⟩) i co (xs.take (i*4)) hold k (by omega) (by rw [hzs];decide) (by omega) (by omega) (by rw [hzb];omega) (by rw [hzb,hik];exact growslice_fits hroom hz);rw [hik,←hG] at h;rw [hkk,h,hW1,hrow]
  congr 3
  simp
 (have hN:W1.heap[w.heap.size]? = some (.cells row.toArray 71 (0,0)):=by rw [hW1];exact heap_alloc_new w.drew _);(have hu1:Up w W1:=by rw [hW1];exact ((Up.refl w).drew).alloc _);(have hmin2:Nat.min 1 (n+1 - i)=1:=by simp only [Nat.min_def];split <;> omega);(have hmin3:Nat.min (n - i) (n - i)=n - i:=by simp only [Nat.min_def];split <;> omega);obtain ⟨row2,hrow2⟩:∃ r,r=row.take (i*4)++vs++row.drop (i*4+vs.length):=⟨_,rfl⟩;(have hr2l:row2.length=G*4:=by rw [hrow2];simp only [List.length_append,List.length_take,List.length_drop,hrl,hvl];omega);obtain ⟨W2,hW2⟩:∃ W2,W2=W1.setRow w.heap.size row2.toArray:=⟨_,rfl⟩
 have hcpA:∀ ty dc,(Builtin.copy_ #[26,26] ty #[.slice (some ⟨w.heap.size,i*4,none⟩) (n+1 - i) dc,.slice (some ⟨g,0,none⟩) 1 1]).run Tryz.prog W1=.ok (goInt 1) W2:=fun ty dc=>by
  have:=run_copy_rowK (P:=Tryz.prog) W1 26 26 ty 71 4 w.heap.size (i*4) (n+1 - i) dc ⟨g,0,none⟩ 1 1 row.toArray 71 vs eVal.ht hsz hN (by rw [hvl,hmin2])
   (fun j v hj=>by rw [Addr.add_lit,cell_of_row W1 g _ _ _ _ (hu1.blk hg)];simpa using hj) (by simp only [List.size_toArray,hrl,hvl];omega) h1v
  rw [hmin2,←hrow2,←hW2] at this;exact this
 (have hN2:W2.drew.heap[w.heap.size]? = some (.cells row2.toArray 71 (0,0)):=by rw [hW2];exact setRow_heap W1 _ row.toArray row2.toArray _ _ hN);(have hu2:Up w W2:=by rw [hW2];exact setRow_up hu1 _ (Nat.le_refl _));obtain ⟨row3,hrow3⟩:∃ r,r=row2.take ((i+1)*4)++xs.drop (i*4)++row2.drop ((i+1)*4+(xs.drop (i*4)).length):=⟨_,rfl⟩;(have hr3l:row3.length=G*4:=by rw [hrow3];simp only [List.length_append,List.length_take,List.length_drop,hr2l,hxl];omega);obtain ⟨W3,hW3⟩:∃ W3,W3=W2.drew.setRow w.heap.size row3.toArray:=⟨_,rfl⟩
 have hcpB:∀ ty dc sc,(Builtin.copy_ #[26,26] ty #[.slice (some ⟨w.heap.size,(i+1)*4,none⟩) (n - i) dc,.slice (some ⟨b,i*4,none⟩) (n - i) sc]).run Tryz.prog W2.drew=.ok (goInt ((n - i:Nat):Int)) W3:=fun ty dc sc=>by
  have:=run_copy_rowK (P:=Tryz.prog) W2.drew 26 26 ty 71 4 w.heap.size ((i+1)*4) (n - i) dc ⟨b,i*4,none⟩ (n - i) sc row2.toArray 71 (xs.drop (i*4)) eVal.ht hsz hN2 (by rw [hdl,hmin3])
   (fun j v hj=>by rw [Addr.add_lit];exact (hu2.drew).cell_some (hcells (i*4+j) v (by rwa [List.getElem?_drop] at hj))) (by simp only [List.size_toArray,hr2l,hdl];omega) (fun v hv=>h1x v (List.mem_of_mem_drop hv))
  rw [hmin3] at this;rw [hW3,hrow3];exact this
 have hpre:∃ t,row3=(xs.take (i*4)++vs++xs.drop (i*4))++t:=by
  refine ⟨row2.drop ((i+1)*4+(xs.drop (i*4)).length),?_⟩;have e2:row.take (i*4)=xs.take (i*4):=by rw [hrow];exact List.take_left' htl
  have e3:row2.take ((i+1)*4)=xs.take (i*4)++vs:=by
   rw [hrow2,e2,List.take_left' (by rw [List.length_append,htl,hvl];omega)]
  rw [hrow3,e3]
 have hfin:W3.ownsRow base 71 4 (.slice (some ⟨w.heap.size,0,none⟩) (n+1) G) (n+1) (xs.take (i*4)++vs++xs.drop (i*4)):=by
  refine ⟨by simp only [List.length_append,htl,hdl,hvl];omega,.inr ⟨w.heap.size,G,row3.toArray,rfl,hbase,by rw [hW3];exact setRow_heap W2.drew _ row2.toArray row3.toArray _ _ hN2,hGn,hGm,by simp only [List.size_toArray,hr3l],?_⟩⟩;obtain ⟨t,ht⟩:=hpre;simp only [ht];rw [List.take_left' (by simp only [List.length_append,htl,hdl,hvl];omega)]
 (have hu3:Up w W3:=by rw [hW3];exact setRow_up hu2.drew _ (Nat.le_refl _));have Hfo:=hid hfin;have Hfe:=hid (show Evo w W3 (.slice (some ⟨b,0,none⟩) n co) (.slice (some ⟨w.heap.size,0,none⟩) (n+1) G) from ⟨⟨hu3.os,hu3.tape,hu3.output,hu3.size,fun k hk _=>hu3.block k hk⟩,fun k hk=>by simp only [Value.ownBlock,Option.some.injEq] at hk;exact .inr (by omega)⟩);(have q1:¬ ((i:Int)=(n:Int)):=by omega);(have q2:(co:Int)<(n:Int)+1:=by omega);(have q3:¬ co=i:=by omega);(have q5:(i:Int)+1<=(n:Int)+1:=by omega);(have q6:(i:Int)<=(n:Int)+1:=by omega);(have q7:i<=n:=by omega);(have q8:IntKind.i64.wrap ((i:Int)+1)=(i:Int)+1:=by rw [IntKind.wrap_i64];omega);(have q9:((i:Int)+1).toNat=i+1:=by omega);(have q10:(0:Int)<=(i:Int)+1:=by omega);(have q11:¬ G=i:=by omega);(have q12:¬ G=i+1:=by omega);(have q13:i<=co:=by omega);clear hrow hrow2 hrow3 hpre hfin hW1 hW2 hW3 hN hN2 hu1 hu2 hu3 hik hkk hk hG hcells hold hct hcs hdl htl hmin2 hmin3 hzc hrl hr2l hr3l hb hg hbb hi0 hz0 hzs hzb hsz hxl
 go_enter Tryz.func141,Tryz.ntmps141
 have Hrz:=hid hrz;clear hrz;go_wp2_with (at_builtin;go_must (refine Lib.wpList_append_run _ rfl _ _ _ _ rfl _ _ rfl rfl _ _ (Hrz.out _) ?_))
 go_region_law (refine step_copy_run rfl _ _ 26 26 rfl _ _ (by simp [Act.eval,Act.put]) (by simp [Act.eval,Act.put]) (hcpB _ _ _) ?_)
 go_wp2_with fail
 go_ret
 exact ⟨_,rfl,Hfo.out,Hfe.out⟩
end Go.Proofs.YtbceccblepckhaaGreatDoor
