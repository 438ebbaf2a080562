/-
  body.Set.
-/
import Derived.Test.YtbceccblepckhaaGreatDoorCt09
import Derived.Test.YtbceccblepckhaaGreatDoorCt10
import Derived.Test.YtbceccblepckhaaGreatDoorCt11
set_option maxHeartbeats 3200000
set_option linter.unusedVariables false
namespace Go.Proofs.YtbceccblepckhaaGreatDoor
open Go.RowKit
set_option maxRecDepth 100000
open Lib (hid)
def keepN (fs:List Fld) (x:Fld) (n y:Int):Bool:=y != n && (x.choice==0 || match fs.find? (fun z=>z.number==y) with|none=>true|some z=>z.choice != x.choice)
def insG {α:Type} (num:α->Int) (l:List α) (v:α):List α:=l.take (l.takeWhile fun x=>decide (num x<num v)).length++v::l.drop (l.takeWhile fun x=>decide (num x<num v)).length
def setG {α:Type} (num:α->Int) (fs:List Fld) (l:List α) (v:α) (pl:Fld->Bool):List α :=
 match fs.find? (fun z=>z.number==num v) with
 |none=>l
 |some x=>if pl x then l.filter (fun y=>keepN fs x (num v) (num y)) else insG num (l.filter fun y=>keepN fs x (num v) (num y)) v
theorem map_takeWhile {α β:Type} (f:α->β) (p:β->Bool):∀ l:List α,((l.map f).takeWhile p).length=(l.takeWhile fun a=>p (f a)).length
 |[]=>rfl
 |a::l=>by
  rw [List.map_cons,List.takeWhile_cons,List.takeWhile_cons];split
  ·simp [map_takeWhile f p l]
  ·rfl
theorem setG_map {α β:Type} (f:α->β) (num:β->Int) (fs:List Fld) (l:List α) (v:α) (pl:Fld->Bool):setG num fs (l.map f) (f v) pl=(setG (fun a=>num (f a)) fs l v pl).map f:=by
 unfold setG
 cases h:fs.find? (fun z=>z.number==num (f v)) with
 |none=>rfl
 |some x =>
  simp only
  cases pl x with
  |true=>rw [if_pos rfl,if_pos rfl,List.filter_map];rfl
  |false =>
   rw [if_neg (by decide),if_neg (by decide)];unfold insG;rw [List.filter_map,map_takeWhile,List.map_append,List.map_cons,List.map_take,List.map_drop];rfl
theorem setG_mem {α:Type} (num:α->Int) (fs:List Fld) (l:List α) (v:α) (pl:Fld->Bool):∀ a∈setG num fs l v pl,a∈l∨a=v:=by
 unfold setG;split
 ·exact fun a h=>.inl h
 ·split
  ·exact fun a h=>.inl ((List.mem_filter.1 h).1)
  ·unfold insG;intro a h;rcases List.mem_append.1 h with h|h
   ·exact .inl ((List.mem_filter.1 (List.mem_of_mem_take h)).1)
   ·rcases List.mem_cons.1 h with h|h
    ·exact .inr h
    ·exact .inl ((List.mem_filter.1 (List.mem_of_mem_drop h)).1)
theorem idxP_cases {α:Type} (p:α->Bool):∀ l:List α,(idxP p l=-1/\l.find? p=none)∨∃ k:Nat,∃ h:k<l.length,idxP p l=k/\l.find? p=some l[k]
 |[]=>.inl ⟨rfl,rfl⟩
 |a::l=>by
  cases e:p a with
  |true=>exact .inr ⟨0,by simp,by rw [idxP,if_pos e];rfl,by rw [List.find?_cons_of_pos e];rfl⟩
  |false =>
   rcases idxP_cases p l with ⟨h1,h2⟩|⟨k,h,h1,h2⟩
   ·exact .inl ⟨by rw [idxP,if_neg (by simp [e]),h1];rfl,by rw [List.find?_cons_of_neg (by simp [e])];exact h2⟩
   ·refine .inr ⟨k+1,by simpa using h,?_,by rw [List.find?_cons_of_neg (by simp [e])];exact h2⟩;rw [idxP,if_neg (by simp [e]),h1,if_neg (by omega)];omega
def c4 (x:SV):List Value:=[.int .i64 x.1,x.2.1,x.2.2.1,x.2.2.2]
def IsS (v:Value):Prop:=∃ a n c,v=.slice a n c
def Ok4 (x:SV):Prop:=IsS x.2.1/\IsS x.2.2.1/\IsS x.2.2.2
theorem Ok4.one {x:SV} (h:Ok4 x):∀ u∈c4 x,u.oneCell'=true:=by
 obtain ⟨⟨_,_,_,h1⟩,⟨_,_,_,h2⟩,⟨_,_,_,h3⟩⟩:=h;intro u hu;unfold c4 at hu;rw [h1,h2,h3] at hu;simp only [List.mem_cons,List.not_mem_nil,or_false] at hu;rcases hu with rfl|rfl|rfl|rfl <;> rfl
theorem ones4 {l:List SV} (h:∀ x∈l,Ok4 x):∀ u∈(l.map c4).flatten,u.oneCell'=true:=by
 intro u hu;obtain ⟨cs,hcs,hu⟩:=List.mem_flatten.1 hu;obtain ⟨x,hx,rfl⟩:=List.mem_map.1 hcs;exact (h x hx).one u hu
theorem flat4_len (l:List SV):(l.map c4).flatten.length=l.length*4:=by
 induction l with
 |nil=>rfl
 |cons x l ih=>rw [List.map_cons,List.flatten_cons,List.length_append,ih,List.length_cons];show 4+_=_;omega
theorem flat4_take (l:List SV) (k:Nat):(l.map c4).flatten.take (k*4)=((l.take k).map c4).flatten:=by
 induction l generalizing k with
 |nil=>simp
 |cons x l ih =>
  cases k with
  |zero=>simp
  |succ k =>
   rw [List.map_cons,List.flatten_cons,List.take_succ_cons,List.map_cons,List.flatten_cons,←ih k,List.take_append];have:(c4 x).length=4:=rfl;rw [this,List.take_of_length_le (by rw [this];omega),show (k+1)*4 - 4=k*4 by omega]
theorem flat4_drop (l:List SV) (k:Nat):(l.map c4).flatten.drop (k*4)=((l.drop k).map c4).flatten:=by
 have h1:=List.take_append_drop (k*4) (l.map c4).flatten;(have h2:(l.map c4).flatten=((l.take k).map c4).flatten++((l.drop k).map c4).flatten:=by rw [←List.flatten_append,←List.map_append,List.take_append_drop]);rw [flat4_take] at h1;exact List.append_cancel_left (h1.trans h2)
theorem rd4_own {base:Nat} {w:World} {v:Value} {l:List SV} (h:w.ownsRow base 71 4 v l.length (l.map c4).flatten) (hk:∀ x∈l,Ok4 x):RdS DVal4 4 All w v l :=
 rdS_of_row stable_val4 (css:=l.map c4) h (by simp) (fun i hi=>⟨c4 l[i],by simp [hi],rfl,rfl,(hk _ (List.getElem_mem hi))⟩)
theorem rd4_ok {S:Nat->Prop} {w:World} {v:Value} {l:List SV} (h:RdS DVal4 4 S w v l):∀ x∈l,Ok4 x:=by
 intro x hx;obtain ⟨i,hi,rfl⟩:=List.getElem_of_mem hx;obtain ⟨_,_,_,_,_,_,h4⟩:=h;obtain ⟨_,_,_,_,_,_,_,_,hd⟩:=h4 i hi;exact hd.2
theorem insert_any (base:Nat) (vo:Value) (l:List SV) (i:Nat) (x:SV) (g:Nat) (w:World) (hown:w.ownsRow base 71 4 vo l.length (l.map c4).flatten) (hi:i<=l.length) (hg:w.heap[g]? = some (.cells (c4 x).toArray 71 (0,0))) (hgb:vo.ownBlock≠some g)
  (hl:∀ x∈l,Ok4 x) (hx:Ok4 x) (hz:(l.length+1)*80<=140737488355328) (hbase:base<=w.heap.size) :
  Calls Tryz.prog 141 #[vo,.int .i64 i,.slice (some ⟨g,0,none⟩) 1 1] w fun e w'=>∃ v',e=.returned v'/\w'.ownsRow base 71 4 v' (l.length+1) ((l.take i++x::l.drop i).map c4).flatten/\Evo w w' vo v':=by
 have hf:((l.take i++x::l.drop i).map c4).flatten=(l.map c4).flatten.take (i*4)++c4 x++(l.map c4).flatten.drop (i*4):=by
  rw [flat4_take,flat4_drop,List.map_append,List.map_cons,List.flatten_append,List.flatten_cons,List.append_assoc]
 rw [hf]
 by_cases he:i=l.length
 ·subst he;refine (insert_end base vo l.length _ (c4 x) g w hown rfl hg hx.one hz hbase).mono ?_;rintro e w' ⟨v',rfl,h1,h2⟩;refine ⟨v',rfl,?_,h2⟩;rw [←flat4_len,List.take_length,List.drop_length,List.append_nil];exact h1
 ·obtain ⟨hxl,hr⟩:=id hown;rcases hr with ⟨rfl,h0⟩|⟨b,co,cur,rfl,hbb,hb,hnc,hcm,hcs,hct⟩
  ·omega
  ·by_cases hroom:l.length+1<=co
   ·exact insert_shift base b co l.length i _ (c4 x) g w hown (by omega) hroom rfl hg (fun e=>hgb (by rw [e];rfl)) (ones4 hl) hx.one hz
   ·exact insert_grow base b co l.length i _ (c4 x) g w hown (by omega) (by omega) rfl hg (ones4 hl) hx.one hz hbase
theorem rd4_ownS {base n:Nat} {w:World} {v:Value} {l:List SV} {S:Nat->Prop} (hn:l.length=n) (h:w.ownsRow base 71 4 v n (l.map c4).flatten) (hk:∀ x∈l,Ok4 x) (hS:∀ b,base<=b->S b):RdS DVal4 4 S w v l:=by
 subst hn;exact OwnS.rd (S:=No) stable_val4 ⟨l.map c4,by simp,h,fun i hi=>⟨c4 l[i],by simp [hi],rfl,rfl,hk _ (List.getElem_mem hi)⟩⟩ (fun _ h=>h.elim) (fun j hj=>hS j (h.lt j hj).1)
theorem own_set {w:World} {base:Nat} {e:TypeId} {size:Nat} {v:Value} {n:Nat} {xs:List Value} (h:w.ownsRow base e size v n xs) (b o:Nat) (hp:v.ownBlock≠some b) (u:Value):(w.setCell ⟨b,o,none⟩ u).ownsRow base e size v n xs:=ownsRow_setCell_other h hp u
theorem filter_take_succ {α:Type} (p:α->Bool) (l:List α) (k:Nat) (h:k<l.length):(l.take (k+1)).filter p=(l.take k).filter p++(if p l[k] then [l[k]] else []):=by
 rw [List.take_succ_eq_append_getElem h,List.filter_append]
 congr 1
 rw [List.filter_cons];rfl
theorem filter_rising {p:SV->Bool} {l:List SV} (h:Rising l):Rising (l.filter p):=h.sublist List.filter_sublist
theorem filter_len {α:Type} (p:α->Bool) (l:List α):(l.filter p).length<=l.length:=List.length_filter_le p l
theorem set_b {S:Nat->Prop} (s vf vb vv vu:Value) (fs:List Fld) (l:List SV) (x:Val) (a1 a2 a3:Option Addr) (c1 c2 c3:Nat) (w:World) (hs:∃ b,s=.string b) (hvb:IsS vb) (hvu:IsS vu) (hf:RdS DFld 6 All w vf fs) (hv:RdS DVal4 4 S w vv l) (hr:Rising l) (hz:(l.length+1)*80<=140737488355328)
  (h1:RdS DU64 1 All w (.slice a1 x.2.1.length c1) x.2.1) (h2:RdS DBytes 1 All w (.slice a2 x.2.2.1.length c2) x.2.2.1) :
  Calls Tryz.prog 101 #[.agg #[s,vf,vb],.agg #[vv,vu],.agg #[.int .i64 x.1,.slice a1 x.2.1.length c1,.slice a2 x.2.2.1.length c2,.slice a3 x.2.2.2.length c3]] w fun e w' =>
   ∃ vv',e=.returned (.agg #[vv',vu])/\RdS DVal4 4 (Sx S w) w' vv' (setG (fun y:SV=>y.1) fs l (x.1,.slice a1 x.2.1.length c1,.slice a2 x.2.2.1.length c2,.slice a3 x.2.2.2.length c3) (fun f=>plainN f x))/\Up w w':=by
 obtain ⟨sb,rfl⟩:=hs;obtain ⟨b1,b2,b3,rfl⟩:=hvb;obtain ⟨u1,u2,u3,rfl⟩:=hvu;obtain ⟨ao,cap,rfl,hc1,hc2⟩:=hv.val;obtain ⟨fo,fcap,rfl,hfc1,hfc2⟩:=hf.val;have Hv:=hid hv;have Hf:=hid hf;have Hr:=hid hr;have H1:=hid h1;have H2:=hid h2;have Hok:=hid (rd4_ok hv);clear hv hf hr h1 h2;obtain ⟨X,hX⟩:∃ X:SV,X=(x.1,.slice a1 x.2.1.length c1,.slice a2 x.2.2.1.length c2,.slice a3 x.2.2.2.length c3):=⟨_,rfl⟩;(have hX1:X.1=x.1:=by rw [hX]);rw [←hX];have HX:=hid hX;have HX1:=hid hX1;clear hX hX1
 go_enter Tryz.func101,Tryz.ntmps101
 (go_wp2_with fail);have hb0:((((w.alloc (.cells #[.string sb,.slice fo fs.length fcap,.slice b1 b2 b3] 35)).alloc (.cells #[.slice ao l.length cap,.slice u1 u2 u3] 29)).alloc (.cells #[.int .i64 x.1,.slice a1 x.2.1.length c1,.slice a2 x.2.2.1.length c2,.slice a3 x.2.2.2.length c3] 71)).alloc (.cells #[.slice none 0 0,.slice none 0 0] 29)).heap[w.heap.size]? = some (.cells #[.string sb,.slice fo fs.length fcap,.slice b1 b2 b3] 35 (0,0)):=blk_old _ (blk_old _ (blk_old _ (blk_new w _ rfl)));have hb1:((((w.alloc (.cells #[.string sb,.slice fo fs.length fcap,.slice b1 b2 b3] 35)).alloc (.cells #[.slice ao l.length cap,.slice u1 u2 u3] 29)).alloc (.cells #[.int .i64 x.1,.slice a1 x.2.1.length c1,.slice a2 x.2.2.1.length c2,.slice a3 x.2.2.2.length c3] 71)).alloc (.cells #[.slice none 0 0,.slice none 0 0] 29)).heap[w.heap.size+1]? = some (.cells #[.slice ao l.length cap,.slice u1 u2 u3] 29 (0,0)):=blk_old _ (blk_old _ (blk_new (w.alloc _) _ (by simp)));have hb2:((((w.alloc (.cells #[.string sb,.slice fo fs.length fcap,.slice b1 b2 b3] 35)).alloc (.cells #[.slice ao l.length cap,.slice u1 u2 u3] 29)).alloc (.cells #[.int .i64 x.1,.slice a1 x.2.1.length c1,.slice a2 x.2.2.1.length c2,.slice a3 x.2.2.2.length c3] 71)).alloc (.cells #[.slice none 0 0,.slice none 0 0] 29)).heap[w.heap.size+2]? = some (.cells #[.int .i64 x.1,.slice a1 x.2.1.length c1,.slice a2 x.2.2.1.length c2,.slice a3 x.2.2.2.length c3] 71 (0,0)):=blk_old _ (blk_new ((w.alloc _).alloc _) _ (by simp));have hb3:((((w.alloc (.cells #[.string sb,.slice fo fs.length fcap,.slice b1 b2 b3] 35)).alloc (.cells #[.slice ao l.length cap,.slice u1 u2 u3] 29)).alloc (.cells #[.int .i64 x.1,.slice a1 x.2.1.length c1,.slice a2 x.2.2.1.length c2,.slice a3 x.2.2.2.length c3] 71)).alloc (.cells #[.slice none 0 0,.slice none 0 0] 29)).heap[w.heap.size+3]? = some (.cells #[.slice none 0 0,.slice none 0 0] 29 (0,0)):=blk_new (((w.alloc _).alloc _).alloc _) _ (by simp);have hu0:Up w ((((w.alloc (.cells #[.string sb,.slice fo fs.length fcap,.slice b1 b2 b3] 35)).alloc (.cells #[.slice ao l.length cap,.slice u1 u2 u3] 29)).alloc (.cells #[.int .i64 x.1,.slice a1 x.2.1.length c1,.slice a2 x.2.2.1.length c2,.slice a3 x.2.2.2.length c3] 71)).alloc (.cells #[.slice none 0 0,.slice none 0 0] 29)):=((((Up.refl w).alloc _).alloc _).alloc _).alloc _;generalize hw1:(((w.alloc (.cells #[.string sb,.slice fo fs.length fcap,.slice b1 b2 b3] 35)).alloc (.cells #[.slice ao l.length cap,.slice u1 u2 u3] 29)).alloc (.cells #[.int .i64 x.1,.slice a1 x.2.1.length c1,.slice a2 x.2.2.1.length c2,.slice a3 x.2.2.2.length c3] 71)).alloc (.cells #[.slice none 0 0,.slice none 0 0] 29)=w1 at *;clear hw1;have Hfc:=hid (fun n W (k:Up w W)=>field_any (.string sb) (.slice fo fs.length fcap) (.slice b1 b2 b3) fs n W ⟨_,rfl⟩ ⟨_,_,_,rfl⟩ (Hf.out.up stable_fld k));refine (Hfc.out x.1 w1 hu0).mono ?_;rintro e w2 ⟨rfl,hu2⟩;have Hb0:=hid (hu2.blk hb0);have Hb1:=hid (hu2.blk hb1);have Hb2:=hid (hu2.blk hb2);have Hb3:=hid (hu2.blk hb3);have hu02:=hu0.trans hu2;have hz3:w.heap.size+3<w2.heap.size:=lt_of_block Hb3.out;clear hb0 hb1 hb2 hb3 hu0 hu2;rcases idxP_cases (fun z:Fld=>z.number==x.1) fs with ⟨hi,hfd⟩|⟨k,hk,hi,hfd⟩
 ·rw [hi];(have hset:setG (fun y:SV=>y.1) fs l X (fun f=>plainN f x)=l:=by unfold setG;rw [show (fun z:Fld=>z.number==X.1)=(fun z:Fld=>z.number==x.1) by rw [HX1.out],hfd]);have e0:=ro0 Hb1.out;have e1:=ro1 Hb1.out;have r0:=ro0 Hb3.out;have r1:=ro1 Hb3.out;have rf':∀ o,w2.frozen? ⟨w.heap.size+3,o,none⟩=false:=fun o=>frozen_of_row w2 _ o _ _ Hb3.out;have Hset:=hid hset;have Hu02:=hid hu02;clear hset hi hfd hu02;(go_wp2_with fail);refine bodyPost_ret (v:=.agg #[.slice ao l.length cap,.slice u1 u2 u3]) (by simp [results,Tryz.results101,go_sem,r0,r1]) rfl ?_;have huf:=Up.setCell (Up.setCell Hu02.out (p:=⟨w.heap.size+3,0,none⟩) (by simp) (.slice ao l.length cap)) (p:=⟨w.heap.size+3,1,none⟩) (by simp) (.slice u1 u2 u3);exact ⟨_,rfl,by rw [Hset.out];exact (Hv.out.up stable_val4 huf).keep stable_val4 (Keep.weak fun _ h=>.inl h),huf⟩
 rw [hi];obtain ⟨fb,fof,rfl,hfa⟩:=fld_at (Hf.out.up stable_fld hu02) hk;have Hset:=hid (show setG (fun y:SV=>y.1) fs l X (fun f=>plainN f x)=(if plainN fs[k] x then l.filter (fun y=>keepN fs fs[k] x.1 y.1) else insG (fun y:SV=>y.1) (l.filter fun y=>keepN fs fs[k] x.1 y.1) X) by unfold setG;simp only [HX1.out,hfd]);have Hfa:=hid hfa;have Hu02:=hid hu02;have hfz:fb<w2.heap.size:=hfa.1;(have k0:(0:Int)<=(k:Int):=by omega);(have k1:(k:Int)<(fs.length:Int):=by omega);clear hi hfd hfa hu02;generalize fs[k]=F at *;have m1:w2.cell? ⟨w.heap.size,1,none⟩=some (.slice (some ⟨fb,fof,none⟩) fs.length fcap):=cell_of_row w2 _ 1 _ _ _ Hb0.out;have e0:=ro0 Hb1.out;(go_wp2_with fail);clear m1 e0
 go_loopw [29,9] (fun i s wr=>∃ (k2:Nat) (v:Value),k2<=l.length/\i=.int .i64 k2/\v=s/\wr.ownsRow w2.heap.size 71 4 v ((l.take k2).filter fun y=>keepN fs F x.1 y.1).length (((l.take k2).filter fun y=>keepN fs F x.1 y.1).map c4).flatten/\Up w2 wr)
  (fun i _ _=>l.length - (intOf i).toNat)
 case atStart=>exact ⟨0,_,by omega,rfl,rfl,World.ownsRow_nil _ _ _ _,Up.refl _⟩
 case round =>
  obtain ⟨k2,s,hk2,rfl,rfl,how,hu⟩:=hrel;have How:=hid how;clear how
  by_cases hlt:k2<l.length
  ·obtain ⟨b,o,cs,rfl,hb,hl,hcs,hd⟩:=(Hv.out.up stable_val4 (Hu02.out.trans hu)).at hlt;obtain ⟨hd,⟨d1,n1,g1,h1⟩,⟨d2,n2,g2,h2⟩,⟨d3,n3,g3,h3⟩⟩:=hd;have Hsn:=hid (filter_take_succ (fun y:SV=>keepN fs F x.1 y.1) l k2 hlt)
   have hll:((l.take k2).filter fun y:SV=>keepN fs F x.1 y.1).length+1<=l.length:=by
    have:=filter_len (fun y:SV=>keepN fs F x.1 y.1) (l.take k2);rw [List.length_take] at this;omega
   generalize (l.take k2).filter (fun y:SV=>keepN fs F x.1 y.1)=L at *;generalize l[k2]=y at *;obtain ⟨yn,ya,yb,yc⟩:=y;simp only at h1 h2 h3;subst h1 h2 h3;subst hd;have p0:=hcs 0 _ rfl;have p1:=hcs 1 _ rfl;have p2:=hcs 2 _ rfl;have p3:=hcs 3 _ rfl;simp only [Nat.add_zero] at p0;(have i0:(0:Int)<=(k2:Int):=by omega);(have i1:(k2:Int)<(l.length:Int):=by omega);clear hcs hl;obtain ⟨wo,rfl⟩:∃ wo:World,wo=wr:=⟨_,rfl⟩;have Hu:=hid hu
   go_upto_region 9 with (fail)
   have hy:=blk_new wo (.cells #[.int .i64 yn,.slice d1 n1 g1,.slice d2 n2 g2,.slice d3 n3 g3] 71) (g:=wo.heap.size) rfl;have huy:=(Up.refl wo).alloc (.cells #[.int .i64 yn,.slice d1 n1 g1,.slice d2 n2 g2,.slice d3 n3 g3] 71);generalize hwy:wo.alloc (.cells #[.int .i64 yn,.slice d1 n1 g1,.slice d2 n2 g2,.slice d3 n3 g3] 71)=wy at *;clear hwy p0 p1 p2 p3;have hu2y:=Hu.out.trans huy;have m0:=ro0 (hu2y.blk Hb0.out);have m1:wy.cell? ⟨w.heap.size,1,none⟩=some (.slice (some ⟨fb,fof,none⟩) fs.length fcap):=cell_of_row wy _ 1 _ _ _ (hu2y.blk Hb0.out);have m2:=ro2 (hu2y.blk Hb0.out);have y0:=ro0 hy;have Huy:=hid huy;have Hy:=hid hy;clear huy hu2y hu;(go_wp2_with fail);refine (Hfc.out yn wy (Hu02.out.trans (Hu.out.trans Huy.out))).mono ?_;rintro e w5 ⟨rfl,hu5⟩;have hu25:=Hu.out.trans (Huy.out.trans hu5);have hy5:=hu5.blk Hy.out;have m0:w5.cell? ⟨w.heap.size,1,none⟩=some (.slice (some ⟨fb,fof,none⟩) fs.length fcap):=cell_of_row w5 _ 1 _ _ _ (hu25.blk Hb0.out);have y0:=ro0 hy5;have x0:=ro0 (hu25.blk Hb2.out);have fc:w5.cell? ⟨fb,fof+k*6+5,none⟩=some (.int .i64 F.choice):=hu25.cell_some Hfa.out.2.1.2.2.2.2.2;have Hu25:=hid hu25;have Hy5:=hid hy5;have Hu5:=hid hu5;obtain ⟨KP,hKP⟩:∃ KP,keepN fs F x.1 yn=KP:=⟨_,rfl⟩;have Hu0y:=hid (show Up wo w5 from Huy.out.trans hu5);clear hu5 hu25 hy5 m1 m2 Huy Hy
   have hcs:((yn != x.1)=false/\KP=false)∨((yn != x.1)=true/\(F.choice==0)=false/\(∃ j:Nat,∃ G:Fld,idxP (fun z:Fld=>z.number==yn) fs=j/\(0:Int)<=(j:Int)/\(j:Int)<(fs.length:Int)/\w5.cell? ⟨fb,fof+j*6+5,none⟩=some (.int .i64 G.choice)/\(G.choice != F.choice)=false)/\KP=false) ∨
     ((yn != x.1)=true/\(F.choice==0)=true/\KP=true)∨((yn != x.1)=true/\(F.choice==0)=false/\idxP (fun z:Fld=>z.number==yn) fs=-1/\KP=true) ∨
     ((yn != x.1)=true/\(F.choice==0)=false/\(∃ j:Nat,∃ G:Fld,idxP (fun z:Fld=>z.number==yn) fs=j/\(0:Int)<=(j:Int)/\(j:Int)<(fs.length:Int)/\w5.cell? ⟨fb,fof+j*6+5,none⟩=some (.int .i64 G.choice)/\(G.choice != F.choice)=true)/\KP=true):=by
    unfold keepN at hKP
    cases q1:(yn != x.1) with
    |false=>rw [q1] at hKP;exact .inl ⟨rfl,by rw [←hKP];rfl⟩
    |true =>
     rw [q1] at hKP
     cases q2:(F.choice==0) with
     |true=>rw [q2] at hKP;exact .inr (.inr (.inl ⟨rfl,rfl,by rw [←hKP];rfl⟩))
     |false =>
      rw [q2] at hKP;rcases idxP_cases (fun z:Fld=>z.number==yn) fs with ⟨g1,g2⟩|⟨j,hj,g1,g2⟩
      ·rw [g2] at hKP;exact .inr (.inr (.inr (.inl ⟨rfl,rfl,g1,by rw [←hKP];rfl⟩)))
      ·obtain ⟨fb',fof',e,hfj⟩:=fld_at (Hf.out.up stable_fld (Hu02.out.trans Hu25.out)) hj;simp only [Option.some.injEq,Addr.mk.injEq,and_true] at e;obtain ⟨rfl,rfl⟩:=e;rw [g2] at hKP;simp only [Bool.true_and,Bool.false_or] at hKP;have hce:=hfj.2.1.2.2.2.2.2
       cases q3:(fs[j].choice != F.choice) with
       |false=>exact .inr (.inl ⟨rfl,rfl,⟨j,fs[j],g1,by omega,by omega,hce,q3⟩,by rw [←hKP,q3]⟩)
       |true=>exact .inr (.inr (.inr (.inr ⟨rfl,rfl,⟨j,fs[j],g1,by omega,by omega,hce,q3⟩,by rw [←hKP,q3]⟩)))
   rcases hcs with ⟨q1,q2⟩|⟨q1,q3,⟨j,G,q4,q5,q6,q7,q8⟩,q2⟩|⟨q1,q3,q2⟩|⟨q1,q3,q4,q2⟩|⟨q1,q3,⟨j,G,q4,q5,q6,q7,q8⟩,q2⟩
   ·subst q2;go_wp2_with fail
    go_quiet (fail)
    go_wp2_with fail
    go_roundw
    (case rel=>exact ⟨k2+1,_,by omega,by go_num,rfl,by rw [Hsn.out,if_neg (by rw [hKP];decide),List.append_nil];exact (How.out.kept (Hu0y.out.drewN _).to_none (by cases hv:s.ownBlock <;> simp)),Up.drewN Hu25.out _⟩);case measure=>simp [intOf];omega
   ·subst q2;rw [q4];go_wp2_with fail
    go_quiet (fail)
    go_wp2_with fail
    go_roundw
    (case rel=>exact ⟨k2+1,_,by omega,by go_num,rfl,by rw [Hsn.out,if_neg (by rw [hKP];decide),List.append_nil];exact (How.out.kept (Hu0y.out.drewN _).to_none (by cases hv:s.ownBlock <;> simp)),Up.drewN Hu25.out _⟩);case measure=>simp [intOf];omega
   (all_goals go_wp2_with fail);all_goals go_quiet (fail)
   all_goals
    have hu5q:Up w5 (w5.drewN nq):=Up.drewN (Up.refl _) _;generalize w5.drewN nq=wq at *;have hy6:=hu5q.blk Hy5.out;have z6:wo.heap.size<wq.heap.size:=lt_of_block hy6;have hxo:wq.ownsRow w2.heap.size 71 4 s L.length (L.map c4).flatten:=How.out.kept (Hu0y.out.trans hu5q).to_none (by cases hv:s.ownBlock <;> simp);have y0:=ro0 hy6;have y1:=ro1 hy6;have y2:=ro2 hy6;have y3:=ro3 hy6;have hwq:=Hu25.out.trans hu5q;have hbq:=hwq.size;have Hxo:=hid hxo;have Hwq:=hid hwq;clear hy6 hxo hwq hu5q m0 x0 fc;go_wp2_with (at_builtin;go_must (refine wpList_app1 eVal _ (by rfl) _ _ (by rfl) w2.heap.size _ _ _ (by rfl) Hxo.out _ (by rfl) (by first|rfl|simp) (by rfl) (oc (by rfl)) (by omega) (by unfold maxLen;omega) (by first|omega|(simp;omega)) ?_;intro v3 w3 how3 hev3;have How3:=hid how3;have Hev3:=hid hev3;clear how3 hev3))
    go_roundw
    case rel =>
     refine ⟨k2+1,v3,by omega,by go_num,rfl,?_,Up.evo Hwq.out Hev3.out (fun j hj=>(Hxo.out.lt j hj).1)⟩;rw [Hsn.out,if_pos (by rw [hKP,q2]),List.length_append,List.map_append,List.flatten_append];simpa [c4] using How3.out
    case measure=>simp [intOf];omega
  ·have hfin:l.take k2=l:=List.take_of_length_le (by omega);rw [hfin] at How;have hll:(l.filter fun y:SV=>keepN fs F x.1 y.1).length<=l.length:=filter_len _ _;have Hris:=hid (filter_rising (p:=fun y:SV=>keepN fs F x.1 y.1) Hr.out);have Hok2:=hid (show ∀ y∈l.filter (fun y:SV=>keepN fs F x.1 y.1),Ok4 y from fun y hy=>Hok.out y (List.mem_filter.1 hy).1);generalize (l.filter fun y:SV=>keepN fs F x.1 y.1)=L at *;obtain ⟨wo,rfl⟩:∃ wo:World,wo=wr:=⟨_,rfl⟩;have hxb:=hu.blk Hb2.out;have x0:=ro0 hxb;have x1:=ro1 hxb;have x2:=ro2 hxb;have x3:=ro3 hxb;have huw:=Hu02.out.trans hu;have Hpl:=hid (plain_any F fb (fof+k*6) (w.heap.size+1+1) 0 x a1 a2 a3 c1 c2 c3 wo (hu.cell_some Hfa.out.2.1.2.2.1) (hu.cell_some Hfa.out.2.1.2.2.2.2.1) (hu.cell_some Hfa.out.2.1.2.2.2.2.2) ⟨x0,x1,x2,x3⟩ (H1.out.up stable_u64 huw) (H2.out.up stable_bytes huw));have Hu:=hid hu;clear hxb huw hu x0 x1 x2 x3;(go_wp2_with fail);refine Hpl.out.mono ?_;rintro e w3 ⟨rfl,hu3⟩;have hu23:=Hu.out.trans hu3;have hxb:=hu23.blk Hb2.out;have hbb:=hu23.blk Hb1.out;have hrb:=hu23.blk Hb3.out;have b1':=ro1 hbb;have b0':=ro0 hbb;have bf:∀ o,w3.frozen? ⟨w.heap.size+1,o,none⟩=false:=fun o=>frozen_of_row w3 _ o _ _ hbb;have r0:=ro0 hrb;have r1:=ro1 hrb;have rf':∀ o,w3.frozen? ⟨w.heap.size+1+1+1,o,none⟩=false:=fun o=>frozen_of_row w3 _ o _ _ hrb;have hz3':w.heap.size+3<w3.heap.size:=Nat.lt_of_lt_of_le hz3 hu23.size;obtain ⟨so,sc,rfl⟩:=own_val How.out
   cases hpl:plainN F x with
   |true =>
    have Hset2:=hid (by rw [Hset.out,if_pos hpl]:setG (fun y:SV=>y.1) fs l X (fun f=>plainN f x)=L);have how3:=How.out.kept hu3.to_none (by cases hv:(Value.slice so L.length sc).ownBlock <;> simp);(have hlo:∀ b,b<w2.heap.size->(Value.slice so L.length sc).ownBlock≠some b:=fun b hb e=>by have:=(how3.lt _ e).1;omega);have how4:=own_set (own_set (own_set how3 (w.heap.size+1) 0 (hlo _ (by omega)) (.slice so L.length sc)) (w.heap.size+1+1+1) 0 (hlo _ (by omega)) (.slice so L.length sc)) (w.heap.size+1+1+1) 1 (hlo _ (by omega)) (.slice u1 u2 u3);have Hfin:=hid (rd4_ownS (S:=Sx S w) rfl how4 Hok2.out (fun b hb=>.inr (by have:=Hu02.out.size;omega)));have Huf:=hid (Up.setCell (Up.setCell (Up.setCell (Hu02.out.trans hu23) (p:=⟨w.heap.size+1,0,none⟩) (show w.heap.size<=w.heap.size+1 by omega) (.slice so L.length sc)) (p:=⟨w.heap.size+1+1+1,0,none⟩) (show w.heap.size<=w.heap.size+3 by omega) (.slice so L.length sc)) (p:=⟨w.heap.size+1+1+1,1,none⟩) (show w.heap.size<=w.heap.size+3 by omega) (.slice u1 u2 u3));clear how3 hlo how4 hxb hbb hrb hu23 hu3 hpl;(go_wp2_with fail);refine bodyPost_ret (v:=.agg #[.slice so L.length sc,.slice u1 u2 u3]) (by simp [results,Tryz.results101,go_sem,r0,r1]) rfl ?_;exact ⟨_,rfl,by rw [Hset2.out];exact Hfin.out,Huf.out⟩
   |false =>
    have Hset2:=hid (by rw [Hset.out,if_neg (by rw [hpl];decide)]:setG (fun y:SV=>y.1) fs l X (fun f=>plainN f x)=insG (fun y:SV=>y.1) L X);have how3:=How.out.kept hu3.to_none (by cases hv:(Value.slice so L.length sc).ownBlock <;> simp);have Hrd3:=hid (rd4_own how3 Hok2.out);have How3:=hid how3;have x0:=ro0 hxb;have Hu23:=hid hu23;clear how3 hxb hbb hrb hu23 hu3 hpl b0' b1' bf r0 r1 rf';(go_wp2_with fail);refine (search_b _ L x.1 w3 Hrd3.out Hris.out (by omega)).mono ?_;rintro e w4 ⟨t,rfl,hu4⟩;have hu24:=Hu23.out.trans hu4;have hxb:=hu24.blk Hb2.out;have x0:=ro0 hxb;have x1:=ro1 hxb;have x2:=ro2 hxb;have x3:=ro3 hxb;have how4:=How3.out.kept hu4.to_none (by cases hv:(Value.slice so L.length sc).ownBlock <;> simp);have How4:=hid how4;have Hu24:=hid hu24;have hlow:lowN L x.1<=L.length:=List.Sublist.length_le (List.takeWhile_sublist _);(have hlow2:(L.takeWhile fun y:SV=>decide (y.1<X.1)).length=lowN L x.1:=by rw [HX1.out];rfl);have Hlow2:=hid hlow2;clear how4 hu24 hu4 hlow2 hxb;generalize lowN L x.1=at' at *;(go_wp2_with fail);(have hg:(w4.alloc (.cells #[.int .i64 x.1,.slice a1 x.2.1.length c1,.slice a2 x.2.2.1.length c2,.slice a3 x.2.2.2.length c3] 71)).heap[w4.heap.size]? = some (.cells (c4 X).toArray 71 (0,0)):=by rw [HX.out];exact blk_new w4 _ rfl);have hua:Up w4 (w4.alloc (.cells #[.int .i64 x.1,.slice a1 x.2.1.length c1,.slice a2 x.2.2.1.length c2,.slice a3 x.2.2.2.length c3] 71)):=(Up.refl w4).alloc _;generalize w4.alloc (.cells #[.int .i64 x.1,.slice a1 x.2.1.length c1,.slice a2 x.2.2.1.length c2,.slice a3 x.2.2.2.length c3] 71)=w5 at *;(have hokX:Ok4 X:=by rw [HX.out];exact ⟨⟨_,_,_,rfl⟩,⟨_,_,_,rfl⟩,⟨_,_,_,rfl⟩⟩);have hu25:=Hu24.out.trans hua;refine (insert_any w2.heap.size (.slice so L.length sc) L at' X w4.heap.size w5 (How4.out.kept hua.to_none (by cases hv:(Value.slice so L.length sc).ownBlock <;> simp)) hlow hg (fun e=>by have:=(How4.out.lt _ e).2;omega) Hok2.out hokX (by omega) hu25.size).mono ?_;rintro e w6 ⟨v6,rfl,how6,hev6⟩;obtain ⟨so6,sc6,rfl⟩:=own_val how6;(have hlo:∀ b,b<w2.heap.size->(Value.slice so L.length sc).ownBlock≠some b:=fun b hb e=>by have:=(How4.out.lt _ e).1;omega);(have hlo6:∀ b,b<w2.heap.size->(Value.slice so6 (L.length+1) sc6).ownBlock≠some b:=fun b hb e=>by have:=(how6.lt _ e).1;omega);have hbb:=hev6.blk (hu25.blk Hb1.out) (hlo _ (by omega));have hrb:=hev6.blk (hu25.blk Hb3.out) (hlo _ (by omega));have hu26:Up w2 w6:=hu25.evo hev6 (fun j hj=>(How4.out.lt _ hj).1);have b1':=ro1 hbb;have b0':=ro0 hbb;have bf:∀ o,w6.frozen? ⟨w.heap.size+1,o,none⟩=false:=fun o=>frozen_of_row w6 _ o _ _ hbb;have r0:=ro0 hrb;have r1:=ro1 hrb;have rf':∀ o,w6.frozen? ⟨w.heap.size+1+1+1,o,none⟩=false:=fun o=>frozen_of_row w6 _ o _ _ hrb;have hz6':w.heap.size+3<w6.heap.size:=Nat.lt_of_lt_of_le hz3 hu26.size;(have hli:(L.take at'++X::L.drop at').length=L.length+1:=by simp only [List.length_append,List.length_take,List.length_cons,List.length_drop];omega);have how7:=own_set (own_set (own_set how6 (w.heap.size+1) 0 (hlo6 _ (by omega)) (.slice so6 (L.length+1) sc6)) (w.heap.size+1+1+1) 0 (hlo6 _ (by omega)) (.slice so6 (L.length+1) sc6)) (w.heap.size+1+1+1) 1 (hlo6 _ (by omega)) (.slice u1 u2 u3)
    have Hfin:=hid (rd4_ownS (S:=Sx S w) hli how7 (hS:=fun b hb=>.inr (by have:=Hu02.out.size;omega)) (hk:=fun y hy=>by
     rcases List.mem_append.1 hy with h|h
     ·exact Hok2.out y (List.mem_of_mem_take h)
     ·rcases List.mem_cons.1 h with h|h
      ·rw [h];exact hokX
      ·exact Hok2.out y (List.mem_of_mem_drop h)))
    have Huf:=hid (Up.setCell (Up.setCell (Up.setCell (Hu02.out.trans hu26) (p:=⟨w.heap.size+1,0,none⟩) (show w.heap.size<=w.heap.size+1 by omega) (.slice so6 (L.length+1) sc6)) (p:=⟨w.heap.size+1+1+1,0,none⟩) (show w.heap.size<=w.heap.size+3 by omega) (.slice so6 (L.length+1) sc6)) (p:=⟨w.heap.size+1+1+1,1,none⟩) (show w.heap.size<=w.heap.size+3 by omega) (.slice u1 u2 u3));have Hset3:=hid (show setG (fun y:SV=>y.1) fs l X (fun f=>plainN f x)=L.take at'++X::L.drop at' by rw [Hset2.out];unfold insG;rw [Hlow2.out]);clear how7 hlo hlo6 how6 hbb hrb hu26 hu25 hua hg hev6 hli hokX x0 x1 x2 x3 How4;(go_wp2_with fail);refine bodyPost_ret (v:=.agg #[.slice so6 (L.length+1) sc6,.slice u1 u2 u3]) (by simp [results,Tryz.results101,go_sem,r0,r1]) rfl ?_;exact ⟨_,rfl,by rw [Hset3.out];exact Hfin.out,Huf.out⟩
end Go.Proofs.YtbceccblepckhaaGreatDoor
