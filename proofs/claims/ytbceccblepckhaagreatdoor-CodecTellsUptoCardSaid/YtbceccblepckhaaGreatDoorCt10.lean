/-
  slices.Grow of nil, slices.Concat of two slices (written by gen_concat.py).
-/
import Derived.Test.YtbceccblepckhaaGreatDoorCt08
import Derived.Lib.AppendZeros
import Derived.Laws.NewBlocks
set_option maxHeartbeats 3200000
set_option linter.unusedVariables false
namespace Go.Proofs.YtbceccblepckhaaGreatDoor
open Go.RowKit
set_option maxRecDepth 100000
open Lib (hid)
abbrev Sx (S:Nat->Prop) (w:World):Nat->Prop:=fun b=>S b∨w.heap.size<=b
theorem rdS_joinS {α:Type} {D:Lay α} (hD:Stable D) {S:Nat->Prop} {base:Nat} {e:TypeId} {size:Nat} {w w':World} {v:Value} {x y:List α} {cx cy:List (List Value)} (hu:Up w w')
  (lx:cx.length=x.length) (ex:∀ i,(h:i<x.length)->∃ cs,cx[i]? = some cs/\cs.length=size/\D (fun k=>S k/\k<base) w x[i] cs)
  (ly:cy.length=y.length) (ey:∀ i,(h:i<y.length)->∃ cs,cy[i]? = some cs/\cs.length=size/\D (fun k=>S k/\k<base) w y[i] cs)
  (how:w'.ownsRow base e size v (x.length+y.length) (cx.flatten++cy.flatten)):RdS D size (fun b=>S b∨base<=b) w' v (x++y):=by
 refine OwnS.rd (S:=fun k=>S k/\k<base) (base:=base) (e:=e) hD ⟨cx++cy,by simp [lx,ly],by rw [List.length_append,List.flatten_append];exact how,fun i hi=>?_⟩ (fun k hk=>.inl hk.1) (fun j hj=>.inr (how.lt j hj).1);have hk:Keep (fun k=>S k/\k<base) w (Av2 (fun k=>S k/\k<base) v) w':=fun k hs hk=>⟨hu.block k hk,hs,fun e=>by have:=(how.lt k e).1;have:=hs.2;omega⟩;rw [List.length_append] at hi
 by_cases h:i<x.length
 ·obtain ⟨cs,h1,h2,h3⟩:=ex i h;refine ⟨cs,by rw [List.getElem?_append_left (by omega)];exact h1,h2,?_⟩;rw [List.getElem_append_left h];exact hD _ _ _ _ _ _ hk h3
 ·obtain ⟨cs,h1,h2,h3⟩:=ey (i - x.length) (by omega);refine ⟨cs,by rw [List.getElem?_append_right (by omega),lx];exact h1,h2,?_⟩;rw [List.getElem_append_right (by omega)];exact hD _ _ _ _ _ _ hk h3
theorem one_byt : ∀ S w a cs,DBytes S w a cs->∀ u∈cs,u.oneCell'=true:=by
 rintro S w a cs ⟨v,rfl,h,_⟩ u hu;obtain ⟨a,c,rfl,_,_⟩:=h.val;simp only [List.mem_cons,List.not_mem_nil,or_false] at hu;subst hu;rfl
theorem one_bod (d:Nat):∀ S w a cs,DBodF d S w a cs->∀ u∈cs,u.oneCell'=true:=by
 intro S w a cs h u hu;obtain ⟨a1,n1,c1,a2,n2,c2,rfl⟩:=bod_two h;simp only [List.mem_cons,List.not_mem_nil,or_false] at hu;rcases hu with rfl|rfl <;> rfl
theorem one_recz : ∀ S w a cs,DRecZ S w a cs->∀ u∈cs,u.oneCell'=true:=by
 rintro S w a cs ⟨⟨v,rfl,h,_⟩,_⟩ u hu;obtain ⟨a,c,rfl,_,_⟩:=h.val;simp only [List.mem_cons,List.not_mem_nil,or_false] at hu;rcases hu with rfl|rfl|rfl|rfl <;> rfl
theorem grow_u64 (n:Nat) (w:World) (hz:n*8<=140737488355328) :
  Calls Tryz.prog 135 #[.slice none 0 0,.int .i64 n] w fun e w'=>∃ v',e=.returned v'/\w'.ownsRow w.heap.size 72 1 v' 0 []/\Up w w':=by
 by_cases h0:n=0
 ·subst h0
  go_enter Tryz.func135,Tryz.ntmps135
  go_wp2_with fail
  go_ret
  exact ⟨_,rfl,World.ownsRow_nil _ _ _ _,Up.refl _⟩
 obtain ⟨i,hi,hz0,hsz,hby⟩:=eU64c.info;have hrun:=fun ty=>Lib.run_append_nil_zeros (P:=Tryz.prog) w 67 3 ty 72 i _ .i64 .i64 eU64c.ht Tryz.underlying3 hi hz0 n (by omega) (by rw [hsz];decide) (by omega) (by rw [hby];omega);obtain ⟨G,hG⟩:∃ G,G=grownCap w n 0 72:=⟨_,rfl⟩;(have hGm:G<=maxLen:=by rw [hG];exact grownCap_le_maxLen w n 0 _ (by unfold maxLen;omega));(have hGn:n<=G:=by rw [hG];exact grownCap_ge w _ _ _);(have hG63:G<=9223372036854775807:=by unfold maxLen at hGm;omega);rw [←hG] at hrun
 have hfin:(w.drew.alloc (.cells (Builtin.zeroCells (Value.cells (.int .u64 0)) n++Builtin.zeroCells (Value.cells (.int .u64 0)) (G - n)) 72)).ownsRow w.heap.size 72 1 (.slice (some ⟨w.heap.size,0,none⟩) 0 G) 0 [] :=
  ⟨rfl,.inr ⟨w.heap.size,G,_,rfl,Nat.le_refl _,heap_alloc_new w.drew _,Nat.zero_le _,hGm,by simp [Builtin.zeroCells,Value.cells];omega,by simp⟩⟩
 have hu:Up w (w.drew.alloc (.cells (Builtin.zeroCells (Value.cells (.int .u64 0)) n++Builtin.zeroCells (Value.cells (.int .u64 0)) (G - n)) 72)):=((Up.refl w).drew).alloc _;have Hfin:=hid hfin;have Hu:=hid hu;have Hrun:=hid hrun;(have q1:(0:Int)<(n:Int):=by omega);(have q2:¬ (n:Int)<0:=by omega);clear hfin hu hrun hG hi hz0 hsz hby
 go_enter Tryz.func135,Tryz.ntmps135
 go_wp2_with (at_builtin;go_must (refine Lib.wpList_append_run _ rfl _ _ _ _ rfl _ _ rfl rfl _ _ (Hrun.out _) ?_))
 go_ret
 exact ⟨_,rfl,Hfin.out,Hu.out⟩
theorem concat_u64 {S:Nat->Prop} (va vb:Value) (x y:List (Nat)) (g:Nat) (t:TypeId) (w:World) (hx:RdS DU64 1 S w va x) (hy:RdS DU64 1 S w vb y) (hg:w.heap[g]? = some (.cells #[va,vb] t (0,0))) (hz:(x.length+y.length)*8<=140737488355328) :
  Calls Tryz.prog 97 #[.slice (some ⟨g,0,none⟩) 2 2] w fun e w'=>∃ v',e=.returned v'/\RdS DU64 1 (Sx S w) w' v' (x++y)/\Up w w':=by
 obtain ⟨xa,xc,rfl,hx1,hx2⟩:=hx.val;obtain ⟨ya,yc,rfl,hy1,hy2⟩:=hy.val;have Hxn:=hid hx;have Hyn:=hid hy;obtain ⟨-,hxn,cx,lx,ex,fx,nx⟩:=RdS.css (by decide) (hx.keep stable_u64 (S':=fun k=>S k/\k<w.heap.size) (fun k hs hk=>⟨rfl,hs,hk⟩));obtain ⟨-,hyn,cy,ly,ey,fy,ny⟩:=RdS.css (by decide) (hy.keep stable_u64 (S':=fun k=>S k/\k<w.heap.size) (fun k hs hk=>⟨rfl,hs,hk⟩));have Hox:=hid (ones_of (D:=DU64) (S:=fun k=>S k/\k<w.heap.size) (w:=w) (l:=x) (size:=1) one_u64c lx ex);have Hoy:=hid (ones_of (D:=DU64) (S:=fun k=>S k/\k<w.heap.size) (w:=w) (l:=y) (size:=1) one_u64c ly ey);have Hnx:=hid nx;have Hny:=hid ny;have Hex:=hid ex;have Hey:=hid ey;have Hlx:=hid lx;have Hly:=hid ly;have Hfx:=hid fx;have Hfy:=hid fy;have Hnx0:=hid hxn;have Hny0:=hid hyn;have g0:w.cell? ⟨g,0,none⟩=some (.slice xa x.length xc):=cell_of_row w g 0 _ _ _ hg;have g1:w.cell? ⟨g,1,none⟩=some (.slice ya y.length yc):=cell_of_row w g 1 _ _ _ hg;have G0:=hid g0;have G1:=hid g1;clear hx hy nx ny ex ey lx ly fx fy hxn hyn hg
 go_enter Tryz.func97,Tryz.ntmps97
 (go_wp2_with fail);(go_loopw [11,3] (fun i s wr=>wr=w/\((i=.int .i64 0/\s=.int .i64 0)∨(i=.int .i64 1/\s=.int .i64 x.length)∨(i=.int .i64 2/\s=.int .i64 ((x.length:Int)+(y.length:Int))))) (fun i _ _=>2 - (intOf i).toNat));case atStart=>exact ⟨by first|rfl|trivial,.inl ⟨rfl,rfl⟩⟩
 case round =>
  obtain ⟨rfl,h⟩:=hrel;rcases h with ⟨rfl,rfl⟩|⟨rfl,rfl⟩|⟨rfl,rfl⟩
  ·go_wp2_with fail
   go_roundw
   (case rel=>exact ⟨by first|rfl|trivial,.inr (.inl ⟨rfl,rfl⟩)⟩);case measure=>simp [intOf]
  ·(have hs:IntKind.i64.wrap ((x.length:Int)+(y.length:Int))=(x.length:Int)+(y.length:Int):=by rw [IntKind.wrap_i64];omega);(have hs0:¬ ((x.length:Int)+(y.length:Int)<0):=by omega);go_wp2_with fail
   go_roundw
   (case rel=>exact ⟨by first|rfl|trivial,.inr (.inr ⟨rfl,rfl⟩)⟩);case measure=>simp [intOf]
  ·have Hgr:=hid (show Calls Tryz.prog 135 #[.slice none 0 0,.int .i64 ((x.length:Int)+(y.length:Int))] wr _ by have:=grow_u64 (x.length+y.length) wr hz;rw [Int.natCast_add] at this;exact this);(go_wp2_with fail);refine Hgr.out.mono ?_;rintro e w2 ⟨v2,rfl,how2,hu2⟩;have e0:=hu2.cell_some g0;have e1:=hu2.cell_some g1;have How2:=hid how2;have Hu2:=hid hu2;obtain ⟨w0,rfl⟩:∃ w0:World,w0=wr:=⟨_,rfl⟩;clear how2 g0 g1 hu2;(go_wp2_with fail);(go_loopw [27,6] (fun i s wr=>∃ v,v=s/\Up w0 wr/\((i=.int .i64 0/\wr.ownsRow w0.heap.size 72 1 v 0 [])∨(i=.int .i64 1/\wr.ownsRow w0.heap.size 72 1 v x.length cx.flatten)∨(i=.int .i64 2/\wr.ownsRow w0.heap.size 72 1 v (x.length+y.length) (cx.flatten++cy.flatten)))) (fun i _ _=>2 - (intOf i).toNat));case atStart=>exact ⟨_,rfl,Hu2.out,.inl ⟨rfl,How2.out⟩⟩
   case round =>
    clear e0 e1 How2 Hu2;obtain ⟨s,rfl,hu,h⟩:=hrel;rcases h with ⟨rfl,how⟩|⟨rfl,how⟩|⟨rfl,how⟩
    ·have e0:=hu.cell_some G0.out;have How:=hid how;have Hu:=hid hu;have Hnw:=hid (fun ad h j u hj=>hu.cell_some (Hnx.out ad h j u hj));have hbs:=hu.size;clear how hu;go_wp2_with (at_builtin;go_must (refine wpList_app eU64c _ (by rfl) _ _ (by rfl) w0.heap.size _ 0 [] (by rfl) How.out xa x.length xc (by rfl) cx.flatten Hfx.out Hnx0.out Hnw.out Hox.out (by omega) (by unfold maxLen;omega) hbs ?_;intro v3 w3 how3 hev3;have How3:=hid how3;have Hev3:=hid hev3;clear how3 hev3))
     go_roundw
     (case rel=>exact ⟨_,rfl,Up.evo Hu.out Hev3.out (fun j hj=>(How.out.lt j hj).1),.inr (.inl ⟨rfl,by simpa using How3.out⟩)⟩);case measure=>simp [intOf]
    ·have e1:=hu.cell_some G1.out;have How:=hid how;have Hu:=hid hu;have Hnw:=hid (fun ad h j u hj=>hu.cell_some (Hny.out ad h j u hj));have hbs:=hu.size;clear how hu;go_wp2_with (at_builtin;go_must (refine wpList_app eU64c _ (by rfl) _ _ (by rfl) w0.heap.size _ x.length cx.flatten (by rfl) How.out ya y.length yc (by rfl) cy.flatten Hfy.out Hny0.out Hnw.out Hoy.out (by omega) (by unfold maxLen;omega) hbs ?_;intro v3 w3 how3 hev3;have How3:=hid how3;have Hev3:=hid hev3;clear how3 hev3))
     go_roundw
     (case rel=>exact ⟨_,rfl,Up.evo Hu.out Hev3.out (fun j hj=>(How.out.lt j hj).1),.inr (.inr ⟨rfl,How3.out⟩)⟩);case measure=>simp [intOf]
    ·have Hfin:=hid (rdS_joinS stable_u64 hu Hlx.out Hex.out Hly.out Hey.out how);obtain ⟨so,sc,rfl⟩:=own_val how;clear how;go_wp2_with fail
     go_ret
     exact ⟨_,rfl,Hfin.out,hu⟩
theorem grow_byt (n:Nat) (w:World) (hz:n*24<=140737488355328) :
  Calls Tryz.prog 136 #[.slice none 0 0,.int .i64 n] w fun e w'=>∃ v',e=.returned v'/\w'.ownsRow w.heap.size 30 1 v' 0 []/\Up w w':=by
 by_cases h0:n=0
 ·subst h0
  go_enter Tryz.func136,Tryz.ntmps136
  go_wp2_with fail
  go_ret
  exact ⟨_,rfl,World.ownsRow_nil _ _ _ _,Up.refl _⟩
 obtain ⟨i,hi,hz0,hsz,hby⟩:=eByt.info;have hrun:=fun ty=>Lib.run_append_nil_zeros (P:=Tryz.prog) w 68 3 ty 30 i _ .i64 .i64 eByt.ht Tryz.underlying3 hi hz0 n (by omega) (by rw [hsz];decide) (by omega) (by rw [hby];omega);obtain ⟨G,hG⟩:∃ G,G=grownCap w n 0 30:=⟨_,rfl⟩;(have hGm:G<=maxLen:=by rw [hG];exact grownCap_le_maxLen w n 0 _ (by unfold maxLen;omega));(have hGn:n<=G:=by rw [hG];exact grownCap_ge w _ _ _);(have hG63:G<=9223372036854775807:=by unfold maxLen at hGm;omega);rw [←hG] at hrun
 have hfin:(w.drew.alloc (.cells (Builtin.zeroCells (Value.cells (.slice none 0 0)) n++Builtin.zeroCells (Value.cells (.slice none 0 0)) (G - n)) 30)).ownsRow w.heap.size 30 1 (.slice (some ⟨w.heap.size,0,none⟩) 0 G) 0 [] :=
  ⟨rfl,.inr ⟨w.heap.size,G,_,rfl,Nat.le_refl _,heap_alloc_new w.drew _,Nat.zero_le _,hGm,by simp [Builtin.zeroCells,Value.cells];omega,by simp⟩⟩
 have hu:Up w (w.drew.alloc (.cells (Builtin.zeroCells (Value.cells (.slice none 0 0)) n++Builtin.zeroCells (Value.cells (.slice none 0 0)) (G - n)) 30)):=((Up.refl w).drew).alloc _;have Hfin:=hid hfin;have Hu:=hid hu;have Hrun:=hid hrun;(have q1:(0:Int)<(n:Int):=by omega);(have q2:¬ (n:Int)<0:=by omega);clear hfin hu hrun hG hi hz0 hsz hby
 go_enter Tryz.func136,Tryz.ntmps136
 go_wp2_with (at_builtin;go_must (refine Lib.wpList_append_run _ rfl _ _ _ _ rfl _ _ rfl rfl _ _ (Hrun.out _) ?_))
 go_ret
 exact ⟨_,rfl,Hfin.out,Hu.out⟩
theorem concat_byt {S:Nat->Prop} (va vb:Value) (x y:List (List UInt8)) (g:Nat) (t:TypeId) (w:World) (hx:RdS DBytes 1 S w va x) (hy:RdS DBytes 1 S w vb y) (hg:w.heap[g]? = some (.cells #[va,vb] t (0,0))) (hz:(x.length+y.length)*24<=140737488355328) :
  Calls Tryz.prog 98 #[.slice (some ⟨g,0,none⟩) 2 2] w fun e w'=>∃ v',e=.returned v'/\RdS DBytes 1 (Sx S w) w' v' (x++y)/\Up w w':=by
 obtain ⟨xa,xc,rfl,hx1,hx2⟩:=hx.val;obtain ⟨ya,yc,rfl,hy1,hy2⟩:=hy.val;have Hxn:=hid hx;have Hyn:=hid hy;obtain ⟨-,hxn,cx,lx,ex,fx,nx⟩:=RdS.css (by decide) (hx.keep stable_bytes (S':=fun k=>S k/\k<w.heap.size) (fun k hs hk=>⟨rfl,hs,hk⟩));obtain ⟨-,hyn,cy,ly,ey,fy,ny⟩:=RdS.css (by decide) (hy.keep stable_bytes (S':=fun k=>S k/\k<w.heap.size) (fun k hs hk=>⟨rfl,hs,hk⟩));have Hox:=hid (ones_of (D:=DBytes) (S:=fun k=>S k/\k<w.heap.size) (w:=w) (l:=x) (size:=1) one_byt lx ex);have Hoy:=hid (ones_of (D:=DBytes) (S:=fun k=>S k/\k<w.heap.size) (w:=w) (l:=y) (size:=1) one_byt ly ey);have Hnx:=hid nx;have Hny:=hid ny;have Hex:=hid ex;have Hey:=hid ey;have Hlx:=hid lx;have Hly:=hid ly;have Hfx:=hid fx;have Hfy:=hid fy;have Hnx0:=hid hxn;have Hny0:=hid hyn;have g0:w.cell? ⟨g,0,none⟩=some (.slice xa x.length xc):=cell_of_row w g 0 _ _ _ hg;have g1:w.cell? ⟨g,1,none⟩=some (.slice ya y.length yc):=cell_of_row w g 1 _ _ _ hg;have G0:=hid g0;have G1:=hid g1;clear hx hy nx ny ex ey lx ly fx fy hxn hyn hg
 go_enter Tryz.func98,Tryz.ntmps98
 (go_wp2_with fail);(go_loopw [11,3] (fun i s wr=>wr=w/\((i=.int .i64 0/\s=.int .i64 0)∨(i=.int .i64 1/\s=.int .i64 x.length)∨(i=.int .i64 2/\s=.int .i64 ((x.length:Int)+(y.length:Int))))) (fun i _ _=>2 - (intOf i).toNat));case atStart=>exact ⟨by first|rfl|trivial,.inl ⟨rfl,rfl⟩⟩
 case round =>
  obtain ⟨rfl,h⟩:=hrel;rcases h with ⟨rfl,rfl⟩|⟨rfl,rfl⟩|⟨rfl,rfl⟩
  ·go_wp2_with fail
   go_roundw
   (case rel=>exact ⟨by first|rfl|trivial,.inr (.inl ⟨rfl,rfl⟩)⟩);case measure=>simp [intOf]
  ·(have hs:IntKind.i64.wrap ((x.length:Int)+(y.length:Int))=(x.length:Int)+(y.length:Int):=by rw [IntKind.wrap_i64];omega);(have hs0:¬ ((x.length:Int)+(y.length:Int)<0):=by omega);go_wp2_with fail
   go_roundw
   (case rel=>exact ⟨by first|rfl|trivial,.inr (.inr ⟨rfl,rfl⟩)⟩);case measure=>simp [intOf]
  ·have Hgr:=hid (show Calls Tryz.prog 136 #[.slice none 0 0,.int .i64 ((x.length:Int)+(y.length:Int))] wr _ by have:=grow_byt (x.length+y.length) wr hz;rw [Int.natCast_add] at this;exact this);(go_wp2_with fail);refine Hgr.out.mono ?_;rintro e w2 ⟨v2,rfl,how2,hu2⟩;have e0:=hu2.cell_some g0;have e1:=hu2.cell_some g1;have How2:=hid how2;have Hu2:=hid hu2;obtain ⟨w0,rfl⟩:∃ w0:World,w0=wr:=⟨_,rfl⟩;clear how2 g0 g1 hu2;(go_wp2_with fail);(go_loopw [27,6] (fun i s wr=>∃ v,v=s/\Up w0 wr/\((i=.int .i64 0/\wr.ownsRow w0.heap.size 30 1 v 0 [])∨(i=.int .i64 1/\wr.ownsRow w0.heap.size 30 1 v x.length cx.flatten)∨(i=.int .i64 2/\wr.ownsRow w0.heap.size 30 1 v (x.length+y.length) (cx.flatten++cy.flatten)))) (fun i _ _=>2 - (intOf i).toNat));case atStart=>exact ⟨_,rfl,Hu2.out,.inl ⟨rfl,How2.out⟩⟩
   case round =>
    clear e0 e1 How2 Hu2;obtain ⟨s,rfl,hu,h⟩:=hrel;rcases h with ⟨rfl,how⟩|⟨rfl,how⟩|⟨rfl,how⟩
    ·have e0:=hu.cell_some G0.out;have How:=hid how;have Hu:=hid hu;have Hnw:=hid (fun ad h j u hj=>hu.cell_some (Hnx.out ad h j u hj));have hbs:=hu.size;clear how hu;go_wp2_with (at_builtin;go_must (refine wpList_app eByt _ (by rfl) _ _ (by rfl) w0.heap.size _ 0 [] (by rfl) How.out xa x.length xc (by rfl) cx.flatten Hfx.out Hnx0.out Hnw.out Hox.out (by omega) (by unfold maxLen;omega) hbs ?_;intro v3 w3 how3 hev3;have How3:=hid how3;have Hev3:=hid hev3;clear how3 hev3))
     go_roundw
     (case rel=>exact ⟨_,rfl,Up.evo Hu.out Hev3.out (fun j hj=>(How.out.lt j hj).1),.inr (.inl ⟨rfl,by simpa using How3.out⟩)⟩);case measure=>simp [intOf]
    ·have e1:=hu.cell_some G1.out;have How:=hid how;have Hu:=hid hu;have Hnw:=hid (fun ad h j u hj=>hu.cell_some (Hny.out ad h j u hj));have hbs:=hu.size;clear how hu;go_wp2_with (at_builtin;go_must (refine wpList_app eByt _ (by rfl) _ _ (by rfl) w0.heap.size _ x.length cx.flatten (by rfl) How.out ya y.length yc (by rfl) cy.flatten Hfy.out Hny0.out Hnw.out Hoy.out (by omega) (by unfold maxLen;omega) hbs ?_;intro v3 w3 how3 hev3;have How3:=hid how3;have Hev3:=hid hev3;clear how3 hev3))
     go_roundw
     (case rel=>exact ⟨_,rfl,Up.evo Hu.out Hev3.out (fun j hj=>(How.out.lt j hj).1),.inr (.inr ⟨rfl,How3.out⟩)⟩);case measure=>simp [intOf]
    ·have Hfin:=hid (rdS_joinS stable_bytes hu Hlx.out Hex.out Hly.out Hey.out how);obtain ⟨so,sc,rfl⟩:=own_val how;clear how;go_wp2_with fail
     go_ret
     exact ⟨_,rfl,Hfin.out,hu⟩
theorem grow_bod (n:Nat) (w:World) (hz:n*48<=140737488355328) :
  Calls Tryz.prog 137 #[.slice none 0 0,.int .i64 n] w fun e w'=>∃ v',e=.returned v'/\w'.ownsRow w.heap.size 29 2 v' 0 []/\Up w w':=by
 by_cases h0:n=0
 ·subst h0
  go_enter Tryz.func137,Tryz.ntmps137
  go_wp2_with fail
  go_ret
  exact ⟨_,rfl,World.ownsRow_nil _ _ _ _,Up.refl _⟩
 obtain ⟨i,hi,hz0,hsz,hby⟩:=eBod.info;have hrun:=fun ty=>Lib.run_append_nil_zeros (P:=Tryz.prog) w 69 3 ty 29 i _ .i64 .i64 eBod.ht Tryz.underlying3 hi hz0 n (by omega) (by rw [hsz];decide) (by omega) (by rw [hby];omega);obtain ⟨G,hG⟩:∃ G,G=grownCap w n 0 29:=⟨_,rfl⟩;(have hGm:G<=maxLen:=by rw [hG];exact grownCap_le_maxLen w n 0 _ (by unfold maxLen;omega));(have hGn:n<=G:=by rw [hG];exact grownCap_ge w _ _ _);(have hG63:G<=9223372036854775807:=by unfold maxLen at hGm;omega);rw [←hG] at hrun
 have hfin:(w.drew.alloc (.cells (Builtin.zeroCells (Value.cells (.agg #[.slice none 0 0,.slice none 0 0])) n++Builtin.zeroCells (Value.cells (.agg #[.slice none 0 0,.slice none 0 0])) (G - n)) 29)).ownsRow w.heap.size 29 2 (.slice (some ⟨w.heap.size,0,none⟩) 0 G) 0 [] :=
  ⟨rfl,.inr ⟨w.heap.size,G,_,rfl,Nat.le_refl _,heap_alloc_new w.drew _,Nat.zero_le _,hGm,by simp [Builtin.zeroCells,Value.cells];omega,by simp⟩⟩
 have hu:Up w (w.drew.alloc (.cells (Builtin.zeroCells (Value.cells (.agg #[.slice none 0 0,.slice none 0 0])) n++Builtin.zeroCells (Value.cells (.agg #[.slice none 0 0,.slice none 0 0])) (G - n)) 29)):=((Up.refl w).drew).alloc _;have Hfin:=hid hfin;have Hu:=hid hu;have Hrun:=hid hrun;(have q1:(0:Int)<(n:Int):=by omega);(have q2:¬ (n:Int)<0:=by omega);clear hfin hu hrun hG hi hz0 hsz hby
 go_enter Tryz.func137,Tryz.ntmps137
 go_wp2_with (at_builtin;go_must (refine Lib.wpList_append_run _ rfl _ _ _ _ rfl _ _ rfl rfl _ _ (Hrun.out _) ?_))
 go_ret
 exact ⟨_,rfl,Hfin.out,Hu.out⟩
theorem concat_bod (d:Nat) {S:Nat->Prop} (va vb:Value) (x y:List (Bod)) (g:Nat) (t:TypeId) (w:World) (hx:RdS (DBodF d) 2 S w va x) (hy:RdS (DBodF d) 2 S w vb y) (hg:w.heap[g]? = some (.cells #[va,vb] t (0,0))) (hz:(x.length+y.length)*48<=140737488355328) :
  Calls Tryz.prog 99 #[.slice (some ⟨g,0,none⟩) 2 2] w fun e w'=>∃ v',e=.returned v'/\RdS (DBodF d) 2 (Sx S w) w' v' (x++y)/\Up w w':=by
 obtain ⟨xa,xc,rfl,hx1,hx2⟩:=hx.val;obtain ⟨ya,yc,rfl,hy1,hy2⟩:=hy.val;have Hxn:=hid hx;have Hyn:=hid hy;obtain ⟨-,hxn,cx,lx,ex,fx,nx⟩:=RdS.css (by decide) (hx.keep (stable_bod d) (S':=fun k=>S k/\k<w.heap.size) (fun k hs hk=>⟨rfl,hs,hk⟩));obtain ⟨-,hyn,cy,ly,ey,fy,ny⟩:=RdS.css (by decide) (hy.keep (stable_bod d) (S':=fun k=>S k/\k<w.heap.size) (fun k hs hk=>⟨rfl,hs,hk⟩));have Hox:=hid (ones_of (D:=(DBodF d)) (S:=fun k=>S k/\k<w.heap.size) (w:=w) (l:=x) (size:=2) (one_bod d) lx ex);have Hoy:=hid (ones_of (D:=(DBodF d)) (S:=fun k=>S k/\k<w.heap.size) (w:=w) (l:=y) (size:=2) (one_bod d) ly ey);have Hnx:=hid nx;have Hny:=hid ny;have Hex:=hid ex;have Hey:=hid ey;have Hlx:=hid lx;have Hly:=hid ly;have Hfx:=hid fx;have Hfy:=hid fy;have Hnx0:=hid hxn;have Hny0:=hid hyn;have g0:w.cell? ⟨g,0,none⟩=some (.slice xa x.length xc):=cell_of_row w g 0 _ _ _ hg;have g1:w.cell? ⟨g,1,none⟩=some (.slice ya y.length yc):=cell_of_row w g 1 _ _ _ hg;have G0:=hid g0;have G1:=hid g1;clear hx hy nx ny ex ey lx ly fx fy hxn hyn hg
 go_enter Tryz.func99,Tryz.ntmps99
 (go_wp2_with fail);(go_loopw [11,3] (fun i s wr=>wr=w/\((i=.int .i64 0/\s=.int .i64 0)∨(i=.int .i64 1/\s=.int .i64 x.length)∨(i=.int .i64 2/\s=.int .i64 ((x.length:Int)+(y.length:Int))))) (fun i _ _=>2 - (intOf i).toNat));case atStart=>exact ⟨by first|rfl|trivial,.inl ⟨rfl,rfl⟩⟩
 case round =>
  obtain ⟨rfl,h⟩:=hrel;rcases h with ⟨rfl,rfl⟩|⟨rfl,rfl⟩|⟨rfl,rfl⟩
  ·go_wp2_with fail
   go_roundw
   (case rel=>exact ⟨by first|rfl|trivial,.inr (.inl ⟨rfl,rfl⟩)⟩);case measure=>simp [intOf]
  ·(have hs:IntKind.i64.wrap ((x.length:Int)+(y.length:Int))=(x.length:Int)+(y.length:Int):=by rw [IntKind.wrap_i64];omega);(have hs0:¬ ((x.length:Int)+(y.length:Int)<0):=by omega);go_wp2_with fail
   go_roundw
   (case rel=>exact ⟨by first|rfl|trivial,.inr (.inr ⟨rfl,rfl⟩)⟩);case measure=>simp [intOf]
  ·have Hgr:=hid (show Calls Tryz.prog 137 #[.slice none 0 0,.int .i64 ((x.length:Int)+(y.length:Int))] wr _ by have:=grow_bod (x.length+y.length) wr hz;rw [Int.natCast_add] at this;exact this);(go_wp2_with fail);refine Hgr.out.mono ?_;rintro e w2 ⟨v2,rfl,how2,hu2⟩;have e0:=hu2.cell_some g0;have e1:=hu2.cell_some g1;have How2:=hid how2;have Hu2:=hid hu2;obtain ⟨w0,rfl⟩:∃ w0:World,w0=wr:=⟨_,rfl⟩;clear how2 g0 g1 hu2;(go_wp2_with fail);(go_loopw [27,6] (fun i s wr=>∃ v,v=s/\Up w0 wr/\((i=.int .i64 0/\wr.ownsRow w0.heap.size 29 2 v 0 [])∨(i=.int .i64 1/\wr.ownsRow w0.heap.size 29 2 v x.length cx.flatten)∨(i=.int .i64 2/\wr.ownsRow w0.heap.size 29 2 v (x.length+y.length) (cx.flatten++cy.flatten)))) (fun i _ _=>2 - (intOf i).toNat));case atStart=>exact ⟨_,rfl,Hu2.out,.inl ⟨rfl,How2.out⟩⟩
   case round =>
    clear e0 e1 How2 Hu2;obtain ⟨s,rfl,hu,h⟩:=hrel;rcases h with ⟨rfl,how⟩|⟨rfl,how⟩|⟨rfl,how⟩
    ·have e0:=hu.cell_some G0.out;have How:=hid how;have Hu:=hid hu;have Hnw:=hid (fun ad h j u hj=>hu.cell_some (Hnx.out ad h j u hj));have hbs:=hu.size;clear how hu;go_wp2_with (at_builtin;go_must (refine wpList_app eBod _ (by rfl) _ _ (by rfl) w0.heap.size _ 0 [] (by rfl) How.out xa x.length xc (by rfl) cx.flatten Hfx.out Hnx0.out Hnw.out Hox.out (by omega) (by unfold maxLen;omega) hbs ?_;intro v3 w3 how3 hev3;have How3:=hid how3;have Hev3:=hid hev3;clear how3 hev3))
     go_roundw
     (case rel=>exact ⟨_,rfl,Up.evo Hu.out Hev3.out (fun j hj=>(How.out.lt j hj).1),.inr (.inl ⟨rfl,by simpa using How3.out⟩)⟩);case measure=>simp [intOf]
    ·have e1:=hu.cell_some G1.out;have How:=hid how;have Hu:=hid hu;have Hnw:=hid (fun ad h j u hj=>hu.cell_some (Hny.out ad h j u hj));have hbs:=hu.size;clear how hu;go_wp2_with (at_builtin;go_must (refine wpList_app eBod _ (by rfl) _ _ (by rfl) w0.heap.size _ x.length cx.flatten (by rfl) How.out ya y.length yc (by rfl) cy.flatten Hfy.out Hny0.out Hnw.out Hoy.out (by omega) (by unfold maxLen;omega) hbs ?_;intro v3 w3 how3 hev3;have How3:=hid how3;have Hev3:=hid hev3;clear how3 hev3))
     go_roundw
     (case rel=>exact ⟨_,rfl,Up.evo Hu.out Hev3.out (fun j hj=>(How.out.lt j hj).1),.inr (.inr ⟨rfl,How3.out⟩)⟩);case measure=>simp [intOf]
    ·have Hfin:=hid (rdS_joinS (stable_bod d) hu Hlx.out Hex.out Hly.out Hey.out how);obtain ⟨so,sc,rfl⟩:=own_val how;clear how;go_wp2_with fail
     go_ret
     exact ⟨_,rfl,Hfin.out,hu⟩
theorem grow_rec (n:Nat) (w:World) (hz:n*48<=140737488355328) :
  Calls Tryz.prog 147 #[.slice none 0 0,.int .i64 n] w fun e w'=>∃ v',e=.returned v'/\w'.ownsRow w.heap.size 87 4 v' 0 []/\Up w w':=by
 by_cases h0:n=0
 ·subst h0
  go_enter Tryz.func147,Tryz.ntmps147
  go_wp2_with fail
  go_ret
  exact ⟨_,rfl,World.ownsRow_nil _ _ _ _,Up.refl _⟩
 obtain ⟨i,hi,hz0,hsz,hby⟩:=eRec'.info;have hrun:=fun ty=>Lib.run_append_nil_zeros (P:=Tryz.prog) w 27 3 ty 87 i _ .i64 .i64 eRec'.ht Tryz.underlying3 hi hz0 n (by omega) (by rw [hsz];decide) (by omega) (by rw [hby];omega);obtain ⟨G,hG⟩:∃ G,G=grownCap w n 0 87:=⟨_,rfl⟩;(have hGm:G<=maxLen:=by rw [hG];exact grownCap_le_maxLen w n 0 _ (by unfold maxLen;omega));(have hGn:n<=G:=by rw [hG];exact grownCap_ge w _ _ _);(have hG63:G<=9223372036854775807:=by unfold maxLen at hGm;omega);rw [←hG] at hrun
 have hfin:(w.drew.alloc (.cells (Builtin.zeroCells (Value.cells (.agg #[.int .i64 0,.int .i64 0,.int .u64 0,.slice none 0 0])) n++Builtin.zeroCells (Value.cells (.agg #[.int .i64 0,.int .i64 0,.int .u64 0,.slice none 0 0])) (G - n)) 87)).ownsRow w.heap.size 87 4 (.slice (some ⟨w.heap.size,0,none⟩) 0 G) 0 [] :=
  ⟨rfl,.inr ⟨w.heap.size,G,_,rfl,Nat.le_refl _,heap_alloc_new w.drew _,Nat.zero_le _,hGm,by simp [Builtin.zeroCells,Value.cells];omega,by simp⟩⟩
 have hu:Up w (w.drew.alloc (.cells (Builtin.zeroCells (Value.cells (.agg #[.int .i64 0,.int .i64 0,.int .u64 0,.slice none 0 0])) n++Builtin.zeroCells (Value.cells (.agg #[.int .i64 0,.int .i64 0,.int .u64 0,.slice none 0 0])) (G - n)) 87)):=((Up.refl w).drew).alloc _;have Hfin:=hid hfin;have Hu:=hid hu;have Hrun:=hid hrun;(have q1:(0:Int)<(n:Int):=by omega);(have q2:¬ (n:Int)<0:=by omega);clear hfin hu hrun hG hi hz0 hsz hby
 go_enter Tryz.func147,Tryz.ntmps147
 go_wp2_with (at_builtin;go_must (refine Lib.wpList_append_run _ rfl _ _ _ _ rfl _ _ rfl rfl _ _ (Hrun.out _) ?_))
 go_ret
 exact ⟨_,rfl,Hfin.out,Hu.out⟩
theorem concat_rec {S:Nat->Prop} (va vb:Value) (x y:List (Rec)) (g:Nat) (t:TypeId) (w:World) (hx:RdS DRecZ 4 S w va x) (hy:RdS DRecZ 4 S w vb y) (hg:w.heap[g]? = some (.cells #[va,vb] t (0,0))) (hz:(x.length+y.length)*48<=140737488355328) :
  Calls Tryz.prog 138 #[.slice (some ⟨g,0,none⟩) 2 2] w fun e w'=>∃ v',e=.returned v'/\RdS DRecZ 4 (Sx S w) w' v' (x++y)/\Up w w':=by
 obtain ⟨xa,xc,rfl,hx1,hx2⟩:=hx.val;obtain ⟨ya,yc,rfl,hy1,hy2⟩:=hy.val;have Hxn:=hid hx;have Hyn:=hid hy;obtain ⟨-,hxn,cx,lx,ex,fx,nx⟩:=RdS.css (by decide) (hx.keep stable_recz (S':=fun k=>S k/\k<w.heap.size) (fun k hs hk=>⟨rfl,hs,hk⟩));obtain ⟨-,hyn,cy,ly,ey,fy,ny⟩:=RdS.css (by decide) (hy.keep stable_recz (S':=fun k=>S k/\k<w.heap.size) (fun k hs hk=>⟨rfl,hs,hk⟩));have Hox:=hid (ones_of (D:=DRecZ) (S:=fun k=>S k/\k<w.heap.size) (w:=w) (l:=x) (size:=4) one_recz lx ex);have Hoy:=hid (ones_of (D:=DRecZ) (S:=fun k=>S k/\k<w.heap.size) (w:=w) (l:=y) (size:=4) one_recz ly ey);have Hnx:=hid nx;have Hny:=hid ny;have Hex:=hid ex;have Hey:=hid ey;have Hlx:=hid lx;have Hly:=hid ly;have Hfx:=hid fx;have Hfy:=hid fy;have Hnx0:=hid hxn;have Hny0:=hid hyn;have g0:w.cell? ⟨g,0,none⟩=some (.slice xa x.length xc):=cell_of_row w g 0 _ _ _ hg;have g1:w.cell? ⟨g,1,none⟩=some (.slice ya y.length yc):=cell_of_row w g 1 _ _ _ hg;have G0:=hid g0;have G1:=hid g1;clear hx hy nx ny ex ey lx ly fx fy hxn hyn hg
 go_enter Tryz.func138,Tryz.ntmps138
 (go_wp2_with fail);(go_loopw [11,3] (fun i s wr=>wr=w/\((i=.int .i64 0/\s=.int .i64 0)∨(i=.int .i64 1/\s=.int .i64 x.length)∨(i=.int .i64 2/\s=.int .i64 ((x.length:Int)+(y.length:Int))))) (fun i _ _=>2 - (intOf i).toNat));case atStart=>exact ⟨by first|rfl|trivial,.inl ⟨rfl,rfl⟩⟩
 case round =>
  obtain ⟨rfl,h⟩:=hrel;rcases h with ⟨rfl,rfl⟩|⟨rfl,rfl⟩|⟨rfl,rfl⟩
  ·go_wp2_with fail
   go_roundw
   (case rel=>exact ⟨by first|rfl|trivial,.inr (.inl ⟨rfl,rfl⟩)⟩);case measure=>simp [intOf]
  ·(have hs:IntKind.i64.wrap ((x.length:Int)+(y.length:Int))=(x.length:Int)+(y.length:Int):=by rw [IntKind.wrap_i64];omega);(have hs0:¬ ((x.length:Int)+(y.length:Int)<0):=by omega);go_wp2_with fail
   go_roundw
   (case rel=>exact ⟨by first|rfl|trivial,.inr (.inr ⟨rfl,rfl⟩)⟩);case measure=>simp [intOf]
  ·have Hgr:=hid (show Calls Tryz.prog 147 #[.slice none 0 0,.int .i64 ((x.length:Int)+(y.length:Int))] wr _ by have:=grow_rec (x.length+y.length) wr hz;rw [Int.natCast_add] at this;exact this);(go_wp2_with fail);refine Hgr.out.mono ?_;rintro e w2 ⟨v2,rfl,how2,hu2⟩;have e0:=hu2.cell_some g0;have e1:=hu2.cell_some g1;have How2:=hid how2;have Hu2:=hid hu2;obtain ⟨w0,rfl⟩:∃ w0:World,w0=wr:=⟨_,rfl⟩;clear how2 g0 g1 hu2;(go_wp2_with fail);(go_loopw [27,6] (fun i s wr=>∃ v,v=s/\Up w0 wr/\((i=.int .i64 0/\wr.ownsRow w0.heap.size 87 4 v 0 [])∨(i=.int .i64 1/\wr.ownsRow w0.heap.size 87 4 v x.length cx.flatten)∨(i=.int .i64 2/\wr.ownsRow w0.heap.size 87 4 v (x.length+y.length) (cx.flatten++cy.flatten)))) (fun i _ _=>2 - (intOf i).toNat));case atStart=>exact ⟨_,rfl,Hu2.out,.inl ⟨rfl,How2.out⟩⟩
   case round =>
    clear e0 e1 How2 Hu2;obtain ⟨s,rfl,hu,h⟩:=hrel;rcases h with ⟨rfl,how⟩|⟨rfl,how⟩|⟨rfl,how⟩
    ·have e0:=hu.cell_some G0.out;have How:=hid how;have Hu:=hid hu;have Hnw:=hid (fun ad h j u hj=>hu.cell_some (Hnx.out ad h j u hj));have hbs:=hu.size;clear how hu;go_wp2_with (at_builtin;go_must (refine wpList_app eRec' _ (by rfl) _ _ (by rfl) w0.heap.size _ 0 [] (by rfl) How.out xa x.length xc (by rfl) cx.flatten Hfx.out Hnx0.out Hnw.out Hox.out (by omega) (by unfold maxLen;omega) hbs ?_;intro v3 w3 how3 hev3;have How3:=hid how3;have Hev3:=hid hev3;clear how3 hev3))
     go_roundw
     (case rel=>exact ⟨_,rfl,Up.evo Hu.out Hev3.out (fun j hj=>(How.out.lt j hj).1),.inr (.inl ⟨rfl,by simpa using How3.out⟩)⟩);case measure=>simp [intOf]
    ·have e1:=hu.cell_some G1.out;have How:=hid how;have Hu:=hid hu;have Hnw:=hid (fun ad h j u hj=>hu.cell_some (Hny.out ad h j u hj));have hbs:=hu.size;clear how hu;go_wp2_with (at_builtin;go_must (refine wpList_app eRec' _ (by rfl) _ _ (by rfl) w0.heap.size _ x.length cx.flatten (by rfl) How.out ya y.length yc (by rfl) cy.flatten Hfy.out Hny0.out Hnw.out Hoy.out (by omega) (by unfold maxLen;omega) hbs ?_;intro v3 w3 how3 hev3;have How3:=hid how3;have Hev3:=hid hev3;clear how3 hev3))
     go_roundw
     (case rel=>exact ⟨_,rfl,Up.evo Hu.out Hev3.out (fun j hj=>(How.out.lt j hj).1),.inr (.inr ⟨rfl,How3.out⟩)⟩);case measure=>simp [intOf]
    ·have Hfin:=hid (rdS_joinS stable_recz hu Hlx.out Hex.out Hly.out Hey.out how);obtain ⟨so,sc,rfl⟩:=own_val how;clear how;go_wp2_with fail
     go_ret
     exact ⟨_,rfl,Hfin.out,hu⟩
end Go.Proofs.YtbceccblepckhaaGreatDoor
