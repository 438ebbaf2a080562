/-
  body.Get.
  slices.BinarySearchFunc over values by their numbers; cmp.Compare.
  pressref3.Find; body.Get, and Find, of values.
  body.count, body.plain.
  pressref2.Field, Empty.
-/
import Derived.Test.YtbceccblepckhaaGreatDoorCt07
set_option maxHeartbeats 3200000
set_option linter.unusedVariables false
namespace Go.Proofs.YtbceccblepckhaaGreatDoor
open Go.RowKit
set_option maxRecDepth 100000
open Lib (hid)
def DVal4 : Lay (Int × Value × Value × Value):=fun _ _ x cs=>cs=[.int .i64 x.1,x.2.1,x.2.2.1,x.2.2.2]/\(∃ a n c,x.2.1=.slice a n c)/\(∃ a n c,x.2.2.1=.slice a n c)/\∃ a n c,x.2.2.2=.slice a n c
theorem stable_val4 : Stable DVal4:=fun _ _ _ _ _ _ _ h=>h
def getV (l:List (Int × Value × Value × Value)) (n:Int):Value × Bool:=match l.find? (fun x=>x.1==n) with
 |some x=>(.agg #[.int .i64 x.1,x.2.1,x.2.2.1,x.2.2.2],true)
 |none=>(.agg #[.int .i64 0,.slice none 0 0,.slice none 0 0,.slice none 0 0],false)
theorem find_at {α:Type} (p:α->Bool):∀ (l:List α) (k:Nat) (hk:k<l.length),(∀ j,(hj:j<l.length)->j<k->p l[j]=false)->p l[k]=true->l.find? p=some l[k]
 |[],k,hk,_,_=>by simp at hk
 |a::l,0,hk,_,h=>by simp [(show p a=true from h)]
 |a::l,k+1,hk,hb,h=>by
  have h0:p a=false:=hb 0 (by simp) (by omega);rw [List.find?_cons_of_neg (by simp [h0])];exact find_at p l k (by simpa using hk) (fun j hj hjk=>hb (j+1) (by simpa using hj) (by omega)) h
theorem find_none {α:Type} (p:α->Bool) (l:List α) (h:∀ j,(hj:j<l.length)->p l[j]=false):l.find? p=none:=by
 rw [List.find?_eq_none];intro x hx;obtain ⟨i,hi,rfl⟩:=List.getElem_of_mem hx;simp [h i hi]
theorem get_b (vv vu:Value) (l:List (Int × Value × Value × Value)) (n:Int) (w:World) (hv:RdS DVal4 4 All w vv l) (hvu:∃ a m c,vu=.slice a m c) :
  Calls Tryz.prog 96 #[.agg #[vv,vu],.int .i64 n] w fun e w'=>e=.returned (.tuple #[(getV l n).1,.bool (getV l n).2])/\Up w w':=by
 obtain ⟨x1,x2,x3,rfl⟩:=hvu;obtain ⟨ao,cap,rfl,hc1,hc2⟩:=hv.val;have Hv:=hid hv;clear hv
 go_enter Tryz.func96,Tryz.ntmps96
 (go_wp2_with fail);(go_loopw [11] (fun i wr=>∃ k:Nat,k<=l.length/\i=.int .i64 k/\Up w wr/\wr.heap[w.heap.size+1]? = some (.cells #[.int .i64 0,.slice none 0 0,.slice none 0 0,.slice none 0 0] 71 (0,0))/\∀ j,(hj:j<l.length)->j<k->(l[j].1==n)=false) (fun i _=>l.length - (intOf i).toNat));case atStart=>exact ⟨0,by omega,rfl,((Up.refl w).alloc _).alloc _,blk_new (w.alloc _) _ (by simp),fun j _ h=>absurd h (by omega)⟩
 case round =>
  obtain ⟨k,hk,rfl,hu,hb,hg⟩:=hrel;have Hg:=hid hg;have Hb:=hid hb;clear hg hb;have r0:=ro0 Hb.out;have r1:=ro1 Hb.out;have r2:=ro2 Hb.out;have r3:=ro3 Hb.out;have rf':∀ o,wr.frozen? ⟨w.heap.size+1,o,none⟩=false:=fun o=>frozen_of_row wr _ o _ _ Hb.out;have rz:w.heap.size+1<wr.heap.size:=lt_of_block Hb.out
  by_cases hlt:k<l.length
  ·obtain ⟨b,o,cs,rfl,hbz,hl,hcs,hd⟩:=(Hv.out.up stable_val4 hu).at hlt;obtain ⟨hd,⟨a1,n1,c1,g1⟩,⟨a2,n2,c2,g2⟩,⟨a3,n3,c3,g3⟩⟩:=hd;have hgg:=fun e=>find_at (fun x:Int × Value × Value × Value=>x.1==n) l k hlt Hg.out e;have Hgn:=hid (fun e=>no_more (p:=fun x:Int × Value × Value × Value=>x.1==n) hlt Hg.out e);have Hgg:=hid hgg;clear hgg;generalize l[k]=x at *;obtain ⟨xn,xa,xb,xc⟩:=x;simp only at g1 g2 g3;subst g1 g2 g3;subst hd;have p0:=hcs 0 _ rfl;have p1:=hcs 1 _ rfl;have p2:=hcs 2 _ rfl;have p3:=hcs 3 _ rfl;simp only [Nat.add_zero] at p0;(have k0:(0:Int)<=(k:Int):=by omega);(have k1:(k:Int)<(l.length:Int):=by omega);(have rne:w.heap.size+1≠wr.heap.size:=by omega);(have rne2:wr.heap.size≠w.heap.size+1:=by omega);clear hcs hl
   cases e:(xn==n) with
   |true =>
    have hfd:=Hgg.out e;have Hgv:=hid (show getV l n=(.agg #[.int .i64 xn,.slice a1 n1 c1,.slice a2 n2 c2,.slice a3 n3 c3],true) by unfold getV;rw [hfd]);have Hu:=hid hu;clear hfd hu;(go_wp2_with fail);refine bodyPost_ret (v:=.tuple #[.agg #[.int .i64 xn,.slice a1 n1 c1,.slice a2 n2 c2,.slice a3 n3 c3],.bool true]) (by simp [results,Tryz.results96,go_sem,r0,r1,r2,r3,rz]) rfl ?_;rw [Hgv.out];refine ⟨rfl,?_⟩;repeat (first|(with_reducible refine Up.setCell ?_ ?_ _)|(with_reducible refine Up.alloc ?_ _)|(with_reducible refine Up.drew ?_))
    ·exact Hu.out
    all_goals (simp only;omega)
   |false =>
    have Hu:=hid hu;clear hu r0 r1 r2 r3 rf';go_wp2_with fail
    go_roundw
    (case rel=>exact ⟨k+1,by omega,by go_num,Hu.out.alloc _,blk_old _ Hb.out,Hgn.out e⟩);case measure=>simp [intOf];omega
  ·have hfd:=find_none (fun x:Int × Value × Value × Value=>x.1==n) l (fun j hj=>Hg.out j hj (by omega));have Hgv:=hid (show getV l n=(.agg #[.int .i64 0,.slice none 0 0,.slice none 0 0,.slice none 0 0],false) by unfold getV;rw [hfd]);have Hu:=hid hu;clear hfd hu;(go_wp2_with fail);refine bodyPost_ret (v:=.tuple #[.agg #[.int .i64 0,.slice none 0 0,.slice none 0 0,.slice none 0 0],.bool false]) (by simp [results,Tryz.results96,go_sem,r0,r1,r2,r3]) rfl ?_;rw [Hgv.out];refine ⟨rfl,?_⟩;repeat (first|(with_reducible refine Up.setCell ?_ ?_ _)|(with_reducible refine Up.alloc ?_ _)|(with_reducible refine Up.drew ?_))
   ·exact Hu.out
   all_goals (simp only;omega)
abbrev SV : Type:=Int × Value × Value × Value
def cmpI (a b:Int):Int:=if a<b then -1 else if b<a then 1 else 0
theorem isNaN_any (a:Int) (w:World):Calls Tryz.prog 27 #[.int .i64 a] w fun e w'=>e=.returned (.bool false)/\w'=w:=by
 go_enter Tryz.func27,Tryz.ntmps27
 go_wp2_with fail
 go_ret
 exact ⟨ret_bool (by simp),rfl⟩
theorem compare_any (a b:Int) (w:World):Calls Tryz.prog 14 #[.int .i64 a,.int .i64 b] w fun e w'=>e=.returned (.int .i64 (cmpI a b))/\w'=w:=by
 go_enter Tryz.func14,Tryz.ntmps14
 (go_wp2_with fail);refine (isNaN_any a w).mono ?_;rintro e w1 ⟨rfl,h1⟩;subst h1;(go_wp2_with fail);refine (isNaN_any b w1).mono ?_;rintro e w2 ⟨rfl,h2⟩;subst h2;go_wp2_with fail
 all_goals
  go_ret
  refine ⟨ret_int ?_,rfl⟩;unfold cmpI
  (repeat' split) <;> omega
theorem cmp_p (x:SV) (cs:List Value) (n:Int) (w:World) (hd:DVal4 All w x cs) :
  Calls Tryz.prog 140 (#[.agg cs.toArray,.int .i64 n]) w fun e w'=>e=.returned (.int .i64 (cmpI x.1 n))/\Up w w':=by
 obtain ⟨hd,⟨a1,n1,c1,g1⟩,⟨a2,n2,c2,g2⟩,⟨a3,n3,c3,g3⟩⟩:=hd;subst hd;obtain ⟨xn,xa,xb,xc⟩:=x;simp only at g1 g2 g3;subst g1 g2 g3;show Calls Tryz.prog 140 #[.agg #[.int .i64 xn,.slice a1 n1 c1,.slice a2 n2 c2,.slice a3 n3 c3],.int .i64 n] w _
 go_enter Tryz.func140,Tryz.ntmps140
 (go_wp2_with fail);refine (compare_any xn n _).mono ?_;rintro e w1 ⟨rfl,h1⟩;subst h1;go_wp2_with fail
 go_ret
 exact ⟨rfl,(Up.refl w).alloc _⟩
def lowN (l:List SV) (n:Int):Nat:=(l.takeWhile fun x=>decide (x.1<n)).length
theorem lowN_eq {l:List SV} {n:Int} {k:Nat} (hk:k<=l.length) (h1:∀ j,(hj:j<l.length)->j<k->l[j].1<n) (h2:∀ j,(hj:j<l.length)->k<=j->¬ l[j].1<n):lowN l n=k:=by
 induction l generalizing k with
 |nil=>simp at hk;subst hk;rfl
 |cons x l ih =>
  unfold lowN
  cases k with
  |zero =>
   have:=h2 0 (by simp) (by omega);simp at this;rw [List.takeWhile_cons,if_neg (by simpa using this)];rfl
  |succ k =>
   have:=h1 0 (by simp) (by omega);simp at this;rw [List.takeWhile_cons,if_pos (by simpa using this),List.length_cons];have ih':=ih (k:=k) (by simpa using hk) (fun j hj hjk=>h1 (j+1) (by simpa using hj) (by omega)) (fun j hj hjk=>h2 (j+1) (by simpa using hj) (by omega));unfold lowN at ih';rw [ih']
abbrev Rising (l:List SV):Prop:=l.Pairwise fun a b=>a.1<b.1
theorem Rising.at {l:List SV} (h:Rising l) {i j:Nat} (hj:j<l.length) (hij:i<j):(l[i]'(by omega)).1<l[j].1:=List.pairwise_iff_getElem.1 h i j (by omega) hj hij
theorem search_b (v:Value) (l:List SV) (n:Int) (w:World) (hv:RdS DVal4 4 All w v l) (hs:Rising l) (hz:l.length*80<=140737488355328) :
  Calls Tryz.prog 139 #[v,.int .i64 n,.func (.func 140) #[] #[]] w fun e w'=>∃ t:Bool,e=.returned (.tuple #[.int .i64 (lowN l n:Nat),.bool t])/\Up w w':=by
 obtain ⟨ao,cap,rfl,hc1,hc2⟩:=hv.val;have Hv:=hid hv;clear hv;have Hs:=hid hs;clear hs
 go_enter Tryz.func139,Tryz.ntmps139
 (go_wp2_with fail);(go_loopw [9,10] (fun i j wr=>∃ a b:Nat,a<=b/\b<=l.length/\i=.int .i64 a/\j=.int .i64 b/\Up w wr/\(∀ j,(hj:j<l.length)->j<a->l[j].1<n)/\(∀ j,(hj:j<l.length)->b<=j->n<=l[j].1)) (fun i j _=>(intOf j).toNat - (intOf i).toNat));case atStart=>exact ⟨0,l.length,by omega,by omega,rfl,rfl,Up.refl _,fun j _ h=>absurd h (by omega),fun j hj h=>absurd hj (by omega)⟩
 case round =>
  obtain ⟨a,b,hab,hbl,rfl,rfl,hu,h1,h2⟩:=hrel;have H1:=hid h1;have H2:=hid h2;clear h1 h2
  by_cases hlt:a<b
  ·(have hm:IntKind.u64.wrap ((a:Int)+(b:Int))=(a:Int)+(b:Int):=by rw [IntKind.wrap_u64];omega);(have hm2:IntKind.i64.wrap ((a:Int)+(b:Int))=(a:Int)+(b:Int):=by rw [IntKind.wrap_i64];omega);obtain ⟨m,hme⟩:∃ m,m=(a+b) / 2:=⟨_,rfl⟩;(have hmi:((a:Int)+(b:Int)) / 2=(m:Int):=by omega);(have ham:a<=m:=by omega);(have hmb:m<b:=by omega);(have hml:m<l.length:=by omega);obtain ⟨bb,o,cs,rfl,hb,hl,hcs,hd⟩:=(Hv.out.up stable_val4 hu).at hml;have hcall:=cmp_p l[m] cs n wr hd;obtain ⟨hd,⟨a1,n1,c1,g1⟩,⟨a2,n2,c2,g2⟩,⟨a3,n3,c3,g3⟩⟩:=hd
   have Hup:=hid (fun (h:l[m].1<n)=>(show ∀ j,(hj:j<l.length)->j<m+1->l[j].1<n from fun j hj hjm=>by
    by_cases e:j=m
    ·subst e;exact h
    ·have:=Hs.out.at hml (show j<m by omega);omega))
   have Hdn:=hid (fun (h:n<=l[m].1)=>(show ∀ j,(hj:j<l.length)->m<=j->n<=l[j].1 from fun j hj hjm=>by
    by_cases e:j=m
    ·subst e;exact h
    ·have:=Hs.out.at hj (show m<j by omega);omega))
   (have i0:(0:Int)<=(m:Int):=by omega);(have i1:(m:Int)<(l.length:Int):=by omega);(have hmt:(m:Int).toNat=m:=by omega);generalize l[m]=x at *;obtain ⟨xn,xa,xb,xc⟩:=x;simp only at g1 g2 g3 Hup Hdn;subst g1 g2 g3;subst hd;have p0:=hcs 0 _ rfl;have p1:=hcs 1 _ rfl;have p2:=hcs 2 _ rfl;have p3:=hcs 3 _ rfl;simp only [Nat.add_zero] at p0;have Hcall:=hid hcall;have Hu:=hid hu;clear hcs hl hcall hu hme;(have hsm:IntKind.i64.wrap ((m:Int)+1)=(m:Int)+1:=by rw [IntKind.wrap_i64];omega);(go_wp2_with fail);refine Hcall.out.mono ?_;rintro e w1 ⟨rfl,hu1⟩;have hw1:=Hu.out.trans hu1;clear p0 p1 p2 p3
   by_cases hx:xn<n
   ·(have hc:cmpI xn n=-1:=by unfold cmpI;rw [if_pos hx]);rw [hc];(go_wp2_with fail);exact ⟨⟨m+1,b,by omega,hbl,by go_num,rfl,hw1,Hup.out hx,H2.out⟩,by simp only [intOf];omega⟩
   ·(have hc:0<=cmpI xn n:=by unfold cmpI;rw [if_neg hx];split <;> omega);(have hx':n<=xn:=by omega);generalize cmpI xn n=cc at *;clear hx;(go_wp2_with fail);exact ⟨⟨a,m,ham,by omega,rfl,rfl,hw1,H1.out,Hdn.out hx'⟩,by simp only [intOf];omega⟩
  ·(have hab':a=b:=by omega);subst hab';have Hlow:=hid (lowN_eq hbl H1.out (fun j hj h=>by have:=H2.out j hj h;omega))
   by_cases hal:a<l.length
   ·obtain ⟨bb,o,cs,rfl,hb,hl,hcs,hd⟩:=(Hv.out.up stable_val4 hu).at hal;have hcall:=cmp_p l[a] cs n wr hd;obtain ⟨hd,⟨a1,n1,c1,g1⟩,⟨a2,n2,c2,g2⟩,⟨a3,n3,c3,g3⟩⟩:=hd;(have i0:(0:Int)<=(a:Int):=by omega);(have i1:(a:Int)<(l.length:Int):=by omega);(have hmt:(a:Int).toNat=a:=by omega);generalize l[a]=x at *;obtain ⟨xn,xa,xb,xc⟩:=x;simp only at g1 g2 g3;subst g1 g2 g3;subst hd;have p0:=hcs 0 _ rfl;have p1:=hcs 1 _ rfl;have p2:=hcs 2 _ rfl;have p3:=hcs 3 _ rfl;simp only [Nat.add_zero] at p0;have Hcall:=hid hcall;have Hu:=hid hu;clear hcs hl hcall hu;(go_wp2_with fail);refine Hcall.out.mono ?_;rintro e w1 ⟨rfl,hu1⟩;have hw1:=Hu.out.trans hu1;clear p0 p1 p2 p3;(go_wp2_with fail);refine bodyPost_ret (v:=.tuple #[.int .i64 (a:Int),.bool (cmpI xn n==0)]) (by simp [results,Tryz.results139,go_sem]) rfl ?_;exact ⟨_,by rw [Hlow.out],hw1⟩
   ·(have hal':((a:Int)<(l.length:Int))=False:=by simp;omega);(go_wp2_with fail);refine bodyPost_ret (v:=.tuple #[.int .i64 (a:Int),.bool false]) (by simp [results,Tryz.results139,go_sem]) rfl ?_;exact ⟨_,by rw [Hlow.out],hu⟩
theorem find_b (vv vu:Value) (l:List (Int × Value × Value × Value)) (n:Int) (w:World) (hv:RdS DVal4 4 All w vv l) (hvu:∃ a m c,vu=.slice a m c) :
  Calls Tryz.prog 50 #[.agg #[vv,vu],.int .i64 n] w fun e w'=>e=.returned (.tuple #[(getV l n).1,.bool (getV l n).2])/\Up w w':=by
 obtain ⟨x1,x2,x3,rfl⟩:=hvu;obtain ⟨ao,cap,rfl,hc1,hc2⟩:=hv.val;have Hv:=hid hv;clear hv
 go_enter Tryz.func50,Tryz.ntmps50
 (go_wp2_with fail);(go_loopw [11] (fun i wr=>∃ k:Nat,k<=l.length/\i=.int .i64 k/\Up w wr/\wr.heap[w.heap.size+1]? = some (.cells #[.int .i64 0,.slice none 0 0,.slice none 0 0,.slice none 0 0] 71 (0,0))/\∀ j,(hj:j<l.length)->j<k->(l[j].1==n)=false) (fun i _=>l.length - (intOf i).toNat));case atStart=>exact ⟨0,by omega,rfl,((Up.refl w).alloc _).alloc _,blk_new (w.alloc _) _ (by simp),fun j _ h=>absurd h (by omega)⟩
 case round =>
  obtain ⟨k,hk,rfl,hu,hb,hg⟩:=hrel;have Hg:=hid hg;have Hb:=hid hb;clear hg hb;have r0:=ro0 Hb.out;have r1:=ro1 Hb.out;have r2:=ro2 Hb.out;have r3:=ro3 Hb.out;have rf':∀ o,wr.frozen? ⟨w.heap.size+1,o,none⟩=false:=fun o=>frozen_of_row wr _ o _ _ Hb.out;have rz:w.heap.size+1<wr.heap.size:=lt_of_block Hb.out
  by_cases hlt:k<l.length
  ·obtain ⟨b,o,cs,rfl,hbz,hl,hcs,hd⟩:=(Hv.out.up stable_val4 hu).at hlt;obtain ⟨hd,⟨a1,n1,c1,g1⟩,⟨a2,n2,c2,g2⟩,⟨a3,n3,c3,g3⟩⟩:=hd;have hgg:=fun e=>find_at (fun x:Int × Value × Value × Value=>x.1==n) l k hlt Hg.out e;have Hgn:=hid (fun e=>no_more (p:=fun x:Int × Value × Value × Value=>x.1==n) hlt Hg.out e);have Hgg:=hid hgg;clear hgg;generalize l[k]=x at *;obtain ⟨xn,xa,xb,xc⟩:=x;simp only at g1 g2 g3;subst g1 g2 g3;subst hd;have p0:=hcs 0 _ rfl;have p1:=hcs 1 _ rfl;have p2:=hcs 2 _ rfl;have p3:=hcs 3 _ rfl;simp only [Nat.add_zero] at p0;(have k0:(0:Int)<=(k:Int):=by omega);(have k1:(k:Int)<(l.length:Int):=by omega);(have rne:w.heap.size+1≠wr.heap.size:=by omega);(have rne2:wr.heap.size≠w.heap.size+1:=by omega);clear hcs hl
   cases e:(xn==n) with
   |true =>
    have hfd:=Hgg.out e;have Hgv:=hid (show getV l n=(.agg #[.int .i64 xn,.slice a1 n1 c1,.slice a2 n2 c2,.slice a3 n3 c3],true) by unfold getV;rw [hfd]);have Hu:=hid hu;clear hfd hu;(go_wp2_with fail);refine bodyPost_ret (v:=.tuple #[.agg #[.int .i64 xn,.slice a1 n1 c1,.slice a2 n2 c2,.slice a3 n3 c3],.bool true]) (by simp [results,Tryz.results50,go_sem,r0,r1,r2,r3,rz]) rfl ?_;rw [Hgv.out];refine ⟨rfl,?_⟩;repeat (first|(with_reducible refine Up.setCell ?_ ?_ _)|(with_reducible refine Up.alloc ?_ _)|(with_reducible refine Up.drew ?_))
    ·exact Hu.out
    all_goals (simp only;omega)
   |false =>
    have Hu:=hid hu;clear hu r0 r1 r2 r3 rf';go_wp2_with fail
    go_roundw
    (case rel=>exact ⟨k+1,by omega,by go_num,Hu.out.alloc _,blk_old _ Hb.out,Hgn.out e⟩);case measure=>simp [intOf];omega
  ·have hfd:=find_none (fun x:Int × Value × Value × Value=>x.1==n) l (fun j hj=>Hg.out j hj (by omega));have Hgv:=hid (show getV l n=(.agg #[.int .i64 0,.slice none 0 0,.slice none 0 0,.slice none 0 0],false) by unfold getV;rw [hfd]);have Hu:=hid hu;clear hfd hu;(go_wp2_with fail);refine bodyPost_ret (v:=.tuple #[.agg #[.int .i64 0,.slice none 0 0,.slice none 0 0,.slice none 0 0],.bool false]) (by simp [results,Tryz.results50,go_sem,r0,r1,r2,r3]) rfl ?_;rw [Hgv.out];refine ⟨rfl,?_⟩;repeat (first|(with_reducible refine Up.setCell ?_ ?_ _)|(with_reducible refine Up.alloc ?_ _)|(with_reducible refine Up.drew ?_))
   ·exact Hu.out
   all_goals (simp only;omega)
def findV (l:List Val) (n:Int):Option Val:=l.find? (fun x=>x.1==n)
theorem rd4 {d:Nat} {S:Nat->Prop} {w:World} {v:Value} {l:List Val} (h:RdS (DValD d) 4 S w v l):∃ l4:List (Int × Value × Value × Value),RdS DVal4 4 S w v l4/\l4.length=l.length/\∀ i,(h1:i<l4.length)->(h2:i<l.length)->l4[i].1=l[i].1/\DValD d S w l[i] [.int .i64 l4[i].1,l4[i].2.1,l4[i].2.2.1,l4[i].2.2.2]:=by
 obtain ⟨ao,cap,rfl,h1,h2,h3,h4⟩:=h
 have hf:∀ i:Fin l.length,∃ x:Int × Value × Value × Value,x.1=l[i].1/\DValD d S w l[i] [.int .i64 x.1,x.2.1,x.2.2.1,x.2.2.2]/\∃ b o cs,ao=some ⟨b,o,none⟩/\S b/\b<w.heap.size/\cs.length=4/\CellsAt w b (o+i*4) cs/\DVal4 S w x cs:=by
  intro i;obtain ⟨b,o,cs,e1,e2,e3,e4,e5,e6⟩:=h4 i.1 i.2;obtain ⟨a1,c1,a2,c2,a3,c3,rfl,g⟩:=val_cells e6;exact ⟨(l[i].1,.slice a1 _ c1,.slice a2 _ c2,.slice a3 _ c3),rfl,e6,b,o,_,e1,e2,e3,e4,e5,rfl,⟨_,_,_,rfl⟩,⟨_,_,_,rfl⟩,⟨_,_,_,rfl⟩⟩
 refine ⟨List.ofFn (fun i=>(hf i).choose),⟨ao,cap,by simp,by simpa using h1,h2,by simpa using h3,fun i hi=>?_⟩,by simp,fun i g1 g2=>?_⟩
 ·(have hi':i<l.length:=by simpa using hi);obtain ⟨b,o,cs,e1,eS,e2,e3,e4,e5⟩:=(hf ⟨i,hi'⟩).choose_spec.2.2;refine ⟨b,o,cs,e1,eS,e2,e3,e4,?_⟩;simpa using e5
 ·have:=(hf ⟨i,g2⟩).choose_spec;simp only [List.getElem_ofFn];exact ⟨this.1,this.2.1⟩
theorem rdS_nil {α:Type} (D:Lay α) (size:Nat) (S:Nat->Prop) (w:World):RdS D size S w (.slice none 0 0) ([]:List α):=⟨none,0,rfl,by simp,by unfold maxLen;omega,fun _=>rfl,fun i hi=>by simp at hi⟩
theorem val0_at (d:Nat) (S:Nat->Prop) (w:World):DValD d S w val0 [.int .i64 0,.slice none 0 0,.slice none 0 0,.slice none 0 0] :=
 ⟨_,_,_,rfl,⟨by decide,by decide⟩,rdS_nil _ _ _ _,rdS_nil _ _ _ _,rdS_nil _ _ _ _,by show 0*8<=_;omega,by show 0*24<=_;omega,by show 0*48<=_;omega⟩
theorem getV_val {d:Nat} {S:Nat->Prop} {w:World} {l:List Val} {l4:List (Int × Value × Value × Value)} (hl:l4.length=l.length) (h:∀ i,(h1:i<l4.length)->(h2:i<l.length)->l4[i].1=l[i].1/\DValD d S w l[i] [.int .i64 l4[i].1,l4[i].2.1,l4[i].2.2.1,l4[i].2.2.2]) (n:Int) :
  ∃ a1 c1 a2 c2 a3 c3,getV l4 n=(.agg #[.int .i64 ((findV l n).getD val0).1,.slice a1 ((findV l n).getD val0).2.1.length c1,.slice a2 ((findV l n).getD val0).2.2.1.length c2,.slice a3 ((findV l n).getD val0).2.2.2.length c3],(findV l n).isSome) /\
   DValD d S w ((findV l n).getD val0) [.int .i64 ((findV l n).getD val0).1,.slice a1 ((findV l n).getD val0).2.1.length c1,.slice a2 ((findV l n).getD val0).2.2.1.length c2,.slice a3 ((findV l n).getD val0).2.2.2.length c3]:=by
 induction l4 generalizing l with
 |nil =>
  obtain rfl:l=[]:=List.eq_nil_of_length_eq_zero hl.symm;exact ⟨none,0,none,0,none,0,rfl,val0_at d S w⟩
 |cons y l4 ih =>
  rcases l with _|⟨x,l⟩
  ·simp at hl
  have h0:=h 0 (by simp) (by simp);simp only [List.getElem_cons_zero] at h0
  cases e:(x.1==n) with
  |true =>
   (have e':(y.1==n)=true:=by rw [h0.1];exact e);(have f1:findV (x::l) n=some x:=by unfold findV;rw [List.find?_cons_of_pos (by simpa using e)]);(have f2:getV (y::l4) n=(.agg #[.int .i64 y.1,y.2.1,y.2.2.1,y.2.2.2],true):=by unfold getV;rw [List.find?_cons_of_pos (by simpa using e')]);obtain ⟨a1,c1,a2,c2,a3,c3,g,_⟩:=val_cells h0.2;rw [f1,f2];simp only [List.cons.injEq,and_true] at g;obtain ⟨g0,g1,g2,g3⟩:=g;refine ⟨a1,c1,a2,c2,a3,c3,?_,?_⟩
   ·simp only [Option.getD_some,Option.isSome_some];rw [g0,g1,g2,g3]
   ·have:=h0.2;rw [g0,g1,g2,g3] at this;exact this
  |false =>
   (have e':(y.1==n)=false:=by rw [h0.1];exact e);(have f1:findV (x::l) n=findV l n:=by unfold findV;rw [List.find?_cons_of_neg (by simpa using e)]);(have f2:getV (y::l4) n=getV l4 n:=by unfold getV;rw [List.find?_cons_of_neg (by simpa using e')]);rw [f1,f2];exact ih (by simpa using hl) (fun i h1 h2=>h (i+1) (by simpa using h1) (by simpa using h2))
theorem get_v (d:Nat) {S:Nat->Prop} (vv vu:Value) (l:List Val) (n:Int) (w:World) (hv:RdS (DValD d) 4 S w vv l) (hvu:∃ a m c,vu=.slice a m c) :
  Calls Tryz.prog 96 #[.agg #[vv,vu],.int .i64 n] w fun e w'=>∃ a1 c1 a2 c2 a3 c3,e=.returned (.tuple #[.agg #[.int .i64 ((findV l n).getD val0).1,.slice a1 ((findV l n).getD val0).2.1.length c1,.slice a2 ((findV l n).getD val0).2.2.1.length c2,.slice a3 ((findV l n).getD val0).2.2.2.length c3],.bool (findV l n).isSome]) /\
   DValD d S w' ((findV l n).getD val0) [.int .i64 ((findV l n).getD val0).1,.slice a1 ((findV l n).getD val0).2.1.length c1,.slice a2 ((findV l n).getD val0).2.2.1.length c2,.slice a3 ((findV l n).getD val0).2.2.2.length c3]/\Up w w':=by
 obtain ⟨l4,h1,h2,h3⟩:=rd4 hv;obtain ⟨a1,c1,a2,c2,a3,c3,h4,h5⟩:=getV_val h2 h3 n;refine (get_b vv vu l4 n w (h1.keep stable_val4 Keep.all) hvu).mono ?_;rintro e w' ⟨rfl,hu⟩;rw [h4];exact ⟨a1,c1,a2,c2,a3,c3,rfl,stable_val d _ _ _ _ _ _ (Keep.upS hu) h5,hu⟩
theorem find_v (d:Nat) {S:Nat->Prop} (vv vu:Value) (l:List Val) (n:Int) (w:World) (hv:RdS (DValD d) 4 S w vv l) (hvu:∃ a m c,vu=.slice a m c) :
  Calls Tryz.prog 50 #[.agg #[vv,vu],.int .i64 n] w fun e w'=>∃ a1 c1 a2 c2 a3 c3,e=.returned (.tuple #[.agg #[.int .i64 ((findV l n).getD val0).1,.slice a1 ((findV l n).getD val0).2.1.length c1,.slice a2 ((findV l n).getD val0).2.2.1.length c2,.slice a3 ((findV l n).getD val0).2.2.2.length c3],.bool (findV l n).isSome]) /\
   DValD d S w' ((findV l n).getD val0) [.int .i64 ((findV l n).getD val0).1,.slice a1 ((findV l n).getD val0).2.1.length c1,.slice a2 ((findV l n).getD val0).2.2.1.length c2,.slice a3 ((findV l n).getD val0).2.2.2.length c3]/\Up w w':=by
 obtain ⟨l4,h1,h2,h3⟩:=rd4 hv;obtain ⟨a1,c1,a2,c2,a3,c3,h4,h5⟩:=getV_val h2 h3 n;refine (find_b vv vu l4 n w (h1.keep stable_val4 Keep.all) hvu).mono ?_;rintro e w' ⟨rfl,hu⟩;rw [h4];exact ⟨a1,c1,a2,c2,a3,c3,rfl,stable_val d _ _ _ _ _ _ (Keep.upS hu) h5,hu⟩
def ValAt (w:World) (b o:Nat) (x:Val) (a1 a2 a3:Option Addr) (c1 c2 c3:Nat):Prop:=w.cell? ⟨b,o,none⟩=some (.int .i64 x.1)/\w.cell? ⟨b,o+1,none⟩=some (.slice a1 x.2.1.length c1)/\w.cell? ⟨b,o+2,none⟩=some (.slice a2 x.2.2.1.length c2)/\w.cell? ⟨b,o+3,none⟩=some (.slice a3 x.2.2.2.length c3)
theorem ValAt.up {w w':World} {b o:Nat} {x:Val} {a1 a2 a3:Option Addr} {c1 c2 c3:Nat} (h:ValAt w b o x a1 a2 a3 c1 c2 c3) (u:Up w w'):ValAt w' b o x a1 a2 a3 c1 c2 c3:=⟨u.cell_some h.1,u.cell_some h.2.1,u.cell_some h.2.2.1,u.cell_some h.2.2.2⟩
theorem count_any (kind:Int) (b o:Nat) (x:Val) (a1 a2 a3:Option Addr) (c1 c2 c3:Nat) (w:World) (hx:ValAt w b o x a1 a2 a3 c1 c2 c3) (hz:ValSz x) :
  Calls Tryz.prog 118 #[.int .i64 kind,.pointer (some ⟨b,o,none⟩)] w fun e w'=>e=.returned (.tuple #[.int .i64 ((countN kind x).1:Int),.bool (countN kind x).2])/\Up w w':=by
 obtain ⟨h0,h1,h2,h3⟩:=hx;obtain ⟨z1,z2,z3⟩:=hz;obtain ⟨xn,xb,xy,xs⟩:=x;simp only at h0 h1 h2 h3 z1 z2 z3;(have s13:IntKind.i64.wrap ((xb.length:Int)+(xs.length:Int))=(xb.length:Int)+(xs.length:Int):=by rw [IntKind.wrap_i64];omega);(have s12:IntKind.i64.wrap ((xb.length:Int)+(xy.length:Int))=(xb.length:Int)+(xy.length:Int):=by rw [IntKind.wrap_i64];omega);(have s23:IntKind.i64.wrap ((xy.length:Int)+(xs.length:Int))=(xy.length:Int)+(xs.length:Int):=by rw [IntKind.wrap_i64];omega);(have e13:(((xb.length:Int)+(xs.length:Int))==0)=(xb.length+xs.length==0):=by rw [Bool.eq_iff_iff];simp only [beq_iff_eq];omega);(have e12:(((xb.length:Int)+(xy.length:Int))==0)=(xb.length+xy.length==0):=by rw [Bool.eq_iff_iff];simp only [beq_iff_eq];omega);(have e23:(((xy.length:Int)+(xs.length:Int))==0)=(xy.length+xs.length==0):=by rw [Bool.eq_iff_iff];simp only [beq_iff_eq];omega);have E13:=hid e13;have E12:=hid e12;have E23:=hid e23;clear e13 e12 e23 z1 z2 z3;have hcn:countN kind (xn,xb,xy,xs)=if kind=8∨kind=9 then (xy.length,xb.length+xs.length==0) else if kind=10 then (xs.length,xb.length+xy.length==0) else (xb.length,xy.length+xs.length==0):=rfl;have Hcn:=hid hcn;clear hcn;generalize countN kind (xn,xb,xy,xs)=cn at *
 by_cases k8:kind=8
 ·subst k8;have Hc:=hid (show cn=(xy.length,xb.length+xs.length==0) by rw [Hcn.out,if_pos (.inl rfl)]);rw [Hc.out]
  go_enter Tryz.func118,Tryz.ntmps118
  go_wp2_with fail
  go_quiet (fail)
  (go_wp2_with fail);refine bodyPost_ret (v:=.tuple #[.int .i64 (xy.length:Int),.bool (((xb.length:Int)+(xs.length:Int))==0)]) (by simp [results,Tryz.results118,go_sem]) rfl ?_;rw [E13.out];exact ⟨rfl,(Up.refl w).drewN _⟩
 by_cases k9:kind=9
 ·subst k9;have Hc:=hid (show cn=(xy.length,xb.length+xs.length==0) by rw [Hcn.out,if_pos (.inr rfl)]);rw [Hc.out]
  go_enter Tryz.func118,Tryz.ntmps118
  go_wp2_with fail
  go_quiet (fail)
  (go_wp2_with fail);refine bodyPost_ret (v:=.tuple #[.int .i64 (xy.length:Int),.bool (((xb.length:Int)+(xs.length:Int))==0)]) (by simp [results,Tryz.results118,go_sem]) rfl ?_;rw [E13.out];exact ⟨rfl,(Up.refl w).drewN _⟩
 by_cases k10:kind=10
 ·subst k10;have Hc:=hid (show cn=(xs.length,xb.length+xy.length==0) by rw [Hcn.out,if_neg (by decide),if_pos rfl]);rw [Hc.out]
  go_enter Tryz.func118,Tryz.ntmps118
  go_wp2_with fail
  go_quiet (fail)
  (go_wp2_with fail);refine bodyPost_ret (v:=.tuple #[.int .i64 (xs.length:Int),.bool (((xb.length:Int)+(xy.length:Int))==0)]) (by simp [results,Tryz.results118,go_sem]) rfl ?_;rw [E12.out];exact ⟨rfl,(Up.refl w).drewN _⟩
 have Hc:=hid (show cn=(xb.length,xy.length+xs.length==0) by rw [Hcn.out,if_neg (by simp [k8,k9]),if_neg k10]);rw [Hc.out];(have f8:(kind==8)=false:=by simpa using k8);(have f9:(kind==9)=false:=by simpa using k9);(have f10:(kind==10)=false:=by simpa using k10);clear k8 k9 k10
 go_enter Tryz.func118,Tryz.ntmps118
 go_wp2_with fail
 go_quiet (fail)
 (go_wp2_with fail);refine bodyPost_ret (v:=.tuple #[.int .i64 (xb.length:Int),.bool (((xy.length:Int)+(xs.length:Int))==0)]) (by simp [results,Tryz.results118,go_sem]) rfl ?_;rw [E23.out];exact ⟨rfl,(Up.refl w).drewN _⟩
theorem RdS.head {α:Type} {D:Lay α} {size:Nat} {S:Nat->Prop} {w:World} {ao:Option Addr} {n cap:Nat} {a:α} {l:List α} (h:RdS D size S w (.slice ao n cap) (a::l)):∃ b o cs,ao=some ⟨b,o,none⟩/\b<w.heap.size/\CellsAt w b o cs/\D S w a cs:=by
 obtain ⟨b,o,cs,h1,h2,_,h4,h5⟩:=h.at (i:=0) (by simp);exact ⟨b,o,cs,h1,h2,by simpa using h4,h5⟩
theorem plain_any (f:Fld) (bf of b o:Nat) (x:Val) (a1 a2 a3:Option Addr) (c1 c2 c3:Nat) (w:World) (hk:w.cell? ⟨bf,of+2,none⟩=some (.int .i64 f.kind)) (hm:w.cell? ⟨bf,of+4,none⟩=some (.bool f.many)) (hc:w.cell? ⟨bf,of+5,none⟩=some (.int .i64 f.choice))
  (hx:ValAt w b o x a1 a2 a3 c1 c2 c3) (h1:RdS DU64 1 All w (.slice a1 x.2.1.length c1) x.2.1) (h2:RdS DBytes 1 All w (.slice a2 x.2.2.1.length c2) x.2.2.1) :
  Calls Tryz.prog 119 #[.pointer (some ⟨bf,of,none⟩),.pointer (some ⟨b,o,none⟩)] w fun e w'=>e=.returned (.bool (plainN f x))/\Up w w':=by
 obtain ⟨x0,x1,x2,x3⟩:=hx;obtain ⟨xn,xb,xy,xs⟩:=x;simp only at x0 x1 x2 x3 h1 h2;obtain ⟨fn,fnum,fk,ft,fm,fc⟩:=f;simp only at hk hm hc;have hpl:plainN ⟨fn,fnum,fk,ft,fm,fc⟩ (xn,xb,xy,xs)=(!(fm || decide (0<fc) || fk==10) && ((xb==[0]) || (xy==[[]]))):=rfl;rw [hpl];clear hpl
 cases fm with
 |true =>
  clear h1 h2
  go_enter Tryz.func119,Tryz.ntmps119
  go_wp2_with fail
  go_ret
  exact ⟨ret_bool (by simp),Up.refl _⟩
 |false =>
  by_cases hfc:0<fc
  ·have dc:decide (0<fc)=true:=decide_eq_true hfc;clear h1 h2
   go_enter Tryz.func119,Tryz.ntmps119
   go_wp2_with fail
   go_ret
   exact ⟨ret_bool (by simp [hfc]),Up.refl _⟩
  ·have dc:decide (0<fc)=false:=decide_eq_false hfc;rw [dc]
   cases hfk:(fk==10) with
   |true =>
    clear h1 h2
    go_enter Tryz.func119,Tryz.ntmps119
    go_wp2_with fail
    go_ret
    exact ⟨ret_bool (by simp),Up.refl _⟩
   |false =>
    have q1:xb=[0]∨(∃ n,n≠0/\xb=[n])∨xb.length≠1:=by
     rcases xb with _|⟨n,_|⟨m,l⟩⟩
     ·exact .inr (.inr (by simp))
     ·by_cases hn:n=0
      ·subst hn;exact .inl rfl
      ·exact .inr (.inl ⟨n,hn,rfl⟩)
     ·exact .inr (.inr (by simp))
    have q2:xy=[[]]∨(∃ y,y≠[]/\xy=[y])∨xy.length≠1:=by
     rcases xy with _|⟨n,_|⟨m,l⟩⟩
     ·exact .inr (.inr (by simp))
     ·by_cases hn:n=[]
      ·subst hn;exact .inl rfl
      ·exact .inr (.inl ⟨n,hn,rfl⟩)
     ·exact .inr (.inr (by simp))
    rcases q1 with rfl|hq
    ·obtain ⟨b1,o1,cs,rfl,_,hcs,hd⟩:=h1.head;obtain ⟨rfl,_⟩:=hd;have n0:=hcs 0 _ rfl;simp only [Nat.add_zero,List.length_cons,List.length_nil,Nat.zero_add] at n0 x1;clear h1 h2 hcs q2
     go_enter Tryz.func119,Tryz.ntmps119
     go_wp2_with fail
     go_ret
     exact ⟨ret_bool (by simp []),Up.refl _⟩
    ·have q3:(xb==[0])=false:=by
      rw [beq_eq_false_iff_ne];rintro rfl;rcases hq with ⟨n,hn,h⟩|h
      ·simp at h;exact hn h.symm
      ·simp at h
     have q4:((xb.length:Int)==1)=false∨∃ n b1 o1,a1=some ⟨b1,o1,none⟩/\xb.length=1/\w.cell? ⟨b1,o1,none⟩=some (.int .u64 (n:Int))/\((n:Int)==0)=false:=by
      rcases hq with ⟨n,hn,rfl⟩|h
      ·obtain ⟨b1,o1,cs,rfl,_,hcs,hd⟩:=h1.head;obtain ⟨rfl,_⟩:=hd;have n0:=hcs 0 _ rfl;simp only [Nat.add_zero] at n0;exact .inr ⟨n,b1,o1,rfl,rfl,n0,by rw [beq_eq_false_iff_ne];omega⟩
      ·exact .inl (by rw [beq_eq_false_iff_ne];omega)
     have Q3:=hid q3;clear h1 hq q3;rcases q2 with rfl|hq
     ·obtain ⟨b2,o2,cs,rfl,_,hcs,hd⟩:=h2.head;obtain ⟨vy,hd,hy,_⟩:=hd;subst hd;obtain ⟨ay,cy,rfl,_,_⟩:=hy.val;have n0:=hcs 0 _ rfl;simp only [Nat.add_zero,List.length_cons,List.length_nil,Nat.zero_add] at n0 x2;clear h2 hcs hy;rcases q4 with q4|⟨n,b1,o1,rfl,hl1,n1,n2⟩
      ·go_enter Tryz.func119,Tryz.ntmps119
       go_wp2_with fail
       go_ret
       exact ⟨ret_bool (by simp []),Up.refl _⟩
      ·rw [hl1] at x1
       go_enter Tryz.func119,Tryz.ntmps119
       go_wp2_with fail
       go_ret
       exact ⟨ret_bool (by simp []),Up.refl _⟩
     ·have q5:(xy==[[]])=false:=by
       rw [beq_eq_false_iff_ne];rintro rfl;rcases hq with ⟨n,hn,h⟩|h
       ·simp at h;exact hn h
       ·simp at h
      have q6:((xy.length:Int)==1)=false∨∃ (y:List UInt8) (b2 o2:Nat) (ay:Option Addr) (cy:Nat),a2=some ⟨b2,o2,none⟩/\xy.length=1/\w.cell? ⟨b2,o2,none⟩=some (.slice ay y.length cy)/\((y.length:Int)==0)=false:=by
       rcases hq with ⟨y,hn,rfl⟩|h
       ·obtain ⟨b2,o2,cs,rfl,_,hcs,hd⟩:=h2.head;obtain ⟨vy,hd,hy,_⟩:=hd;subst hd;obtain ⟨ay,cy,rfl,_,_⟩:=hy.val;have n0:=hcs 0 _ rfl;simp only [Nat.add_zero] at n0;exact .inr ⟨y,b2,o2,ay,cy,rfl,rfl,n0,by rw [beq_eq_false_iff_ne];have:=List.length_pos_iff.2 hn;omega⟩
       ·exact .inl (by rw [beq_eq_false_iff_ne];omega)
      rw [q5,Q3.out];clear h2 hq q5;rcases q4 with q4|⟨n,b1,o1,rfl,hl1,n1,n2⟩
      ·rcases q6 with q6|⟨y,b2,o2,ay,cy,rfl,hl2,n3,n4⟩
       ·go_enter Tryz.func119,Tryz.ntmps119
        go_wp2_with fail
        go_ret
        exact ⟨ret_bool (by simp []),Up.refl _⟩
       ·rw [hl2] at x2;clear hl2
        go_enter Tryz.func119,Tryz.ntmps119
        go_wp2_with fail
        go_ret
        exact ⟨ret_bool (by simp []),Up.refl _⟩
      ·rw [hl1] at x1;clear hl1;rcases q6 with q6|⟨y,b2,o2,ay,cy,rfl,hl2,n3,n4⟩
       ·go_enter Tryz.func119,Tryz.ntmps119
        go_wp2_with fail
        go_ret
        exact ⟨ret_bool (by simp []),Up.refl _⟩
       ·rw [hl2] at x2;clear hl2
        go_enter Tryz.func119,Tryz.ntmps119
        go_wp2_with fail
        go_ret
        exact ⟨ret_bool (by simp []),Up.refl _⟩
def FldAt (w:World) (b o:Nat) (x:Fld):Prop:=b<w.heap.size/\(w.cell? ⟨b,o,none⟩=some (.string ⟨x.name.toArray⟩)/\w.cell? ⟨b,o+1,none⟩=some (.int .i64 x.number)/\w.cell? ⟨b,o+2,none⟩=some (.int .i64 x.kind)/\w.cell? ⟨b,o+3,none⟩=some (.string ⟨x.type.toArray⟩)/\w.cell? ⟨b,o+4,none⟩=some (.bool x.many)/\w.cell? ⟨b,o+5,none⟩=some (.int .i64 x.choice))/\DFld All w x [.string ⟨x.name.toArray⟩,.int .i64 x.number,.int .i64 x.kind,.string ⟨x.type.toArray⟩,.bool x.many,.int .i64 x.choice]
theorem FldAt.up {w w':World} {b o:Nat} {x:Fld} (h:FldAt w b o x) (u:Up w w'):FldAt w' b o x:=⟨Nat.lt_of_lt_of_le h.1 u.size,⟨u.cell_some h.2.1.1,u.cell_some h.2.1.2.1,u.cell_some h.2.1.2.2.1,u.cell_some h.2.1.2.2.2.1,u.cell_some h.2.1.2.2.2.2.1,u.cell_some h.2.1.2.2.2.2.2⟩,stable_fld _ _ _ _ _ _ (Keep.upS u) h.2.2⟩
theorem fld_at {w:World} {ao:Option Addr} {n cap:Nat} {l:List Fld} (h:RdS DFld 6 All w (.slice ao n cap) l) {k:Nat} (hk:k<l.length):∃ b o,ao=some ⟨b,o,none⟩/\FldAt w b (o+k*6) l[k]:=by
 obtain ⟨b,o,cs,e,hb,hl,hcs,hd⟩:=h.at hk;obtain ⟨rfl,hx⟩:=id hd;exact ⟨b,o,e,hb,⟨hcs 0 _ rfl,hcs 1 _ rfl,hcs 2 _ rfl,hcs 3 _ rfl,hcs 4 _ rfl,hcs 5 _ rfl⟩,hd⟩
theorem field_r (s:Value) (vf vb:Value) (l:List Fld) (n:Int) (w:World) (hs:∃ b,s=.string b) (hvb:∃ a l c,vb=.slice a l c) (hv:RdS DFld 6 All w vf l) :
  Calls Tryz.prog 34 #[.agg #[s,vf,vb],.int .i64 n] w fun e w'=>(∃ p,e=.returned (.pointer p)/\(idxP (fun x=>x.number==n) l<0->p=none)/\∀ k:Nat,(hk:k<l.length)->idxP (fun x=>x.number==n) l=k->∃ b o c,vf=.slice (some ⟨b,o,none⟩) l.length c/\p=some ⟨b,o+k*6,none⟩/\FldAt w' b (o+k*6) l[k])/\Up w w':=by
 obtain ⟨b,rfl⟩:=hs;obtain ⟨x1,x2,x3,rfl⟩:=hvb;obtain ⟨ao,cap,rfl,hc1,hc2⟩:=hv.val;have Hv:=hid hv;clear hv
 go_enter Tryz.func34,Tryz.ntmps34
 (go_wp2_with fail);(go_loopw [9] (fun i wr=>∃ k:Nat,k<=l.length/\i=.int .i64 k/\Up w wr/\wr.cell? ⟨w.heap.size,1,none⟩=some (.slice ao l.length cap)/\∀ j,(hj:j<l.length)->j<k->(l[j].number==n)=false) (fun i _=>l.length - (intOf i).toNat));case atStart=>exact ⟨0,by omega,rfl,(Up.refl w).alloc _,cell_of_row _ _ 1 _ _ _ (blk_new w _ rfl),fun j _ h=>absurd h (by omega)⟩
 case round =>
  obtain ⟨k,hk,rfl,hu,hb,hg⟩:=hrel;have Hg:=hid hg;clear hg
  by_cases hlt:k<l.length
  ·obtain ⟨bb,oo,rfl,hf⟩:=fld_at (Hv.out.up stable_fld hu) hlt;have Hgi:=hid (fun e=>idxP_at (fun x:Fld=>x.number==n) l k hlt Hg.out e);have Hgn:=hid (fun e=>no_more (p:=fun x:Fld=>x.number==n) hlt Hg.out e);have c1:=hf.2.1.2.1;(have k0:(0:Int)<=(k:Int):=by omega);(have k1:(k:Int)<(l.length:Int):=by omega);have Hf:=hid hf;clear hf
   cases e:(l[k].number==n) with
   |true =>
    have hgi:=Hgi.out e;have Hu:=hid hu;clear hu;go_wp2_with fail
    go_ret
    refine ⟨⟨_,rfl,fun h=>absurd h (by rw [hgi];omega),fun k' hk' h'=>?_⟩,Hu.out⟩;(obtain rfl:k=k':=by rw [hgi] at h';omega);exact ⟨bb,oo,_,rfl,rfl,Hf.out⟩
   |false =>
    have hgn:=Hgn.out e;have Hu:=hid hu;clear hu;go_wp2_with fail
    go_roundw
    (case rel=>exact ⟨k+1,by omega,by go_num,Hu.out,hb,hgn⟩);case measure=>simp [intOf];omega
  ·have hfd:=idxP_none (fun x:Fld=>x.number==n) l (fun j hj=>Hg.out j hj (by omega));have Hu:=hid hu;clear hu;go_wp2_with fail
   go_ret
   exact ⟨⟨_,rfl,fun _=>rfl,fun k' hk' h'=>absurd h' (by rw [hfd];omega)⟩,Hu.out⟩
end Go.Proofs.YtbceccblepckhaaGreatDoor
