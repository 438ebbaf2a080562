/-
  pressref2.WrongField.
  A map that counts names.
  pressref2.Free.
-/
import Derived.Test.YtbceccblepckhaaGreatDoorCt24
import Derived.Maps.Own
import Derived.Maps.Views
set_option maxHeartbeats 6400000
set_option linter.unusedVariables false
namespace Go.Proofs.YtbceccblepckhaaGreatDoor
open Go.RowKit
set_option maxRecDepth 100000
open Lib (hid)
theorem any_take_true {α:Type} {p:α->Bool} {l:List α} {i j:Nat} (hj:j<l.length) (hji:j<i) (e:p l[j]=true):(l.take i).any p=true:=by
 rw [List.any_eq_true];exact ⟨l[j],by rw [List.mem_take_iff_getElem];exact ⟨j,by omega,rfl⟩,e⟩
theorem any_take_false {α:Type} {p:α->Bool} {l:List α} {i:Nat} (h:∀ j,(hj:j<l.length)->j<i->p l[j]=false):(l.take i).any p=false:=by
 rw [List.any_eq_false];intro x hx;rw [List.mem_take_iff_getElem] at hx;obtain ⟨j,hj,rfl⟩:=hx;rw [h j (by omega) (by omega)];decide
theorem any_true {α:Type} {p:α->Bool} {l:List α} {j:Nat} (hj:j<l.length) (e:p l[j]=true):l.any p=true:=List.any_eq_true.2 ⟨_,List.getElem_mem hj,e⟩
theorem any_false {α:Type} {p:α->Bool} {l:List α} (h:∀ j,(hj:j<l.length)->p l[j]=false):l.any p=false:=by
 rw [List.any_eq_false];intro x hx;obtain ⟨j,hj,rfl⟩:=List.getElem_of_mem hx;rw [h j hj];decide
def FldBox (w:World) (g:Nat) (x:Fld):Prop:=w.heap[g]? = some (.cells #[.string ⟨x.name.toArray⟩,.int .i64 x.number,.int .i64 x.kind,.string ⟨x.type.toArray⟩,.bool x.many,.int .i64 x.choice] 47 (0,0))
theorem FldBox.cells {w:World} {g:Nat} {x:Fld} (h:FldBox w g x):w.cell? ⟨g,0,none⟩=some (.string ⟨x.name.toArray⟩)/\w.cell? ⟨g,1,none⟩=some (.int .i64 x.number)/\w.cell? ⟨g,2,none⟩=some (.int .i64 x.kind)/\w.cell? ⟨g,3,none⟩=some (.string ⟨x.type.toArray⟩)/\w.cell? ⟨g,4,none⟩=some (.bool x.many)/\w.cell? ⟨g,5,none⟩=some (.int .i64 x.choice) :=
 ⟨cell_of_row w g 0 _ _ _ h,cell_of_row w g 1 _ _ _ h,cell_of_row w g 2 _ _ _ h,cell_of_row w g 3 _ _ _ h,cell_of_row w g 4 _ _ _ h,cell_of_row w g 5 _ _ _ h⟩
theorem FldBox.up {w w':World} {g:Nat} {x:Fld} (h:FldBox w g x) (u:Up w w'):FldBox w' g x:=u.blk h
theorem wfield_r (f:Fil) (m:Msg) (i:Nat) (vm ve vf vb:Value) (w:World) (hf:FilV All w (.agg #[vm,ve]) f) (hvf:RdS DFld 6 All w vf m.fields) (hvb:RdS DInt 1 All w vb m.barred) (hi:i<m.fields.length) :
  Calls Tryz.prog 45 #[.agg #[vm,ve],.agg #[.string ⟨m.name.toArray⟩,vf,vb],.int .i64 i] w fun e w'=>e=.returned (.int .i64 (fieldN f m i m.fields[i]))/\Up w w':=by
 have hfN:fieldN f m i m.fields[i]=if !named m.fields[i].name || (m.fields.take i).any (fun y=>m.fields[i].name==y.name) then 7
   else if m.fields[i].number<1∨536870912<=m.fields[i].number∨(19000<=m.fields[i].number/\m.fields[i].number<20000) then 3
   else if m.barred.any (fun n=>m.fields[i].number==n) || (m.fields.take i).any (fun y=>m.fields[i].number==y.number) then 8
   else if typedN f m.fields[i]≠0 then typedN f m.fields[i]
   else if m.fields[i].choice≠0/\m.fields[i].choice≠lastC (m.fields.take i)/\m.fields[i].choice≠begun 0 (m.fields.take i)+1 then 2 else 0:=rfl
 have HfN:=hid hfN;clear hfN;generalize fieldN f m i m.fields[i]=R at *;generalize m.name=nm at *;generalize hbr:m.barred=br at *;generalize hl:m.fields=l at *;clear hl hbr;obtain ⟨fo,fc,rfl,hf1,hf2⟩:=hvf.val;obtain ⟨bo,bc,rfl,hb1,hb2⟩:=hvb.val;obtain ⟨b,o,cs,rfl,hb,hcl,hcs,hd⟩:=hvf.at hi;obtain ⟨hd,hx1,hx2,hx3,hx4,hx5⟩:=hd;subst hd;have hx4':(l[i].name).length<=140737488355328:=hx4;have c0:=hcs 0 _ rfl;have c1:=hcs 1 _ rfl;have c2:=hcs 2 _ rfl;have c3:=hcs 3 _ rfl;have c4:=hcs 4 _ rfl;have c5:=hcs 5 _ rfl;simp only [Nat.add_zero] at c0;clear hcs hcl;have Hf:=hid hf;have Hvf:=hid hvf;have Hvb:=hid hvb;clear hf hvf hvb;generalize hxx:l[i]=x at *;have Hxx:=hid hxx;clear hxx;(have j0:(0:Int)<=(i:Int):=by omega);(have j1:(i:Int)<(l.length:Int):=by omega);(have j2:(i:Int)<=(l.length:Int):=by omega);have j3:(i:Int)<=(fc:Int):=by omega
 go_enter Tryz.func45,Tryz.ntmps45
 (go_wp2_with fail);have hB0:(((w.alloc (.cells #[vm,ve] 25)).alloc (.cells #[.string ⟨nm.toArray⟩,.slice (some ⟨b,o,none⟩) l.length fc,.slice bo br.length bc] 35)).alloc (.cells #[.string ⟨x.name.toArray⟩,.int .i64 x.number,.int .i64 x.kind,.string ⟨x.type.toArray⟩,.bool x.many,.int .i64 x.choice] 47)).heap[w.heap.size]? = some (.cells #[vm,ve] 25 (0,0)):=blk_old _ (blk_old _ (blk_new w _ rfl));have hB1:(((w.alloc (.cells #[vm,ve] 25)).alloc (.cells #[.string ⟨nm.toArray⟩,.slice (some ⟨b,o,none⟩) l.length fc,.slice bo br.length bc] 35)).alloc (.cells #[.string ⟨x.name.toArray⟩,.int .i64 x.number,.int .i64 x.kind,.string ⟨x.type.toArray⟩,.bool x.many,.int .i64 x.choice] 47)).heap[w.heap.size+1]? = some (.cells #[.string ⟨nm.toArray⟩,.slice (some ⟨b,o,none⟩) l.length fc,.slice bo br.length bc] 35 (0,0)):=blk_old _ (blk_new (w.alloc _) _ (by simp));have hB2:FldBox (((w.alloc (.cells #[vm,ve] 25)).alloc (.cells #[.string ⟨nm.toArray⟩,.slice (some ⟨b,o,none⟩) l.length fc,.slice bo br.length bc] 35)).alloc (.cells #[.string ⟨x.name.toArray⟩,.int .i64 x.number,.int .i64 x.kind,.string ⟨x.type.toArray⟩,.bool x.many,.int .i64 x.choice] 47)) (w.heap.size+2) x:=blk_new ((w.alloc _).alloc _) _ (by simp);have hu1:Up w (((w.alloc (.cells #[vm,ve] 25)).alloc (.cells #[.string ⟨nm.toArray⟩,.slice (some ⟨b,o,none⟩) l.length fc,.slice bo br.length bc] 35)).alloc (.cells #[.string ⟨x.name.toArray⟩,.int .i64 x.number,.int .i64 x.kind,.string ⟨x.type.toArray⟩,.bool x.many,.int .i64 x.choice] 47)):=(((Up.refl w).alloc _).alloc _).alloc _;generalize (((w.alloc (.cells #[vm,ve] 25)).alloc (.cells #[.string ⟨nm.toArray⟩,.slice (some ⟨b,o,none⟩) l.length fc,.slice bo br.length bc] 35)).alloc (.cells #[.string ⟨x.name.toArray⟩,.int .i64 x.number,.int .i64 x.kind,.string ⟨x.type.toArray⟩,.bool x.many,.int .i64 x.choice] 47))=w1 at *;have HB0:=hid hB0;have HB1:=hid hB1;have HB2:=hid hB2;have Hu1:=hid hu1;clear hB0 hB1 hB2 hu1 c0 c1 c2 c3 c4 c5;refine (named_r ⟨x.name.toArray⟩ w1 (by show x.name.length<=_;omega)).mono ?_;simp only;rintro e w2 ⟨rfl,hu2⟩
 cases hn:named x.name with
 |false =>
  go_wp2_with fail
  go_ret
  exact ⟨ret_int (by rw [HfN.out,hn];rfl),Hu1.out.trans hu2⟩
 |true =>
  have Hu2:=hid hu2;have m1:=ro1 (hu2.blk HB1.out);have z1:w.heap.size+1<w1.heap.size:=lt_of_block HB1.out;clear hu2;(go_wp2_with fail);(go_loopw [32] (fun i' wr=>∃ k:Nat,k<=i/\i'=.int .i64 k/\Up w1 wr/\∀ j,(hj:j<l.length)->j<k->(x.name==l[j].name)=false) (fun i' _=>i - (intOf i').toNat));case atStart=>exact ⟨0,by omega,rfl,Hu2.out,fun j _ h=>absurd h (by omega)⟩
  case round =>
   obtain ⟨k,hk,rfl,hu,hg⟩:=hrel;have Hg:=hid hg;have Hu:=hid hu;clear hg
   by_cases hlt:k<i
   ·(have hltl:k<l.length:=by omega);obtain ⟨b',o',cs,he,hb',hcl,hcs,hd⟩:=(Hvf.out.up stable_fld (Hu1.out.trans hu)).at hltl;simp only [Option.some.injEq,Addr.mk.injEq,and_true] at he;obtain ⟨rfl,rfl⟩:=he;obtain ⟨hd,_⟩:=hd;subst hd;have c0:=hcs 0 _ rfl;have c1:=hcs 1 _ rfl;have c2:=hcs 2 _ rfl;have c3:=hcs 3 _ rfl;have c4:=hcs 4 _ rfl;have c5:=hcs 5 _ rfl;simp only [Nat.add_zero] at c0;obtain ⟨p0,p1,p2,p3,p4,p5⟩:=(HB2.out.up hu).cells;have z2:w.heap.size+2<wr.heap.size:=lt_of_block (HB2.out.up hu);clear hcs hcl hu p1 p2 p3 p4 p5;(have k0:(0:Int)<=(k:Int):=by omega);(have k1:(k:Int)<(i:Int):=by omega);have Hgn:=hid (fun e=>no_more (p:=fun y=>x.name==y.name) hltl Hg.out e);have Hat:=hid (fun e=>any_take_true (p:=fun y:Fld=>x.name==y.name) hltl hlt e);generalize l[k]=y at *
    cases he:x.name==y.name with
    |true =>
     (have he':(y.name==x.name)=true:=by rw [leq_comm];exact he);go_wp2_with fail
     go_ret
     exact ⟨ret_int (by rw [HfN.out,Hat.out he,Bool.or_true,if_pos rfl]),Hu1.out.trans (Hu.out.alloc _)⟩
    |false =>
     (have he':(y.name==x.name)=false:=by rw [leq_comm];exact he);go_wp2_with fail
     go_roundw
     (case rel=>exact ⟨k+1,by omega,by go_num,Hu.out.alloc _,Hgn.out he⟩);case measure=>simp [intOf];omega
   ·(have hki:k=i:=by omega);have hat:=any_take_false (p:=fun y:Fld=>x.name==y.name) (l:=l) (i:=i) (fun j hj hji=>Hg.out j hj (by omega))
    have hgood:∀ q:Int,R=(if x.number<1∨536870912<=x.number∨(19000<=x.number/\x.number<20000) then 3
      else if br.any (fun n=>x.number==n) || (l.take i).any (fun y=>x.number==y.number) then 8
      else if typedN f x≠0 then typedN f x
      else if x.choice≠0/\x.choice≠lastC (l.take i)/\x.choice≠begun 0 (l.take i)+1 then 2 else 0):=fun _=>by rw [HfN.out,hn,hat];rfl
    have H1:=hid (hgood 0);clear hgood hat HfN;obtain ⟨p0,p1,p2,p3,p4,p5⟩:=(HB2.out.up hu).cells;have z2:w.heap.size+2<wr.heap.size:=lt_of_block (HB2.out.up hu);clear p0 p2 p3 p4 p5 hk hki
    go_upto_region 10 with (fail)
    go_cut [59] (fun v wc=>∃ bad:Bool,v=.bool bad/\bad=decide (x.number<1∨536870912<=x.number∨(19000<=x.number/\x.number<20000))/\wc=wr)
    case first =>
     (have hcs:x.number<1∨(1<=x.number/\536870911<x.number)∨(1<=x.number/\x.number<=536870911/\19000<=x.number/\x.number<=19999)∨(1<=x.number/\x.number<=536870911/\x.number<19000)∨(1<=x.number/\x.number<=536870911/\19000<=x.number/\19999<x.number):=by omega);rcases hcs with h|⟨h,h2⟩|⟨h,h2,h3,h4⟩|⟨h,h2,h3⟩|⟨h,h2,h3,h4⟩
     all_goals
      go_wp2_with fail
      go_meet
      exact ⟨_,rfl,by (rw [Bool.eq_iff_iff];simp only [Bool.or_eq_true,decide_eq_true_eq,true_iff];omega),rfl⟩
    case rest =>
     obtain ⟨bad,rfl,hbad,rfl⟩:=hcut
     cases bad with
     |true =>
      have hb1:=of_decide_eq_true hbad.symm;have Hb1:=hid hb1;clear hbad hb1;go_wp2_with fail
      go_ret
      exact ⟨ret_int (by rw [H1.out,if_pos Hb1.out]),Hu1.out.trans hu⟩
     |false =>
      have hb1:=of_decide_eq_false hbad.symm;have h2:=H1.out;rw [if_neg hb1] at h2;have H2:=hid h2;clear hbad hb1 h2 H1 Hg;have m2:=ro2 (hu.blk HB1.out);have n1:=ro1 (hu.blk HB1.out);clear m1 hu;(go_wp2_with fail);(go_loopw [63] (fun i' wr=>∃ k:Nat,k<=br.length/\i'=.int .i64 k/\wr=wc/\∀ j,(hj:j<br.length)->j<k->(x.number==br[j])=false) (fun i' _=>br.length - (intOf i').toNat));case atStart=>exact ⟨0,by omega,rfl,rfl,fun j _ h=>absurd h (by omega)⟩
      case round =>
       obtain ⟨k,hk,rfl,rfl,hg⟩:=hrel;have Hg:=hid hg;clear hg
       by_cases hlt:k<br.length
       ·
        obtain ⟨b',o',cs,rfl,hb',hcl,hcs,hd⟩:=(Hvb.out.up stable_int (Hu1.out.trans Hu.out)).at hlt;obtain ⟨hd,_⟩:=hd;subst hd;have c0:=hcs 0 _ rfl;simp only [Nat.add_zero,Nat.mul_one] at c0;(have k0:(0:Int)<=(k:Int):=by omega);(have k1:(k:Int)<(br.length:Int):=by omega);have Hgn:=hid (fun e=>no_more (p:=fun y=>x.number==y) hlt Hg.out e);have Hat:=hid (fun e=>any_true (p:=fun y:Int=>x.number==y) hlt e);clear hcs hcl;generalize br[k]=y at *;generalize x.number=xn at *
        cases he:xn==y with
        |true =>
         (have he':(y==xn)=true:=by rw [beq_iff_eq] at he ⊢;exact he.symm);go_wp2_with fail
         go_ret
         exact ⟨ret_int (by rw [H2.out,Hat.out he,Bool.true_or,if_pos rfl]),Hu1.out.trans Hu.out⟩
        |false =>
         (have he':(y==xn)=false:=by rw [beq_eq_false_iff_ne] at he ⊢;exact fun h=>he h.symm);go_wp2_with fail
         go_roundw
         (case rel=>exact ⟨k+1,by omega,by go_num,trivial,Hgn.out he⟩);case measure=>simp [intOf];omega
       ·have hat:=any_false (p:=fun y:Int=>x.number==y) (l:=br) (fun j hj=>Hg.out j hj (by omega));have h3:=H2.out;rw [hat,Bool.false_or] at h3;have H3:=hid h3;clear h3 H2 hat m2;obtain ⟨wb,rfl⟩:∃ wb:World,wb=wr:=⟨_,rfl⟩;(go_wp2_with fail);(go_loopw [77] (fun i' wq=>∃ k:Nat,k<=i/\i'=.int .i64 k/\Up wb wq/\∀ j,(hj:j<l.length)->j<k->(x.number==l[j].number)=false) (fun i' _=>i - (intOf i').toNat));case atStart=>exact ⟨0,by omega,rfl,Up.refl _,fun j _ h=>absurd h (by omega)⟩
        case round =>
         clear hk hlt Hg;obtain ⟨k,hk,rfl,hu,hg⟩:=hrel;have Hg:=hid hg;have Huq:=hid hu;clear hg
         by_cases hlt:k<i
         ·
          (have hltl:k<l.length:=by omega);obtain ⟨b',o',cs,he,hb',hcl,hcs,hd⟩:=(Hvf.out.up stable_fld (Hu1.out.trans (Hu.out.trans hu))).at hltl;simp only [Option.some.injEq,Addr.mk.injEq,and_true] at he;obtain ⟨rfl,rfl⟩:=he;obtain ⟨hd,_⟩:=hd;subst hd;have c0:=hcs 0 _ rfl;have c1:=hcs 1 _ rfl;have c2:=hcs 2 _ rfl;have c3:=hcs 3 _ rfl;have c4:=hcs 4 _ rfl;have c5:=hcs 5 _ rfl;simp only [Nat.add_zero] at c0;obtain ⟨q0,q1,q2,q3,q4,q5⟩:=(HB2.out.up (Hu.out.trans hu)).cells;have z3:w.heap.size+2<wr.heap.size:=lt_of_block (HB2.out.up (Hu.out.trans hu));clear hcs hcl hu q0 q2 q3 q4 q5;(have k0:(0:Int)<=(k:Int):=by omega);(have k1:(k:Int)<(i:Int):=by omega);have Hgn:=hid (fun e=>no_more (p:=fun y=>x.number==y.number) hltl Hg.out e);have Hat:=hid (fun e=>any_take_true (p:=fun y:Fld=>x.number==y.number) hltl hlt e);generalize l[k]=y at *;generalize x.number=xn at *
          cases he:xn==y.number with
          |true =>
           (have he':(y.number==xn)=true:=by rw [beq_iff_eq] at he ⊢;exact he.symm);go_wp2_with fail
           go_ret
           exact ⟨ret_int (by rw [H3.out,Hat.out he,if_pos rfl]),Hu1.out.trans (Hu.out.trans (Huq.out.alloc _))⟩
          |false =>
           (have he':(y.number==xn)=false:=by rw [beq_eq_false_iff_ne] at he ⊢;exact fun h=>he h.symm);go_wp2_with fail
           go_roundw
           (case rel=>exact ⟨k+1,by omega,by go_num,Huq.out.alloc _,Hgn.out he⟩);case measure=>simp [intOf];omega
         ·have hat:=any_take_false (p:=fun y:Fld=>x.number==y.number) (l:=l) (i:=i) (fun j hj hji=>Hg.out j hj (by omega));have h4:=H3.out;rw [hat,if_neg (by decide)] at h4;have H4:=hid h4;clear h4 H3 hat Hg;obtain ⟨q0,q1,q2,q3,q4,q5⟩:=(HB2.out.up (Hu.out.trans hu)).cells;have z3:w.heap.size+2<wr.heap.size:=lt_of_block (HB2.out.up (Hu.out.trans hu));have f0:wr.cell? ⟨w.heap.size,0,none⟩=some vm:=cell_of_row wr _ 0 _ _ _ ((Hu.out.trans hu).blk HB0.out);have f1:wr.cell? ⟨w.heap.size,1,none⟩=some ve:=cell_of_row wr _ 1 _ _ _ ((Hu.out.trans hu).blk HB0.out);have Hur:=hid (Hu1.out.trans (Hu.out.trans hu));have HB2r:=hid (HB2.out.up (Hu.out.trans hu));have n1r:=hu.cell_some n1;clear p1 z2 q0 q1 hk n1
          go_upto_region 24 with (fail)
          clear hlt hu
          go_upto_block 6 with (fail)
          go_cut [6] (fun _ wc=>Up wr wc/\typedN f x=if 0<x.choice/\x.many=true then 8 else 0)
          case first =>
           clear q4 q5;(have hkk:x.kind=10∨x.kind=5∨(1<=x.kind/\x.kind<=10/\x.kind≠10/\x.kind≠5)∨(x.kind<1∨10<x.kind):=by omega);rcases hkk with h|h|h|h
           ·have hty:typedN f x=if idxP (fun m=>m.name==x.type) f.msgs<0 then 6 else if 0<x.choice/\x.many=true then 8 else 0:=by
             unfold typedN;rw [h];simp
            have Hty:=hid hty;have Hfm:=hid (find_msg_r _ f x.type wr (Hf.out.up Hur.out));clear hty q2;generalize x.kind=kd at *;subst h;generalize idxP (fun m=>m.name==x.type) f.msgs=ix at *;go_wp2_with fail
            (with_reducible refine Hfm.out.mono ?_)
            rintro e w4 ⟨rfl,hu4⟩
            by_cases hix:ix<0
            ·go_wp2_with fail
             go_ret
             exact ⟨ret_int (by rw [H4.out,Hty.out,if_pos hix];rfl),Hur.out.trans hu4⟩
            ·(have hix':0<=ix:=by omega);clear hix;go_wp2_with fail
             go_meet
             exact ⟨hu4,by rw [Hty.out,if_neg (by omega)]⟩
           ·have hty:typedN f x=if idxP (fun m=>m.name==x.type) f.enums<0 then 6 else if 0<x.choice/\x.many=true then 8 else 0:=by
             unfold typedN;rw [h];simp
            have Hty:=hid hty;have Hfm:=hid (find_enu_r _ f x.type wr (Hf.out.up Hur.out));clear hty q2;generalize x.kind=kd at *;subst h;generalize idxP (fun m=>m.name==x.type) f.enums=ix at *;go_wp2_with fail
            (with_reducible refine Hfm.out.mono ?_)
            rintro e w4 ⟨rfl,hu4⟩
            by_cases hix:ix<0
            ·go_wp2_with fail
             go_ret
             exact ⟨ret_int (by rw [H4.out,Hty.out,if_pos hix];rfl),Hur.out.trans hu4⟩
            ·(have hix':0<=ix:=by omega);clear hix;go_wp2_with fail
             go_meet
             exact ⟨hu4,by rw [Hty.out,if_neg (by omega)]⟩
           ·have hty:typedN f x=if x.type≠[] then 8 else if 0<x.choice/\x.many=true then 8 else 0:=by
             unfold typedN;rw [if_neg (by omega),if_neg (by omega)]
             by_cases ht:x.type=[]
             ·simp [ht]
             ·rw [if_pos (.inl ⟨h.2.2.1,h.2.2.2,ht⟩),if_pos ht]
            have Hty:=hid hty;(have hk8:x.kind=1∨x.kind=2∨x.kind=3∨x.kind=4∨x.kind=6∨x.kind=7∨x.kind=8∨x.kind=9:=by omega);clear h hty
            by_cases ht:x.type=[]
            ·rw [ht] at q3;have Ht:=hid ht;clear ht;rcases hk8 with h|h|h|h|h|h|h|h
             all_goals
              clear q2;generalize x.kind=kd at *;subst h;go_wp2_with fail
              go_meet
              exact ⟨Up.refl _,by rw [Hty.out,if_neg (not_not_intro Ht.out)]⟩
            ·(have hte:x.type.isEmpty=false:=by simpa using ht);have Ht:=hid ht;clear ht;rcases hk8 with h|h|h|h|h|h|h|h
             all_goals
              clear q2;generalize x.kind=kd at *;subst h;go_wp2_with fail
              go_ret
              exact ⟨ret_int (by rw [H4.out,Hty.out,if_pos Ht.out];rfl),Hur.out⟩
           ·have hty:typedN f x=1:=by
             unfold typedN;rw [if_pos h]
            (have n1:(x.kind==1)=false:=by rw [beq_eq_false_iff_ne];omega);(have n2:(x.kind==2)=false:=by rw [beq_eq_false_iff_ne];omega);(have n3:(x.kind==3)=false:=by rw [beq_eq_false_iff_ne];omega);(have n4:(x.kind==4)=false:=by rw [beq_eq_false_iff_ne];omega);(have n5:(x.kind==5)=false:=by rw [beq_eq_false_iff_ne];omega);(have n6:(x.kind==6)=false:=by rw [beq_eq_false_iff_ne];omega);(have n7:(x.kind==7)=false:=by rw [beq_eq_false_iff_ne];omega);(have n8:(x.kind==8)=false:=by rw [beq_eq_false_iff_ne];omega);(have n9:(x.kind==9)=false:=by rw [beq_eq_false_iff_ne];omega);(have n10:(x.kind==10)=false:=by rw [beq_eq_false_iff_ne];omega);have Hty:=hid hty;clear h hty;go_wp2_with fail
            go_ret
            exact ⟨ret_int (by rw [H4.out,Hty.out];rfl),Hur.out⟩
          case rest =>
           obtain ⟨huc,hty⟩:=hcut;have p4:=huc.cell_some q4;have p5:=huc.cell_some q5;have n1c:=huc.cell_some n1r;have Hty:=hid hty;have Hw:=hid (Hur.out.trans huc);have HB2c:=hid (HB2r.out.up huc);have z4:w.heap.size+2<wc.heap.size:=lt_of_block HB2c.out;clear q2 q3 q4 q5 f0 f1 n1r hty huc z3
           go_upto_region 42 with (fail)
           go_cut [121] (fun v wx=>∃ bad:Bool,v=.bool bad/\bad=decide (0<x.choice/\x.many=true)/\wx=wc)
           case first =>
            (have hch:x.choice<=0∨0<x.choice:=by omega);cases hm:x.many
            all_goals
             rw [hm] at p4;rcases hch with hch|hch
             all_goals
              go_wp2_with fail
              go_meet
              exact ⟨_,rfl,by rw [hm];simp <;> omega,rfl⟩
           case rest =>
            obtain ⟨bad,rfl,hbad,rfl⟩:=hcut
            cases bad with
            |true =>
             have hb1:=of_decide_eq_true hbad.symm;have Hb1:=hid hb1;clear hbad hb1;go_wp2_with fail
             go_ret
             exact ⟨ret_int (by rw [H4.out,Hty.out,if_pos Hb1.out];rfl),Hw.out⟩
            |false =>
             have hb1:=of_decide_eq_false hbad.symm;have h5:=H4.out;rw [Hty.out,if_neg hb1,if_neg (by decide)] at h5;have H5:=hid h5;clear hbad hb1 h5 H4 Hty Huq;obtain ⟨wd,rfl⟩:∃ wd:World,wd=wc:=⟨_,rfl⟩;(go_wp2_with fail);(go_loopw [14,15,127] (fun n la i' wr=>∃ k:Nat,k<=i/\i'=.int .i64 k/\n=.int .i64 (begun 0 (l.take k))/\la=.int .i64 (lastC (l.take k))/\Up wd wr) (fun _ _ i' _=>i - (intOf i').toNat));case atStart=>exact ⟨0,by omega,rfl,rfl,rfl,Up.refl _⟩
             case round =>
              obtain ⟨k,hk,rfl,rfl,rfl,hu⟩:=hrel;have Huq:=hid hu;have hbd:=begun_bd (l.take k) 0;have hlk:(l.take k).length<=k:=List.length_take_le _ _
              by_cases hlt:k<i
              ·
               (have hltl:k<l.length:=by omega);obtain ⟨b',o',cs,he,hb',hcl,hcs,hd⟩:=(Hvf.out.up stable_fld (Hw.out.trans hu)).at hltl;simp only [Option.some.injEq,Addr.mk.injEq,and_true] at he;obtain ⟨rfl,rfl⟩:=he;obtain ⟨hd,_⟩:=hd;subst hd;have c0:=hcs 0 _ rfl;have c1:=hcs 1 _ rfl;have c2:=hcs 2 _ rfl;have c3:=hcs 3 _ rfl;have c4:=hcs 4 _ rfl;have c5:=hcs 5 _ rfl;simp only [Nat.add_zero] at c0;clear hcs hcl hu;(have k0:(0:Int)<=(k:Int):=by omega);(have k1:(k:Int)<(i:Int):=by omega);have Hbt:=hid (begun_take hltl);have Hlc:=hid (lastC_take (l:=l) (k:=k+1) (by omega) (by omega));simp only [Nat.add_sub_cancel] at Hlc;generalize l[k]=y at *;have g0:0<=begun 0 (l.take k):=hbd.1;(have g1:begun 0 (l.take k)<=9223372036854775806:=by omega);clear hbd hlk;generalize begun 0 (l.take k)=g at *;generalize lastC (l.take k)=la at *;(have hcase:y.choice=0∨(y.choice≠0/\y.choice=la)∨(y.choice≠0/\y.choice≠la):=by omega);generalize hyc:y.choice=c at *;have Hyc:=hid hyc;clear hyc;rcases hcase with hc|⟨hc,hc2⟩|⟨hc,hc2⟩
               ·(have n0:(c != 0)=false:=by simp [hc]);have Hc:=hid hc;clear hc;go_wp2_with fail
                go_roundw
                (case rel=>exact ⟨k+1,by omega,by go_num,by rw [Hbt.out,if_neg (fun h=>h.1 Hc.out),Int.add_zero],by rw [Hlc.out],Huq.out.alloc _⟩);case measure=>simp [intOf];omega
               ·(have n0:(c != 0)=true:=by simpa using hc);(have n1:(c != la)=false:=by simp [hc2]);have Hc:=hid hc2;clear hc hc2;go_wp2_with fail
                go_roundw
                (case rel=>exact ⟨k+1,by omega,by go_num,by rw [Hbt.out,if_neg (fun h=>h.2 Hc.out),Int.add_zero],by rw [Hlc.out],Huq.out.alloc _⟩);case measure=>simp [intOf];omega
               ·(have n0:(c != 0)=true:=by simpa using hc);(have n1:(c != la)=true:=by simpa using hc2);have Hc:=hid hc;have Hc2:=hid hc2;clear hc hc2;go_wp2_with fail
                go_roundw
                (case rel=>exact ⟨k+1,by omega,by go_num,by rw [Hbt.out,if_pos ⟨Hc.out,Hc2.out⟩],by rw [Hlc.out],Huq.out.alloc _⟩);case measure=>simp [intOf];omega
              ·(have hki:k=i:=by omega);have r5:=hu.cell_some p5;have h6:=H5.out;rw [←hki] at h6;have H6:=hid h6;clear h6 H5 p5 p4 n1c;(have hki':(i:Int)<=(k:Int):=by omega);(have hg1:begun 0 (l.take k)<=9223372036854775806:=by omega);have hg0:0<=begun 0 (l.take k):=hbd.1;clear hbd hlk hki hk;generalize begun 0 (l.take k)=g at *;generalize lastC (l.take k)=la at *;generalize x.choice=c at *;(have hcase:c=0∨(c≠0/\c=la)∨(c≠0/\c≠la/\c=g+1)∨(c≠0/\c≠la/\c≠g+1):=by omega);rcases hcase with hc|⟨hc,hc2⟩|⟨hc,hc2,hc3⟩|⟨hc,hc2,hc3⟩
               ·(have n0:(c != 0)=false:=by simp [hc]);have Hc:=hid hc;clear hc;go_wp2_with fail
                go_ret
                exact ⟨ret_int (by rw [H6.out,if_neg (fun h=>h.1 Hc.out)]),Hw.out.trans hu⟩
               ·(have n0:(c != 0)=true:=by simpa using hc);(have n1:(c != la)=false:=by simp [hc2]);have Hc:=hid hc2;clear hc hc2;go_wp2_with fail
                go_ret
                exact ⟨ret_int (by rw [H6.out,if_neg (fun h=>h.2.1 Hc.out)]),Hw.out.trans hu⟩
               ·(have n0:(c != 0)=true:=by simpa using hc);(have n1:(c != la)=true:=by simpa using hc2);(have n2:(c != g+1)=false:=by simp [hc3]);have Hc:=hid hc3;clear hc hc2 hc3;go_wp2_with fail
                go_ret
                exact ⟨ret_int (by rw [H6.out,if_neg (fun h=>h.2.2 Hc.out)]),Hw.out.trans hu⟩
               ·(have n0:(c != 0)=true:=by simpa using hc);(have n1:(c != la)=true:=by simpa using hc2);(have n2:(c != g+1)=true:=by simpa using hc3);have Hc:=hid hc;have Hc2:=hid hc2;have Hc3:=hid hc3;clear hc hc2 hc3;go_wp2_with fail
                go_ret
                exact ⟨ret_int (by rw [H6.out,if_pos ⟨Hc.out,Hc2.out,Hc3.out⟩]),Hw.out.trans hu⟩
end Go.Proofs.YtbceccblepckhaaGreatDoor
namespace Go.Proofs.YtbceccblepckhaaGreatDoor
open Go.RowKit Go.Maps Go.WideMaps
theorem mlaw : Keyed Tryz.prog 9:=string_keyed Tryz.underlying9
theorem mzero (w:World):(zeroValue 3).run Tryz.prog w=.ok (.int .i64 0) w:=by kernel_rfl
def HadD (D:DataW Unit) (l:List (List UInt8)):Prop:=IsMap D/\∀ s:List UInt8,D.atKey (.string s) (.lit (.int .i64 0))=.lit (.int .i64 (l.count s:Int))
theorem had_nil : HadD (.map []) []:=⟨isMap_empty,fun s=>rfl⟩
theorem had_snoc {D:DataW Unit} {l:List (List UInt8)} (h:HadD D l) (s:List UInt8):HadD (D.put (.string s) (.lit (.int .i64 ((l.count s:Int)+1)))) (l++[s]):=by
 refine ⟨h.1.put _ _,fun t=>?_⟩
 by_cases e:t=s
 ·subst e;rw [atKey_put_same h.1 (by trivial),List.count_append];simp
 ·rw [atKey_put_other (by simpa using e),h.2 t,List.count_append,List.count_singleton];simp [show (s==t)=false from by rw [beq_eq_false_iff_ne];exact fun h=>e h.symm]
theorem key_str (s:List UInt8) (hs:s.length<=maxLen):keyOf Tryz.prog 9 (.string ⟨s.toArray⟩)=some (.string s):=keyOf_string_mk Tryz.underlying9 (by show s.toArray.size<=maxLen;simpa using hs)
theorem wpList_had {ops:Array Oper} {rest:List Oper} {o:Oper} {a:Act} {Q:Exit->Act->World->Prop} {w:World} (hw:Region.wanted o (yielded ops a.tmps)=true) (m x:Operand)
  (hop:o.op=Op.lookup 108 m x false) (b n:Nat) (D:DataW Unit) (l:List (List UInt8)) (s:List UInt8) (hm:a.eval m=.map (some b)) (hown:w.ownsMap Tryz.prog 9 (plainElem Tryz.prog 3) b n D) (hh:HadD D l)
  (hx:a.eval x=.string ⟨s.toArray⟩) (hs:s.length<=maxLen) (c0:Int) (hc0:(l.count s:Int)=c0) (h:wpList Tryz.prog ops Q rest (a.put o.dst (.int .i64 c0)) w):wpList Tryz.prog ops Q (o::rest) a w:=by
 subst hc0;refine BigFrame.wpList_want hw fun K' hK'=>?_;obtain ⟨c,hrun,hat,hwc⟩:=hown.lookup_int mlaw Tryz.underlying108 Tryz.underlying3 (mzero w) (key_str s hs)
 have hc:c=(l.count s:Int):=by
  have:=(hat.symm.trans (hh.2 s));simpa using this
 subst hc;unfold Oper.wp;simp [execOp,hop,hm,hx,hrun,Result.andThen];exact hK' _ _ h
theorem wpList_had_put {ops:Array Oper} {rest:List Oper} {o:Oper} {a:Act} {Q:Exit->Act->World->Prop} {w:World} (hg:o.guard=none) (m x v:Operand)
  (hop:o.op=Op.mapUpdate 108 m x v) (b n:Nat) (D:DataW Unit) (l:List (List UInt8)) (s:List UInt8) (hm:a.eval m=.map (some b)) (hown:w.ownsMap Tryz.prog 9 (plainElem Tryz.prog 3) b n D) (hh:HadD D l) (hn:n<maxLen)
  (hx:a.eval x=.string ⟨s.toArray⟩) (hs:s.length<=maxLen) (hl:l.length<=1000) (c0:Int) (hc0:(l.count s:Int)=c0) (hv:a.eval v=.int .i64 (c0+1))
  (h:∀ w' D',w'.ownsMap Tryz.prog 9 (plainElem Tryz.prog 3) b (n+1) D'->HadD D' (l++[s])->w.grownBy w' (some b)->wpList Tryz.prog ops Q rest (a.put o.dst undef) w'):wpList Tryz.prog ops Q (o::rest) a w:=by
 subst hc0;have hc:=List.count_le_length (a:=s) (l:=l);exact wpList_mapUpdate_own w hg m x v _ hop _ _ mlaw Tryz.underlying108 _ b n D hm hown hn _ _ (.string s) hx hv (key_str s hs) _ [] (plainElem_int Tryz.underlying3 (WalkArith.wf_i64 (by omega))) fun w' h1 h2=>h w' _ h1 (had_snoc hh s) h2
theorem counts_any (l:List (List UInt8)) (s:List UInt8):decide (0<l.count s)=l.any (fun x=>s==x):=by
 rw [Bool.eq_iff_iff,decide_eq_true_iff,List.count_pos_iff,List.any_eq_true];constructor
 ·exact fun h=>⟨s,h,by simp⟩
 ·rintro ⟨x,hx,e⟩;rw [beq_iff_eq.1 e];exact hx
end Go.Proofs.YtbceccblepckhaaGreatDoor
namespace Go.Proofs.YtbceccblepckhaaGreatDoor
open Go.RowKit
set_option maxRecDepth 100000
open Lib (hid)
def words12 : List (List UInt8):=words++[wRepeated,wReserved,wOneof]
theorem words12_rd {base:Nat} {e:TypeId} {w:World} {v:Value} (how:w.ownsRow base e 1 v 12 (wordsV++[.string ⟨wRepeated.toArray⟩,.string ⟨wReserved.toArray⟩,.string ⟨wOneof.toArray⟩])):RdS DStr 1 All w v words12:=by
 refine rdS_of_row stable_str (css:=words12.map fun s=>[.string ⟨s.toArray⟩]) how rfl (fun i hi=>⟨[.string ⟨words12[i].toArray⟩],by simp [hi],rfl,rfl,?_⟩);(have h:∀ x∈words12,x.length<=140737488355328:=by decide);exact h _ (List.getElem_mem hi)
theorem free_r (s:List UInt8) (w:World) (hs:okS s) :
  Calls Tryz.prog 44 #[.string ⟨s.toArray⟩] w fun e w'=>e=.returned (.bool (freeN s))/\Up w w':=by
 have hs:s.length<=140737488355328:=hs
 go_enter Tryz.func44,Tryz.ntmps44
 have h3:=blk_new (w.alloc (.cells wordsV.toArray 9)) (.cells #[.string ⟨wRepeated.toArray⟩,.string ⟨wReserved.toArray⟩,.string ⟨wOneof.toArray⟩] 9) (g:=w.heap.size+1) (by simp)
 have hnews:∀ ad,some (⟨w.heap.size+1,0,none⟩:Addr)=some ad->∀ j u,[Value.string ⟨wRepeated.toArray⟩,.string ⟨wReserved.toArray⟩,.string ⟨wOneof.toArray⟩][j]? = some u->((w.alloc (.cells wordsV.toArray 9)).alloc (.cells #[.string ⟨wRepeated.toArray⟩,.string ⟨wReserved.toArray⟩,.string ⟨wOneof.toArray⟩] 9)).cell? (ad.add j)=some u:=by
  rintro ad h j u hu;obtain rfl:=Option.some.inj h;rw [Addr.add_lit,cell_of_row _ _ _ _ _ _ h3];simpa using hu
 have how0:((w.alloc (.cells wordsV.toArray 9)).alloc (.cells #[.string ⟨wRepeated.toArray⟩,.string ⟨wReserved.toArray⟩,.string ⟨wOneof.toArray⟩] 9)).ownsRow w.heap.size 9 1 (.slice (some ⟨w.heap.size,0,none⟩) 9 9) 9 wordsV :=
  (World.ownsRow_lit (e:=9) (size:=1) w wordsV.toArray 9 (Nat.le_refl _) (by unfold maxLen;omega) rfl).alloc _
 have Hnews:=hid hnews;have How0:=hid how0;clear hnews how0 h3
 go_wp2_with (first
  |(go_at_call 102;go_must (refine (words_r w).mono ?_;rintro e w2 ⟨rfl,rfl⟩))
  |(at_builtin;go_must (refine wpList_app eStr _ (by rfl) _ _ (by rfl) w.heap.size _ 9 wordsV (by rfl) How0.out (some ⟨w.heap.size+1,0,none⟩) 3 3 (by rfl) [.string ⟨wRepeated.toArray⟩,.string ⟨wReserved.toArray⟩,.string ⟨wOneof.toArray⟩] (by rfl) (fun h=>nomatch h) Hnews.out (oc (cs:=#[.string ⟨wRepeated.toArray⟩,.string ⟨wReserved.toArray⟩,.string ⟨wOneof.toArray⟩]) (by rfl)) (by decide) (by unfold maxLen;omega) (by simp;omega) ?_;intro v3 w3 how3 hev3;have hu3:=hid (((((Up.refl w).alloc _).alloc _).evo hev3 (fun j hj=>by simp [Value.ownBlock] at hj;omega)));have hrd:=words12_rd how3;obtain ⟨a3,c3,rfl,_,_⟩:=hrd.val;have Hrd:=hid hrd;clear hrd how3 hev3)))
 clear Hnews How0;(go_loopw [9] (fun i wr=>∃ k:Nat,k<=words12.length/\i=.int .i64 k/\wr=w3/\∀ j,(hj:j<words12.length)->j<k->(s==words12[j])=false) (fun i _=>words12.length - (intOf i).toNat));case atStart=>exact ⟨0,by omega,rfl,rfl,fun j _ h=>absurd h (by omega)⟩
 case round =>
  obtain ⟨k,hk,rfl,rfl,hg⟩:=hrel;have Hg:=hid hg;clear hg
  by_cases hlt:k<words12.length
  ·obtain ⟨b,o,cs,rfl,hb,hl,hcs,hd⟩:=Hrd.out.at hlt;obtain ⟨hd,_⟩:=hd;have hc:=hcs 0 _ (by rw [hd];rfl);simp only [Nat.mul_one,Nat.add_zero] at hc;clear hcs hd hl;(have i0:(0:Int)<=(k:Int):=by omega);(have i1:(k:Int)<(words12.length:Int):=by omega);have Hgn:=hid (fun e=>no_more (p:=fun x=>s==x) hlt Hg.out e)
   have Hgg:=hid (fun (e:(s==words12[k])=true)=>(show freeN s=false from by
    have:words12.any (fun x=>s==x)=true:=List.any_eq_true.2 ⟨_,List.getElem_mem hlt,e⟩;unfold freeN;rw [show words++[wRepeated,wReserved,wOneof]=words12 from rfl,this];simp))
   generalize words12[k]=x at *
   by_cases he:(s==x)=true
   ·go_wp2_with fail
    go_ret
    exact ⟨ret_bool (Hgg.out he).symm,hu3.out⟩
   ·(have he:(s==x)=false:=by simpa using he);go_wp2_with fail
    go_roundw
    (case rel=>exact ⟨k+1,by omega,by go_num,trivial,Hgn.out he⟩);case measure=>simp [intOf];omega
  ·have hf:freeN s=named s:=by
    have:words12.any (fun x=>s==x)=false:=by
     rw [List.any_eq_false];intro x hx;obtain ⟨i,hi,rfl⟩:=List.getElem_of_mem hx;simp [Hg.out i hi (by omega)]
    unfold freeN;rw [show words++[wRepeated,wReserved,wOneof]=words12 from rfl,this];simp
   have hn:=named_r ⟨s.toArray⟩ wr (by show s.length<=_;omega);simp only at hn;rw [←hf] at hn;have Hn:=hid hn;clear hn hf
   go_wp2_with (first
    |(go_at_call 47;go_must (refine Hn.out.mono ?_;rintro e w4 ⟨rfl,hu4⟩)))
   go_ret
   exact ⟨rfl,hu3.out.trans hu4⟩
end Go.Proofs.YtbceccblepckhaaGreatDoor
