/-
  Names: pressref1.Letter, More, Named; syntax.Named.
  Names: pressref1.Named.
  slices.Index, slices.Contains (written by gen_idx.py).
-/
import Derived.Test.YtbceccblepckhaaGreatDoorCt03
import Derived.Laws.IdiomStrings
set_option maxHeartbeats 800000
set_option linter.unusedVariables false
namespace Go.Proofs.YtbceccblepckhaaGreatDoor
open Go.RowKit
set_option maxRecDepth 100000
open Lib (hid)
def letterN (c:Nat):Bool:=decide (97<=c/\c<=122∨65<=c/\c<=90)
def moreN (c:Nat):Bool:=decide (97<=c/\c<=122∨65<=c/\c<=90∨48<=c/\c<=57∨c=95)
def partN (i c:Nat):Bool:=if i=0 then letterN c else moreN c
theorem letter_any (c:Nat) (w:World) :
  Calls Tryz.prog 105 #[.int .u8 c] w fun e w'=>e=.returned (.bool (letterN c))/\w'=w:=by
 go_enter Tryz.func105,Tryz.ntmps105
 go_wp2_with fail
 all_goals
  go_ret
  refine ⟨ret_bool ?_,rfl⟩;unfold letterN
  (rw [Bool.eq_iff_iff];simp only [Bool.or_eq_true,decide_eq_true_eq,true_iff,false_iff,Bool.false_eq_true];omega)
theorem more_any (c:Nat) (w:World) :
  Calls Tryz.prog 104 #[.int .u8 c] w fun e w'=>e=.returned (.bool (moreN c))/\w'=w:=by
 by_cases hl:letterN c=true
 all_goals
  have Hl:=hid hl;unfold letterN at hl
  go_enter Tryz.func104,Tryz.ntmps104
  (go_wp2_with fail);refine (letter_any c w).mono ?_;rintro e w' ⟨rfl,rfl⟩;(try simp only [Bool.not_eq_true] at Hl);rw [Hl.out];simp only [decide_eq_true_eq] at hl;go_wp2_with fail
  all_goals
   go_ret
   refine ⟨ret_bool ?_,rfl⟩;unfold moreN
   (rw [Bool.eq_iff_iff];simp only [Bool.or_eq_true,decide_eq_true_eq,beq_iff_eq,true_iff];omega)
def named (l:List UInt8):Bool:=decide (0<l.length/\l.length<=16) && (List.range l.length).all fun i=>partN i (l.getD i 0).toNat
theorem named_bad {l:List UInt8} {k:Nat} (hk:k<l.length) (h:partN k l[k].toNat=false):named l=false:=by
 have:(List.range l.length).all (fun i=>partN i (l.getD i 0).toNat)=false:=by
  rw [List.all_eq_false];exact ⟨k,List.mem_range.2 hk,by simp [List.getD,hk,h]⟩
 unfold named;rw [this,Bool.and_false]
theorem named_good {l:List UInt8} (h:∀ k,(hk:k<l.length)->partN k l[k].toNat=true):named l=decide (0<l.length/\l.length<=16):=by
 have:(List.range l.length).all (fun i=>partN i (l.getD i 0).toNat)=true:=by
  rw [List.all_eq_true];intro i hi;have hi:=List.mem_range.1 hi;simpa [List.getD,hi] using h i hi
 unfold named;rw [this,Bool.and_true]
theorem named_s (s:ByteArray) (w:World) :
  Calls Tryz.prog 80 #[.string s] w fun e w'=>e=.returned (.bool (named s.data.toList))/\Up w w':=by
 obtain ⟨l,hl⟩:∃ l,l=s.data.toList:=⟨_,rfl⟩;(have hsz:s.size=l.length:=by rw [hl];rfl);have Hsz:=hid hsz;clear hsz;have Hl:=hid hl;clear hl
 by_cases h1:0<s.size/\s.size<=16
 ·(have i0:1<=(s.size:Int):=by omega);(have i1:(s.size:Int)<=16:=by omega);have H1:=hid h1;clear h1
  go_enter Tryz.func80,Tryz.ntmps80
  (go_wp2_with fail);(go_loopw [16] (fun i wr=>∃ k:Nat,k<=s.size/\i=.int .i64 k/\wr=w/\∀ j,(hj:j<l.length)->j<k->partN j l[j].toNat=true) (fun i _=>s.size - (intOf i).toNat));case atStart=>exact ⟨0,by omega,rfl,rfl,fun j _ h=>absurd h (by omega)⟩
  case round =>
   obtain ⟨k,hk,rfl,rfl,hg⟩:=hrel
   by_cases hlt:k<s.size
   ·have hp:partN k l[k].toNat=partN k s[k].toNat:=by
     have hl:=Hl.out;subst hl;rfl
    have Hp:=hid hp;clear hp;have Hg:=hid hg;clear hg;(have hcs:((s[k].toNat:Int)<48)∨(48<=(s[k].toNat:Int)/\(s[k].toNat:Int)<=57)∨(57<(s[k].toNat:Int)/\(s[k].toNat:Int)<65)∨(65<=(s[k].toNat:Int)/\(s[k].toNat:Int)<=90)∨(90<(s[k].toNat:Int)/\(s[k].toNat:Int)<95)∨(s[k].toNat:Int)=95∨(s[k].toNat:Int)=96∨(97<=(s[k].toNat:Int)/\(s[k].toNat:Int)<=122)∨122<(s[k].toNat:Int):=by omega);obtain ⟨c,hc⟩:∃ c,c=s[k].toNat:=⟨_,rfl⟩;rw [←hc] at hcs Hp;replace hc:=hc.symm;have hkl:k<l.length:=by have:=Hsz.out;omega
    by_cases hk0:k=0
    ·(have hk1:((k:Int)==0)=true:=by simp [hk0]);have Hk0:=hid hk0;clear hk0;rcases hcs with h|⟨h,h'⟩|⟨h,h'⟩|⟨h,h'⟩|⟨h,h'⟩|h|h|⟨h,h'⟩|h
     all_goals
      (go_wp2_with fail) <;> first
       |(exfalso;(simp only [Bool.not_eq_true',Bool.not_eq_false',decide_eq_true_eq,decide_eq_false_iff_not] at *) <;> omega)
       |(go_ret;refine ⟨ret_bool ?_,Up.refl _⟩;rw [←Hl.out,named_bad hkl (by rw [Hp.out,partN,if_pos Hk0.out,letterN];(rw [Bool.eq_iff_iff];simp only [decide_eq_true_eq,iff_false,Bool.false_eq_true];omega))])
       |(go_roundw
         case rel =>
          refine ⟨k+1,by omega,by go_num,trivial,fun j hj hjk=>?_⟩;(obtain rfl:j=k:=by have:=Hk0.out;omega);rw [Hp.out,partN,if_pos Hk0.out,letterN];(rw [Bool.eq_iff_iff];simp only [decide_eq_true_eq,iff_true];omega)
         case measure=>simp [intOf];omega)
    ·(have hk1:((k:Int)==0)=false:=by rw [beq_eq_false_iff_ne];omega);have Hk0:=hid hk0;clear hk0;rcases hcs with h|⟨h,h'⟩|⟨h,h'⟩|⟨h,h'⟩|⟨h,h'⟩|h|h|⟨h,h'⟩|h
     all_goals
      (go_wp2_with fail) <;> first
       |(exfalso;(simp only [Bool.not_eq_true',Bool.not_eq_false',bne_iff_ne,bne_eq_false_iff_eq,ne_eq,decide_eq_true_eq,decide_eq_false_iff_not] at *) <;> omega)
       |(go_ret;refine ⟨ret_bool ?_,Up.refl _⟩;rw [←Hl.out,named_bad hkl (by rw [Hp.out,partN,if_neg Hk0.out,moreN];(rw [Bool.eq_iff_iff];simp only [decide_eq_true_eq,iff_false,Bool.false_eq_true];omega))])
       |(go_roundw
         case rel =>
          refine ⟨k+1,by omega,by go_num,trivial,fun j hj hjk=>?_⟩
          by_cases hjk2:j=k
          ·subst hjk2;rw [Hp.out,partN,if_neg Hk0.out,moreN];(rw [Bool.eq_iff_iff];simp only [decide_eq_true_eq,iff_true];omega)
          ·exact Hg.out j hj (by omega)
         case measure=>simp [intOf];omega)
   ·go_wp2_with fail
    go_ret
    refine ⟨ret_bool ?_,Up.refl _⟩;have hsz:=Hsz.out;rw [←Hl.out,named_good (fun j hj=>hg j hj (by omega))]
    symm;rw [decide_eq_true_iff];omega
 ·have hn:named s.data.toList=false:=by
   unfold named;rw [←Hl.out,←Hsz.out,decide_eq_false h1,Bool.false_and]
  rw [hn];(have h2:(s.size:Int)<1∨(1<=(s.size:Int)/\16<(s.size:Int)):=by omega);have H1:=hid h1;clear h1;rcases h2 with h2|⟨h2,h3⟩
  all_goals
   go_enter Tryz.func80,Tryz.ntmps80
   go_wp2_with fail
   go_ret
   exact ⟨rfl,Up.refl _⟩
theorem named_r (s:ByteArray) (w:World) (hs:s.size<=9223372036854775807) :
  Calls Tryz.prog 47 #[.string s] w fun e w'=>e=.returned (.bool (named s.data.toList))/\Up w w':=by
 have hcv:=run_bytes_of_string (P:=Tryz.prog) w 9 30 5 s Tryz.underlying9 Tryz.underlying30 Tryz.underlying5
 have hc:∀ k,(hk:k<s.size)->(w.drew.alloc (.cells (bytesRow s (grownCap w s.size 0 5)) 5 ((bytesRow s (grownCap w s.size 0 5)).size,(bytesRow s (grownCap w s.size 0 5)).size+1))).cell? ⟨w.heap.size,k,none⟩=some (.int .u8 (s[k].toNat:Int)):=by
  intro k hk;have hb:(w.drew.alloc (.cells (bytesRow s (grownCap w s.size 0 5)) 5 ((bytesRow s (grownCap w s.size 0 5)).size,(bytesRow s (grownCap w s.size 0 5)).size+1))).heap[w.heap.size]? = some _:=heap_alloc_new w.drew _;rw [cell_of_row _ _ _ _ _ _ hb];exact bytesRow_at s _ k hk
 have hu:Up w (w.drew.alloc (.cells (bytesRow s (grownCap w s.size 0 5)) 5 ((bytesRow s (grownCap w s.size 0 5)).size,(bytesRow s (grownCap w s.size 0 5)).size+1))):=(Up.refl w).drew.alloc _;generalize w.drew.alloc (.cells (bytesRow s (grownCap w s.size 0 5)) 5 ((bytesRow s (grownCap w s.size 0 5)).size,(bytesRow s (grownCap w s.size 0 5)).size+1))=w1 at *;generalize grownCap w s.size 0 5=cap at *;have Hc:=hid hc;clear hc;have Hu:=hid hu;clear hu
 go_enter Tryz.func47,Tryz.ntmps47
 (go_wp2_with fail);obtain ⟨l,hl⟩:∃ l,l=s.data.toList:=⟨_,rfl⟩;(have hsz:s.size=l.length:=by rw [hl];rfl);have Hsz:=hid hsz;clear hsz;have Hl:=hid hl;clear hl;clear hcv;(go_loopw [8] (fun i wr=>∃ k:Nat,k<=s.size/\i=.int .i64 k/\wr=w1/\∀ j,(hj:j<l.length)->j<k->partN j l[j].toNat=true) (fun i _=>s.size - (intOf i).toNat));case atStart=>exact ⟨0,by omega,rfl,rfl,fun j _ h=>absurd h (by omega)⟩
 case round =>
  obtain ⟨k,hk,rfl,rfl,hg⟩:=hrel;have Hg:=hid hg;clear hg
  by_cases hlt:k<s.size
  ·have hp:partN k l[k]!.toNat=partN k s[k].toNat:=by
    have hl:=Hl.out;(have hkl:k<l.length:=by have:=Hsz.out;omega);rw [getElem!_pos l k hkl];subst hl;rfl
   (have hkl:k<l.length:=by have:=Hsz.out;omega);rw [getElem!_pos l k hkl] at hp;have Hp:=hid hp;clear hp;have hc:=Hc.out k hlt;obtain ⟨c,hcc⟩:∃ c,c=s[k].toNat:=⟨_,rfl⟩;rw [←hcc] at hc Hp;clear hcc
   by_cases hk0:k=0
   ·(have hk1:((k:Int)==0)=true:=by simp [hk0]);(have hpp:partN k c=letterN c:=by rw [partN,if_pos hk0]);have Hk0:=hid hk0;have Hpp:=hid hpp;clear hk0 hpp
    by_cases hl:letterN c=true
    ·have hm:moreN c=true:=by
      unfold letterN at hl;unfold moreN;rw [decide_eq_true_eq] at hl ⊢;omega
     go_wp2_with (first
      |(go_at_call 104;go_must (refine (more_any c _).mono ?_;rintro e w2 ⟨rfl,rfl⟩;rw [hm]))
      |(go_at_call 105;go_must (refine (letter_any c _).mono ?_;rintro e w2 ⟨rfl,rfl⟩;rw [hl])))
     go_roundw
     case rel =>
      refine ⟨k+1,by omega,by go_num,trivial,fun j hj hjk=>?_⟩;(obtain rfl:j=k:=by have:=Hk0.out;omega);rw [Hp.out,Hpp.out,hl]
     case measure=>simp [intOf];omega
    ·have hl:letterN c=false:=by simpa using hl
     by_cases hm:moreN c=true
     ·go_wp2_with (first
       |(go_at_call 104;go_must (refine (more_any c _).mono ?_;rintro e w2 ⟨rfl,rfl⟩;rw [hm]))
       |(go_at_call 105;go_must (refine (letter_any c _).mono ?_;rintro e w2 ⟨rfl,rfl⟩;rw [hl])))
      go_ret;refine ⟨ret_bool ?_,Hu.out⟩;rw [←Hl.out,named_bad hkl (by rw [Hp.out,Hpp.out,hl])]
     ·have hm:moreN c=false:=by simpa using hm
      go_wp2_with (first
       |(go_at_call 104;go_must (refine (more_any c _).mono ?_;rintro e w2 ⟨rfl,rfl⟩;rw [hm]))
       |(go_at_call 105;go_must (refine (letter_any c _).mono ?_;rintro e w2 ⟨rfl,rfl⟩;rw [hl])))
      go_ret;refine ⟨ret_bool ?_,Hu.out⟩;rw [←Hl.out,named_bad hkl (by rw [Hp.out,Hpp.out,hl])]
   ·(have hk1:((k:Int)==0)=false:=by rw [beq_eq_false_iff_ne];omega);(have hpp:partN k c=moreN c:=by rw [partN,if_neg hk0]);have Hk0:=hid hk0;have Hpp:=hid hpp;clear hk0 hpp
    by_cases hm:moreN c=true
    ·go_wp2_with (first
      |(go_at_call 104;go_must (refine (more_any c _).mono ?_;rintro e w2 ⟨rfl,rfl⟩;rw [hm])))
     go_roundw
     case rel =>
      refine ⟨k+1,by omega,by go_num,trivial,fun j hj hjk=>?_⟩
      by_cases hjk2:j=k
      ·subst hjk2;rw [Hp.out,Hpp.out,hm]
      ·exact Hg.out j hj (by omega)
     case measure=>simp [intOf];omega
    ·have hm:moreN c=false:=by simpa using hm
     go_wp2_with (first
      |(go_at_call 104;go_must (refine (more_any c _).mono ?_;rintro e w2 ⟨rfl,rfl⟩;rw [hm])))
     go_ret;refine ⟨ret_bool ?_,Hu.out⟩;rw [←Hl.out,named_bad hkl (by rw [Hp.out,Hpp.out,hm])]
  ·(have h2:s.size=0∨0<s.size:=by omega);have hn:=hid (named_good (fun j hj=>Hg.out j hj (by have:=Hsz.out;omega)));rcases h2 with h2|h2
   all_goals
    go_wp2_with fail
    go_ret
    refine ⟨ret_bool ?_,Hu.out⟩;rw [←Hl.out,hn.out,←Hsz.out]
    (rw [Bool.eq_iff_iff];simp only [decide_eq_true_eq,false_iff,Bool.false_eq_true];omega)
theorem index_str (v:Value) (l:List (List UInt8)) (s:List UInt8) (w:World) (hv:RdS DStr 1 All w v l) :
  Calls Tryz.prog 82 #[v,.string ⟨s.toArray⟩] w fun e w'=>e=.returned (.int .i64 (idxP (fun x=>s==x) l))/\w'=w:=by
 obtain ⟨ao,cap,rfl,hc1,hc2⟩:=hv.val;have Hv:=hid hv;clear hv
 go_enter Tryz.func82,Tryz.ntmps82
 (go_wp2_with fail);(go_loopw [8] (fun i wr=>∃ k:Nat,k<=l.length/\i=.int .i64 k/\wr=w/\∀ j,(hj:j<l.length)->j<k->(s==l[j])=false) (fun i _=>l.length - (intOf i).toNat));case atStart=>exact ⟨0,by omega,rfl,rfl,fun j _ h=>absurd h (by omega)⟩
 case round =>
  obtain ⟨k,hk,rfl,rfl,hg⟩:=hrel;have Hg:=hid hg;clear hg
  by_cases hlt:k<l.length
  ·obtain ⟨b,o,cs,rfl,hb,hl,hcs,hd⟩:=Hv.out.at hlt;obtain ⟨hd,_⟩:=hd;have hc:=hcs 0 _ (by rw [hd];rfl);simp only [Nat.mul_one,Nat.add_zero] at hc;clear hcs hd hl;(have i0:(0:Int)<=(k:Int):=by omega);(have i1:(k:Int)<(l.length:Int):=by omega);have hgg:=fun e=>idxP_at (fun x=>s==x) l k hlt Hg.out e;have Hgg:=hid hgg;clear hgg;have Hgn:=hid (fun e=>no_more (p:=fun x=>s==x) hlt Hg.out e);generalize l[k]=x at *
   by_cases he:(s==x)=true
   ·go_wp2_with fail
    go_ret
    exact ⟨ret_int (Hgg.out he).symm,rfl⟩
   ·(have he:(s==x)=false:=by simpa using he);go_wp2_with fail
    go_roundw
    (case rel=>exact ⟨k+1,by omega,by go_num,trivial,Hgn.out he⟩);case measure=>simp [intOf];omega
  ·go_wp2_with fail
   go_ret
   exact ⟨ret_int (idxP_none _ _ (fun j hj=>Hg.out j hj (by omega))).symm,rfl⟩
theorem contains_str (v:Value) (l:List (List UInt8)) (s:List UInt8) (w:World) (hv:RdS DStr 1 All w v l) :
  Calls Tryz.prog 38 #[v,.string ⟨s.toArray⟩] w fun e w'=>e=.returned (.bool (l.any (fun x=>s==x)))/\w'=w:=by
 go_enter Tryz.func38,Tryz.ntmps38
 (go_wp2_with fail);refine (index_str v l s w hv).mono ?_;rintro e w1 ⟨rfl,rfl⟩;have hi:=idxP_any (fun x=>s==x) l;generalize idxP (fun x=>s==x) l=i at *;go_wp2_with fail
 go_ret
 exact ⟨rfl,rfl⟩
theorem index_int (v:Value) (l:List (Int)) (s:Int) (w:World) (hv:RdS DInt 1 All w v l) :
  Calls Tryz.prog 127 #[v,.int .i64 s] w fun e w'=>e=.returned (.int .i64 (idxP (fun x=>s==x) l))/\w'=w:=by
 obtain ⟨ao,cap,rfl,hc1,hc2⟩:=hv.val;have Hv:=hid hv;clear hv
 go_enter Tryz.func127,Tryz.ntmps127
 (go_wp2_with fail);(go_loopw [8] (fun i wr=>∃ k:Nat,k<=l.length/\i=.int .i64 k/\wr=w/\∀ j,(hj:j<l.length)->j<k->(s==l[j])=false) (fun i _=>l.length - (intOf i).toNat));case atStart=>exact ⟨0,by omega,rfl,rfl,fun j _ h=>absurd h (by omega)⟩
 case round =>
  obtain ⟨k,hk,rfl,rfl,hg⟩:=hrel;have Hg:=hid hg;clear hg
  by_cases hlt:k<l.length
  ·obtain ⟨b,o,cs,rfl,hb,hl,hcs,hd⟩:=Hv.out.at hlt;obtain ⟨hd,_⟩:=hd;have hc:=hcs 0 _ (by rw [hd];rfl);simp only [Nat.mul_one,Nat.add_zero] at hc;clear hcs hd hl;(have i0:(0:Int)<=(k:Int):=by omega);(have i1:(k:Int)<(l.length:Int):=by omega);have hgg:=fun e=>idxP_at (fun x=>s==x) l k hlt Hg.out e;have Hgg:=hid hgg;clear hgg;have Hgn:=hid (fun e=>no_more (p:=fun x=>s==x) hlt Hg.out e);generalize l[k]=x at *
   by_cases he:(s==x)=true
   ·go_wp2_with fail
    go_ret
    exact ⟨ret_int (Hgg.out he).symm,rfl⟩
   ·(have he:(s==x)=false:=by simpa using he);go_wp2_with fail
    go_roundw
    (case rel=>exact ⟨k+1,by omega,by go_num,trivial,Hgn.out he⟩);case measure=>simp [intOf];omega
  ·go_wp2_with fail
   go_ret
   exact ⟨ret_int (idxP_none _ _ (fun j hj=>Hg.out j hj (by omega))).symm,rfl⟩
theorem contains_int (v:Value) (l:List (Int)) (s:Int) (w:World) (hv:RdS DInt 1 All w v l) :
  Calls Tryz.prog 87 #[v,.int .i64 s] w fun e w'=>e=.returned (.bool (l.any (fun x=>s==x)))/\w'=w:=by
 go_enter Tryz.func87,Tryz.ntmps87
 (go_wp2_with fail);refine (index_int v l s w hv).mono ?_;rintro e w1 ⟨rfl,rfl⟩;have hi:=idxP_any (fun x=>s==x) l;generalize idxP (fun x=>s==x) l=i at *;go_wp2_with fail
 go_ret
 exact ⟨rfl,rfl⟩
end Go.Proofs.YtbceccblepckhaaGreatDoor
