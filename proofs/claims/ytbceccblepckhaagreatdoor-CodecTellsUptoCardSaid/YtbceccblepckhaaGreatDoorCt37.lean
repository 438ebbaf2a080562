/-
  codec.numbers.
  codec.numbers, of fixed sizes.
  codec.numbers, whole.
  (*reader).value, of numbers.
-/
import Derived.Test.YtbceccblepckhaaGreatDoorCt29
set_option maxHeartbeats 3200000
set_option linter.unusedVariables false
namespace Go.Proofs.YtbceccblepckhaaGreatDoor
open Go.RowKit
set_option maxRecDepth 100000
open Lib (hid)
def U64s (l:List Nat):List Value:=l.map fun (n:Nat)=>Value.int .u64 (n:Int)
theorem rd64_of_owns {base:Nat} {e:TypeId} {S:Nat->Prop} {w:World} {v:Value} {l:List Nat} (h:w.ownsRow base e 1 v l.length (U64s l)) (h64:∀ n∈l,n<18446744073709551616) (hS:∀ k,v.ownBlock=some k->S k):RdS DU64 1 S w v l:=by
 rcases h.2 with ⟨rfl,h0⟩|⟨g,cap,cur,rfl,hb,hg,hc,hm,hs,ht⟩
 ·have:l=[]:=List.eq_nil_of_length_eq_zero h0;subst this;exact ⟨none,0,rfl,by simp,by unfold maxLen;omega,fun _=>rfl,fun i hi=>by simp at hi⟩
 ·refine ⟨some ⟨g,0,none⟩,cap,rfl,hc,hm,(fun e=>nomatch e),fun i hi=>⟨g,0,[.int .u64 (l[i]:Int)],rfl,hS g rfl,lt_of_block hg,rfl,fun j u hu=>?_,rfl,h64 _ (List.getElem_mem hi)⟩⟩
  have hj:j=0:=by
   have:=(List.getElem?_eq_some_iff.1 hu).1;simpa using this
  subst hj;simp at hu;subst hu;have:=h.cells (g:=g) rfl i (.int .u64 (l[i]:Int)) (by rw [U64s,List.getElem?_map,List.getElem?_eq_getElem hi];rfl);rw [Addr.add_lit] at this;simpa using this
theorem back_64 {k:Int} {n:Nat} (h:n<18446744073709551616):backC k n<18446744073709551616:=by
 unfold backC;split
 ·unfold usg unzig;split <;> split <;> omega
 split
 ·omega
 split
 ·split <;> omega
 ·exact h
theorem rd64_new (w:World) (n:Nat) (h:n<18446744073709551616) (t:TypeId):RdS DU64 1 (From w.heap.size) (w.alloc (.cells #[.int .u64 (n:Int)] t)) (.slice (some ⟨w.heap.size,0,none⟩) 1 1) [n]:=by
 refine ⟨some ⟨w.heap.size,0,none⟩,1,rfl,by simp,by unfold maxLen;omega,(fun e=>nomatch e),fun i hi=>?_⟩;(have:i=0:=by simpa using hi);subst this;refine ⟨w.heap.size,0,[.int .u64 (n:Int)],rfl,Nat.le_refl _,by simp,rfl,fun j u hu=>?_,rfl,h⟩
 have hj:j=0:=by
  have:=(List.getElem?_eq_some_iff.1 hu).1;simpa using this
 subst hj;simp at hu;subst hu;exact cell_of_row _ _ 0 _ _ _ (heap_alloc_new w _)
def combP (acc:List Nat) (p:List Nat × Int):List Nat × Int:=if p.2≠0 then ([],p.2) else (acc++p.1,0)
theorem comb_nil (kind:Int) (acc:List Nat) (f:Nat):combP acc (packP kind (f+1) [])=(acc,0):=by
 rw [packP,if_pos rfl];simp [combP]
theorem comb_bad {kind:Int} (acc:List Nat) {f:Nat} {l:List UInt8} (hl:l≠[]) {e:Int} (he:(headC (howC kind) l).2.2=e) (h0:e≠0):combP acc (packP kind (f+1) l)=([],e):=by
 rw [packP,if_neg hl,he,if_pos h0];simp [combP,h0]
theorem comb_more {kind:Int} (acc:List Nat) {f:Nat} {l:List UInt8} (hl:l≠[]) {n m:Nat} (he:headC (howC kind) l=(n,m,0)):combP acc (packP kind (f+1) l)=combP (acc++[backC kind n]) (packP kind f (l.drop m)):=by
 rw [packP,if_neg hl,he,if_neg (by simp)];simp only [combP]
 by_cases h:(packP kind f (l.drop m)).2=0
 ·simp [h]
 ·simp [h]
theorem numbers_one (x:Fld) (r:Rec) (bf fo b o c3:Nat) (a3:Option Addr) (w:World) (hx:FldAt w bf fo x) (h1:w.cell? ⟨b,o+1,none⟩=some (.int .i64 r.how)) (h2:w.cell? ⟨b,o+2,none⟩=some (.int .u64 (r.bits:Int))) (h64:r.bits<18446744073709551616)
  (hh:r.how=howC x.kind∨(r.how≠2∨x.many=false)) :
  Calls Tryz.prog 94 #[.pointer (some ⟨bf,fo,none⟩),.pointer (some ⟨b,o,none⟩)] w fun e w'=>∃ v',e=.returned (.tuple #[v',.int .i64 (numbersC x r).2])/\RdS DU64 1 (From w.heap.size) w' v' (numbersC x r).1/\Up w w':=by
 obtain ⟨hxb,⟨x0,x1,x2,x3,x4,x5⟩,hxd⟩:=hx;have hhw:=hid (how_c x.kind);have hbk:=hid (fun W=>back_c x.kind r.bits W h64);have Hb:=hid (back_64 (k:=x.kind) h64)
 by_cases he:r.how=howC x.kind
 ·have hN:numbersC x r=([backC x.kind r.bits],0):=if_pos he;rw [hN];clear hN hh;rw [←he] at hhw;generalize backC x.kind r.bits=bk at *
  go_enter Tryz.func94,Tryz.ntmps94
  go_upto_region 3 with (go_at_call 4;go_must (refine (hhw.out _).mono ?_;rintro e w1 ⟨rfl,rfl⟩))
  have dd:w1.drew.cell? ⟨bf,fo+2,none⟩=some (.int .i64 x.kind)/\w1.drew.cell? ⟨b,o+2,none⟩=some (.int .u64 (r.bits:Int)):=⟨x2,h2⟩;have DD:=hid (fun W (u:Up w1 W)=>(⟨u.cell_some x2,u.cell_some h2⟩:W.cell? ⟨bf,fo+2,none⟩=some (.int .i64 x.kind)/\W.cell? ⟨b,o+2,none⟩=some (.int .u64 (r.bits:Int))))
  go_region_held3 (fun w'=>w'.cell? ⟨bf,fo+2,none⟩=some (.int .i64 x.kind)/\w'.cell? ⟨b,o+2,none⟩=some (.int .u64 (r.bits:Int)))
   (first|with_reducible exact dd|with_reducible exact DD.out _ ((Up.refl w1).alloc _).drew|with_reducible exact DD.out _ ((Up.refl w1).drew.alloc _))
   (first|(go_at_call 133;refine (hbk.out _).mono ?_;rintro e w5 ⟨rfl,hw5⟩;subst hw5))
  all_goals
   clear dd;go_wp2_with fail
   go_ret2
   exact ⟨_,rfl,(rd64_new w1 bk Hb.out _).up stable_u64 (Up.refl _).drew,((Up.refl w1).alloc _).drew⟩
 ·(have hN:numbersC x r=([],8):=by unfold numbersC;rw [if_neg he,if_pos (hh.resolve_left he)]);rw [hN];clear hN;(have he2:(r.how==howC x.kind)=false:=by simpa using he);rcases hh.resolve_left he with h|h
  ·(have hn2:(r.how != 2)=true:=by simpa using h);generalize howC x.kind=hw at *
   go_enter Tryz.func94,Tryz.ntmps94
   go_wp2_with (go_at_call 4;go_must (refine (hhw.out _).mono ?_;rintro e w1 ⟨rfl,rfl⟩))
   go_ret2
   exact ⟨_,rfl,rdS_nil _ _ _ _,Up.refl _⟩
  ·rw [h] at x4
   by_cases h2:r.how=2
   ·(have hn2:(r.how != 2)=false:=by simpa using h2);generalize howC x.kind=hw at *
    go_enter Tryz.func94,Tryz.ntmps94
    go_wp2_with (go_at_call 4;go_must (refine (hhw.out _).mono ?_;rintro e w1 ⟨rfl,rfl⟩))
    go_ret2
    exact ⟨_,rfl,rdS_nil _ _ _ _,Up.refl _⟩
   ·(have hn2:(r.how != 2)=true:=by simpa using h2);generalize howC x.kind=hw at *
    go_enter Tryz.func94,Tryz.ntmps94
    go_wp2_with (go_at_call 4;go_must (refine (hhw.out _).mono ?_;rintro e w1 ⟨rfl,rfl⟩))
    go_ret2
    exact ⟨_,rfl,rdS_nil _ _ _ _,Up.refl _⟩
theorem headC_var {kind:Int} {l:List UInt8} (h:howC kind=0):headC (howC kind) l=get l:=by unfold headC;rw [if_pos h]
theorem numbers_var (x:Fld) (r:Rec) (bf fo b o c3:Nat) (a3:Option Addr) (w:World) (hx:FldAt w bf fo x) (h1:w.cell? ⟨b,o+1,none⟩=some (.int .i64 r.how)) (h3:w.cell? ⟨b,o+3,none⟩=some (.slice a3 r.bytes.length c3)) (hr:RdB All w (.slice a3 r.bytes.length c3) r.bytes) (hbl:r.bytes.length<=1099511627776)
  (hh:r.how=2) (hm:x.many=true) (hv:howC x.kind=0) :
  Calls Tryz.prog 94 #[.pointer (some ⟨bf,fo,none⟩),.pointer (some ⟨b,o,none⟩)] w fun e w'=>∃ v',e=.returned (.tuple #[v',.int .i64 (numbersC x r).2])/\RdS DU64 1 (From w.heap.size) w' v' (numbersC x r).1/\Up w w':=by
 obtain ⟨hxb,⟨x0,x1,x2,x3,x4,x5⟩,hxd⟩:=hx;have hhw:=how_c x.kind;(have hN:numbersC x r=packP x.kind (r.bytes.length+1) r.bytes:=by unfold numbersC;rw [hh,hv,hm,if_neg (by decide),if_neg (by simp)]);rw [hN];rw [hv] at hhw;rw [hh] at h1;rw [hm] at x4;have Hhw:=hid hhw;have Hr:=hid hr;have X2:=hid x2;obtain ⟨ANS,hANS⟩:∃ ANS,packP x.kind (r.bytes.length+1) r.bytes=ANS:=⟨_,rfl⟩;rw [hANS]
 have hA0:combP [] (packP x.kind (r.bytes.length+1) r.bytes)=ANS:=by
  rw [hANS]
  have h0:∀ (f:Nat) (l:List UInt8),(packP x.kind f l).2≠0->(packP x.kind f l).1=[]:=by
   intro f l h
   cases f with
   |zero=>rfl
   |succ f =>
    rw [packP] at h ⊢;split
    ·rfl
    ·split
     ·rfl
     ·rename_i g1 g2;rw [if_neg g1,if_neg g2] at h;simp only at h ⊢;split
      ·rfl
      ·rename_i g3;rw [if_neg g3] at h;exact absurd rfl h
  have h1:=h0 (r.bytes.length+1) r.bytes;rw [hANS] at h1;unfold combP;split
  ·rename_i g;rw [←h1 g]
  ·rename_i g;simp only [ne_eq,Decidable.not_not] at g;rw [List.nil_append,←g]
 have HA0:=hid hA0;clear hN hA0 hANS hhw hr hh hm hxd x0 x1 x3 x5 hxb x2;obtain ⟨L,hL⟩:∃ L,r.bytes=L:=⟨_,rfl⟩;rw [hL] at h3 Hr HA0 hbl;clear hL;have x2:=X2.out
 go_enter Tryz.func94,Tryz.ntmps94
 (go_wp2_with (go_at_call 4;go_must (refine (Hhw.out _).mono ?_;rintro e w1 ⟨rfl,rfl⟩)));clear h1 h3 x4;(go_loopw [7,8] (fun out left wr=>∃ (j:Nat) (acc:List Nat) (a:Option Addr) (c fu:Nat) (l:List UInt8),left=.slice a l.length c/\L.drop j=l/\j<=L.length/\l.length<fu/\RdB All w1 (.slice a l.length c) l/\wr.ownsRow w1.heap.size 72 1 out acc.length (U64s acc)/\acc.length<=j/\(∀ n∈acc,n<18446744073709551616)/\combP acc (packP x.kind fu l)=ANS/\Up w1 wr) (fun _ left _=>lenV left));case atStart=>exact ⟨0,[],a3,c3,L.length+1,L,rfl,rfl,by omega,by omega,Hr.out,World.ownsRow_nil _ _ _ _,by simp,by simp,HA0.out,Up.refl _⟩
 case round =>
  clear HA0;obtain ⟨j,acc,a,c,fu,l,rfl,hl,hj,hfu,hrb,how,hal,hac,hA,hup⟩:=hrel;have Hll:=hid (show l.length=L.length - j by rw [←hl,List.length_drop]);obtain ⟨_,_,he,hc1,hc2⟩:=hrb.val;simp only [Value.slice.injEq,true_and] at he;obtain ⟨rfl,rfl⟩:=he;obtain ⟨fu,rfl⟩:∃ z,fu=z+1:=⟨fu - 1,by omega⟩;have y2:=hup.cell_some X2.out;have hz:=hup.size;have How:=hid how;have Hac:=hid hac;have HA:=hid hA;have Hup:=hid hup;have Hl:=hid hl;have Hrb:=hid hrb;clear how hac hA hup hl hrb
  by_cases hpos:0<l.length
  ·(have hne:l≠[]:=fun e=>by rw [e] at hpos;simp at hpos);(have hpos2:(0:Int)<(l.length:Int):=by omega);obtain ⟨n,m,e0,hg⟩:∃ n m e0,get l=(n,m,e0):=⟨_,_,_,rfl⟩;(have hh:headC (howC x.kind) l=(n,m,e0):=by rw [headC_var hv,hg]);have Hget:=hid (fun W (u:Up w1 W)=>get_eq _ l W n m e0 hg (Hrb.out.up stable_u8 u))
   by_cases he:e0=0
   ·subst he;obtain ⟨m0,m1,m2,m3⟩:=get_ok (l:=l) (by rw [hg]);rw [hg] at m0 m1 m2 m3;simp only at m0 m1 m2 m3;have Hbk:=hid (fun W=>back_c x.kind n W m3);have Hb:=hid (back_64 (k:=x.kind) m3);have hA:=HA.out;rw [comb_more acc hne hh] at hA;have HA2:=hid hA;clear hA HA hh hg;generalize backC x.kind n=bk at *;(have hms:¬ ((l.length:Int)<(m:Int)):=by omega);have hms2:(m:Int)<=(l.length:Int):=by omega
    go_wp2_with (first
     |(go_at_call 130;go_must (refine (Hget.out _ Hup.out).mono ?_;rintro e w5 ⟨rfl,hw5⟩;subst hw5))
     |(go_at_call 133;go_must (refine (Hbk.out _).mono ?_;rintro e w5 ⟨rfl,hw5⟩;subst hw5))
     |(at_builtin;go_must (refine wpList_app1 eU64c _ (by rfl) _ _ (by rfl) w1.heap.size _ _ _ (by rfl) How.out _ (by rfl) (by first|rfl|simp) (by rfl) (oc (by rfl)) (by omega) (by unfold maxLen;omega) (by first|omega|(simp;omega)) ?_;intro v3 w3 how3 hev3)))
    all_goals
     go_roundw
     case rel =>
      refine ⟨j+m,acc++[bk],(if c=m then a else a.map (·.add m)),c - m,fu,l.drop m,by rw [List.length_drop],by rw [←Hl.out,List.drop_drop],by have:=Hll.out;omega,by rw [List.length_drop];omega,?_,by simpa [U64s] using how3,by simp;omega,?_,HA2.out,Hup.out.evo hev3 (fun k hk=>(How.out.lt k hk).1)⟩
      ·exact RdB.drop Hrb.out m m1 (fun h=>by rw [if_neg h]) (by rw [List.length_drop]) rfl
      ·intro z hz;rcases List.mem_append.1 hz with h|h
       ·exact Hac.out z h
       ·simp at h;subst h;exact Hb.out
     case measure=>simp only [lenV];omega
   ·have hA:=HA.out;rw [comb_bad acc hne (by rw [hh]) he] at hA;(have he2:(e0==0)=false:=by simpa using he);(have he3:(e0 != 0)=true:=by simpa using he);clear hh hg;go_wp2_with (go_at_call 130;go_must (refine (Hget.out _ Hup.out).mono ?_;rintro e w5 ⟨rfl,hw5⟩;subst hw5))
    go_ret2
    rw [←hA];exact ⟨_,rfl,rdS_nil _ _ _ _,Hup.out⟩
  ·have hle:l=[]:=List.eq_nil_of_length_eq_zero (by omega);(have hnp:¬ ((0:Int)<(l.length:Int)):=by omega);go_wp2_with fail
   go_ret2
   have hA:=HA.out;rw [hle,comb_nil] at hA;rw [←hA];exact ⟨_,rfl,rd64_of_owns How.out Hac.out (fun k hk=>(How.out.lt k hk).1),Hup.out⟩
theorem headC_short {kind:Int} {l:List UInt8} {hw:Int} {s:Nat} (h:howC kind=hw) (hs:(hw=5/\s=4)∨(hw=1/\s=8)) (hl:l.length<s):headC (howC kind) l=(0,0,2):=by
 unfold headC;rw [h];rcases hs with ⟨rfl,rfl⟩|⟨rfl,rfl⟩ <;> simp [hl]
theorem headC_long {kind:Int} {l:List UInt8} {hw:Int} {s:Nat} (h:howC kind=hw) (hs:(hw=5/\s=4)∨(hw=1/\s=8)) (hl:¬ l.length<s):headC (howC kind) l=(lowVal (l.take s),s,0):=by
 unfold headC;rw [h];rcases hs with ⟨rfl,rfl⟩|⟨rfl,rfl⟩ <;> simp [hl]
theorem numbers_fix (x:Fld) (r:Rec) (bf fo b o c3:Nat) (a3:Option Addr) (w:World) (hx:FldAt w bf fo x) (h1:w.cell? ⟨b,o+1,none⟩=some (.int .i64 r.how)) (h3:w.cell? ⟨b,o+3,none⟩=some (.slice a3 r.bytes.length c3)) (hr:RdB All w (.slice a3 r.bytes.length c3) r.bytes) (hbl:r.bytes.length<=1099511627776)
  (hh:r.how=2) (hm:x.many=true) (hw:Int) (s:Nat) (hv:howC x.kind=hw) (hs:(hw=5/\s=4)∨(hw=1/\s=8)) :
  Calls Tryz.prog 94 #[.pointer (some ⟨bf,fo,none⟩),.pointer (some ⟨b,o,none⟩)] w fun e w'=>∃ v',e=.returned (.tuple #[v',.int .i64 (numbersC x r).2])/\RdS DU64 1 (From w.heap.size) w' v' (numbersC x r).1/\Up w w':=by
 obtain ⟨hxb,⟨x0,x1,x2,x3,x4,x5⟩,hxd⟩:=hx;have hhw:=how_c x.kind;(have hN:numbersC x r=packP x.kind (r.bytes.length+1) r.bytes:=by unfold numbersC;rw [hh,hv,hm,if_neg (by omega),if_neg (by simp)]);rw [hN];rw [hv] at hhw;rw [hh] at h1;rw [hm] at x4;have Hhw:=hid hhw;have Hr:=hid hr;have X2:=hid x2;obtain ⟨ANS,hANS⟩:∃ ANS,packP x.kind (r.bytes.length+1) r.bytes=ANS:=⟨_,rfl⟩;rw [hANS]
 have hA0:combP [] (packP x.kind (r.bytes.length+1) r.bytes)=ANS:=by
  rw [hANS]
  have h0:∀ (f:Nat) (l:List UInt8),(packP x.kind f l).2≠0->(packP x.kind f l).1=[]:=by
   intro f l h
   cases f with
   |zero=>rfl
   |succ f =>
    rw [packP] at h ⊢;split
    ·rfl
    ·split
     ·rfl
     ·rename_i g1 g2;rw [if_neg g1,if_neg g2] at h;simp only at h ⊢;split
      ·rfl
      ·rename_i g3;rw [if_neg g3] at h;exact absurd rfl h
  have h1:=h0 (r.bytes.length+1) r.bytes;rw [hANS] at h1;unfold combP;split
  ·rename_i g;rw [←h1 g]
  ·rename_i g;simp only [ne_eq,Decidable.not_not] at g;rw [List.nil_append,←g]
 have HA0:=hid hA0;clear hN hA0 hANS hhw hr hh hm hxd x0 x1 x3 x5 hxb x2;obtain ⟨L,hL⟩:∃ L,r.bytes=L:=⟨_,rfl⟩;rw [hL] at h3 Hr HA0 hbl;clear hL;have x2:=X2.out
 go_enter Tryz.func94,Tryz.ntmps94
 (go_wp2_with (go_at_call 4;go_must (refine (Hhw.out _).mono ?_;rintro e w1 ⟨rfl,rfl⟩)));clear h1 h3 x4;(go_loopw [7,8] (fun out left wr=>∃ (j:Nat) (acc:List Nat) (a:Option Addr) (c fu:Nat) (l:List UInt8),left=.slice a l.length c/\L.drop j=l/\j<=L.length/\l.length<fu/\RdB All w1 (.slice a l.length c) l/\wr.ownsRow w1.heap.size 72 1 out acc.length (U64s acc)/\acc.length<=j/\(∀ n∈acc,n<18446744073709551616)/\combP acc (packP x.kind fu l)=ANS/\Up w1 wr) (fun _ left _=>lenV left));case atStart=>exact ⟨0,[],a3,c3,L.length+1,L,rfl,rfl,by omega,by omega,Hr.out,World.ownsRow_nil _ _ _ _,by simp,by simp,HA0.out,Up.refl _⟩
 case round =>
  clear HA0;obtain ⟨j,acc,a,c,fu,l,rfl,hl,hj,hfu,hrb,how,hal,hac,hA,hup⟩:=hrel;have Hll:=hid (show l.length=L.length - j by rw [←hl,List.length_drop]);obtain ⟨_,_,he,hc1,hc2⟩:=hrb.val;simp only [Value.slice.injEq,true_and] at he;obtain ⟨rfl,rfl⟩:=he;obtain ⟨fu,rfl⟩:∃ z,fu=z+1:=⟨fu - 1,by omega⟩;have y2:=hup.cell_some X2.out;have hz:=hup.size;have How:=hid how;have Hac:=hid hac;have HA:=hid hA;have Hup:=hid hup;have Hl:=hid hl;have Hrb:=hid hrb;clear how hac hA hup hl hrb
  by_cases hpos:0<l.length
  ·(have hne:l≠[]:=fun e=>by rw [e] at hpos;simp at hpos);have hpos2:(0:Int)<(l.length:Int):=by omega
   by_cases hlt:l.length<s
   ·have hA:=HA.out;rw [comb_bad acc hne (by rw [headC_short hv hs hlt]) (by decide)] at hA;rcases hs with ⟨rfl,rfl⟩|⟨rfl,rfl⟩
    ·(have hms:(l.length:Int)<4:=by omega);go_wp2_with fail
     go_ret2
     rw [←hA];exact ⟨_,rfl,rdS_nil _ _ _ _,Hup.out⟩
    ·(have hms:(l.length:Int)<8:=by omega);go_wp2_with fail
     go_ret2
     rw [←hA];exact ⟨_,rfl,rdS_nil _ _ _ _,Hup.out⟩
   ·have hA:=HA.out;rw [comb_more acc hne (headC_long hv hs hlt)] at hA
    have hlow:lowVal (l.take s)<18446744073709551616:=by
     have h1:=lowVal_lt (l.take s);rw [List.length_take,Nat.min_eq_left (by omega)] at h1;rcases hs with ⟨_,rfl⟩|⟨_,rfl⟩ <;> omega
    have Hbk:=hid (fun W=>back_c x.kind (lowVal (l.take s)) W hlow);have Hb:=hid (back_64 (k:=x.kind) hlow);have HA2:=hid hA;clear hA HA hlow;obtain ⟨bk,hbk⟩:∃ bk,backC x.kind (lowVal (l.take s))=bk:=⟨_,rfl⟩;rw [hbk] at HA2 Hb;have Hbk2:=hid (fun W=>by have h:=Hbk.out W;rw [hbk] at h;exact h);clear hbk Hbk;rcases hs with ⟨rfl,rfl⟩|⟨rfl,rfl⟩
    ·(have hms:¬ ((l.length:Int)<4):=by omega);(have hms2:(4:Int)<=(l.length:Int):=by omega);(have hms3:4<=l.length:=by omega);obtain ⟨bb,oo,rfl,_⟩:=RdB.cell Hrb.out (i:=0) hpos
     have HB2:=hid (show ∀ n∈acc++[bk],n<18446744073709551616 from fun z hz=>by
      rcases List.mem_append.1 hz with h|h
      ·exact Hac.out z h
      ·simp at h;subst h;exact Hb.out)
     go_upto_region 21 with (fail)
     go_loop [9,82] (fun n i=>∃ q:Nat,q<=4/\i=.int .i64 q/\n=.int .u64 (lowVal (l.take q))) (fun _ i=>4 - (intOf i).toNat)
     case atStart=>exact ⟨0,by omega,rfl,rfl⟩
     case round =>
      obtain ⟨q,hq,rfl,rfl⟩:=hrel
      by_cases hlq:q<4
      ·obtain ⟨b',o',he,hcell⟩:=RdB.cell (Hrb.out.up stable_u8 Hup.out) (i:=q) (by omega);simp only [Option.some.injEq,Addr.mk.injEq,and_true] at he;obtain ⟨rfl,rfl⟩:=he
       have hs:lowVal (l.take (q+1))=lowVal (l.take q)+(l[q]'(by omega)).toNat*2 ^ (8*q):=by
        rw [take_snoc l q (by omega),lowVal_snoc,List.length_take,Nat.min_eq_left (by omega)]
       have hlo:lowVal (l.take q)<2 ^ (8*q):=by
        have:=lowVal_lt (l.take q)
        rwa [List.length_take,Nat.min_eq_left (by omega)] at this
       have hc256:(l[q]'(by omega)).toNat<256:=UInt8.toNat_lt _;generalize l[q]'(by omega)=cc at *;have hb:=num_bits _ q cc.toNat hlo hc256 (by omega);have Hbb:=hid hb;clear hb;have Hs:=hid hs;clear hs hlo;generalize lowVal (l.take q)=aa at *;go_wp2_with fail
       go_round
       (case rel=>exact ⟨q+1,by omega,by go_num,by rw [Hs.out,←Hbb.out]⟩);case measure=>simp [intOf];omega
      ·(have hq4:q=4:=by omega);subst hq4;generalize lowVal (l.take 4)=lv at *
       go_wp2_with (first
        |(go_at_call 133;go_must (refine (Hbk2.out _).mono ?_;rintro e w5 ⟨rfl,hw5⟩;subst hw5))
        |(at_builtin;go_must (refine wpList_app1 eU64c _ (by rfl) _ _ (by rfl) w1.heap.size _ _ _ (by rfl) How.out _ (by rfl) (by first|rfl|simp) (by rfl) (oc (by rfl)) (by omega) (by unfold maxLen;omega) (by first|omega|(simp;omega)) ?_;intro v3 w3 how3 hev3)))
       all_goals
        go_roundw
        case rel =>
         first
          |(refine ⟨_,_,_,_,⟨j+4,acc++[bk],some ⟨bb,oo,none⟩,0,fu,l.drop 4,?_,by rw [←Hl.out,List.drop_drop],by have:=Hll.out;omega,by rw [List.length_drop];omega,RdB.drop Hrb.out 4 hms3 (fun h'=>absurd h h') (by rw [List.length_drop]) (by omega),by simpa [U64s] using how3,by simp;omega,HB2.out,HA2.out,Hup.out.evo hev3 (fun k hk=>(How.out.lt k hk).1)⟩,rfl,rfl,rfl,rfl⟩;rw [List.length_drop])
          |(refine ⟨_,_,_,_,⟨j+4,acc++[bk],some ⟨bb,oo+4,none⟩,c - 4,fu,l.drop 4,?_,by rw [←Hl.out,List.drop_drop],by have:=Hll.out;omega,by rw [List.length_drop];omega,RdB.drop Hrb.out 4 hms3 (fun _=>rfl) (by rw [List.length_drop]) rfl,by simpa [U64s] using how3,by simp;omega,HB2.out,HA2.out,Hup.out.evo hev3 (fun k hk=>(How.out.lt k hk).1)⟩,rfl,rfl,rfl,rfl⟩;rw [List.length_drop])
        case measure=>simp only [lenV];omega
    ·(have hms:¬ ((l.length:Int)<8):=by omega);(have hms2:(8:Int)<=(l.length:Int):=by omega);(have hms3:8<=l.length:=by omega);obtain ⟨bb,oo,rfl,_⟩:=RdB.cell Hrb.out (i:=0) hpos
     have HB2:=hid (show ∀ n∈acc++[bk],n<18446744073709551616 from fun z hz=>by
      rcases List.mem_append.1 hz with h|h
      ·exact Hac.out z h
      ·simp at h;subst h;exact Hb.out)
     go_upto_region 21 with (fail)
     go_loop [9,82] (fun n i=>∃ q:Nat,q<=8/\i=.int .i64 q/\n=.int .u64 (lowVal (l.take q))) (fun _ i=>8 - (intOf i).toNat)
     case atStart=>exact ⟨0,by omega,rfl,rfl⟩
     case round =>
      obtain ⟨q,hq,rfl,rfl⟩:=hrel
      by_cases hlq:q<8
      ·obtain ⟨b',o',he,hcell⟩:=RdB.cell (Hrb.out.up stable_u8 Hup.out) (i:=q) (by omega);simp only [Option.some.injEq,Addr.mk.injEq,and_true] at he;obtain ⟨rfl,rfl⟩:=he
       have hs:lowVal (l.take (q+1))=lowVal (l.take q)+(l[q]'(by omega)).toNat*2 ^ (8*q):=by
        rw [take_snoc l q (by omega),lowVal_snoc,List.length_take,Nat.min_eq_left (by omega)]
       have hlo:lowVal (l.take q)<2 ^ (8*q):=by
        have:=lowVal_lt (l.take q)
        rwa [List.length_take,Nat.min_eq_left (by omega)] at this
       have hc256:(l[q]'(by omega)).toNat<256:=UInt8.toNat_lt _;generalize l[q]'(by omega)=cc at *;have hb:=num_bits _ q cc.toNat hlo hc256 (by omega);have Hbb:=hid hb;clear hb;have Hs:=hid hs;clear hs hlo;generalize lowVal (l.take q)=aa at *;go_wp2_with fail
       go_round
       (case rel=>exact ⟨q+1,by omega,by go_num,by rw [Hs.out,←Hbb.out]⟩);case measure=>simp [intOf];omega
      ·(have hq4:q=8:=by omega);subst hq4;generalize lowVal (l.take 8)=lv at *
       go_wp2_with (first
        |(go_at_call 133;go_must (refine (Hbk2.out _).mono ?_;rintro e w5 ⟨rfl,hw5⟩;subst hw5))
        |(at_builtin;go_must (refine wpList_app1 eU64c _ (by rfl) _ _ (by rfl) w1.heap.size _ _ _ (by rfl) How.out _ (by rfl) (by first|rfl|simp) (by rfl) (oc (by rfl)) (by omega) (by unfold maxLen;omega) (by first|omega|(simp;omega)) ?_;intro v3 w3 how3 hev3)))
       all_goals
        go_roundw
        case rel =>
         first
          |(refine ⟨_,_,_,_,⟨j+8,acc++[bk],some ⟨bb,oo,none⟩,0,fu,l.drop 8,?_,by rw [←Hl.out,List.drop_drop],by have:=Hll.out;omega,by rw [List.length_drop];omega,RdB.drop Hrb.out 8 hms3 (fun h'=>absurd h h') (by rw [List.length_drop]) (by omega),by simpa [U64s] using how3,by simp;omega,HB2.out,HA2.out,Hup.out.evo hev3 (fun k hk=>(How.out.lt k hk).1)⟩,rfl,rfl,rfl,rfl⟩;rw [List.length_drop])
          |(refine ⟨_,_,_,_,⟨j+8,acc++[bk],some ⟨bb,oo+8,none⟩,c - 8,fu,l.drop 8,?_,by rw [←Hl.out,List.drop_drop],by have:=Hll.out;omega,by rw [List.length_drop];omega,RdB.drop Hrb.out 8 hms3 (fun _=>rfl) (by rw [List.length_drop]) rfl,by simpa [U64s] using how3,by simp;omega,HB2.out,HA2.out,Hup.out.evo hev3 (fun k hk=>(How.out.lt k hk).1)⟩,rfl,rfl,rfl,rfl⟩;rw [List.length_drop])
        case measure=>simp only [lenV];omega
  ·have hle:l=[]:=List.eq_nil_of_length_eq_zero (by omega);(have hnp:¬ ((0:Int)<(l.length:Int)):=by omega);go_wp2_with fail
   go_ret2
   have hA:=HA.out;rw [hle,comb_nil] at hA;rw [←hA];exact ⟨_,rfl,rd64_of_owns How.out Hac.out (fun k hk=>(How.out.lt k hk).1),Hup.out⟩
end Go.Proofs.YtbceccblepckhaaGreatDoor
namespace Go.Proofs.YtbceccblepckhaaGreatDoor
open Go.RowKit
theorem howC_cases (k:Int):howC k=0∨howC k=1∨howC k=5∨howC k=2:=by
 unfold howC;split
 ·omega
 split
 ·omega
 split
 ·omega
 ·omega
theorem numbers_c (x:Fld) (r:Rec) (bf fo b o c3:Nat) (a3:Option Addr) (w:World) (hx:FldAt w bf fo x) (h1:w.cell? ⟨b,o+1,none⟩=some (.int .i64 r.how)) (h2:w.cell? ⟨b,o+2,none⟩=some (.int .u64 (r.bits:Int))) (h3:w.cell? ⟨b,o+3,none⟩=some (.slice a3 r.bytes.length c3))
  (hr:RdB All w (.slice a3 r.bytes.length c3) r.bytes) (hbl:r.bytes.length<=1099511627776) (h64:r.bits<18446744073709551616) (hk:howC x.kind≠2) :
  Calls Tryz.prog 94 #[.pointer (some ⟨bf,fo,none⟩),.pointer (some ⟨b,o,none⟩)] w fun e w'=>∃ v',e=.returned (.tuple #[v',.int .i64 (numbersC x r).2])/\RdS DU64 1 (From w.heap.size) w' v' (numbersC x r).1/\Up w w':=by
 by_cases he:r.how=howC x.kind
 ·exact numbers_one x r bf fo b o c3 a3 w hx h1 h2 h64 (.inl he)
 by_cases hh:r.how=2
 ·cases hm:x.many with
  |false=>exact numbers_one x r bf fo b o c3 a3 w hx h1 h2 h64 (.inr (.inr hm))
  |true =>
   rcases howC_cases x.kind with h|h|h|h
   ·exact numbers_var x r bf fo b o c3 a3 w hx h1 h3 hr hbl hh hm h
   ·exact numbers_fix x r bf fo b o c3 a3 w hx h1 h3 hr hbl hh hm 1 8 h (.inr ⟨rfl,rfl⟩)
   ·exact numbers_fix x r bf fo b o c3 a3 w hx h1 h3 hr hbl hh hm 5 4 h (.inl ⟨rfl,rfl⟩)
   ·exact absurd h hk
 ·exact numbers_one x r bf fo b o c3 a3 w hx h1 h2 h64 (.inr (.inl hh))
set_option maxRecDepth 100000
open Lib (hid)
theorem rvalue_num (x:Fld) (r:Rec) (cb bf fo b o c3:Nat) (a3:Option Addr) (deep:Int) (w:World) (hx:FldAt w bf fo x) (h1:w.cell? ⟨b,o+1,none⟩=some (.int .i64 r.how)) (h2:w.cell? ⟨b,o+2,none⟩=some (.int .u64 (r.bits:Int))) (h3:w.cell? ⟨b,o+3,none⟩=some (.slice a3 r.bytes.length c3))
  (hr:RdB All w (.slice a3 r.bytes.length c3) r.bytes) (hbl:r.bytes.length<=1099511627776) (h64:r.bits<18446744073709551616) (hk:howC x.kind≠2) :
  Calls Tryz.prog 42 #[.pointer (some ⟨cb,0,none⟩),.pointer (some ⟨bf,fo,none⟩),.pointer (some ⟨b,o,none⟩),.int .i64 deep] w fun e w'=>∃ v1,e=.returned (.tuple #[.agg #[.int .i64 x.number,v1,.slice none 0 0,.slice none 0 0],.bool (decide (0<(numbersC x r).1.length)),.int .i64 (numbersC x r).2])/\RdS DU64 1 (From (w.heap.size+2)) w' v1 (numbersC x r).1/\Up w w':=by
 have hhw:=hid (how_c x.kind);have Hnum:=hid (fun W (u:Up w W)=>numbers_c x r bf fo b o c3 a3 W (hx.up u) (u.cell_some h1) (u.cell_some h2) (u.cell_some h3) (hr.up stable_u8 u) hbl h64 hk);obtain ⟨hxb,⟨x0,x1,x2,x3,x4,x5⟩,hxd⟩:=hx;(have hne2:(howC x.kind != 2)=true:=by rw [bne_iff_ne];exact hk);clear hr hk h1 h2 h3 x0 x3 x4 x5 hxd h64 hbl;generalize howC x.kind=hw at *;generalize numbersC x r=N at *;(have hb1:bf≠w.heap.size:=by omega);have hb2:bf≠w.heap.size+1:=by omega
 go_enter Tryz.func42,Tryz.ntmps42
 go_upto_region 3 with (go_at_call 4;go_must (refine (hhw.out _).mono ?_;rintro e w1 ⟨rfl,rfl⟩))
 have hu0:=hid (((Up.refl w).alloc (.cells #[.int .i64 0,.slice none 0 0,.slice none 0 0,.slice none 0 0] 71)).alloc (.cells #[.int .i64 x.number,.slice none 0 0,.slice none 0 0,.slice none 0 0] 71));have hk0:=hid (show ((w.alloc (.cells #[.int .i64 0,.slice none 0 0,.slice none 0 0,.slice none 0 0] 71)).alloc (.cells #[.int .i64 x.number,.slice none 0 0,.slice none 0 0,.slice none 0 0] 71)).heap[w.heap.size]? = some (.cells #[.int .i64 0,.slice none 0 0,.slice none 0 0,.slice none 0 0] 71 (0,0)) from blk_old _ (blk_new w _ rfl));have hk1:=hid (show ((w.alloc (.cells #[.int .i64 0,.slice none 0 0,.slice none 0 0,.slice none 0 0] 71)).alloc (.cells #[.int .i64 x.number,.slice none 0 0,.slice none 0 0,.slice none 0 0] 71)).heap[w.heap.size+1]? = some (.cells #[.int .i64 x.number,.slice none 0 0,.slice none 0 0,.slice none 0 0] 71 (0,0)) from blk_new (w.alloc _) _ (by simp));go_wp2_with (go_at_call 94;go_must (refine (Hnum.out _ hu0.out).mono ?_;rintro e w5 ⟨v5,rfl,hv5,hu5⟩;obtain ⟨a5,c5,rfl,_,_⟩:=hv5.val;have k0:=hu5.blk hk0.out;have k1:=hu5.blk hk1.out;have hz5:=hu5.size;have q0:=lt_of_block k0;have q1:=lt_of_block k1;have z0:=ro0 k0;have z1:=ro1 k0;have z2:=ro2 k0;have z3:=ro3 k0;have y0:=ro0 k1;have y1:=ro1 k1;have y2:=ro2 k1;have y3:=ro3 k1;have f0:∀ o,w5.frozen? ⟨w.heap.size,o,none⟩=false:=(fun o=>frozen_of_row w5 _ o _ _ k0);have f1:∀ o,w5.frozen? ⟨w.heap.size+1,o,none⟩=false:=(fun o=>frozen_of_row w5 _ o _ _ k1);have Hv5:=hid hv5;have Hu5:=hid (hu0.out.trans hu5);clear k0 k1 hv5 hu5))
 all_goals
  have hv5:RdS DU64 1 (From (w.heap.size+2)) w5 (.slice a5 N.1.length c5) N.1:=Hv5.out.keep stable_u64 (Keep.weak (fun k hk=>by simp at hk;exact hk));refine bodyPost_ret (v:=.tuple #[.agg #[.int .i64 x.number,.slice a5 N.1.length c5,.slice none 0 0,.slice none 0 0],.bool (decide (0<N.1.length)),.int .i64 N.2]) (by simp [results,Tryz.results42,go_sem,z0,z1,z2,z3]) rfl ?_;refine ⟨_,rfl,hv5.keep stable_u64 ?_,?_⟩
  ·repeat (with_reducible refine Keep.trans ?_ (Keep.setCell ?_ _))
   ·exact Keep.weak (fun k hk=>hk)
   all_goals (show ¬ (w.heap.size+2<=_);simp)
  ·repeat (with_reducible refine Up.setCell ?_ ?_ _)
   ·exact Hu5.out
   all_goals simp
end Go.Proofs.YtbceccblepckhaaGreatDoor
