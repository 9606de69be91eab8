/-
  THE CONTRACTS OF THE STATEMENTS' OWN KIT (marks; lists with marks behind their ends; what is the same), at bytes and at numbers.
  ossuarykit.Pick: a number in 0 .. n-1 of any integer.
  LAYER 15 (tree): Side, height.
  THE CONTRACTS OF LAYER 5, first part: what weights are, their sums.
  THE CONTRACTS OF LAYER 5, second part: the table.
  CONDITIONS: as each lemma says.
-/
import Derived.Test.YtanacapkfllbnaaGreatDoorR00
import Derived.Test.YtanacapkfllbnaaGreatDoorProg
import Derived.WalkSpells
import Derived.WalkLawsBesides
import Derived.Deep.QuietTactic
import Derived.BigQuiet
import Derived.KernelRfl
set_option maxRecDepth 100000
set_option maxHeartbeats 4000000
namespace Go.Proofs.YtanacapkfllbnaaGreatDoor
open Go.RowKit

def markI (k i:Int):Int:=1000003 * (k+7)+i
def ownL (v:Value):List Nat:=v.ownBlock.toList
theorem ownL_some (g n c o:Nat):ownL (.slice (some ⟨g,o,none⟩) n c)=[g]:=rfl
theorem mem_ownL {v:Value} {g:Nat}:g ∈ ownL v ↔ v.ownBlock=some g:=by unfold ownL;cases v.ownBlock <;> simp;exact eq_comm

set_option maxHeartbeats 400000 in
theorem mark_any (k i:Int) (w:World) (hk:0≤k) (hk':k≤10) (hi:0≤i) (hi':i≤1000000000000) :
  Calls Tryz.prog 97 #[.int .i64 k,.int .i64 i] w fun e w'=>e=.returned (.int .i64 (markI k i))∧w=w':=by
 go_enter Tryz.func97,Tryz.ntmps97
 go_wp2_with fail;go_ret;exact ⟨rfl,rfl⟩

def markB (k i:Int):Int:=IntKind.u64.wrap (IntKind.u64.wrap (markI k i) * 11400714819323198485) / 72057594037927936 % 256
def marksB (k:Int) (n:Nat):List Int:=(List.range n).map fun (i:Nat)=>markB k (i:Int)
theorem marksB_succ (k:Int) (n:Nat):marksB k (n+1)=marksB k n ++ [markB k n]:=by simp [marksB,List.range_succ]
theorem marksB_len (k:Int) (n:Nat):(marksB k n).length=n:=by simp [marksB]
theorem marksB_get (k:Int) (n i:Nat) (h:i < n):(marksB k n)[i]? = some (markB k i):=by simp [marksB,h]
set_option maxHeartbeats 400000 in
theorem markB_any (k i:Int) (w:World) (hk:0≤k) (hk':k≤10) (hi:0≤i) (hi':i≤1000000000000) :
  Calls Tryz.prog 48 #[.int .i64 k,.int .i64 i] w fun e w'=>e=.returned (.int .u8 (markB k i))∧w=w':=by
 go_enter Tryz.func48,Tryz.ntmps48
 go_wp2_with (go_at_call 97;refine (mark_any _ _ _ hk hk' hi hi').mono ?_;rintro e w' ⟨rfl,rfl⟩)
 go_ret;exact ⟨rfl,rfl⟩
theorem Tryz.info_u8:(Tryz.prog.info? 5).map (fun i=>(i.zero,i.size,i.bytes))=some (some (.int .u8 0),1,1):=by kernel_rfl

set_option maxHeartbeats 400000 in
theorem lentB (A:Option Addr) (n c B:Nat) (xs:List Int) (w:World) (hx:Rd w B A (xs.map (.int .u8))) (hn:xs.length=n) (hb:n≤1000000000) :
  Calls Tryz.prog 22 #[.slice A n c] w fun e w'=>e=.returned (.slice (some ⟨w.heap.size,0,none⟩) n (n+12))∧Kp [] w w'∧Blk w' w.heap.size 5 ((xs ++ marksB 1 12).map (.int .u8)):=by
 obtain ⟨i0,hi,hz0,hz1,hz2⟩:=info_parts Tryz.info_u8;have HN:=Lib.hid hn;clear hn;have HX:=Lib.hid hx;clear hx
 go_enter Tryz.func22,Tryz.ntmps22
 go_wp2_with (first | (at_make;refine wpList_make_own _ rfl _ _ 41 rfl w.heap.size 5 i0 (.int .u8 0) 1 Tryz.underlying41 hi hz0 hz1 .i64 .i64 _ (n+12) rfl rfl (by simp) (by rw [hz2];omega) (by unfold maxLen;omega) (Nat.le_refl _) ?_;intro w1 hown1 hgrow1) | (at_builtin;refine wpList_append_fits_rd rfl (.tmp 9) (.tmp 10) 41 rfl w.heap.size 5 i0 1 Tryz.underlying41 hi hz1 (by omega) w.heap.size 0 (n+12) [] rfl hown1 B A n c (xs.map (.int .u8)) rfl (by simpa using HN.out) (HX.out.kp0 ((Kp.refl [] w).grown hgrow1 (by simp))) (by simp [Value.oneCell']) (by omega) ?_;intro w2 hown2 hgrow2;simp only [Nat.zero_add,List.nil_append] at hown2))
 go_loopw [3,4] (fun s i wr=>∃ k:Nat,k≤12∧i=.int .i64 k∧s=.slice (some ⟨w.heap.size,0,none⟩) (n+k) (n+12)∧wr.ownsRow w.heap.size 5 1 s (n+k) ((xs ++ marksB 1 k).map (.int .u8))∧Kp [] w wr) (fun _ i _=>12 - (intOf i).toNat)
 case atStart=>exact ⟨0,by omega,rfl,rfl,by simpa [marksB] using hown2,((Kp.refl [] w).grown hgrow1 (by simp)).trans' ((Kp.refl [w.heap.size] w1).grown hgrow2 (by simp)) (by simp)⟩
 case round =>
  obtain ⟨k,hk,rfl,rfl,hown,hkp⟩:=hrel;clear hown1 hown2 hgrow1 hgrow2;by_cases hlt:k < 12
  ·go_wp2_with (first | (go_at_call 48;refine (markB_any 1 (k:Int) _ (by omega) (by omega) (by omega) (by omega)).mono ?_;rintro e w' ⟨rfl,rfl⟩) | (at_builtin;refine wpList_append_fits _ rfl (.tmp 16) (.tmp 19) 41 rfl w.heap.size 5 i0 1 Tryz.underlying41 hi hz1 w.heap.size (n+k) (n+12) _ rfl (hown.alloc _) ⟨wr.heap.size,0,none⟩ 1 1 [.int .u8 (markB 1 k)] rfl rfl (cell_one_new _ _ _) (by simp [Value.oneCell']) (by omega) ?_;intro w3 hown3 hgrow3))
   go_roundw
   case rel=>exact ⟨k+1,by omega,by go_num,rfl,by rw [marksB_succ,← List.append_assoc,List.map_append];exact hown3,(hkp.alloc _).grown hgrow3 (by simp)⟩
   case measure=>simp [intOf];omega
  ·have hk12:k=12:=by omega
   have HK:=Lib.hid hk12;clear hk12
   go_wp2
   go_ret;have h0:=HK.out;subst h0;exact ⟨rfl,hkp,own_full hown⟩

set_option maxHeartbeats 1000000 in
theorem keptB (A A':Option Addr) (n c c' B B':Nat) (xs:List Int) (w:World) (hy:Rd w B A ((xs ++ marksB 1 12).map (.int .u8))) (hx:Rd w B' A' (xs.map (.int .u8))) (hn:xs.length=n) (hb:n≤1000000000) (hc:n+12≤c) :
  Calls Tryz.prog 25 #[.slice A n c,.slice A' n c'] w fun e w'=>e=.returned (.bool true)∧Dr w w':=by
 have HN:=Lib.hid hn;clear hn;have HX:=Lib.hid hx;clear hx;have HY:=Lib.hid hy;clear hy
 go_enter Tryz.func25,Tryz.ntmps25
 go_wp2
 go_loopw [6] (fun i wr=>∃ k:Nat,k≤n+12∧i=.int .i64 k∧Dr w wr) (fun i _=>n+12 - (intOf i).toNat)
 case atStart=>exact ⟨0,by omega,rfl,Dr.refl w⟩
 case round =>
  obtain ⟨k,hk,rfl,hd⟩:=hrel;by_cases hlt:k < n+12
  ·obtain ⟨y,ad,hyk,rfl,_,hcy⟩:=(HY.out.kp0 (hd.kp [])).ix (i:=k) (by have:=HN.out;rw [List.length_append,marksB_len];omega);by_cases hkn:k < n
   ·obtain ⟨x,bd,hxk,rfl,_,hcx⟩:=(HX.out.kp0 (hd.kp [])).ix (i:=k) (by have:=HN.out;omega)
    have he:y=x:=by
     rw [List.getElem?_append_left (by have:=HN.out;omega),hxk] at hyk;exact (Option.some.inj hyk).symm
    subst he;clear hxk hyk;have hd1:decide ((k:Int) < (n:Int))=true:=by simp;omega
    have hd2:decide (n≤k)=false:=by simp;omega
    go_wp2
    go_quiet (fail)
    go_wp2
    go_roundw
    case rel=>exact ⟨k+1,by omega,by go_num,hd.drewN _⟩
    case measure=>simp [intOf];omega
   ·have he:y=markB 1 ((k:Int) - n):=by
     rw [List.getElem?_append_right (by have:=HN.out;omega),marksB_get _ _ _ (by have:=HN.out;omega)] at hyk;rw [← Option.some.inj hyk,HN.out]
     congr 1
     omega
    subst he;clear hyk;have hd1:decide ((k:Int) < (n:Int))=false:=by simp;omega
    have hd2:decide (n≤k)=true:=by simp;omega
    go_wp2
    go_quiet ((go_at_call 48;exact quiet_eq (markB_any _ _ _ (by omega) (by omega) (by omega) (by omega))))
    go_wp2
    go_roundw
    case rel=>exact ⟨k+1,by omega,by go_num,hd.drewN _⟩
    case measure=>simp [intOf];omega
  ·go_wp2
   go_ret;exact ⟨rfl,hd⟩

set_option maxHeartbeats 400000 in
theorem sameB (A A':Option Addr) (n m c c' B B':Nat) (xs ys:List Int) (w:World) (hx:Rd w B A (xs.map (.int .u8))) (hy:Rd w B' A' (ys.map (.int .u8))) (hn:xs.length=n) (hm:ys.length=m) (hb:n≤1000000000) (hb':m≤1000000000) :
  Calls Tryz.prog 28 #[.slice A n c,.slice A' m c'] w fun e w'=>e=.returned (.bool (decide (xs=ys)))∧Dr w w':=by
 have HN:=Lib.hid hn;clear hn;have HM:=Lib.hid hm;clear hm;have HX:=Lib.hid hx;clear hx;have HY:=Lib.hid hy;clear hy;by_cases hnm:n=m
 ·subst hnm
  go_enter Tryz.func28,Tryz.ntmps28
  go_wp2
  go_loopw [5] (fun i wr=>∃ k:Nat,k≤n∧i=.int .i64 k∧Hid (xs.take k=ys.take k)∧Dr w wr) (fun i _=>n - (intOf i).toNat)
  case atStart=>exact ⟨0,by omega,rfl,Lib.hid (by simp),Dr.refl w⟩
  case round =>
   obtain ⟨k,hk,rfl,hpre,hd⟩:=hrel;by_cases hlt:k < n
   ·obtain ⟨x,ad,hxk,rfl,_,hcx⟩:=(HX.out.kp0 (hd.kp [])).ix (i:=k) (by have:=HN.out;omega);obtain ⟨y,bd,hyk,rfl,_,hcy⟩:=(HY.out.kp0 (hd.kp [])).ix (i:=k) (by have:=HM.out;omega);have hp1:=take_succ_of hxk;have hp2:=take_succ_of hyk;have HP1:=Lib.hid hp1;clear hp1;have HP2:=Lib.hid hp2;clear hp2;have HXK:=Lib.hid hxk;clear hxk;have HYK:=Lib.hid hyk;clear hyk;by_cases hxy:x=y
    ·subst hxy
     go_wp2
     go_quiet (fail)
     go_wp2
     go_roundw
     case rel=>exact ⟨k+1,by omega,by go_num,Lib.hid (by rw [HP1.out,HP2.out,hpre.out]),hd.drewN _⟩
     case measure=>simp [intOf];omega
    ·have hne:(x != y)=true:=by simpa using hxy
     have HXY:=Lib.hid hxy;clear hxy
     go_wp2
     go_quiet (fail)
     go_wp2
     go_ret;refine ⟨?_,hd.drewN _⟩
     have:xs ≠ ys:=fun e=>HXY.out (by
      have:=HXK.out;rw [e,HYK.out] at this
      exact (Option.some.inj this).symm)
     simp [this]
   ·go_wp2
    go_ret;refine ⟨?_,hd⟩;have h1:=hpre.out;rw [List.take_of_length_le (by have:=HN.out;omega),List.take_of_length_le (by have:=HM.out;omega)] at h1
    simp [h1]
 ·have hne:xs ≠ ys:=fun e=>hnm (by rw [← HN.out,← HM.out,e])
  have hd1:((n:Int) != (m:Int))=true:=by simp;omega
  have HE:=Lib.hid hne;clear hne;have HF:=Lib.hid hnm;clear hnm
  go_enter Tryz.func28,Tryz.ntmps28
  go_wp2
  go_ret;exact ⟨by simp [HE.out],Dr.refl w⟩

set_option maxHeartbeats 400000 in
theorem overB_some (g n c:Nat) (l:List Value) (w:World) (hg:Blk w g 5 l) (hl:l.length=c) (hn:n≤c) (hc:c≤9223372036854775807) (hb:n≤1000000000) :
  Calls Tryz.prog 18 #[.slice (some ⟨g,0,none⟩) n c] w fun e w'=>e=.returned (.tuple #[])∧Kp [g] w w':=by
 have HL:=Lib.hid hl;clear hl;have HG:=Lib.hid hg;clear hg;by_cases hcn:c≤n+12
 ·go_enter Tryz.func18,Tryz.ntmps18
  go_wp2
  go_loopw [3] (fun i wr=>∃ k:Nat,k≤c∧i=.int .i64 k∧(∃ l':List Value,Blk wr g 5 l'∧l'.length=c)∧Kp [g] w wr) (fun i _=>c - (intOf i).toNat)
  case atStart=>exact ⟨0,by omega,rfl,⟨l,HG.out,HL.out⟩,Kp.refl _ w⟩
  case round =>
   obtain ⟨k,hk,rfl,⟨l',hbk,hll⟩,hkp⟩:=hrel;by_cases hlt:k < c
   ·obtain ⟨u0,_,hcell⟩:=hbk.ix (i:=k) (by omega);have hfree:=hbk.free k;have HB:=Lib.hid hbk;clear hbk;have HLL:=Lib.hid hll;clear hll
    go_wp2_with (first | (go_at_call 48;refine (markB_any 2 (k:Int) _ (by omega) (by omega) (by omega) (by omega)).mono ?_;rintro e w' ⟨rfl,rfl⟩))
    go_roundw
    case rel=>exact ⟨k+1,by omega,by go_num,⟨_,HB.out.set_ k _,by rw [List.length_set];exact HLL.out⟩,hkp.setCell (.inl (by simp)) _⟩
    case measure=>simp [intOf];omega
   ·clear hbk hll
    go_wp2
    go_end0
    exact ⟨rfl,hkp⟩
 ·go_enter Tryz.func18,Tryz.ntmps18
  go_wp2
  go_loopw [3] (fun i wr=>∃ k:Nat,k≤n+12∧i=.int .i64 k∧(∃ l':List Value,Blk wr g 5 l'∧l'.length=c)∧Kp [g] w wr) (fun i _=>n+12 - (intOf i).toNat)
  case atStart=>exact ⟨0,by omega,rfl,⟨l,HG.out,HL.out⟩,Kp.refl _ w⟩
  case round =>
   obtain ⟨k,hk,rfl,⟨l',hbk,hll⟩,hkp⟩:=hrel;by_cases hlt:k < n+12
   ·obtain ⟨u0,_,hcell⟩:=hbk.ix (i:=k) (by omega);have hfree:=hbk.free k;have HB:=Lib.hid hbk;clear hbk;have HLL:=Lib.hid hll;clear hll
    go_wp2_with (first | (go_at_call 48;refine (markB_any 2 (k:Int) _ (by omega) (by omega) (by omega) (by omega)).mono ?_;rintro e w' ⟨rfl,rfl⟩))
    go_roundw
    case rel=>exact ⟨k+1,by omega,by go_num,⟨_,HB.out.set_ k _,by rw [List.length_set];exact HLL.out⟩,hkp.setCell (.inl (by simp)) _⟩
    case measure=>simp [intOf];omega
   ·clear hbk hll
    go_wp2
    go_end0
    exact ⟨rfl,hkp⟩

set_option maxHeartbeats 400000 in
theorem overB_none (w:World) :
  Calls Tryz.prog 18 #[.slice none 0 0] w fun e w'=>e=.returned (.tuple #[])∧w=w':=by
 go_enter Tryz.func18,Tryz.ntmps18
 go_wp2
 go_loopw [3] (fun i wr=>i=.int .i64 0∧w=wr) (fun _ _=>0)
 case atStart=>exact ⟨rfl,rfl⟩
 case round =>
  obtain ⟨rfl,rfl⟩:=hrel
  go_wp2
  go_end0
  exact ⟨rfl,rfl⟩

theorem overB (base n c:Nat) (A:Option Addr) (xs:List Value) (w:World) (h:w.ownsRow base 5 1 (.slice A n c) n xs) (hb:n≤1000000000) :
  Calls Tryz.prog 18 #[.slice A n c] w fun e w'=>e=.returned (.tuple #[])∧Kp (ownL (.slice A n c)) w w':=by
 rcases own_blk h with ⟨hv,rfl,_⟩ | ⟨g,cap,rest,hv,_,hg,hn,hm,hl,hc⟩
 ·injection hv with h1 h2 h3
  subst h1 h3;exact (overB_none w).mono fun e w' ⟨he,hw⟩=>⟨he,hw ▸ Kp.refl _ _⟩
 ·injection hv with h1 h2 h3
  subst h1 h3;exact overB_some g n c _ w hg (by simpa using hc) hn (by simpa only [maxLen] using hm) hb

theorem Tryz.info_int:(Tryz.prog.info? 3).map (fun i=>(i.zero,i.size,i.bytes))=some (some (.int .i64 0),1,8):=by kernel_rfl

end Go.Proofs.YtanacapkfllbnaaGreatDoor
namespace Go.Proofs.YtanacapkfllbnaaGreatDoor

end Go.Proofs.YtanacapkfllbnaaGreatDoor
namespace Go.Proofs.YtanacapkfllbnaaGreatDoor
open Go.RowKit
def Wts (l:List Int):Prop:=∀ x ∈ l,0≤x∧x≤4294967296
def okW (l:List Int):Prop:=Wts l∧0 < l.length∧l.length≤257
theorem Wts.of_take {l:List Int} {k:Nat} (h:Wts (l.take k)) (hk:l.length≤k):Wts l:=by rwa [List.take_of_length_le hk] at h
theorem Wts.snoc {l:List Int} {k:Nat} {x:Int} (h:Wts (l.take k)) (hx:l[k]? = some x) (h0:0≤x) (h1:x≤4294967296):Wts (l.take (k+1)):=by
 rw [take_succ_of hx];intro y hy;simp only [List.mem_append,List.mem_singleton] at hy
 rcases hy with hy | rfl
 ·exact h y hy
 ·exact ⟨h0,h1⟩

open Classical in
theorem right_any (A:Option Addr) (n c B:Nat) (l:List Int) (w:World) (hx:Rd w B A (l.map (.int .i64))) (hn:l.length=n) (hb:n≤1000000000) :
  Calls Tryz.prog 109 #[.slice A n c] w fun e w'=>e=.returned (.bool (decide (okW l)))∧w=w':=by
 have HN:=Lib.hid hn;clear hn;have HX:=Lib.hid hx;clear hx
 go_enter Tryz.func109,Tryz.ntmps109
 go_wp2
 go_loopw [7] (fun i wr=>∃ k:Nat,k≤n∧i=.int .i64 k∧Hid (Wts (l.take k))∧w=wr) (fun i _=>n - (intOf i).toNat)
 case atStart=>exact ⟨0,by omega,rfl,Lib.hid (by intro x hx;simp at hx),rfl⟩
 case round =>
  obtain ⟨k,hk,rfl,hpre,rfl⟩:=hrel;by_cases hlt:k < n
  ·obtain ⟨x,ad,hxk,rfl,_,hcx⟩:=HX.out.ix (i:=k) (by have:=HN.out;omega);have HXK:=Lib.hid hxk;clear hxk;by_cases h0:x < 0
   ·have hno:¬ okW l:=fun h=>by have:=(h.1 x (List.mem_of_getElem? HXK.out)).1;omega
    have hf:decide (okW l)=false:=by simp [hno]
    have HF:=Lib.hid hf;clear hf hno
    go_wp2
    go_ret;exact ⟨by rw [HF.out];rfl,rfl⟩
   ·by_cases h1:4294967296 < x
    ·have hno:¬ okW l:=fun h=>by have:=(h.1 x (List.mem_of_getElem? HXK.out)).2;omega
     have hf:decide (okW l)=false:=by simp [hno]
     have HF:=Lib.hid hf;clear hf hno
     go_wp2
     go_ret;exact ⟨by rw [HF.out];rfl,rfl⟩
    ·go_wp2
     go_roundw
     case rel=>exact ⟨k+1,by omega,by go_num,Lib.hid (hpre.out.snoc HXK.out (by omega) (by omega)),trivial⟩
     case measure=>simp [intOf];omega
  ·have hw:Wts l:=hpre.out.of_take (by have:=HN.out;omega)
   have hok:okW l ↔ (0 < n∧n≤257):=by
    rw [← HN.out];exact ⟨fun h=>h.2,fun h=>⟨hw,h⟩⟩
   have HOK:=Lib.hid hok;clear hok hw;by_cases h1:0 < n
   ·by_cases h2:n≤257
    ·have hf:decide (okW l)=true:=by simp [HOK.out,h1,h2]
     have HF:=Lib.hid hf;clear hf;have hdn:decide ((n:Int)≤257)=true:=by simp;omega
     go_wp2
     go_ret;exact ⟨by rw [HF.out];rfl,rfl⟩
    ·have hf:decide (okW l)=false:=by simp [HOK.out,h2]
     have HF:=Lib.hid hf;clear hf;have hdn:decide ((n:Int)≤257)=false:=by simp;omega
     go_wp2
     go_ret;exact ⟨by rw [HF.out];rfl,rfl⟩
   ·have hf:decide (okW l)=false:=by simp [HOK.out,h1]
    have HF:=Lib.hid hf;clear hf
    go_wp2
    go_ret;exact ⟨by rw [HF.out];rfl,rfl⟩
open Classical in
theorem rweights_any (A:Option Addr) (n c B:Nat) (l:List Int) (w:World) (hx:Rd w B A (l.map (.int .i64))) (hn:l.length=n) (hb:n≤1000000000) :
  Calls Tryz.prog 138 #[.slice A n c] w fun e w'=>e=.returned (.bool (decide (okW l)))∧Dr w w':=by
 have HN:=Lib.hid hn;clear hn;have HX:=Lib.hid hx;clear hx
 go_enter Tryz.func138,Tryz.ntmps138
 go_wp2
 go_loopw [3] (fun i wr=>∃ k:Nat,k≤n∧i=.int .i64 k∧Hid (Wts (l.take k))∧Dr w wr) (fun i _=>n - (intOf i).toNat)
 case atStart=>exact ⟨0,by omega,rfl,Lib.hid (by intro x hx;simp at hx),Dr.refl w⟩
 case round =>
  obtain ⟨k,hk,rfl,hpre,hd⟩:=hrel;by_cases hlt:k < n
  ·obtain ⟨x,ad,hxk,rfl,_,hcx⟩:=(HX.out.kp0 (hd.kp [])).ix (i:=k) (by have:=HN.out;omega);have HXK:=Lib.hid hxk;clear hxk;by_cases h0:x < 0
   ·have hno:¬ okW l:=fun h=>by have:=(h.1 x (List.mem_of_getElem? HXK.out)).1;omega
    have hf:decide (okW l)=false:=by simp [hno]
    have HF:=Lib.hid hf;clear hf hno
    go_wp2
    go_ret;exact ⟨by rw [HF.out];rfl,hd⟩
   ·by_cases h1:4294967296 < x
    ·have hno:¬ okW l:=fun h=>by have:=(h.1 x (List.mem_of_getElem? HXK.out)).2;omega
     have hf:decide (okW l)=false:=by simp [hno]
     have HF:=Lib.hid hf;clear hf hno
     go_wp2
     go_ret;exact ⟨by rw [HF.out];rfl,hd⟩
    ·go_wp2
     go_roundw
     case rel=>exact ⟨k+1,by omega,by go_num,Lib.hid (hpre.out.snoc HXK.out (by omega) (by omega)),hd⟩
     case measure=>simp [intOf];omega
  ·have hw:Wts l:=hpre.out.of_take (by have:=HN.out;omega)
   have hok:okW l ↔ (0 < n∧n≤257):=by
    rw [← HN.out];exact ⟨fun h=>h.2,fun h=>⟨hw,h⟩⟩
   have HOK:=Lib.hid hok;clear hok hw;by_cases h1:0 < n
   ·by_cases h2:n≤257
    ·have hf:decide (okW l)=true:=by simp [HOK.out,h1,h2]
     have HF:=Lib.hid hf;clear hf;have hdn:decide ((n:Int)≤257)=true:=by simp;omega
     go_wp2
     go_ret;exact ⟨by rw [HF.out];rfl,hd⟩
    ·have hf:decide (okW l)=false:=by simp [HOK.out,h2]
     have HF:=Lib.hid hf;clear hf;have hdn:decide ((n:Int)≤257)=false:=by simp;omega
     go_wp2
     go_ret;exact ⟨by rw [HF.out];rfl,hd⟩
   ·have hf:decide (okW l)=false:=by simp [HOK.out,h1]
    have HF:=Lib.hid hf;clear hf
    go_wp2
    go_ret;exact ⟨by rw [HF.out];rfl,hd⟩

def wt (l:List Int) (k:Nat):Nat:=(l.getD k 0).toNat
def sumsL (l:List Int) (n:Nat):List Int:=(List.range n).map fun k=>((pre (wt l) k:Nat):Int)
theorem sumsL_succ (l:List Int) (n:Nat):sumsL l (n+1)=sumsL l n ++ [((pre (wt l) n:Nat):Int)]:=by simp [sumsL,List.range_succ]
theorem sumsL_get (l:List Int) {n k:Nat} (h:k < n):(sumsL l n)[k]? = some ((pre (wt l) k:Nat):Int):=by simp [sumsL,h]
theorem wt_le {l:List Int} (h:Wts l) (k:Nat):wt l k≤4294967296:=by
 unfold wt;rw [List.getD_eq_getElem?_getD]
 cases hk:l[k]? with
 | none=>simp
 | some x=>have:=h x (List.mem_of_getElem? hk);simp;omega
theorem wt_get {l:List Int} (h:Wts l) {k:Nat} {x:Int} (hx:l[k]? = some x):x=((wt l k:Nat):Int):=by
 have:=h x (List.mem_of_getElem? hx);unfold wt;rw [List.getD_eq_getElem?_getD,hx]
 simp
 omega
theorem pre_le {l:List Int} (h:Wts l) (k:Nat):pre (wt l) k≤k * 4294967296:=by
 induction k with
 | zero=>simp [pre]
 | succ k ih=>have:=wt_le h k;simp only [pre];omega

set_option maxHeartbeats 1000000 in
theorem summed_any (A:Option Addr) (n c B:Nat) (l:List Int) (w:World) (hx:Rd w B A (l.map (.int .i64))) (hn:l.length=n) (hb:n≤300) (hw:Wts l) :
  Calls Tryz.prog 151 #[.slice A n c] w fun e w'=>∃ A' c',e=.returned (.slice A' (n+1) c')∧w'.ownsRow w.heap.size 3 1 (.slice A' (n+1) c') (n+1) ((sumsL l (n+1)).map (.int .i64))∧Kp [] w w':=by
 obtain ⟨i0,hi,hz0,hz1,hz2⟩:=info_parts Tryz.info_int;have HN:=Lib.hid hn;clear hn;have HX:=Lib.hid hx;clear hx;have HW:=Lib.hid hw;clear hw
 go_enter Tryz.func151,Tryz.ntmps151
 go_wp2
 go_loopw [3,9] (fun s i wr=>∃ k:Nat,k≤n∧i=.int .i64 k∧wr.ownsRow w.heap.size 3 1 s (k+1) ((sumsL l (k+1)).map (.int .i64))∧Kp [] w wr) (fun _ i _=>n - (intOf i).toNat)
 case atStart=>exact ⟨0,by omega,rfl,own_of_blk (xs:=[.int .i64 0]) (rest:=[]) (Blk.new w 3 [.int .i64 0]) (Nat.le_refl _) (Nat.le_refl _) (by unfold maxLen;omega) rfl rfl,(Kp.refl [] w).alloc _⟩
 case round =>
  obtain ⟨k,hk,rfl,hown,hkp⟩:=hrel;obtain ⟨A1,c1,rfl,hc1,_⟩:=own_form hown;by_cases hlt:k < n
  ·obtain ⟨x,ad,hxk,rfl,_,hcx⟩:=(HX.out.kp0 hkp).ix (i:=k) (by have:=HN.out;omega);obtain ⟨b,rfl,hbb⟩:∃ b:Nat,x=(b:Int)∧b≤4294967296:=⟨wt l k,wt_get HW.out hxk,wt_le HW.out k⟩;obtain ⟨a,ha⟩:∃ a,a=pre (wt l) k:=⟨_,rfl⟩
   have hab:a≤300 * 4294967296:=by
    have:=pre_le HW.out k;have:k * 4294967296≤300 * 4294967296:=Nat.mul_le_mul_right _ (by omega);omega
   obtain ⟨bd,rfl,_,hcl⟩:=(own_rd hown).at_ (i:=k) (u:=.int .i64 (a:Int)) (by rw [List.getElem?_map,sumsL_get l (by omega),ha];rfl)
   have hnext:((a:Int)+(b:Int))=((pre (wt l) (k+1):Nat):Int):=by
    have:=wt_get HW.out hxk;simp only [pre]
    omega
   have HNX:=Lib.hid hnext;clear hnext ha;have HXK:=Lib.hid hxk;clear hxk;have HO:=Lib.hid hown;clear hown;have HK:=Lib.hid hkp;clear hkp
   go_wp2_with (at_builtin;go_loud (refine wpList_append_rd rfl (.tmp 13) (.tmp 22) 216 rfl w.heap.size 3 i0 (.int .i64 0) 1 8 Tryz.underlying216 hi hz0 hz1 hz2 rfl (by decide) _ (k+1) _ rfl (HO.out.alloc _) _ _ 1 1 [.int .i64 ((a:Int)+(b:Int))] rfl rfl (Rd.new wr _ _ _) (by simp [Value.oneCell']) (by unfold maxLen;omega) (by omega) (by have:=HK.out.size;simp;omega) ?_);intro v2 w2 hown2 hgrow2 hat2)
   refine ⟨⟨k+1,by omega,by go_num,?_,(HK.out.alloc _).grown hgrow2 (fun g hg=>.inr (own_ge HO.out hg).1)⟩,by simp [intOf];omega⟩;rw [sumsL_succ,List.map_append,← HNX.out];exact hown2
  ·obtain rfl:k=n:=by omega
   have HO:=Lib.hid hown;clear hown;have HK:=Lib.hid hkp;clear hkp
   go_wp2
   go_ret;exact ⟨A1,c1,rfl,HO.out,HK.out⟩
def rowV (n:Nat) (f:Nat→Nat × Nat):List Value:=(List.range n).flatMap fun j=>[.int .i64 ((f j).1:Int),.int .i64 ((f j).2:Int)]
theorem rowV_succ (n:Nat) (f:Nat→Nat × Nat):rowV (n+1) f=rowV n f ++ [.int .i64 ((f n).1:Int),.int .i64 ((f n).2:Int)]:=by
 simp [rowV,List.range_succ]
theorem rowV_len (n:Nat) (f:Nat→Nat × Nat):(rowV n f).length=2 * n:=by
 induction n with
 | zero=>rfl
 | succ n ih=>rw [rowV_succ,List.length_append,ih];simp;omega
theorem rowV_get {n j:Nat} (f:Nat→Nat × Nat) (h:j < n):(rowV n f)[2 * j]? = some (.int .i64 ((f j).1:Int))∧(rowV n f)[2 * j+1]? = some (.int .i64 ((f j).2:Int)):=by
 induction n with
 | zero=>omega
 | succ n ih =>
   rw [rowV_succ];by_cases hj:j=n
   ·subst hj;rw [List.getElem?_append_right (by rw [rowV_len];omega),List.getElem?_append_right (by rw [rowV_len];omega),rowV_len];rw [show 2 * j - 2 * j=0 from by omega,show 2 * j+1 - 2 * j=1 from by omega];exact ⟨rfl,rfl⟩
   ·rw [List.getElem?_append_left (by rw [rowV_len];omega),List.getElem?_append_left (by rw [rowV_len];omega)];exact ih (by omega)
def upd (f:Nat→Nat × Nat) (j:Nat) (c:Nat × Nat):Nat→Nat × Nat:=fun k=>if k=j then c else f k
theorem rowV_congr {n:Nat} {f g:Nat→Nat × Nat} (h:∀ k,k < n→f k=g k):rowV n f=rowV n g:=by
 induction n with
 | zero=>rfl
 | succ n ih=>rw [rowV_succ,rowV_succ,ih (fun k hk=>h k (by omega)),h n (by omega)]
theorem rowV_set {n j:Nat} (f:Nat→Nat × Nat) (a b:Nat) (h:j < n):((rowV n f).set (2 * j) (.int .i64 (a:Int))).set (2 * j+1) (.int .i64 (b:Int))=rowV n (upd f j (a,b)):=by
 induction n with
 | zero=>omega
 | succ n ih =>
   rw [rowV_succ,rowV_succ];by_cases hj:j=n
   ·subst hj;rw [List.set_append_right _ _ (by rw [rowV_len];omega),rowV_len,List.set_append_right _ _ (by rw [rowV_len];omega),rowV_len];rw [show 2 * j - 2 * j=0 from by omega,show 2 * j+1 - 2 * j=1 from by omega];rw [rowV_congr (f:=upd f j (a,b)) (g:=f) (fun k hk=>by unfold upd;rw [if_neg (by omega)])]
    simp [upd]
   ·rw [List.set_append_left _ _ (by rw [rowV_len];omega),List.set_append_left _ _ (by rw [List.length_set,rowV_len];omega),ih (by omega)]
    simp [upd,Ne.symm hj]

structure Tab (w:World) (g G n:Nat) (R:Nat→Nat) (D:Nat→Nat→Nat × Nat) (As:Option Addr) (cs:Nat) (l:List Int):Prop where
 top:Blk w g 220 [.slice As (n+1) cs,.slice (some ⟨G,0,none⟩) n n]
 sums:Rd w w.heap.size As ((sumsL l (n+1)).map (.int .i64))
 rows:Blk w G 221 ((List.range n).map fun k=>.slice (some ⟨R k,0,none⟩) n n)
 row:∀ k,k < n→Blk w (R k) 223 (rowV n (D k))
 apart:∀ k m,k < n→m < n→R k=R m→k=m
theorem Tab.kp0 {w w':World} {g G n:Nat} {R:Nat→Nat} {D:Nat→Nat→Nat × Nat} {As:Option Addr} {cs:Nat} {l:List Int} (h:Tab w g G n R D As cs l) (hk:Kp [] w w'):Tab w' g G n R D As cs l:=
 ⟨h.top.kp0 hk,(h.sums.kp0 hk).bound hk.size,h.rows.kp0 hk,fun k hn=>(h.row k hn).kp0 hk,h.apart⟩
theorem Tab.at_ {w:World} {g G n:Nat} {R:Nat→Nat} {D:Nat→Nat→Nat × Nat} {As:Option Addr} {cs:Nat} {l:List Int} (h:Tab w g G n R D As cs l) {i j:Nat} (hi:i < n) (hj:j < n) :
  w.cell? ⟨g,1,none⟩=some (.slice (some ⟨G,0,none⟩) n n)∧w.cell? ⟨G,i,none⟩=some (.slice (some ⟨R i,0,none⟩) n n) ∧
  w.cell? ⟨R i,j * 2,none⟩=some (.int .i64 ((D i j).1:Int))∧w.cell? ⟨R i,j * 2+1,none⟩=some (.int .i64 ((D i j).2:Int)):=by
 rw [Nat.mul_comm j 2];refine ⟨by rw [h.top.cell];rfl,by rw [h.rows.cell];simp [hi],?_,?_⟩
 ·rw [(h.row i hi).cell];exact (rowV_get (D i) hj).1
 ·rw [(h.row i hi).cell];exact (rowV_get (D i) hj).2

def cellW (w:Nat→Nat) (i j:Nat):Nat × Nat:=(C w i j,if i=j then i+1 else K w i j)

set_option maxHeartbeats 1000000 in
theorem between_any (n i j c:Nat) (A:Option Addr) (l:List Int) (w:World) (hs:Rd w w.heap.size A ((sumsL l (n+1)).map (.int .i64))) (hw:Wts l) (hij:i≤j) (hj:j < n) (hn:n≤300) :
  Calls Tryz.prog 168 #[.slice A (n+1) c,.int .i64 i,.int .i64 j] w fun e w'=>e=.returned (.int .i64 ((S (wt l) i j:Nat):Int))∧Dr w w':=by
 obtain ⟨ad,rfl,_,h1⟩:=hs.at_ (i:=j+1) (u:=.int .i64 ((pre (wt l) (j+1):Nat):Int)) (by rw [List.getElem?_map,sumsL_get l (by omega)];rfl);obtain ⟨ad',he,_,h2⟩:=hs.at_ (i:=i) (u:=.int .i64 ((pre (wt l) i:Nat):Int)) (by rw [List.getElem?_map,sumsL_get l (by omega)];rfl);injection he with he
 subst he;have hm:=pre_mono (wt l) (show i≤j+1 by omega);have hle:=pre_le hw (j+1);obtain ⟨a,ha⟩:∃ a,a=pre (wt l) (j+1):=⟨_,rfl⟩;obtain ⟨b,hb⟩:∃ b,b=pre (wt l) i:=⟨_,rfl⟩
 have hab:a≤300 * 4294967296:=by
  have:(j+1) * 4294967296≤300 * 4294967296:=Nat.mul_le_mul_right _ (by omega);omega
 have hS:(a:Int) - (b:Int)=((S (wt l) i j:Nat):Int):=by unfold S;omega
 rw [← ha] at h1 hm;rw [← hb] at h2 hm;clear ha hb hle;have HS:=Lib.hid hS;clear hS;clear hs;obtain ⟨j1,hj1⟩:∃ j1,j1=j+1:=⟨_,rfl⟩;rw [← hj1] at h1;have hwj:IntKind.i64.wrap ((j:Int)+1)=(j1:Int):=by rw [IntKind.wrap_i64];omega
 have hws:IntKind.i64.wrap ((a:Int) - (b:Int))=(a:Int) - (b:Int):=by rw [IntKind.wrap_i64];omega
 have hjl:j1 < n+1:=by omega
 have hil:i < n+1:=by omega
 clear hj1
 go_enter Tryz.func168,Tryz.ntmps168
 go_wp2
 go_quiet (fail)
 go_wp2
 go_ret;exact ⟨by rw [← HS.out];rfl,(Dr.refl w).drewN _⟩
end Go.Proofs.YtanacapkfllbnaaGreatDoor
