/-
  THE CONTRACTS OF THE LIBRARY'S slices.Clone, Equal, Grow (of the nil slice), Concat, at rows of bytes.
  CONDITIONS: at most 10^9 elements in all.
-/
import Derived.Test.YtanacapkfllbnaaGreatDoorR07
import Derived.Lib.AppendZerosOnto
import Derived.Lib.SliceRun
import Derived.Lib.Walk
set_option maxRecDepth 100000
set_option maxHeartbeats 4000000
namespace Go.Proofs.YtanacapkfllbnaaGreatDoor
open Go.RowKit


theorem cloneB (A:Option Addr) (n c B:Nat) (xs:List Int) (w:World) (hx:Rd w B A (xs.map (.int .u8))) (hn:xs.length=n) (hb:n≤1000000000) :
  Calls Tryz.prog 49 #[.slice A n c] w fun e w'=>∃ A' c',e=.returned (.slice A' n c')∧w'.ownsRow w.heap.size 5 1 (.slice A' n c') n (xs.map (.int .u8))∧Kp [] w w':=by
 obtain ⟨i0,hi,hz0,hz1,hz2⟩:=info_parts Tryz.info_u8;have HN:=Lib.hid hn;clear hn;have HX:=Lib.hid hx;clear hx;have heq:=fun (w:World) (A:Option Addr) (n:Nat)=>Lib.run_eql_slice_nil (P:=Tryz.prog) w 41 5 A n c 0 0 Tryz.underlying41
 rcases A with _ | ad
 ·have hx0:xs=[]:=HX.out.none_nil;subst hx0;have hn0:n=0:=HN.out.symm;subst hn0
  go_enter Tryz.func49,Tryz.ntmps49
  go_wp2
  go_ret;exact ⟨none,0,rfl,World.ownsRow_nil w _ _ _,Kp.refl _ w⟩
 ·go_enter Tryz.func49,Tryz.ntmps49
  go_wp2_with (at_builtin;refine wpList_append_rd rfl (.tmp 5) (.tmp 6) 41 rfl w.heap.size 5 i0 (.int .u8 0) 1 1 Tryz.underlying41 hi hz0 hz1 hz2 rfl (by decide) (.slice (some ⟨w.heap.size,0,none⟩) 0 0) 0 [] rfl (World.ownsRow_made w #[] 0 (Nat.le_refl _) (Nat.zero_le _) rfl) B (some ad) n c (xs.map (.int .u8)) rfl (by simpa using HN.out) (HX.out.kp0 ((Kp.refl [] w).alloc _)) (by simp [Value.oneCell']) (by unfold maxLen;omega) (by omega) (by simp) ?_;intro v' w1 hown hgrow hat)
  have hkp:Kp [] w w1:=((Kp.refl [] w).alloc _).grown hgrow (by simp [Value.ownBlock]);obtain ⟨A',c',rfl,_⟩:=own_form hown;simp only [Nat.zero_add,List.nil_append] at hown
  have HO:=Lib.hid hown;clear hown;clear hgrow hat
  go_wp2
  go_ret;exact ⟨A',c',by simp,by simpa using HO.out,hkp⟩

theorem equalB (A A':Option Addr) (n m c c' B B':Nat) (xs ys:List Int) (w:World) (hx:Rd w B A (xs.map (.int .u8))) (hy:Rd w B' A' (ys.map (.int .u8))) (hn:xs.length=n) (hm:ys.length=m) (hb:n≤1000000000) (hb':m≤1000000000) :
  Calls Tryz.prog 147 #[.slice A n c,.slice A' m c'] w fun e w'=>e=.returned (.bool (decide (xs=ys)))∧Dr w w':=by
 have HN:=Lib.hid hn;clear hn;have HM:=Lib.hid hm;clear hm;have HX:=Lib.hid hx;clear hx;have HY:=Lib.hid hy;clear hy;by_cases hnm:n=m
 ·subst hnm
  go_enter Tryz.func147,Tryz.ntmps147
  go_wp2
  go_loopw [13] (fun i wr=>∃ k:Nat,k≤n∧i=.int .i64 k∧Hid (xs.take k=ys.take k)∧Dr w wr) (fun i _=>n - (intOf i).toNat)
  case atStart=>exact ⟨0,by omega,rfl,Lib.hid (by simp),Dr.refl w⟩
  case round =>
   obtain ⟨k,hk,rfl,hpre,hd⟩:=hrel;by_cases hlt:k < n
   ·obtain ⟨x,ad,hxk,rfl,_,hcx⟩:=(HX.out.kp0 (hd.kp [])).ix (i:=k) (by have:=HN.out;omega);obtain ⟨y,bd,hyk,rfl,_,hcy⟩:=(HY.out.kp0 (hd.kp [])).ix (i:=k) (by have:=HM.out;omega);have hp1:=take_succ_of hxk;have hp2:=take_succ_of hyk;have HP1:=Lib.hid hp1;clear hp1;have HP2:=Lib.hid hp2;clear hp2;have HXK:=Lib.hid hxk;clear hxk;have HYK:=Lib.hid hyk;clear hyk;by_cases hxy:x=y
    ·subst hxy
     go_wp2
     go_quiet (fail)
     go_wp2
     go_roundw
     case rel=>exact ⟨k+1,by omega,by go_num,Lib.hid (by rw [HP1.out,HP2.out,hpre.out]),hd.drewN _⟩
     case measure=>simp [intOf];omega
    ·have hne:(x != y)=true:=by simpa using hxy
     have HXY:=Lib.hid hxy;clear hxy
     go_wp2
     go_quiet (fail)
     go_wp2
     go_ret;refine ⟨?_,hd.drewN _⟩
     have:xs ≠ ys:=fun e=>HXY.out (by
      have:=HXK.out;rw [e,HYK.out] at this
      exact (Option.some.inj this).symm)
     simp [this]
   ·go_wp2
    go_ret;refine ⟨?_,hd⟩;have h1:=hpre.out;rw [List.take_of_length_le (by have:=HN.out;omega),List.take_of_length_le (by have:=HM.out;omega)] at h1
    simp [h1]
 ·have hne:xs ≠ ys:=fun e=>hnm (by rw [← HN.out,← HM.out,e])
  have hd1:((n:Int) != (m:Int))=true:=by simp;omega
  have HE:=Lib.hid hne;clear hne;have HF:=Lib.hid hnm;clear hnm
  go_enter Tryz.func147,Tryz.ntmps147
  go_wp2
  go_ret;exact ⟨by simp [HE.out],Dr.refl w⟩

theorem growNilB (n:Nat) (w:World) (hb:n≤1000000000) :
  Calls Tryz.prog 132 #[.slice none 0 0,.int .i64 n] w fun e w'=>∃ A c,e=.returned (.slice A 0 c)∧w'.ownsRow w.heap.size 5 1 (.slice A 0 c) 0 []∧Kp [] w w':=by
 obtain ⟨i0,hi,hz0,hz1,hz2⟩:=info_parts Tryz.info_u8;rcases Nat.eq_zero_or_pos n with h0 | h0
 ·subst h0
  go_enter Tryz.func132,Tryz.ntmps132
  go_wp2
  go_ret;exact ⟨none,0,rfl,World.ownsRow_nil w _ _ _,Kp.refl _ w⟩
 ·have hold:(Builtin.firstCells i0.size 0 (.slice none 0 0)).run Tryz.prog w.drew=.ok ([]:List Value).toArray w.drew:=by simp [Builtin.firstCells]
  have hrun:=Lib.run_append_grow_zeros (P:=Tryz.prog) w 41 3 41 5 i0 (.int .u8 0) .i64 .i64 Tryz.underlying41 Tryz.underlying3 hi hz0 none 0 0 [] hold n h0 (by omega) (by omega) (by omega) (by rw [hz2];omega) (by rw [hz2];simp only [Builtin.nextslicecap];rw [if_pos (by omega)];omega);have hcap:=grownCap_ge w (0+n) 0 5;have hmax:=grownCap_le_maxLen w (0+n) 0 5 (by unfold maxLen;omega);simp only [Nat.zero_add] at hrun hcap hmax
  generalize hgc:grownCap w n 0 5=gc at hrun hcap hmax
  clear hgc hold;have hmax':gc≤9223372036854775807:=by simpa only [maxLen] using hmax
  go_enter Tryz.func132,Tryz.ntmps132
  go_wp2_with (at_builtin;refine Lib.wpList_append_run _ rfl _ _ _ _ rfl _ _ rfl rfl _ _ hrun ?_)
  go_ret;refine ⟨_,gc,rfl,World.ownsRow_made w.drew _ gc (Nat.le_refl _) hmax ?_,((Kp.refl [] w).drew).alloc _⟩
  simp [Builtin.zeroCells]
  omega

theorem flat_take_succ {xss:List (List Int)} {k:Nat} {xs:List Int} (h:xss[k]? = some xs):(xss.take (k+1)).flatten=(xss.take k).flatten ++ xs:=by
 rw [take_succ_of h];simp
theorem flat_take_le (xss:List (List Int)) (k:Nat):(xss.take k).flatten.length≤xss.flatten.length:=by
 conv=>rhs;rw [← List.take_append_drop k xss]
 rw [List.flatten_append,List.length_append];omega

theorem concatB (A:Option Addr) (n c B:Nat) (xss:List (List Int)) (w:World) (hx:RdRows w B .u8 A xss) (hn:xss.length=n) (hb:n≤1000000000) (hf:xss.flatten.length≤1000000000) :
  Calls Tryz.prog 76 #[.slice A n c] w fun e w'=>∃ A' c',e=.returned (.slice A' xss.flatten.length c')∧w'.ownsRow w.heap.size 5 1 (.slice A' xss.flatten.length c') xss.flatten.length (xss.flatten.map (.int .u8))∧Kp [] w w':=by
 obtain ⟨i0,hi,hz0,hz1,hz2⟩:=info_parts Tryz.info_u8;have HN:=Lib.hid hn;clear hn;have HX:=Lib.hid hx;clear hx;have HF:=Lib.hid hf
 go_enter Tryz.func76,Tryz.ntmps76
 go_wp2
 go_loopw [3,11] (fun s i wr=>∃ k:Nat,k≤n∧i=.int .i64 k∧s=.int .i64 ((xss.take k).flatten.length:Nat)∧w=wr) (fun _ i _=>n - (intOf i).toNat)
 case atStart=>exact ⟨0,by omega,rfl,by simp,rfl⟩
 case round =>
  obtain ⟨k,hk,rfl,rfl,rfl⟩:=hrel;have hle:=flat_take_le xss k;by_cases hlt:k < n
  ·obtain ⟨xs,ad,Ai,ci,hxk,rfl,_,hcell,_,_⟩:=HX.out.ix (i:=k) (by have:=HN.out;omega);have hfl:=flat_take_succ hxk;have hle2:=flat_take_le xss (k+1);have hll:(xss.take (k+1)).flatten.length=(xss.take k).flatten.length+xs.length:=by rw [hfl,List.length_append]
   have HLL:=Lib.hid hll;have HXK:=Lib.hid hxk;clear hxk;have hs1:((xss.take k).flatten.length:Int)+(xs.length:Int)≤1000000000:=by omega
   clear hll hfl hle2
   generalize hq:(xss.take k).flatten.length=q at *
   have HQ:=Lib.hid hq;clear hq
   go_wp2
   go_roundw
   case rel=>exact ⟨k+1,by omega,by go_num,by rw [HLL.out];go_num,trivial⟩
   case measure=>simp [intOf];omega
  ·have hk':k=n:=by omega
   subst hk';have hq:(xss.take k).flatten.length=xss.flatten.length:=by rw [List.take_of_length_le (by have:=HN.out;omega)]
   rw [hq];clear hle hk hlt hq
   generalize hq:xss.flatten.length=q at *
   have HQ:=Lib.hid hq;clear hq
   go_wp2_with (go_at_call 132;refine (growNilB q _ hf).mono ?_;rintro e w1 ⟨A1,c1,rfl,hown1,hkp1⟩)
   have HK1:=Lib.hid hkp1;clear hkp1
   go_loopw [6,27] (fun s i wr=>∃ j:Nat,j≤k∧i=.int .i64 j∧wr.ownsRow w.heap.size 5 1 s (xss.take j).flatten.length ((xss.take j).flatten.map (.int .u8))∧Kp [] w wr) (fun _ i _=>k - (intOf i).toNat)
   case atStart=>exact ⟨0,by omega,rfl,by simpa using hown1,HK1.out⟩
   case round =>
    clear hown1;obtain ⟨j,hj,rfl,hown,hkp⟩:=hrel;by_cases hlt:j < k
    ·obtain ⟨xs,ad,Ai,ci,hxk,rfl,_,hcell,_,hrd⟩:=(HX.out.kp0 hkp).ix (i:=j) (by have:=HN.out;omega);have hfl:=flat_take_succ hxk;have hle:=flat_take_le xss (j+1);have hl1:(xss.take j).flatten.length+xs.length≤1000000000:=by rw [hfl,List.length_append,HQ.out] at hle;omega
     have HXK:=Lib.hid hxk;clear hxk;have HFL:=Lib.hid hfl;clear hfl;have HR:=Lib.hid hrd;clear hrd;have HO:=Lib.hid hown;clear hown;have HKP:=Lib.hid hkp;clear hkp;clear hle
     go_wp2_with (at_builtin;refine wpList_append_rd rfl (.tmp 31) (.tmp 32) 41 rfl w.heap.size 5 i0 (.int .u8 0) 1 1 Tryz.underlying41 hi hz0 hz1 hz2 rfl (by decide) _ (xss.take j).flatten.length _ rfl HO.out B Ai xs.length ci (xs.map (.int .u8)) rfl (by simp) HR.out (by simp [Value.oneCell']) (by unfold maxLen;omega) (by omega) HKP.out.size ?_;intro v' w2 hown2 hgrow2 hat2)
     go_roundw
     case rel=>exact ⟨j+1,by omega,by go_num,by rw [HFL.out,List.map_append,List.length_append];exact hown2,HKP.out.grown hgrow2 (fun g hg=>.inr (own_ge HO.out hg).1)⟩
     case measure=>simp [intOf];omega
    ·have hj':j=k:=by omega
     subst hj';have HO:=Lib.hid hown;clear hown
     go_wp2
     go_ret;have ho:=HO.out;rw [List.take_of_length_le (by have:=HN.out;omega),HQ.out] at ho;obtain ⟨A',c',rfl,_⟩:=own_form ho;exact ⟨A',c',by rw [HQ.out];rfl,by rw [HQ.out];exact ho,hkp⟩

end Go.Proofs.YtanacapkfllbnaaGreatDoor
