/-
  THE CONTRACTS OF LAYER 5, third part: the cell of a row.
  THE CONTRACTS OF LAYER 5, fourth part: the lengths of a row.
  CONDITIONS: as each lemma says.
-/
import Derived.Test.YtanacapkfllbnaaGreatDoorR07
import Derived.Test.YtanacapkfllbnaaGreatDoorR00
import Derived.Deep.DeepCutAuto
import Derived.RegionTactic
import Derived.Deep.RegionWith
set_option maxRecDepth 100000
set_option maxHeartbeats 4000000
namespace Go.Proofs.YtanacapkfllbnaaGreatDoor
open Go.RowKit

def spc (w:Nat→Nat) (i j k:Nat):Nat:=C w i (k - 1)+C w k j
def Best (f:Nat→Nat) (lo cur:Nat) (a b:Int):Prop:=
 (cur=lo∧a=-1∧b=0) ∨ (lo < cur∧∃ k,lo≤k∧k < cur∧a=(f k:Int)∧b=(k:Int)∧(∀ m,lo≤m→m < cur→f k≤f m)∧∀ m,lo≤m→m < k→f k < f m)
theorem Best.takes {f:Nat→Nat} {lo cur:Nat} {a b:Int} (h:Best f lo cur a b) (hc:lo≤cur) (hlt:a < 0 ∨ (f cur:Int) < a):Best f lo (cur+1) (f cur:Int) (cur:Int):=by
 refine .inr ⟨by omega,cur,hc,by omega,rfl,rfl,?_,?_⟩
 ·intro m hm hm';rcases h with ⟨h,_⟩ | ⟨_,k,_,hk,rfl,rfl,hmin,_⟩
  ·rw [show m=cur from by omega];exact Nat.le_refl _
  ·by_cases hmc:m=cur
   ·rw [hmc];exact Nat.le_refl _
   ·have:=hmin m hm (by omega);omega
 ·intro m hm hm';rcases h with ⟨h,_⟩ | ⟨_,k,_,hk,rfl,rfl,hmin,_⟩
  ·omega
  ·have:=hmin m hm (by omega);omega
theorem Best.keeps {f:Nat→Nat} {lo cur:Nat} {a b:Int} (h:Best f lo cur a b) (hlt:¬ (a < 0 ∨ (f cur:Int) < a)):Best f lo (cur+1) a b:=by
 rcases h with ⟨_,h,_⟩ | ⟨hc,k,hk1,hk2,rfl,rfl,hmin,hf⟩
 ·omega
 ·refine .inr ⟨by omega,k,hk1,by omega,rfl,rfl,?_,hf⟩;intro m hm hm';by_cases hmc:m=cur
  ·subst hmc;omega
  ·exact hmin m hm (by omega)
theorem Best.done {f:Nat→Nat} {lo hi p:Nat} {a b:Int} (h:Best f lo (hi+1) a b) (h1:lo≤p) (h2:p≤hi) (hmin:∀ k,lo≤k→k≤hi→f p≤f k) (hfst:∀ k,lo≤k→k < p→f p < f k):a=(f p:Int)∧b=(p:Int):=by
 rcases h with ⟨_,h,_⟩ | ⟨_,k,hk1,hk2,rfl,rfl,hmn,hf⟩
 ·omega
 ·have e:k=p:=by
   rcases Nat.lt_trichotomy k p with e | e | e
   ·have a1:=hfst k hk1 e;have a2:=hmn p h1 (by omega);omega
   ·exact e
   ·have a1:=hf p h1 e;have a2:=hmin k hk1 (by omega);omega
  subst e;exact ⟨rfl,rfl⟩
theorem C_bound (w:Nat→Nat):∀ (n i j:Nat),j - i=n→i≤j→C w i j≤n * pre w (j+1):=by
 intro n
 induction n using Nat.strongRecOn with
 | ind n ih =>
   intro i j hn hij;rcases Nat.eq_or_lt_of_le hij with e | e
   ·subst e;rw [C_self];exact Nat.zero_le _
   ·have b:=K_bound w e;rw [C_eq w e];have a1:=ih (K w i j - 1 - i) (by omega) i (K w i j - 1) rfl (by omega);have a2:=ih (j - K w i j) (by omega) (K w i j) j rfl b.2;rw [show K w i j - 1+1=K w i j from by omega] at a1;have m1:=pre_mono w (show K w i j≤j+1 by omega);have a3:(K w i j - 1 - i) * pre w (K w i j)≤(K w i j - 1 - i) * pre w (j+1):=Nat.mul_le_mul_left _ m1;have a4:S w i j≤pre w (j+1):=by unfold S;omega
    have a5:n * pre w (j+1)=(K w i j - 1 - i) * pre w (j+1)+(j - K w i j) * pre w (j+1)+pre w (j+1):=by
     rw [← Nat.add_mul,show n=(K w i j - 1 - i+(j - K w i j))+1 from by omega,Nat.add_mul,Nat.one_mul]
    omega

set_option maxHeartbeats 2000000 in
theorem best_any (g G n cs:Nat) (R:Nat→Nat) (D:Nat→Nat→Nat × Nat) (As:Option Addr) (l:List Int) (i j:Nat) (w:World) (ht:Tab w g G n R D As cs l) (hw:Wts l) (hn:n≤257) (hij:i < j) (hj:j < n)
  (hD:∀ a b,i≤a→a≤b→b≤j→b - a < j - i→D a b=cellW (wt l) a b) :
  Calls Tryz.prog 152 #[.pointer (some ⟨g,0,none⟩),.int .i64 i,.int .i64 j] w fun e w'=>e=.returned (.agg #[.int .i64 ((C (wt l) i j:Nat):Int),.int .i64 ((K (wt l) i j:Nat):Int)])∧Kp [] w w':=by
 have HT:=Lib.hid ht;clear ht;have HD:=Lib.hid hD;clear hD;have HW:=Lib.hid hw;clear hw
 go_enter Tryz.func152,Tryz.ntmps152
 go_wp2
 obtain ⟨j0,hj0⟩:∃ j0,j=j0+1:=⟨j - 1,by omega⟩;have hk1:Kp [] w (w.alloc (.cells #[.int .i64 0,.int .i64 0] 223)):=(Kp.refl [] w).alloc _;have HT1:=Lib.hid (HT.out.kp0 hk1);have hd1:=HD.out i j0 (Nat.le_refl _) (by omega) (by omega) (by omega);have hd2:=HD.out (i+1) j (by omega) (by omega) (by omega) (by omega);obtain ⟨c1,c2,c3,c4⟩:=HT1.out.at_ (i:=i) (j:=j0) (by omega) (by omega);obtain ⟨_,d2,d3,d4⟩:=HT1.out.at_ (i:=i+1) (j:=j) (by omega) (by omega);rw [hd1] at c3 c4;rw [hd2] at d3 d4;clear hd1 hd2;have hwj:IntKind.i64.wrap ((j:Int) - 1)=(j0:Int):=by rw [IntKind.wrap_i64];omega
 have hwi:IntKind.i64.wrap ((i:Int)+1)=((i+1:Nat):Int):=by rw [IntKind.wrap_i64];omega
 have hlow:(cellW (wt l) i j0).2=if j=i+1 then i+1 else K (wt l) i j0:=by
  show (if i=j0 then i+1 else K (wt l) i j0)=_
  by_cases e:j=i+1
  ·rw [if_pos e,if_pos (by omega)]
  ·rw [if_neg e,if_neg (by omega)]
 have hhigh:(cellW (wt l) (i+1) j).2=if j=i+1 then i+2 else K (wt l) (i+1) j:=by
  show (if i+1=j then i+1+1 else K (wt l) (i+1) j)=_
  by_cases e:j=i+1
  ·rw [if_pos e,if_pos e.symm]
  ·rw [if_neg e,if_neg (fun h=>e h.symm)]
 rw [hlow] at c4;rw [hhigh] at d4;clear hlow hhigh c3 d3;obtain ⟨i1,hi1⟩:∃ i1,i1=i+1:=⟨_,rfl⟩;have hKb:=K_bound (wt l) hij
 have hKl:j ≠ i+1→i1≤K (wt l) i j0∧K (wt l) i j0≤K (wt l) i j:=fun h=>by
  have a:=K_low (wt l) (show i < j0 by omega);rw [← hj0] at a;have b:=K_bound (wt l) (show i < j0 by omega);omega
 have hKh:j ≠ i+1→K (wt l) i j≤K (wt l) (i+1) j∧K (wt l) (i+1) j≤j:=fun h=>⟨K_high (wt l) (by omega),(K_bound (wt l) (by omega)).2⟩
 obtain ⟨lo,hlo⟩:∃ lo,lo=if j=i+1 then i+1 else K (wt l) i j0:=⟨_,rfl⟩
 obtain ⟨hi,hhi⟩:∃ hi,hi=if j=i+1 then i+2 else K (wt l) (i+1) j:=⟨_,rfl⟩
 rw [← hlo] at c4;rw [← hhi] at d4;rw [← hi1] at hwi d2 d4;have hjn0:j0 < n:=by omega
 have hin:i < n:=by omega
 have hi1n:i1 < n:=by omega
 have HJ0:=Lib.hid hj0;clear hj0;have HK1:=Lib.hid hk1;clear hk1;by_cases hji:j=i+1
 ·obtain rfl:j=i1:=by omega
  have HJI:=Lib.hid hji;clear hji;have HI1:=Lib.hid hi1;clear hi1;clear hKl hKh hlo hhi
  go_quiet (fail)
  go_wp2_with fail
  go_loopw [10] (fun x wr=>∃ (cur:Nat) (a b:Int),x=.int .i64 (cur:Int)∧j≤cur∧cur≤j+1∧Hid (Best (spc (wt l) i j) j cur a b)∧Hid (Blk wr (w.heap.size+1) 223 [.int .i64 a,.int .i64 b])∧Hid (Kp [] w wr)∧Hid (Kp [] (w.alloc (.cells #[.int .i64 0,.int .i64 0] 223)) wr)) (fun x _=>j+1 - (intOf x).toNat)
  case atStart=>exact ⟨j,-1,0,rfl,Nat.le_refl _,by omega,Lib.hid (.inl ⟨rfl,rfl,rfl⟩),Lib.hid (by have h:=Blk.new ((w.alloc (.cells #[.int .i64 0,.int .i64 0] 223)).drewN nq) 223 [.int .i64 (-1),.int .i64 0];simpa using h),Lib.hid ((HK1.out.drewN _).alloc _),Lib.hid (((Kp.refl [] _).drewN _).alloc _)⟩
  case round =>
   obtain ⟨cur,a,b,rfl,hc1,hc2,HB,HC,HK,HKA⟩:=hrel;have hx1:=HI1.out;have hx2:=HJ0.out;have hca:=HC.out.cell 0;have hcb:=HC.out.cell 1;simp only [List.getElem?_cons_zero,List.getElem?_cons_succ] at hca hcb
   have hfa:=HC.out.free 0;have hfb:=HC.out.free 1;by_cases hle:cur≤j
   ·obtain ⟨k0,hk0⟩:∃ k0,cur=k0+1:=⟨cur - 1,by omega⟩;have HTR:=Lib.hid (HT.out.kp0 HK.out);have hd1:=HD.out i k0 (Nat.le_refl _) (by omega) (by omega) (by omega);have hd2:=HD.out cur j (by omega) (by omega) (by omega) (by omega);obtain ⟨c1,c2,c3,_⟩:=HTR.out.at_ (i:=i) (j:=k0) (by omega) (by omega);obtain ⟨_,d2,d3,_⟩:=HTR.out.at_ (i:=cur) (j:=j) (by omega) (by omega);rw [hd1] at c3;rw [hd2] at d3;clear hd1 hd2;have hb1:=C_bound (wt l) _ i k0 rfl (by omega);have hb2:=C_bound (wt l) _ cur j rfl (by omega);have hp1:=pre_le HW.out (k0+1);have hp2:=pre_le HW.out (j+1);obtain ⟨ca,hca2⟩:∃ ca,ca=(cellW (wt l) i k0).1:=⟨_,rfl⟩;obtain ⟨cb,hcb2⟩:∃ cb,cb=(cellW (wt l) cur j).1:=⟨_,rfl⟩
    have hla:ca≤257 * (258 * 4294967296):=by
     rw [hca2];refine Nat.le_trans hb1 (Nat.mul_le_mul (by omega) (Nat.le_trans hp1 (Nat.mul_le_mul_right _ (by omega))))
    have hlb:cb≤257 * (258 * 4294967296):=by
     rw [hcb2];refine Nat.le_trans hb2 (Nat.mul_le_mul (by omega) (Nat.le_trans hp2 (Nat.mul_le_mul_right _ (by omega))))
    have hs:ca+cb=spc (wt l) i j cur:=by
     rw [hca2,hcb2,hk0];rfl
    rw [← hca2] at c3;rw [← hcb2] at d3;have hin:i < n:=by omega
    have hcn:cur < n:=by omega
    have hkn:k0 < n:=by omega
    have hw1:IntKind.i64.wrap ((cur:Int) - 1)=(k0:Int):=by rw [IntKind.wrap_i64];omega
    have hw2:IntKind.i64.wrap ((ca:Int)+(cb:Int))=(ca:Int)+(cb:Int):=by rw [IntKind.wrap_i64];omega
    have HS:=Lib.hid hs;clear hs;have HK0:=Lib.hid hk0;clear hk0;clear hx1 hx2 hb1 hb2 hp1 hp2 hca2 hcb2 hla hlb;go_wp2_with fail
    go_quiet (fail)
    go_wp2_with fail
    ·have hT:=HB.out.takes hc1 (by rw [← HS.out];omega);have e:((spc (wt l) i j cur:Nat):Int)=(ca:Int)+(cb:Int):=by rw [← HS.out];omega
     rw [e] at hT;refine ⟨⟨cur+1,_,_,by go_num,by omega,by omega,Lib.hid hT,Lib.hid (((HC.out.drewN nq).set_ 0 _).set_ 1 _),Lib.hid (((HK.out.drewN nq).setCell (.inr (Nat.le_succ _)) _).setCell (.inr (Nat.le_succ _)) _),Lib.hid (((HKA.out.drewN nq).setCell (.inr (by simp)) _).setCell (.inr (by simp)) _)⟩,by simp [intOf];omega⟩
    ·have hT:=HB.out.keeps (by rw [← HS.out];omega);exact ⟨⟨cur+1,_,_,by go_num,by omega,by omega,Lib.hid hT,Lib.hid (HC.out.drewN nq),Lib.hid (HK.out.drewN nq),Lib.hid (HKA.out.drewN nq)⟩,by simp [intOf];omega⟩
    ·have hT:=HB.out.takes hc1 (by rw [← HS.out];omega);have e:((spc (wt l) i j cur:Nat):Int)=(ca:Int)+(cb:Int):=by rw [← HS.out];omega
     rw [e] at hT;refine ⟨⟨cur+1,_,_,by go_num,by omega,by omega,Lib.hid hT,Lib.hid (((HC.out.drewN nq).set_ 0 _).set_ 1 _),Lib.hid (((HK.out.drewN nq).setCell (.inr (Nat.le_succ _)) _).setCell (.inr (Nat.le_succ _)) _),Lib.hid (((HKA.out.drewN nq).setCell (.inr (by simp)) _).setCell (.inr (by simp)) _)⟩,by simp [intOf];omega⟩
   ·have he:=HB.out;rw [show cur=j+1 from by omega] at he;obtain ⟨ea,eb⟩:=he.done (p:=K (wt l) i j) (by omega) (by omega) (fun k h1 h2=>K_min (wt l) (by omega) (by omega)) (fun k h1 h2=>K_first (wt l) (by omega) hij h2);have hCe:=C_eq (wt l) hij;have hTR:=HT.out.kp0 HK.out;have hs0:wr.cell? ⟨g,0,none⟩=some (.slice As (n+1) cs):=by rw [hTR.top.cell];rfl
    have HSR:=Lib.hid hTR.sums;clear hTR;have HCE:=Lib.hid hCe;clear hCe;rw [ea] at hca;rw [eb] at hcb;clear ea eb he hx1 hx2;obtain ⟨q,hq⟩:∃ q,q=spc (wt l) i j (K (wt l) i j):=⟨_,rfl⟩;rw [← hq] at hca;have HQ:=Lib.hid hq;clear hq
    have hSb:S (wt l) i j≤258 * 4294967296:=by
     have h1:=pre_le HW.out (j+1);have h2:(j+1) * 4294967296≤258 * 4294967296:=Nat.mul_le_mul_right _ (by omega);unfold S;omega
    have hqC:C (wt l) i j=S (wt l) i j+q:=by rw [HCE.out,HQ.out];rfl
    have hCb:C (wt l) i j≤257 * (258 * 4294967296):=by
     refine Nat.le_trans (C_bound (wt l) _ i j rfl (by omega)) (Nat.mul_le_mul (by omega) (Nat.le_trans (pre_le HW.out (j+1)) (Nat.mul_le_mul_right _ (by omega))))
    have hwc:IntKind.i64.wrap ((q:Int)+((S (wt l) i j:Nat):Int))=((C (wt l) i j:Nat):Int):=by rw [IntKind.wrap_i64];omega
    clear hSb hqC hCb;obtain ⟨Cij,hCij⟩:∃ c,c=C (wt l) i j:=⟨_,rfl⟩;rw [← hCij] at hwc;have HCIJ:=Lib.hid hCij;clear hCij;have HT0:=Lib.hid (show Blk wr w.heap.size 223 [.int .i64 0,.int .i64 0] from (by simpa using Blk.new w 223 [.int .i64 0,.int .i64 0]:Blk (w.alloc (.cells #[.int .i64 0,.int .i64 0] 223)) w.heap.size 223 [.int .i64 0,.int .i64 0]).kp0 HKA.out);have hr0:=HT0.out.cell 0;have hr1:=HT0.out.cell 1;simp only [List.getElem?_cons_zero,List.getElem?_cons_succ] at hr0 hr1
    have hg0:=HT0.out.free 0;have hg1:=HT0.out.free 1;have HSD:=Lib.hid (show Rd wr.drew wr.drew.heap.size As _ from HSR.out.kp0 ((Kp.refl [] _).drew))
    go_upto_region 11 with fail
    go_region_with (go_at_call 168;go_loud (refine (between_any n i j cs As l _ HSD.out HW.out (by omega) hj (by omega)).mono ?_);go_loud (rintro e w2 ⟨rfl,nd,rfl⟩))
    all_goals go_wp2_with fail
    all_goals refine bodyPost_ret (v:=.agg #[.int .i64 (Cij:Int),.int .i64 ((K (wt l) i j:Nat):Int)]) (by simp [results,Tryz.results152,go_sem,hr0,hr1]) rfl ⟨by rw [HCIJ.out],?_⟩
    all_goals exact (((HK.out.drewN (1+nd)).setCell (.inr (Nat.le_succ _)) _).setCell (.inr (Nat.le_refl _)) _).setCell (.inr (Nat.le_refl _)) _
 ·rw [if_neg hji] at hlo hhi;obtain ⟨k1,k2⟩:=hKl hji;obtain ⟨k3,k4⟩:=hKh hji;rw [← hlo] at k1 k2;rw [← hhi] at k3 k4;have hf:((j:Int) == (i1:Int))=false:=by rw [beq_eq_false_iff_ne];omega
  have hnl:¬ lo < i1:=by omega
  have HI1:=Lib.hid hi1;clear hi1;clear hKl hKh hlo hhi
  go_quiet (fail)
  go_wp2_with fail
  go_loopw [10] (fun x wr=>∃ (cur:Nat) (a b:Int),x=.int .i64 (cur:Int)∧lo≤cur∧cur≤hi+1∧Hid (Best (spc (wt l) i j) lo cur a b)∧Hid (Blk wr (w.heap.size+1) 223 [.int .i64 a,.int .i64 b])∧Hid (Kp [] w wr)∧Hid (Kp [] (w.alloc (.cells #[.int .i64 0,.int .i64 0] 223)) wr)) (fun x _=>hi+1 - (intOf x).toNat)
  case atStart=>exact ⟨lo,-1,0,rfl,Nat.le_refl _,by omega,Lib.hid (.inl ⟨rfl,rfl,rfl⟩),Lib.hid (by have h:=Blk.new ((w.alloc (.cells #[.int .i64 0,.int .i64 0] 223)).drewN nq) 223 [.int .i64 (-1),.int .i64 0];simpa using h),Lib.hid ((HK1.out.drewN _).alloc _),Lib.hid (((Kp.refl [] _).drewN _).alloc _)⟩
  case round =>
   obtain ⟨cur,a,b,rfl,hc1,hc2,HB,HC,HK,HKA⟩:=hrel;have hx1:=HI1.out;have hx2:=HJ0.out;have hca:=HC.out.cell 0;have hcb:=HC.out.cell 1;simp only [List.getElem?_cons_zero,List.getElem?_cons_succ] at hca hcb
   have hfa:=HC.out.free 0;have hfb:=HC.out.free 1;by_cases hle:cur≤hi
   ·obtain ⟨k0,hk0⟩:∃ k0,cur=k0+1:=⟨cur - 1,by omega⟩;have HTR:=Lib.hid (HT.out.kp0 HK.out);have hd1:=HD.out i k0 (Nat.le_refl _) (by omega) (by omega) (by omega);have hd2:=HD.out cur j (by omega) (by omega) (by omega) (by omega);obtain ⟨c1,c2,c3,_⟩:=HTR.out.at_ (i:=i) (j:=k0) (by omega) (by omega);obtain ⟨_,d2,d3,_⟩:=HTR.out.at_ (i:=cur) (j:=j) (by omega) (by omega);rw [hd1] at c3;rw [hd2] at d3;clear hd1 hd2;have hb1:=C_bound (wt l) _ i k0 rfl (by omega);have hb2:=C_bound (wt l) _ cur j rfl (by omega);have hp1:=pre_le HW.out (k0+1);have hp2:=pre_le HW.out (j+1);obtain ⟨ca,hca2⟩:∃ ca,ca=(cellW (wt l) i k0).1:=⟨_,rfl⟩;obtain ⟨cb,hcb2⟩:∃ cb,cb=(cellW (wt l) cur j).1:=⟨_,rfl⟩
    have hla:ca≤257 * (258 * 4294967296):=by
     rw [hca2];refine Nat.le_trans hb1 (Nat.mul_le_mul (by omega) (Nat.le_trans hp1 (Nat.mul_le_mul_right _ (by omega))))
    have hlb:cb≤257 * (258 * 4294967296):=by
     rw [hcb2];refine Nat.le_trans hb2 (Nat.mul_le_mul (by omega) (Nat.le_trans hp2 (Nat.mul_le_mul_right _ (by omega))))
    have hs:ca+cb=spc (wt l) i j cur:=by
     rw [hca2,hcb2,hk0];rfl
    rw [← hca2] at c3;rw [← hcb2] at d3;have hin:i < n:=by omega
    have hcn:cur < n:=by omega
    have hkn:k0 < n:=by omega
    have hw1:IntKind.i64.wrap ((cur:Int) - 1)=(k0:Int):=by rw [IntKind.wrap_i64];omega
    have hw2:IntKind.i64.wrap ((ca:Int)+(cb:Int))=(ca:Int)+(cb:Int):=by rw [IntKind.wrap_i64];omega
    have HS:=Lib.hid hs;clear hs;have HK0:=Lib.hid hk0;clear hk0;clear hx1 hx2 hb1 hb2 hp1 hp2 hca2 hcb2 hla hlb;go_wp2_with fail
    go_quiet (fail)
    go_wp2_with fail
    ·have hT:=HB.out.takes hc1 (by rw [← HS.out];omega);have e:((spc (wt l) i j cur:Nat):Int)=(ca:Int)+(cb:Int):=by rw [← HS.out];omega
     rw [e] at hT;refine ⟨⟨cur+1,_,_,by go_num,by omega,by omega,Lib.hid hT,Lib.hid (((HC.out.drewN nq).set_ 0 _).set_ 1 _),Lib.hid (((HK.out.drewN nq).setCell (.inr (Nat.le_succ _)) _).setCell (.inr (Nat.le_succ _)) _),Lib.hid (((HKA.out.drewN nq).setCell (.inr (by simp)) _).setCell (.inr (by simp)) _)⟩,by simp [intOf];omega⟩
    ·have hT:=HB.out.keeps (by rw [← HS.out];omega);exact ⟨⟨cur+1,_,_,by go_num,by omega,by omega,Lib.hid hT,Lib.hid (HC.out.drewN nq),Lib.hid (HK.out.drewN nq),Lib.hid (HKA.out.drewN nq)⟩,by simp [intOf];omega⟩
    ·have hT:=HB.out.takes hc1 (by rw [← HS.out];omega);have e:((spc (wt l) i j cur:Nat):Int)=(ca:Int)+(cb:Int):=by rw [← HS.out];omega
     rw [e] at hT;refine ⟨⟨cur+1,_,_,by go_num,by omega,by omega,Lib.hid hT,Lib.hid (((HC.out.drewN nq).set_ 0 _).set_ 1 _),Lib.hid (((HK.out.drewN nq).setCell (.inr (Nat.le_succ _)) _).setCell (.inr (Nat.le_succ _)) _),Lib.hid (((HKA.out.drewN nq).setCell (.inr (by simp)) _).setCell (.inr (by simp)) _)⟩,by simp [intOf];omega⟩
   ·have he:=HB.out;rw [show cur=hi+1 from by omega] at he;obtain ⟨ea,eb⟩:=he.done (p:=K (wt l) i j) (by omega) (by omega) (fun k h1 h2=>K_min (wt l) (by omega) (by omega)) (fun k h1 h2=>K_first (wt l) (by omega) hij h2);have hCe:=C_eq (wt l) hij;have hTR:=HT.out.kp0 HK.out;have hs0:wr.cell? ⟨g,0,none⟩=some (.slice As (n+1) cs):=by rw [hTR.top.cell];rfl
    have HSR:=Lib.hid hTR.sums;clear hTR;have HCE:=Lib.hid hCe;clear hCe;rw [ea] at hca;rw [eb] at hcb;clear ea eb he hx1 hx2;obtain ⟨q,hq⟩:∃ q,q=spc (wt l) i j (K (wt l) i j):=⟨_,rfl⟩;rw [← hq] at hca;have HQ:=Lib.hid hq;clear hq
    have hSb:S (wt l) i j≤258 * 4294967296:=by
     have h1:=pre_le HW.out (j+1);have h2:(j+1) * 4294967296≤258 * 4294967296:=Nat.mul_le_mul_right _ (by omega);unfold S;omega
    have hqC:C (wt l) i j=S (wt l) i j+q:=by rw [HCE.out,HQ.out];rfl
    have hCb:C (wt l) i j≤257 * (258 * 4294967296):=by
     refine Nat.le_trans (C_bound (wt l) _ i j rfl (by omega)) (Nat.mul_le_mul (by omega) (Nat.le_trans (pre_le HW.out (j+1)) (Nat.mul_le_mul_right _ (by omega))))
    have hwc:IntKind.i64.wrap ((q:Int)+((S (wt l) i j:Nat):Int))=((C (wt l) i j:Nat):Int):=by rw [IntKind.wrap_i64];omega
    clear hSb hqC hCb;obtain ⟨Cij,hCij⟩:∃ c,c=C (wt l) i j:=⟨_,rfl⟩;rw [← hCij] at hwc;have HCIJ:=Lib.hid hCij;clear hCij;have HT0:=Lib.hid (show Blk wr w.heap.size 223 [.int .i64 0,.int .i64 0] from (by simpa using Blk.new w 223 [.int .i64 0,.int .i64 0]:Blk (w.alloc (.cells #[.int .i64 0,.int .i64 0] 223)) w.heap.size 223 [.int .i64 0,.int .i64 0]).kp0 HKA.out);have hr0:=HT0.out.cell 0;have hr1:=HT0.out.cell 1;simp only [List.getElem?_cons_zero,List.getElem?_cons_succ] at hr0 hr1
    have hg0:=HT0.out.free 0;have hg1:=HT0.out.free 1;have HSD:=Lib.hid (show Rd wr.drew wr.drew.heap.size As _ from HSR.out.kp0 ((Kp.refl [] _).drew))
    go_upto_region 11 with fail
    go_region_with (go_at_call 168;go_loud (refine (between_any n i j cs As l _ HSD.out HW.out (by omega) hj (by omega)).mono ?_);go_loud (rintro e w2 ⟨rfl,nd,rfl⟩))
    all_goals go_wp2_with fail
    all_goals refine bodyPost_ret (v:=.agg #[.int .i64 (Cij:Int),.int .i64 ((K (wt l) i j:Nat):Int)]) (by simp [results,Tryz.results152,go_sem,hr0,hr1]) rfl ⟨by rw [HCIJ.out],?_⟩
    all_goals exact (((HK.out.drewN (1+nd)).setCell (.inr (Nat.le_succ _)) _).setCell (.inr (Nat.le_refl _)) _).setCell (.inr (Nat.le_refl _)) _
set_option maxHeartbeats 1000000 in
theorem lengths_any (g G n cs:Nat) (R:Nat→Nat) (D:Nat→Nat→Nat × Nat) (As:Option Addr) (l:List Int) (hn:n≤257):∀ (m i j deep:Nat) (w:World),j - i=m→i≤j→j < n→deep+m≤1000→Tab w g G n R D As cs l →
  (∀ a b,a≤b→b < n→D a b=cellW (wt l) a b) →
  Calls Tryz.prog 111 #[.pointer (some ⟨g,0,none⟩),.int .i64 i,.int .i64 j,.int .i64 deep] w fun e w'=>∃ A c,e=.returned (.slice A (j - i+1) c)∧w'.ownsRow w.heap.size 3 1 (.slice A (j - i+1) c) (j - i+1) ((lens (wt l) i j deep).map (.int .i64))∧Kp [] w w':=by
 obtain ⟨i0,hi,hz0,hz1,hz2⟩:=info_parts Tryz.info_int;intro m
 induction m using Nat.strongRecOn with
 | ind m ih =>
   intro i j deep w hm hij hj hdp ht hD;have IH:=Lib.hid ih;clear ih;have HT:=Lib.hid ht;clear ht;have HD:=Lib.hid hD;clear hD;have HM:=Lib.hid hm;clear hm;rcases Nat.eq_or_lt_of_le hij with hij | hlt
   ·subst hij
    go_enter Tryz.func111,Tryz.ntmps111
    go_wp2_with fail;go_ret;refine ⟨some ⟨w.heap.size,0,none⟩,1,by rw [Nat.sub_self];rfl,?_,(Kp.refl [] w).alloc _⟩;rw [lens_self,Nat.sub_self];exact own_of_blk (xs:=[.int .i64 (deep:Int)]) (rest:=[]) (Blk.new w 3 [.int .i64 (deep:Int)]) (Nat.le_refl _) (Nat.le_refl _) (by unfold maxLen;omega) rfl rfl
   ·obtain ⟨c1,c2,c3,c4⟩:=HT.out.at_ (i:=i) (j:=j) (by omega) (by omega);rw [HD.out i j (by omega) hj] at c4;have hKb:=K_bound (wt l) hlt
    have e:(cellW (wt l) i j).2=K (wt l) i j:=by
     show (if i=j then i+1 else K (wt l) i j)=_
     rw [if_neg (by omega)]
    rw [e] at c4;clear e c3;obtain ⟨k,hk⟩:∃ k,k=K (wt l) i j:=⟨_,rfl⟩;rw [← hk] at c4 hKb;obtain ⟨k1,hk1⟩:∃ k1,k=k1+1:=⟨k - 1,by omega⟩;have hwk:IntKind.i64.wrap ((k:Int) - 1)=(k1:Int):=by rw [IntKind.wrap_i64];omega
    have hwd:IntKind.i64.wrap ((deep:Int)+1)=((deep+1:Nat):Int):=by rw [IntKind.wrap_i64];omega
    have hin:i < n:=by omega
    have hne:((i:Int) == (j:Int))=false:=by simp;omega
    have HKC:=Lib.hid (show lens (wt l) i j deep=lens (wt l) i k1 (deep+1) ++ lens (wt l) k j (deep+1) by rw [lens_cut _ _ hlt,← hk,hk1];rfl);have HK1:=Lib.hid hk1;clear hk1 hk
    go_enter Tryz.func111,Tryz.ntmps111
    go_wp2_with fail;refine (IH.out (k1 - i) (by have:=HM.out;have:=HK1.out;omega) i k1 (deep+1) w rfl (by have:=HK1.out;omega) (by have:=HK1.out;omega) (by have:=HM.out;have:=HK1.out;omega) HT.out HD.out).mono ?_;rintro e w1 ⟨A1,d1,rfl,hown1,hkp1⟩;have HO1:=Lib.hid hown1;clear hown1;have HP1:=Lib.hid hkp1;clear hkp1;go_wp2_with fail;refine (IH.out (j - k) (by have:=HM.out;omega) k j (deep+1) w1 rfl (by omega) hj (by have:=HM.out;omega) (HT.out.kp0 HP1.out) HD.out).mono ?_;rintro e w2 ⟨A2,d2,rfl,hown2,hkp2⟩;have HO2:=Lib.hid (own_rd hown2);clear hown2;have HP2:=Lib.hid hkp2;clear hkp2;have HO1':=Lib.hid (own_kp0 HO1.out HP2.out);obtain ⟨p,hp⟩:∃ p,p=k1 - i+1:=⟨_,rfl⟩;obtain ⟨q,hq⟩:∃ q,q=j - k+1:=⟨_,rfl⟩;have hpq:j - i+1=p+q:=by have:=HK1.out;omega
    have hlq:(lens (wt l) k j (deep+1)).length=q:=by rw [lens_len _ _ _ _ _ rfl (by omega),hq]
    rw [← hp] at HO1';rw [← hp,← hq];have hpb:p+q≤1000:=by have:=HM.out;omega
    have HPQ:=Lib.hid hpq;clear hp hpq;have HLQ:=Lib.hid hlq;clear hlq hq
    go_wp2_with (at_builtin;go_loud (refine wpList_append_rd rfl (.tmp 32) (.tmp 38) 81 rfl w.heap.size 3 i0 (.int .i64 0) 1 8 Tryz.underlying81 hi hz0 hz1 hz2 rfl (by decide) _ p _ rfl HO1'.out _ _ q _ _ rfl (by rw [List.length_map,HLQ.out,Nat.mul_one]) HO2.out (oc_ints _ _) (by unfold maxLen;omega) (by omega) (Nat.le_trans HP1.out.size HP2.out.size) ?_);intro v2 w3 hown3 hgrow3 hat3)
    obtain ⟨A3,c3,rfl,_⟩:=own_form hown3;go_ret;rw [HPQ.out,HKC.out];refine ⟨A3,c3,rfl,?_,(HP1.out.trans HP2.out).grown hgrow3 (fun g hg=>.inr (own_ge HO1'.out hg).1)⟩;rw [List.map_append];exact hown3
end Go.Proofs.YtanacapkfllbnaaGreatDoor
