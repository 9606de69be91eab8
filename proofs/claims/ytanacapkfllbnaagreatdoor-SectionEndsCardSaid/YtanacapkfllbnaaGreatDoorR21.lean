/-
  THE CONTRACTS OF LAYER 2, first part: how many digits a number has; the width of numbers, the program's and the reference's.
  CONDITIONS: numbers of 64 bits; rows of at most 10^9 numbers.
-/
import Derived.Test.YtanacapkfllbnaaGreatDoorR07
import Derived.Test.YtanacapkfllbnaaGreatDoorR01
import Derived.Lib.ItoaNum
set_option maxRecDepth 100000
set_option maxHeartbeats 4000000
namespace Go.Proofs.YtanacapkfllbnaaGreatDoor.PK
open Go.RowKit

def dgt (x:Nat):Nat:=max (Lib.bitLen x) 1
theorem dgt_pos (x:Nat):1≤dgt x:=by unfold dgt;omega
theorem dgt_half {x:Nat} (h:1 < x) (hx:x < 2 ^ 64):dgt x=dgt (x / 2)+1:=by
 have h1:=Lib.bitLen_half x (by omega) hx;have h2:=Lib.bitLen_half (x / 2) (by omega) (by omega);unfold dgt;omega
theorem dgt_one {x:Nat} (h:x≤1):dgt x=1:=by
 rcases (show x=0 ∨ x=1 by omega) with rfl | rfl <;> decide
theorem dgt_le {x k:Nat} (hk:1≤k) (hk2:k≤64) (h:x < 2 ^ k):dgt x≤k:=by
 have:=Lib.bitLen_le x k hk2 h;unfold dgt;omega
theorem dgt_lt {x:Nat} (hx:x < 2 ^ 64):x < 2 ^ dgt x:=by
 by_cases h0:x=0
 ·subst h0;exact Nat.two_pow_pos _
 ·have:=(Lib.bitLenAux_bounds 64 x hx h0).2.2;exact Nat.lt_of_lt_of_le this (Nat.pow_le_pow_right (by omega) (by unfold dgt Lib.bitLen;omega))
def Small (l:List Int):Prop:=∀ x ∈ l,-9223372036854775808≤x∧x≤9223372036854775807
def okN (l:List Int):Prop:=∀ x ∈ l,0≤x∧dgt x.toNat≤60
def wideF (w:Nat) (l:List Int):Nat:=l.foldl (fun w x=>max w (dgt x.toNat)) w
theorem wideF_snoc (w:Nat) (l:List Int) (x:Int):wideF w (l ++ [x])=max (wideF w l) (dgt x.toNat):=by simp [wideF]
open Classical in
noncomputable def wideL (l:List Int):Int:=if okN l then ((wideF 1 l:Nat):Int) else 0
open Classical in
noncomputable def wideE (l:List Int):Int:=if okN l then 0 else 2
theorem wideL_ok {l:List Int} (h:okN l):wideL l=((wideF 1 l:Nat):Int):=by unfold wideL;rw [if_pos h]
theorem wideE_ok {l:List Int} (h:okN l):wideE l=0:=by unfold wideE;rw [if_pos h]
theorem wideL_no {l:List Int} (h:¬ okN l):wideL l=0:=by unfold wideL;rw [if_neg h]
theorem wideE_no {l:List Int} (h:¬ okN l):wideE l=2:=by unfold wideE;rw [if_neg h]
theorem okN.snoc {l:List Int} {k:Nat} {x:Int} (h:okN (l.take k)) (hx:l[k]? = some x) (h0:0≤x) (h1:dgt x.toNat≤60):okN (l.take (k+1)):=by
 rw [take_succ_of hx];intro y hy;simp only [List.mem_append,List.mem_singleton] at hy
 rcases hy with hy | rfl
 ·exact h y hy
 ·exact ⟨h0,h1⟩
theorem wideF_le {l:List Int} (h:okN l):1≤wideF 1 l∧wideF 1 l≤60:=by
 have:∀ (l:List Int) (w:Nat),okN l→1≤w→w≤60→1≤wideF w l∧wideF w l≤60:=by
  intro l
  induction l with
  | nil=>intro w _ h1 h2;exact ⟨h1,h2⟩
  | cons x l ih =>
    intro w h h1 h2;have:=(h x (by simp)).2;exact ih (max w (dgt x.toNat)) (fun y hy=>h y (by simp [hy])) (by omega) (by omega)
 exact this l 1 h (by omega) (by omega)

set_option maxHeartbeats 1000000 in
theorem digits_any (x:Int) (w:World) (h0:-9223372036854775808≤x) (h1:x≤9223372036854775807) :
  Calls Tryz.prog 157 #[.int .i64 x] w fun e w'=>∃ d:Nat,e=.returned (.int .i64 (d:Int))∧1≤d∧d≤64∧(0≤x→d=dgt x.toNat)∧w=w':=by
 obtain ⟨u,hu,hu0,hu1,hux⟩:∃ u:Int,IntKind.u64.wrap x=u∧0≤u∧u≤18446744073709551615∧(0≤x→u=x):=by
  refine ⟨x % 18446744073709551616,?_,by omega,by omega,by omega⟩
  simp [IntKind.wrap,IntKind.signed,IntKind.bits]
 have hb:=Lib.bitLen_le u.toNat 64 (by omega) (by omega);obtain ⟨b,hbb⟩:∃ b,b=Lib.bitLen u.toNat:=⟨_,rfl⟩;rw [← hbb] at hb;have HD:=Lib.hid (show 0≤x→max b 1=dgt x.toNat from fun h=>by rw [hbb,hux h];rfl);have HC:=Lib.hid (show ∀ w:World,Calls Tryz.prog 154 #[.int .u64 u] w fun e w'=>e=.returned (.int .i64 (b:Int))∧w'=w from fun w=>by rw [hbb];exact Tryz.bits_Len u w hu0 hu1);clear hbb hux;obtain ⟨m,hm⟩:∃ m,m=max b 1:=⟨_,rfl⟩;have hmx:max (b:Int) 1=(m:Int):=by omega
 rw [← hm] at HD;have hmb:1≤m∧m≤64:=by omega
 clear hm hb
 go_enter Tryz.func157,Tryz.ntmps157
 go_wp2_with fail;refine (HC.out _).mono ?_;rintro e w1 ⟨rfl,rfl⟩;go_wp2_with fail;go_ret;exact ⟨m,rfl,hmb.1,hmb.2,HD.out,rfl⟩

set_option maxHeartbeats 1000000 in
theorem width_any (A:Option Addr) (n c B:Nat) (l:List Int) (w:World) (hx:Rd w B A (l.map (.int .i64))) (hn:l.length=n) (hb:n≤1000000000) (hs:Small l) :
  Calls Tryz.prog 130 #[.slice A n c] w fun e w'=>e=.returned (.tuple #[.int .i64 (wideL l),.int .i64 (wideE l)])∧w=w':=by
 have HX:=Lib.hid hx;clear hx;have HN:=Lib.hid hn;clear hn;have HS:=Lib.hid hs;clear hs
 go_enter Tryz.func130,Tryz.ntmps130
 go_wp2_with fail
 go_loopw [4,9] (fun y x wr=>∃ k:Nat,k≤n∧x=.int .i64 k∧y=.int .i64 ((wideF 1 (l.take k):Nat):Int)∧Hid (okN (l.take k))∧w=wr) (fun _ x _=>n - (intOf x).toNat)
 case atStart=>exact ⟨0,by omega,rfl,rfl,Lib.hid (by intro x hx;simp at hx),rfl⟩
 case round =>
  obtain ⟨k,hk,rfl,rfl,HO,rfl⟩:=hrel;obtain ⟨wd,hwd⟩:∃ wd,wd=wideF 1 (l.take k):=⟨_,rfl⟩;have hwb:=wideF_le HO.out;rw [← hwd] at hwb ⊢;by_cases hlt:k < n
  ·obtain ⟨x,ad,hxk,rfl,_,hcx⟩:=HX.out.ix (i:=k) (by have:=HN.out;omega);have hxs:=HS.out x (List.mem_of_getElem? hxk);have HXK:=Lib.hid hxk;clear hxk;have HWD:=Lib.hid hwd;clear hwd;go_wp2_with fail;refine (digits_any x _ hxs.1 hxs.2).mono ?_;rintro e w1 ⟨d,rfl,hd1,hd2,hd3,rfl⟩;obtain ⟨m,hm⟩:∃ m,m=max wd d:=⟨_,rfl⟩;have hmx:max (wd:Int) (d:Int)=(m:Int):=by omega
   by_cases h0:x < 0
   ·have HNO:=Lib.hid (show ¬ okN l from fun h=>by have:=(h x (List.mem_of_getElem? HXK.out)).1;omega);clear hd3;go_wp2_with fail;go_ret2;exact ⟨by rw [wideL_no HNO.out,wideE_no HNO.out];rfl,rfl⟩
   ·have hd:=hd3 (by omega);clear hd3;by_cases h60:60 < m
    ·have HNO:=Lib.hid (show ¬ okN l from fun h=>by have:=(h x (List.mem_of_getElem? HXK.out)).2;omega);clear hd hm;go_wp2_with fail;go_ret2;exact ⟨by rw [wideL_no HNO.out,wideE_no HNO.out];rfl,rfl⟩
    ·have HO2:=Lib.hid (HO.out.snoc HXK.out (by omega) (by omega));have HW2:=Lib.hid (show wideF 1 (l.take (k+1))=m by rw [take_succ_of HXK.out,wideF_snoc,← HWD.out,← hd,hm]);clear hd hm;go_wp2_with fail;exact ⟨⟨k+1,by omega,by go_num,by rw [HW2.out],HO2,trivial⟩,by simp [intOf];omega⟩
  ·obtain rfl:n=k:=by omega
   have hall:okN l:=by have:=HO.out;rwa [List.take_of_length_le (by rw [HN.out];exact Nat.le_refl _)] at this
   rw [List.take_of_length_le (by rw [HN.out];exact Nat.le_refl _)] at hwd;have HAL:=Lib.hid hall;clear hall;have HWD:=Lib.hid hwd;clear hwd;go_wp2_with fail;go_ret2;exact ⟨by rw [wideL_ok HAL.out,wideE_ok HAL.out,← HWD.out];rfl,rfl⟩

set_option maxHeartbeats 1000000 in
theorem rdigits_any (x:Nat) (w:World) (h1:x≤9223372036854775807) :
  Calls Tryz.prog 144 #[.int .i64 (x:Int)] w fun e w'=>e=.returned (.int .i64 ((dgt x:Nat):Int))∧w=w':=by
 go_enter Tryz.func144,Tryz.ntmps144
 go_wp2_with fail
 go_loopw [0,3] (fun y z wr=>∃ v d:Nat,y=.int .i64 (v:Int)∧z=.int .i64 (d:Int)∧v≤x∧1≤d∧Hid (dgt x+1=dgt v+d)∧w=wr) (fun y _ _=>(intOf y).toNat)
 case atStart=>exact ⟨x,1,rfl,rfl,Nat.le_refl _,Nat.le_refl _,Lib.hid rfl,rfl⟩
 case round =>
  obtain ⟨v,d,rfl,rfl,hv,hd,HD,rfl⟩:=hrel;have hdx:dgt x≤64:=dgt_le (by omega) (by omega) (by omega);have hdv:=dgt_pos v;have hdb:d≤64:=by have:=HD.out;omega
  by_cases h1v:1 < v
  ·obtain ⟨q,hq⟩:∃ q,q=v / 2:=⟨_,rfl⟩;have hdiv:(v:Int).tdiv 2=(q:Int):=by rw [Int.tdiv_eq_ediv_of_nonneg (by omega)];omega
   have hwq:IntKind.i64.wrap (q:Int)=(q:Int):=by rw [IntKind.wrap_i64];omega
   have hnx:=dgt_half h1v (by omega);rw [← hq] at hnx;have HN2:=Lib.hid (show dgt x+1=dgt q+(d+1) by have:=HD.out;omega);have hqv:q < v:=by omega
   clear hnx hq hdx hdv;go_wp2_with fail;exact ⟨⟨q,d+1,rfl,by go_num,by omega,by omega,HN2,trivial⟩,by simp [intOf];omega⟩
  ·have h1:=dgt_one (x:=v) (by omega);have HE:=Lib.hid (show d=dgt x by have:=HD.out;omega);clear h1 hdx hdv;go_wp2_with fail;go_ret;exact ⟨by rw [← HE.out];rfl,rfl⟩

set_option maxHeartbeats 1000000 in
theorem rwidth_any (A:Option Addr) (n c B:Nat) (l:List Int) (w:World) (hx:Rd w B A (l.map (.int .i64))) (hn:l.length=n) (hb:n≤1000000000) (hs:Small l) :
  Calls Tryz.prog 95 #[.slice A n c] w fun e w'=>e=.returned (.tuple #[.int .i64 (wideL l),.int .i64 (wideE l)])∧w=w':=by
 have HX:=Lib.hid hx;clear hx;have HN:=Lib.hid hn;clear hn;have HS:=Lib.hid hs;clear hs
 go_enter Tryz.func95,Tryz.ntmps95
 go_wp2_with fail
 go_loopw [4,5] (fun y x wr=>∃ k:Nat,k≤n∧x=.int .i64 k∧y=.int .i64 ((wideF 1 (l.take k):Nat):Int)∧Hid (okN (l.take k))∧w=wr) (fun _ x _=>n - (intOf x).toNat)
 case atStart=>exact ⟨0,by omega,rfl,rfl,Lib.hid (by intro x hx;simp at hx),rfl⟩
 case round =>
  obtain ⟨k,hk,rfl,rfl,HO,rfl⟩:=hrel;obtain ⟨wd,hwd⟩:∃ wd,wd=wideF 1 (l.take k):=⟨_,rfl⟩;have hwb:=wideF_le HO.out;rw [← hwd] at hwb ⊢;by_cases hlt:k < n
  ·obtain ⟨x,ad,hxk,rfl,_,hcx⟩:=HX.out.ix (i:=k) (by have:=HN.out;omega);have hxs:=HS.out x (List.mem_of_getElem? hxk);have HXK:=Lib.hid hxk;clear hxk;have HWD:=Lib.hid hwd;clear hwd;by_cases h0:x < 0
   ·have HNO:=Lib.hid (show ¬ okN l from fun h=>by have:=(h x (List.mem_of_getElem? HXK.out)).1;omega);go_wp2_with fail;go_ret2;exact ⟨by rw [wideL_no HNO.out,wideE_no HNO.out];rfl,rfl⟩
   ·obtain ⟨X,rfl⟩:∃ X:Nat,x=(X:Int):=⟨x.toNat,by omega⟩;have hXb:X≤9223372036854775807:=by omega
    obtain ⟨d,hd⟩:∃ d,d=dgt X:=⟨_,rfl⟩;have hdb:d≤64:=by rw [hd];exact dgt_le (by omega) (by omega) (by omega)
    clear hxs h0;go_wp2_with fail;refine (rdigits_any X _ hXb).mono ?_;rintro e w1 ⟨rfl,rfl⟩;rw [← hd];by_cases h60:60 < d
    ·have HNO:=Lib.hid (show ¬ okN l from fun h=>by have:=(h (X:Int) (List.mem_of_getElem? HXK.out)).2;rw [Int.toNat_natCast,← hd] at this;omega);clear hd;go_wp2_with fail;go_ret2;exact ⟨by rw [wideL_no HNO.out,wideE_no HNO.out];rfl,rfl⟩
    ·have HO2:=Lib.hid (HO.out.snoc HXK.out (by omega) (by rw [Int.toNat_natCast,← hd];omega));obtain ⟨m,hm⟩:∃ m,m=max wd d:=⟨_,rfl⟩;have hmx:max (wd:Int) (d:Int)=(m:Int):=by omega
     have HW2:=Lib.hid (show wideF 1 (l.take (k+1))=m by rw [take_succ_of HXK.out,wideF_snoc,← HWD.out,Int.toNat_natCast,← hd,hm]);have HDD:=Lib.hid hd;clear hd hm;go_wp2_with fail;refine (rdigits_any X _ hXb).mono ?_;rintro e w1 ⟨rfl,rfl⟩;rw [← HDD.out];go_wp2_with fail;exact ⟨⟨k+1,by omega,by go_num,by rw [HW2.out],HO2,trivial⟩,by simp [intOf];omega⟩
  ·obtain rfl:n=k:=by omega
   have hall:okN l:=by have:=HO.out;rwa [List.take_of_length_le (by rw [HN.out];exact Nat.le_refl _)] at this
   rw [List.take_of_length_le (by rw [HN.out];exact Nat.le_refl _)] at hwd;have HAL:=Lib.hid hall;clear hall;have HWD:=Lib.hid hwd;clear hwd;go_wp2_with fail;go_ret2;exact ⟨by rw [wideL_ok HAL.out,wideE_ok HAL.out,← HWD.out];rfl,rfl⟩
end Go.Proofs.YtanacapkfllbnaaGreatDoor.PK
