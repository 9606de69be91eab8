/-
  THE CONTRACTS OF LAYER 2, second part: digits put into words, digits got.
  CONDITIONS: as each says.
-/
import Derived.Test.YtanacapkfllbnaaGreatDoorR21
import Derived.Test.YtanacapkfllbnaaGreatDoorR00
import Derived.Laws.BitsAllLaws
import Derived.RegionTactic
import Derived.Deep.DeepCutAuto
set_option maxRecDepth 100000
set_option maxHeartbeats 4000000
namespace Go.Proofs.YtanacapkfllbnaaGreatDoor.PK
open Go.RowKit

set_option maxHeartbeats 1000000 in
theorem put_any (g n c at_ wd v:Nat) (ws:List Nat) (w:World) (hw:Blk w g 149 (wordsV ws)) (hn:ws.length=n) (hlt:∀ x ∈ ws,x < 2 ^ 64) (hz:num ws < 2 ^ at_) (hv:v < 2 ^ wd) (hat:at_+wd≤64 * n) (hwd:1≤wd) (hwd2:wd≤60) (hn2:n≤1000000000) :
  Calls Tryz.prog 159 #[.slice (some ⟨g,0,none⟩) n c,.int .i64 at_,.int .i64 wd,.int .u64 v] w fun e w'=>∃ ws',e=.returned (.tuple #[])∧Blk w' g 149 (wordsV ws')∧ws'.length=n∧(∀ x ∈ ws',x < 2 ^ 64)∧num ws'=num ws+v * 2 ^ at_∧Kp [g] w w':=by
 obtain ⟨q,hq⟩:∃ q,q=at_ / 64:=⟨_,rfl⟩;obtain ⟨r,hr⟩:∃ r,r=at_ % 64:=⟨_,rfl⟩;have hqr:at_=64 * q+r:=by omega
 have hdiv:(at_:Int).tdiv 64=(q:Int):=by rw [Int.tdiv_eq_ediv_of_nonneg (by omega)];omega
 have hmod:(at_:Int).tmod 64=(r:Int):=by rw [Int.tmod_eq_emod_of_nonneg (by omega)];omega
 have hwq:IntKind.i64.wrap (q:Int)=(q:Int):=by rw [IntKind.wrap_i64];omega
 have hwr:IntKind.i64.wrap (r:Int)=(r:Int):=by rw [IntKind.wrap_i64];omega
 have hr64:r < 64:=by omega
 have hqn:q < n:=by omega
 obtain ⟨x,hx⟩:∃ x,ws[q]? = some x:=⟨_,List.getElem?_eq_getElem (by omega)⟩;have cx:w.cell? ⟨g,q,none⟩=some (.int .u64 (x:Int)):=by rw [hw.cell];exact wordsV_get hx
 have cf:=hw.free q;have hxb:=hlt x (List.mem_of_getElem? hx);obtain ⟨T,hT⟩:∃ T,T=v * 2 ^ r % 2 ^ 64:=⟨_,rfl⟩;have hTb:T < 2 ^ 64:=by rw [hT];exact Nat.mod_lt _ (Nat.two_pow_pos _)
 have hsh:IntKind.u64.wrap ((v:Int) * 2 ^ min r 64)=(T:Int):=by
  have e:(v:Int) * 2 ^ min r 64=((v * 2 ^ r:Nat):Int):=by rw [show min r 64=r from by omega];simp
  rw [e,u64_wrap_nat,← hT]
 have hsh':IntKind.u64.wrap ((v:Int) * 2 ^ r)=(T:Int):=by
  have e:(v:Int) * 2 ^ r=((v * 2 ^ r:Nat):Int):=by simp
  rw [e,u64_wrap_nat,← hT]
 obtain ⟨Z,hZ⟩:∃ Z,Z=x ||| T:=⟨_,rfl⟩;have hor:bits .or .u64 (x:Int) (T:Int)=(Z:Int):=by rw [hZ];exact u64_or_nat x T (by omega) (by omega)
 have hZb:Z < 2 ^ 64:=by rw [hZ];exact Nat.or_lt_two_pow hxb hTb
 by_cases hov:64 < r+wd
 ·obtain ⟨ov,hov2⟩:∃ ov,r+wd=64+ov:=⟨r+wd - 64,by omega⟩;have hwa:IntKind.i64.wrap ((r:Int)+(wd:Int))=((64+ov:Nat):Int):=by rw [IntKind.wrap_i64];omega
  have hws:IntKind.i64.wrap (64+(ov:Int) - 64)=(ov:Int):=by rw [IntKind.wrap_i64];omega
  have hq1:IntKind.i64.wrap ((q:Int)+1)=((q+1:Nat):Int):=by rw [IntKind.wrap_i64];omega
  obtain ⟨s,hs⟩:∃ s,s=wd - ov:=⟨_,rfl⟩;have hrs:r+s=64:=by omega
  have hwo:IntKind.i64.wrap ((wd:Int) - (ov:Int))=(s:Int):=by rw [IntKind.wrap_i64];omega
  have hq1n:q+1 < n:=by omega
  have hov0:0 < ov:=by omega
  obtain ⟨y,hy⟩:∃ y,ws[q+1]? = some y:=⟨_,List.getElem?_eq_getElem (by omega)⟩;have cy:w.cell? ⟨g,q+1,none⟩=some (.int .u64 (y:Int)):=by rw [hw.cell];exact wordsV_get hy
  have cfy:=hw.free (q+1);have hyb:=hlt y (List.mem_of_getElem? hy);have hvb:v < 2 ^ 64:=Nat.lt_of_lt_of_le hv (Nat.pow_le_pow_right (by omega) (by omega));obtain ⟨U,hU⟩:∃ U,U=v / 2 ^ s:=⟨_,rfl⟩;have hUb:U < 2 ^ 64:=by rw [hU];exact Nat.lt_of_le_of_lt (Nat.div_le_self _ _) hvb
  have hdv:(v:Int) / 2 ^ s=(U:Int):=by rw [hU];simp
  have hdv':(v:Int) / 2 ^ min s 64=(U:Int):=by rw [show min s 64=s from by omega];exact hdv
  obtain ⟨Z2,hZ2⟩:∃ Z2,Z2=y ||| U:=⟨_,rfl⟩;have hor2:bits .or .u64 (y:Int) (U:Int)=(Z2:Int):=by rw [hZ2];exact u64_or_nat y U (by omega) (by omega)
  have hZ2b:Z2 < 2 ^ 64:=by rw [hZ2];exact Nat.or_lt_two_pow hyb hUb
  have hres:=(num_put2 (n:=v) hx hy hrs (by rw [← hqr];exact hz)).2;rw [← hT,← hZ,← hU,← hZ2,← hqr] at hres;have HRES:=Lib.hid hres;have HW:=Lib.hid hw;have HLT:=Lib.hid hlt;have HN:=Lib.hid hn;clear hov2 hs hq hr hT hZ hres hqr hTb hw hlt hn hz hv hxb hrs hU hUb hZ2 hyb hvb
  go_enter Tryz.func159,Tryz.ntmps159
  go_wp2_with fail
  go_region
  go_wp2_with fail
  go_region
  go_end0
  exact ⟨(ws.set q Z).set (q+1) Z2,rfl,by rw [← wordsV_set,← wordsV_set];exact (((HW.out.set_ q _).set_ (q+1) _).drew).drew,by rw [List.length_set,List.length_set,HN.out],set_lt (set_lt HLT.out hZb) hZ2b,HRES.out,((((Kp.refl [g] w).setCell (.inl (by simp)) _).setCell (.inl (by simp)) _).drew).drew⟩
 ·have hws0:r+wd≤64:=by omega
  obtain ⟨ov,hov2⟩:∃ ov,r+wd+ov=64:=⟨64 - (r+wd),by omega⟩;have hwa:IntKind.i64.wrap ((r:Int)+(wd:Int))=64 - (ov:Int):=by rw [IntKind.wrap_i64];omega
  have hws:IntKind.i64.wrap (64 - (ov:Int) - 64)=-(ov:Int):=by rw [IntKind.wrap_i64];omega
  have hT2:T=v * 2 ^ r:=by
   rw [hT];refine Nat.mod_eq_of_lt ?_;have h1:v * 2 ^ r < 2 ^ wd * 2 ^ r:=Nat.mul_lt_mul_of_pos_right hv (Nat.two_pow_pos _);rw [← Nat.pow_add] at h1;exact Nat.lt_of_lt_of_le h1 (Nat.pow_le_pow_right (by omega) (by omega))
  have hres:=num_put1 (n:=v) hx (by rw [← hqr];exact hz);rw [← hT2,← hZ,← hqr] at hres;have HRES:=Lib.hid hres;have HW:=Lib.hid hw;have HLT:=Lib.hid hlt;have HN:=Lib.hid hn;clear hq hr hT hZ hres hqr hTb hT2 hw hlt hn hz hv hxb
  go_enter Tryz.func159,Tryz.ntmps159
  go_wp2_with fail
  go_region
  go_wp2_with fail
  go_end0
  exact ⟨ws.set q Z,rfl,by rw [← wordsV_set];exact (HW.out.set_ q _).drew,by rw [List.length_set,HN.out],set_lt HLT.out hZb,HRES.out,((Kp.refl [g] w).setCell (.inl (by simp)) _).drew⟩
end Go.Proofs.YtanacapkfllbnaaGreatDoor.PK
