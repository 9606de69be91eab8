/-
  LAYER 13 (section): no section.
  CONDITIONS: none.
-/
import Derived.Test.YtanacapkfllbnaaGreatDoorR47
set_option maxRecDepth 100000
set_option maxHeartbeats 4000000
namespace Go.Proofs.YtanacapkfllbnaaGreatDoor
open Go.RowKit

def NoSec (w:World) (v:Value):Prop:=v=.pointer none ∨ ∃ p,v=.pointer (some ⟨p,0,none⟩)∧w.cell? ⟨p,1,none⟩=some (.slice none 0 0)
theorem NoSec.kp0 {w w':World} {v:Value} (h:NoSec w v) (hk:Kp [] w w'):NoSec w' v:=by
 rcases h with h | ⟨p,h1,h2⟩
 ·exact .inl h
 ·exact .inr ⟨p,h1,hk.cell h2 (by simp)⟩
theorem nsthere_any (v:Value) (w:World) (h:NoSec w v):Calls Tryz.prog 36 #[v] w fun e w'=>e=.returned (.bool false)∧w=w':=by
 rcases h with rfl | ⟨p,rfl,hc⟩
 all_goals
  go_enter Tryz.func36,Tryz.ntmps36
  go_wp2_with fail;go_ret;exact ⟨rfl,rfl⟩
theorem nslen_any (v:Value) (w:World) (h:NoSec w v):Calls Tryz.prog 27 #[v] w fun e w'=>e=.returned (.int .i64 0)∧w=w':=by
 have H:=Lib.hid h;clear h
 go_enter Tryz.func27,Tryz.ntmps27
 go_wp2_with fail;refine (nsthere_any v w H.out).mono ?_;rintro e w1 ⟨rfl,rfl⟩;go_wp2_with fail;go_ret;exact ⟨rfl,rfl⟩
theorem nsbytes_any (v:Value) (w:World) (h:NoSec w v):Calls Tryz.prog 19 #[v] w fun e w'=>e=.returned (.slice none 0 0)∧w=w':=by
 have H:=Lib.hid h;clear h
 go_enter Tryz.func19,Tryz.ntmps19
 go_wp2_with fail;refine (nsthere_any v w H.out).mono ?_;rintro e w1 ⟨rfl,rfl⟩;go_wp2_with fail;go_ret;exact ⟨rfl,rfl⟩
theorem nsfind_any (v:Value) (s:ByteArray) (w:World) (h:NoSec w v):Calls Tryz.prog 14 #[v,.string s] w fun e w'=>e=.returned (.tuple #[.int .i64 0,.bool false])∧w=w':=by
 have H:=Lib.hid h;clear h
 go_enter Tryz.func14,Tryz.ntmps14
 go_wp2_with fail;refine (nsthere_any v w H.out).mono ?_;rintro e w1 ⟨rfl,rfl⟩;go_wp2_with fail;go_ret2;exact ⟨rfl,rfl⟩
theorem nstext_any (v:Value) (i:Int) (w:World) (h:NoSec w v):Calls Tryz.prog 29 #[v,.int .i64 i] w fun e w'=>e=.returned (.tuple #[.string ⟨#[]⟩,.bool false])∧w=w':=by
 have H:=Lib.hid h;clear h
 go_enter Tryz.func29,Tryz.ntmps29
 go_wp2_with fail;refine (nsthere_any v w H.out).mono ?_;rintro e w1 ⟨rfl,rfl⟩;go_wp2_with fail;go_ret2;exact ⟨rfl,rfl⟩
theorem nsprefix_any (v:Value) (s:ByteArray) (w:World) (h:NoSec w v):Calls Tryz.prog 12 #[v,.string s] w fun e w'=>e=.returned (.tuple #[.int .i64 0,.int .i64 0])∧w=w':=by
 have H:=Lib.hid h;clear h
 go_enter Tryz.func12,Tryz.ntmps12
 go_wp2_with fail;refine (nsthere_any v w H.out).mono ?_;rintro e w1 ⟨rfl,rfl⟩;go_wp2_with fail;go_ret2;exact ⟨rfl,rfl⟩
theorem none13_any (w:World):Calls Tryz.prog 26 #[] w fun e w'=>e=.returned (.bool true)∧Kp [] w w':=by
 go_enter Tryz.func26,Tryz.ntmps26
 go_wp2_with fail;obtain ⟨w1,hw1⟩:∃ w1,w1=w.alloc (.cells #[.pointer none,.slice none 0 0] 65):=⟨_,rfl⟩;obtain ⟨w2,hw2⟩:∃ w2,w2=w1.alloc (.cells #[.pointer none,.pointer (some ⟨w.heap.size,0,none⟩)] 26):=⟨_,rfl⟩;have h1s:w1.heap.size=w.heap.size+1:=by rw [hw1];simp
 obtain ⟨ad,had⟩:∃ ad:Addr,ad=⟨w.heap.size+1,0,none⟩:=⟨_,rfl⟩;rw [← hw1,← hw2,← had];have hk1:Kp [] w w1:=by rw [hw1];exact (Kp.refl [] w).alloc _
 have hk2:Kp [] w1 w2:=by rw [hw2];exact (Kp.refl [] w1).alloc _
 have HZ:=Lib.hid (show NoSec w2 (.pointer (some ⟨w.heap.size,0,none⟩)) from .inr ⟨_,rfl,hk2.cell (by
  have h9:Blk w1 w.heap.size 65 [.pointer none,.slice none 0 0]:=by rw [hw1];exact Blk.new w 65 [.pointer none,.slice none 0 0]
  rw [h9.cell];rfl) (by simp)⟩)
 have HR:=Lib.hid (show Rd w2 (w.heap.size+2) (some ad) [.pointer none,.pointer (some ⟨w.heap.size,0,none⟩)] from by
  have h9:=Rd.new w1 #[.pointer none,.pointer (some ⟨w.heap.size,0,none⟩)] 26 (0,0);rw [← hw2,h1s] at h9;rw [had]
  exact h9)
 have HK:=Lib.hid (hk1.trans hk2);clear hw1 hw2 h1s had hk1 hk2
 go_loopw [2] (fun x wr=>∃ i:Nat,x=.int .i64 (i:Int)∧i≤2∧Hid (Kp [] w2 wr)) (fun x _=>2 - (intOf x).toNat)
 case atStart=>exact ⟨0,rfl,by omega,Lib.hid (Kp.refl _ _)⟩
 case round =>
  obtain ⟨i,rfl,hi,HKR⟩:=hrel;by_cases hlt:i < 2
  ·obtain ⟨v,hv⟩:∃ v,([.pointer none,.pointer (some ⟨w.heap.size,0,none⟩)]:List Value)[i]? = some v:=⟨_,List.getElem?_eq_getElem (by simpa using hlt)⟩
   have HV:=Lib.hid (show NoSec wr v from NoSec.kp0 (w:=w2) (by
    rcases (show i=0 ∨ i=1 by omega) with rfl | rfl
    ·injection hv with hv;exact .inl hv.symm
    ·injection hv with hv;rw [← hv];exact HZ.out) HKR.out)
   obtain ⟨ad',e',_,hcv⟩:=(HR.out.kp0 HKR.out).at_ hv;injection e' with e'
   subst e';have hd:decide ((i:Int) < 2)=true:=decide_eq_true (by omega);have hb0:(0:Int)≤(i:Int):=by omega
   have hb1:(i:Int) < 2:=by omega
   have hb2:i < 2:=hlt;clear hv;go_wp2_with fail;refine (nsfind_any v ⟨#[]⟩ wr HV.out).mono ?_;rintro e w3 ⟨rfl,rfl⟩;go_wp2_with fail;refine (nstext_any v 1 wr HV.out).mono ?_;rintro e w3 ⟨rfl,rfl⟩;go_wp2_with fail;refine (nsprefix_any v ⟨#[]⟩ wr HV.out).mono ?_;rintro e w3 ⟨rfl,rfl⟩;go_wp2_with fail
   go_region_held3 (fun w'=>w'.cell? (ad.add i)=some v) (go_keep)
    (first
     | (go_at_call 27
        refine (nslen_any v _ (HV.out.kp0 ((Kp.refl [] wr).drew))).mono ?_
        rintro e w4 ⟨rfl,rfl⟩)
     | (go_at_call 19
        refine (nsbytes_any v _ (HV.out.kp0 ((Kp.refl [] wr).drew))).mono ?_
        rintro e w4 ⟨rfl,rfl⟩))
   go_wp2_with fail;exact ⟨⟨i+1,by go_num,by omega,Lib.hid (HKR.out.drew)⟩,by simp [intOf];omega⟩
  ·have hd:decide ((i:Int) < 2)=false:=decide_eq_false (by omega);go_wp2_with fail;go_ret;exact ⟨rfl,HK.out.trans HKR.out⟩
end Go.Proofs.YtanacapkfllbnaaGreatDoor
