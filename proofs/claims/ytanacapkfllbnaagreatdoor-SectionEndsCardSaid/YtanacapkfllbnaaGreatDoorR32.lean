/-
  LAYER 3: the reader in memory; has, Next, Number, Gamma, At, Err, NewReader.
  LAYER 3: NewReader; the document's reader: take, Next, Number.
  CONDITIONS: as each lemma says.
-/
import Derived.Test.YtanacapkfllbnaaGreatDoorR30
import Derived.Test.YtanacapkfllbnaaGreatDoorR19
import Derived.Test.YtanacapkfllbnaaGreatDoorR20
import Derived.Deep.RegionHeld3
set_option maxRecDepth 100000
set_option maxHeartbeats 4000000
namespace Go.Proofs.YtanacapkfllbnaaGreatDoor
open Go.RowKit

theorem getB_nat {bs:List Bool} {k:Nat} {b:Bool} (h:bs[k]? = some b):getB bs (k:Int)=b:=by
 unfold getB;rw [if_neg (by omega),Int.toNat_natCast,List.getD_eq_getElem?_getD,h];rfl
def errB (b:Bool):Int:=if b then 4 else 0
def RdM (w:World) (p q at_:Nat) (bad:Bool):Prop:=Blk w p 235 [.int .i64 (errB bad),.pointer (some ⟨q,0,none⟩),.int .i64 (at_:Int)]
theorem RdM.kp {w w':World} {p q a:Nat} {bad:Bool} {T:List Nat} (h:RdM w p q a bad) (hk:Kp T w w') (hp:p ∉ T):RdM w' p q a bad:=Blk.kp h hk hp
theorem RdM.kp0 {w w':World} {p q a:Nat} {bad:Bool} (h:RdM w p q a bad) (hk:Kp [] w w'):RdM w' p q a bad:=h.kp hk (by simp)
theorem RdM.cells {w:World} {p q a:Nat} {bad:Bool} (h:RdM w p q a bad):w.cell? ⟨p,0,none⟩=some (.int .i64 (errB bad))∧w.cell? ⟨p,1,none⟩=some (.pointer (some ⟨q,0,none⟩))∧w.cell? ⟨p,2,none⟩=some (.int .i64 (a:Int)):=
 ⟨by rw [Blk.cell h];rfl,by rw [Blk.cell h];rfl,by rw [Blk.cell h];rfl⟩
theorem rthere_any (p q a:Nat) (bad:Bool) (w:World) (h:RdM w p q a bad):Calls Tryz.prog 174 #[.pointer (some ⟨p,0,none⟩)] w fun e w'=>e=.returned (.bool true)∧w=w':=by
 obtain ⟨_,hc1,_⟩:=h.cells;clear h
 go_enter Tryz.func174,Tryz.ntmps174
 go_wp2_with fail;go_ret;exact ⟨rfl,rfl⟩
theorem rerr_any (p q a:Nat) (bad:Bool) (w:World) (h:RdM w p q a bad):Calls Tryz.prog 161 #[.pointer (some ⟨p,0,none⟩)] w fun e w'=>e=.returned (.int .i64 (errB bad))∧w=w':=by
 obtain ⟨hc0,_,_⟩:=h.cells;have H:=Lib.hid h;clear h
 go_enter Tryz.func161,Tryz.ntmps161
 go_wp2_with fail;refine (rthere_any p q a bad w H.out).mono ?_;rintro e w1 ⟨rfl,rfl⟩;go_wp2_with fail;go_ret;exact ⟨rfl,rfl⟩
def hasB (N a:Nat) (bad:Bool) (m:Int):Bool:=bad || decide (m < 0 ∨ 60 < m ∨ (N:Int) - (a:Int) < m)
theorem rhas_any (S:List Nat) (p q a N:Nat) (bad:Bool) (m:Int) (bs:List Bool) (c:Bool) (w:World) (h:RdM w p q a bad) (hv:VecM w S q bs c) (hN:bs.length=N) (ha:a≤N) :
  Calls Tryz.prog 171 #[.pointer (some ⟨p,0,none⟩),.int .i64 m] w fun e w'=>e=.returned (.bool (!hasB N a bad m))∧RdM w' p q a (hasB N a bad m)∧Kp [p] w w':=by
 have hN16:N≤16777216:=by rw [← hN];exact hv.tail.2.2.2
 obtain ⟨hc0,hc1,hc2⟩:=h.cells;have HZ:∀ b,decide (m < 0 ∨ 60 < m ∨ (N:Int) - (a:Int) < m)=b→hasB N a bad m=(bad || b):=fun b hb=>by unfold hasB;rw [hb]
 by_cases h1:m < 0
 ·have hz:=HZ true (decide_eq_true (.inl h1));rw [Bool.or_true] at hz;rw [hz];have hd1:decide (m < 0)=true:=decide_eq_true h1;have H:=Lib.hid h;clear h;have HV:=Lib.hid hv;clear hv;have HN:=Lib.hid hN;clear hN;clear hc0 hz HZ
  go_enter Tryz.func171,Tryz.ntmps171
  go_wp2_with fail;refine (rthere_any p q a _ w H.out).mono ?_;rintro e w1 ⟨rfl,rfl⟩;go_wp2_with fail
  go_quiet (fail)
  go_wp2_with fail
  cases bad with
  | false =>
    refine (spoil_new p 235 4 [.pointer (some ⟨q,0,none⟩),.int .i64 (a:Int)] _ (H.out.kp0 ((Kp.refl [] w).drewN _))).mono ?_;rintro e w2 ⟨rfl,hb2,hk2⟩;have HB2:=Lib.hid hb2;have HK2:=Lib.hid (((Kp.refl [p] w).drewN _).trans hk2);clear hb2 hk2;go_wp2_with fail;refine (sound_no p _ 4 _ w2 HB2.out (by decide)).mono ?_;rintro e w3 ⟨rfl,rfl⟩;go_wp2_with fail;go_ret;exact ⟨rfl,HB2.out,HK2.out⟩
  | true =>
    refine (spoil_old p 235 4 4 [.pointer (some ⟨q,0,none⟩),.int .i64 (a:Int)] _ (H.out.kp0 ((Kp.refl [] w).drewN _)) (by decide)).mono ?_;rintro e w2 ⟨rfl,rfl⟩;go_wp2_with fail;refine (sound_no p 235 4 [.pointer (some ⟨q,0,none⟩),.int .i64 (a:Int)] _ (H.out.kp0 ((Kp.refl [] w).drewN _)) (by decide)).mono ?_;rintro e w3 ⟨rfl,rfl⟩;go_wp2_with fail;go_ret;exact ⟨rfl,H.out.kp0 ((Kp.refl [] w).drewN _),(Kp.refl [p] w).drewN _⟩
 by_cases h2:60 < m
 ·have hz:=HZ true (decide_eq_true (.inr (.inl h2)));rw [Bool.or_true] at hz;rw [hz];have hd1:decide (m < 0)=false:=decide_eq_false h1;have hd2:decide (60 < m)=true:=decide_eq_true h2;have H:=Lib.hid h;clear h;have HV:=Lib.hid hv;clear hv;have HN:=Lib.hid hN;clear hN;clear hc0 hz HZ
  go_enter Tryz.func171,Tryz.ntmps171
  go_wp2_with fail;refine (rthere_any p q a _ w H.out).mono ?_;rintro e w1 ⟨rfl,rfl⟩;go_wp2_with fail
  go_quiet (fail)
  go_wp2_with fail
  cases bad with
  | false =>
    refine (spoil_new p 235 4 [.pointer (some ⟨q,0,none⟩),.int .i64 (a:Int)] _ (H.out.kp0 ((Kp.refl [] w).drewN _))).mono ?_;rintro e w2 ⟨rfl,hb2,hk2⟩;have HB2:=Lib.hid hb2;have HK2:=Lib.hid (((Kp.refl [p] w).drewN _).trans hk2);clear hb2 hk2;go_wp2_with fail;refine (sound_no p _ 4 _ w2 HB2.out (by decide)).mono ?_;rintro e w3 ⟨rfl,rfl⟩;go_wp2_with fail;go_ret;exact ⟨rfl,HB2.out,HK2.out⟩
  | true =>
    refine (spoil_old p 235 4 4 [.pointer (some ⟨q,0,none⟩),.int .i64 (a:Int)] _ (H.out.kp0 ((Kp.refl [] w).drewN _)) (by decide)).mono ?_;rintro e w2 ⟨rfl,rfl⟩;go_wp2_with fail;refine (sound_no p 235 4 [.pointer (some ⟨q,0,none⟩),.int .i64 (a:Int)] _ (H.out.kp0 ((Kp.refl [] w).drewN _)) (by decide)).mono ?_;rintro e w3 ⟨rfl,rfl⟩;go_wp2_with fail;go_ret;exact ⟨rfl,H.out.kp0 ((Kp.refl [] w).drewN _),(Kp.refl [p] w).drewN _⟩
 obtain ⟨M,rfl⟩:∃ M:Nat,m=(M:Int):=⟨m.toNat,by omega⟩;have hd1:decide ((M:Int) < 0)=false:=decide_eq_false h1;have hd2:decide (60 < (M:Int))=false:=decide_eq_false h2;by_cases h3:(N:Int) - (a:Int) < (M:Int)
 ·have hz:=HZ true (decide_eq_true (.inr (.inr h3)));rw [Bool.or_true] at hz;rw [hz];have hd3:decide ((N:Int) - (a:Int) < (M:Int))=true:=decide_eq_true h3;have H:=Lib.hid h;clear h;have HV:=Lib.hid hv;clear hv;have HN:=Lib.hid hN;clear hN;clear hc0 hz HZ
  go_enter Tryz.func171,Tryz.ntmps171
  go_wp2_with fail;refine (rthere_any p q a _ w H.out).mono ?_;rintro e w1 ⟨rfl,rfl⟩;go_wp2_with fail
  go_quiet ((go_at_call 78;exact quiet_eq (vlen_any S q N bs c _ (HV.out.kp0 ((Kp.refl [] w).drewN _)) HN.out)))
  go_wp2_with fail
  cases bad with
  | false =>
    refine (spoil_new p 235 4 [.pointer (some ⟨q,0,none⟩),.int .i64 (a:Int)] _ (H.out.kp0 ((Kp.refl [] w).drewN _))).mono ?_;rintro e w2 ⟨rfl,hb2,hk2⟩;have HB2:=Lib.hid hb2;have HK2:=Lib.hid (((Kp.refl [p] w).drewN _).trans hk2);clear hb2 hk2;go_wp2_with fail;refine (sound_no p _ 4 _ w2 HB2.out (by decide)).mono ?_;rintro e w3 ⟨rfl,rfl⟩;go_wp2_with fail;go_ret;exact ⟨rfl,HB2.out,HK2.out⟩
  | true =>
    refine (spoil_old p 235 4 4 [.pointer (some ⟨q,0,none⟩),.int .i64 (a:Int)] _ (H.out.kp0 ((Kp.refl [] w).drewN _)) (by decide)).mono ?_;rintro e w2 ⟨rfl,rfl⟩;go_wp2_with fail;refine (sound_no p 235 4 [.pointer (some ⟨q,0,none⟩),.int .i64 (a:Int)] _ (H.out.kp0 ((Kp.refl [] w).drewN _)) (by decide)).mono ?_;rintro e w3 ⟨rfl,rfl⟩;go_wp2_with fail;go_ret;exact ⟨rfl,H.out.kp0 ((Kp.refl [] w).drewN _),(Kp.refl [p] w).drewN _⟩
 ·have hz:=HZ false (decide_eq_false (by omega));rw [Bool.or_false] at hz;rw [hz];have hd3:decide ((N:Int) - (a:Int) < (M:Int))=false:=decide_eq_false h3;have H:=Lib.hid h;clear h;have HV:=Lib.hid hv;clear hv;have HN:=Lib.hid hN;clear hN;clear hc0 hz HZ
  go_enter Tryz.func171,Tryz.ntmps171
  go_wp2_with fail;refine (rthere_any p q a _ w H.out).mono ?_;rintro e w1 ⟨rfl,rfl⟩;go_wp2_with fail
  go_quiet ((go_at_call 78;exact quiet_eq (vlen_any S q N bs c _ (HV.out.kp0 ((Kp.refl [] w).drewN _)) HN.out)))
  go_wp2_with fail
  cases bad with
  | false =>
    refine (sound_ok p 235 [.pointer (some ⟨q,0,none⟩),.int .i64 (a:Int)] _ (H.out.kp0 ((Kp.refl [] w).drewN _))).mono ?_;rintro e w3 ⟨rfl,rfl⟩;go_wp2_with fail;go_ret;exact ⟨rfl,H.out.kp0 ((Kp.refl [] w).drewN _),(Kp.refl [p] w).drewN _⟩
  | true =>
    refine (sound_no p 235 4 [.pointer (some ⟨q,0,none⟩),.int .i64 (a:Int)] _ (H.out.kp0 ((Kp.refl [] w).drewN _)) (by decide)).mono ?_;rintro e w3 ⟨rfl,rfl⟩;go_wp2_with fail;go_ret;exact ⟨rfl,H.out.kp0 ((Kp.refl [] w).drewN _),(Kp.refl [p] w).drewN _⟩

theorem rNum_bad {bs:List Bool} {N a:Nat} {bad:Bool} {m:Int} (hN:bs.length=N) (h:hasB N a bad m=true):rNum bs a bad m=(0,a,true):=by
 unfold hasB at h;rw [Bool.or_eq_true,decide_eq_true_iff] at h;unfold rNum;rw [if_pos (by rw [hN];exact h)]
theorem rNum_ok {bs:List Bool} {N a:Nat} {bad:Bool} {m:Int} (hN:bs.length=N) (h:hasB N a bad m=false):bad=false∧0≤m∧m≤60∧m≤(N:Int) - (a:Int)∧rNum bs a bad m=(valL ((bs.drop a).take m.toNat),a+m.toNat,false):=by
 unfold hasB at h;rw [Bool.or_eq_false_iff,decide_eq_false_iff_not] at h;refine ⟨h.1,by omega,by omega,by omega,?_⟩;unfold rNum;rw [if_neg];rw [hN,h.1];intro hh;rcases hh with hh | hh
 ·cases hh
 ·exact h.2 hh
theorem RdM.step {w:World} {p q z:Nat} {bad:Bool} (h:RdM w p q z bad):RdM (w.setCell ⟨p,2,none⟩ (.int .i64 ((z:Int)+1))) p q (z+1) bad:=by
 have h2:=Blk.set_ h 2 (.int .i64 ((z:Int)+1));unfold RdM;rw [show ((z+1:Nat):Int)=(z:Int)+1 by omega];exact h2
theorem rnum_any (S:List Nat) (p q a N:Nat) (bad:Bool) (m:Int) (bs:List Bool) (c:Bool) (w:World) (h:RdM w p q a bad) (hv:VecM w S q bs c) (hN:bs.length=N) (ha:a≤N) (hpS:p ∉ S) :
  Calls Tryz.prog 173 #[.pointer (some ⟨p,0,none⟩),.int .i64 m] w fun e w'=>e=.returned (.int .i64 (((rNum bs a bad m).1:Nat):Int))∧RdM w' p q (rNum bs a bad m).2.1 (rNum bs a bad m).2.2∧Kp [p] w w':=by
 have hN16:N≤16777216:=by rw [← hN];exact hv.tail.2.2.2
 cases hz:hasB N a bad m with
 | true =>
   rw [rNum_bad hN hz];have H:=Lib.hid h;clear h;have HV:=Lib.hid hv;clear hv;have HN:=Lib.hid hN;clear hN;have HZ:=Lib.hid hz;clear hz
   go_enter Tryz.func173,Tryz.ntmps173
   go_wp2_with fail;refine (rhas_any S p q a N bad m bs c w H.out HV.out HN.out ha).mono ?_;rw [HZ.out];rintro e w1 ⟨rfl,hr,hk⟩;have HR:=Lib.hid hr;clear hr;have HK:=Lib.hid hk;clear hk;go_wp2_with fail;go_ret;exact ⟨rfl,HR.out,HK.out⟩
 | false =>
   obtain ⟨rfl,hm0,hm60,hmN,hR⟩:=rNum_ok hN hz;obtain ⟨M,rfl⟩:∃ M:Nat,m=(M:Int):=⟨m.toNat,by omega⟩;rw [Int.toNat_natCast] at hR;rw [hR];have hM60:M≤60:=by omega
   have haM:a+M≤N:=by omega
   have H:=Lib.hid h;clear h;have HV:=Lib.hid hv;clear hv;have HN:=Lib.hid hN;clear hN;have HZ:=Lib.hid hz;clear hz;have HPS:=Lib.hid hpS;clear hpS;clear hR hm0 hm60 hmN
   go_enter Tryz.func173,Tryz.ntmps173
   go_wp2_with fail;refine (rhas_any S p q a N false (M:Int) bs c w H.out HV.out HN.out ha).mono ?_;rw [HZ.out];rintro e w1 ⟨rfl,hr,hk⟩;have HR:=Lib.hid hr;clear hr;have HK:=Lib.hid hk;clear hk;go_wp2_with fail
   go_loopw [4,10] (fun s y wr=>∃ (k X z:Nat),y=.int .i64 (k:Int)∧s=.int .i64 (X:Int)∧k≤M∧Hid (z=a+k)∧Hid (X=valL ((bs.drop a).take k))∧Hid (RdM wr p q z false)∧Hid (Kp [p] w wr)) (fun _ y _=>M - (intOf y).toNat)
   case atStart=>exact ⟨0,0,a,rfl,rfl,by omega,Lib.hid rfl,Lib.hid rfl,HR,HK⟩
   case round =>
    clear HR HK;obtain ⟨k,X,z,rfl,rfl,hk,HZ1,HX,HR,HK⟩:=hrel;by_cases hlt:k < M
    ·have HV1:=Lib.hid (HV.out.kp HK.out (fun g hg hm=>by simp only [List.mem_singleton] at hm;subst hm;exact HPS.out hg));obtain ⟨b,hb⟩:∃ b,bs[z]? = some b:=⟨_,List.getElem?_eq_getElem (by rw [HN.out,HZ1.out];omega)⟩;have hbd:(bs.drop a)[k]? = some b:=by rw [List.getElem?_drop,← HZ1.out];exact hb
     have HX1:=Lib.hid (show 2 * X+b.toNat=valL ((bs.drop a).take (k+1)) by rw [take_succ_of hbd,valL_snoc,← HX.out])
     have hXb:X < 1152921504606846976:=by
      have h1:=valL_lt ((bs.drop a).take k);rw [← HX.out,List.length_take] at h1;exact Nat.lt_of_lt_of_le h1 (Nat.pow_le_pow_right (n:=2) (by omega) (show min k (List.drop a bs).length≤60 by omega))
     have hzb:z≤16777216:=by have:=HZ1.out;omega
     have HG:=Lib.hid (getB_nat hb);obtain ⟨_,hc1,hc2⟩:=HR.out.cells;clear hb hbd
     cases b with
     | true =>
       go_wp2_with fail
       go_quiet ((go_at_call 182;exact quiet_eq ((vget_any S q (z:Int) bs c _ (HV1.out.kp0 ((Kp.refl [] wr).drewN _))).mono (fun e w' hh=>by rw [HG.out] at hh;exact hh))))
       rename_i nq
       obtain ⟨w2,hw2⟩:∃ w2,w2=wr.drewN nq:=⟨_,rfl⟩;have HR2:=Lib.hid (show RdM w2 p q z false by rw [hw2];exact HR.out.kp0 ((Kp.refl [] wr).drewN _));have HK2:=Lib.hid (show Kp [p] w w2 by rw [hw2];exact HK.out.drewN _);rw [← hw2];clear hw2 hc1 hc2;obtain ⟨_,hc1,hc2⟩:=HR2.out.cells;have cf:=Blk.free HR2.out 2;have HR3:=Lib.hid (HR2.out.step);have HK3:=Lib.hid (HK2.out.setCell (p:=⟨p,2,none⟩) (.inl (by simp)) (.int .i64 ((z:Int)+1)));go_wp2_with fail;exact ⟨⟨k+1,2 * X+1,z+1,by go_num,by rw [show (((2 * X+1:Nat)):Int)=(X:Int) * 2+1 by omega],by omega,Lib.hid (by rw [HZ1.out];omega),HX1,HR3,HK3⟩,by simp [intOf];omega⟩
     | false =>
       go_wp2_with fail
       go_quiet ((go_at_call 182;exact quiet_eq ((vget_any S q (z:Int) bs c _ (HV1.out.kp0 ((Kp.refl [] wr).drewN _))).mono (fun e w' hh=>by rw [HG.out] at hh;exact hh))))
       rename_i nq
       obtain ⟨w2,hw2⟩:∃ w2,w2=wr.drewN nq:=⟨_,rfl⟩;have HR2:=Lib.hid (show RdM w2 p q z false by rw [hw2];exact HR.out.kp0 ((Kp.refl [] wr).drewN _));have HK2:=Lib.hid (show Kp [p] w w2 by rw [hw2];exact HK.out.drewN _);rw [← hw2];clear hw2 hc1 hc2;obtain ⟨_,hc1,hc2⟩:=HR2.out.cells;have cf:=Blk.free HR2.out 2;have HR3:=Lib.hid (HR2.out.step);have HK3:=Lib.hid (HK2.out.setCell (p:=⟨p,2,none⟩) (.inl (by simp)) (.int .i64 ((z:Int)+1)));go_wp2_with fail;exact ⟨⟨k+1,2 * X,z+1,by go_num,by rw [show (((2 * X:Nat)):Int)=(X:Int) * 2 by omega],by omega,Lib.hid (by rw [HZ1.out];omega),HX1,HR3,HK3⟩,by simp [intOf];omega⟩
    ·obtain rfl:M=k:=by omega
     have HXF:=Lib.hid (show X=valL ((bs.drop a).take M) from HX.out);go_wp2_with fail;go_ret;exact ⟨by rw [← HXF.out];rfl,by rw [show a+M=z from HZ1.out.symm];exact HR.out,HK.out⟩
theorem rnext_any (S:List Nat) (p q a N:Nat) (bad:Bool) (bs:List Bool) (c:Bool) (w:World) (h:RdM w p q a bad) (hv:VecM w S q bs c) (hN:bs.length=N) (ha:a≤N) (hpS:p ∉ S) :
  Calls Tryz.prog 175 #[.pointer (some ⟨p,0,none⟩)] w fun e w'=>e=.returned (.bool ((rNum bs a bad 1).1 == 1))∧RdM w' p q (rNum bs a bad 1).2.1 (rNum bs a bad 1).2.2∧Kp [p] w w':=by
 have HC:=Lib.hid (rnum_any S p q a N bad 1 bs c w h hv hN ha hpS);obtain ⟨X,hX⟩:∃ X,X=(rNum bs a bad 1).1:=⟨_,rfl⟩
 have hb:((X:Int) == 1)=(X == 1):=by
  by_cases h:X=1
  ·subst h;rfl
  ·have h2:¬ (X:Int)=1:=by omega
   rw [beq_eq_false_iff_ne.2 h2,beq_eq_false_iff_ne.2 h]
 rw [← hX];have HX:=Lib.hid hX;clear h hv hN hX
 go_enter Tryz.func175,Tryz.ntmps175
 go_wp2_with fail;refine HC.out.mono ?_;rw [← HX.out];rintro e w1 ⟨rfl,hr,hk⟩;have HR:=Lib.hid hr;clear hr;have HK:=Lib.hid hk;clear hk;go_wp2_with fail;go_ret;exact ⟨by first | rfl | rw [hb],HR.out,HK.out⟩

theorem cnt_zer (bs:List Bool) (a:Nat):cntI bs (a+zer (bs.drop a))=cntI bs a:=by
 rw [cntI_add]
 have:((bs.drop a).take (zer (bs.drop a))).count true=0:=by
  rw [List.count_eq_zero];intro hm;obtain ⟨i,hi⟩:=List.getElem?_of_mem hm;rw [List.getElem?_take] at hi
  split at hi
  ·rename_i h
   rw [zer_get h] at hi
   cases hi
  ·cases hi
 omega
theorem rank_nat {bs:List Bool} {a:Nat} (h:a≤bs.length):rankI bs (a:Int)=cntI bs a:=by
 unfold rankI;rw [show (min (max (a:Int) 0) (bs.length:Int)).toNat=a by omega]
theorem sel_next {bs:List Bool} {a N:Nat} (hN:bs.length=N) (ha:a≤N) :
  (zer (bs.drop a) < N - a∧selI bs ((rankI bs (a:Int):Nat):Int)=((a+zer (bs.drop a):Nat):Int)∧selB bs ((rankI bs (a:Int):Nat):Int)=true) ∨
  (zer (bs.drop a)=N - a∧selB bs ((rankI bs (a:Int):Nat):Int)=false):=by
 rw [rank_nat (by omega)];have hz:=zer_le (bs.drop a);rw [List.length_drop,hN] at hz;by_cases h:zer (bs.drop a) < N - a
 ·left
  have h1:=zer_at (l:=bs.drop a) (by rw [List.length_drop,hN];exact h);rw [List.getElem?_drop] at h1;have hs:IsSel bs (((cntI bs a:Nat):Int)).toNat (a+zer (bs.drop a)):=⟨h1,by rw [Int.toNat_natCast];exact cnt_zer bs a⟩;have ho:=selO_some (by omega) hs;unfold selI selB;rw [ho];exact ⟨h,rfl,rfl⟩
 ·right
  refine ⟨by omega,?_⟩;have h1:=cnt_zer bs a;rw [cntI_all (by omega)] at h1;unfold selB;rw [selO_none (.inr (by omega))];rfl
theorem rGam_bad {bs:List Bool} {a N Z:Nat} (hN:bs.length=N) (hZ:Z=zer (bs.drop a)) (h:60≤Z ∨ N - a < 2 * Z+1):rGam bs a false=(0,a,true):=by
 unfold rGam;rw [← hZ,hN,if_neg (by simp),if_pos h]
theorem rGam_ok {bs:List Bool} {a N Z:Nat} (hN:bs.length=N) (hZ:Z=zer (bs.drop a)) (h1:Z < 60) (h2:2 * Z+1≤N - a):rGam bs a false=rNum bs (a+Z) false ((Z+1:Nat):Int):=by
 unfold rGam rNum;rw [← hZ,hN,if_neg (by simp),if_neg (by omega),if_neg (by simp;omega),Int.toNat_natCast]
theorem RdM.to {w:World} {p q z z':Nat} {bad:Bool} (h:RdM w p q z bad) {v:Int} (hv:v=(z':Int)):RdM (w.setCell ⟨p,2,none⟩ (.int .i64 v)) p q z' bad:=by
 subst hv;exact Blk.set_ h 2 _
theorem rgam_any (S:List Nat) (p q a N:Nat) (bad:Bool) (bs:List Bool) (c:Bool) (w:World) (h:RdM w p q a bad) (hv:VecM w S q bs c) (hN:bs.length=N) (ha:a≤N) (hpS:p ∉ S) (ht:Tab64 w) (h0:0 ∉ S) (h0p:0 ≠ p) :
  Calls Tryz.prog 160 #[.pointer (some ⟨p,0,none⟩)] w fun e w'=>e=.returned (.int .i64 (((rGam bs a bad).1:Nat):Int))∧RdM w' p q (rGam bs a bad).2.1 (rGam bs a bad).2.2∧∃ S' c',VecM w' S' q bs c'∧Kp (p :: S) w w'∧Grow w S S':=by
 have hN16:N≤16777216:=by rw [← hN];exact hv.tail.2.2.2
 cases bad with
 | true =>
   have hz:hasB N a true 0=true:=rfl;have hR:rGam bs a true=(0,a,true):=rfl;rw [hR];have H:=Lib.hid h;clear h;have HV:=Lib.hid hv;clear hv;have HN:=Lib.hid hN;clear hN;have HZ:=Lib.hid hz;clear hz;clear hR
   go_enter Tryz.func160,Tryz.ntmps160
   go_wp2_with fail;refine (rhas_any S p q a N true 0 bs c w H.out HV.out HN.out ha).mono ?_;rw [HZ.out];rintro e w1 ⟨rfl,hr,hk⟩;have HV1:=Lib.hid (HV.out.kp hk (fun g hg hm=>by simp only [List.mem_singleton] at hm;subst hm;exact hpS hg));have HR:=Lib.hid hr;clear hr;have HK:=Lib.hid hk;clear hk;go_wp2_with fail;go_ret;exact ⟨rfl,HR.out,S,c,HV1.out,HK.out.mono (by simp),Grow.refl _ _⟩
 | false =>
   have hz:hasB N a false 0=false:=by
    unfold hasB;rw [Bool.false_or,decide_eq_false_iff_not];omega
   obtain ⟨Z,hZ⟩:∃ Z,Z=zer (bs.drop a):=⟨_,rfl⟩;have hsel:=sel_next hN ha;rw [← hZ] at hsel;obtain ⟨D,hD⟩:∃ D,D=N - a:=⟨_,rfl⟩;have hDw:IntKind.i64.wrap ((N:Int) - (a:Int))=(D:Int):=by rw [IntKind.wrap_i64];omega
   have hDN:(N:Int) - (a:Int)=(D:Int):=by omega
   have HDD:=Lib.hid hD;rw [← hD] at hsel;obtain ⟨R,hR⟩:∃ R,R=rGam bs a false:=⟨_,rfl⟩;rw [← hR];have HRR:=Lib.hid hR;have HZ9:=Lib.hid hZ;have H:=Lib.hid h;clear h;have HV:=Lib.hid hv;clear hv;have HN:=Lib.hid hN;clear hN;have HZ:=Lib.hid hz;clear hz;have HPS:=Lib.hid hpS;clear hpS;have HT:=Lib.hid ht;clear ht;have H0:=Lib.hid h0;clear h0;have H0P:=Lib.hid h0p;clear h0p;have HDW:=Lib.hid hDw;clear hDw;have HDN:=Lib.hid hDN;clear hDN;clear hR hZ hD
   go_enter Tryz.func160,Tryz.ntmps160
   go_wp2_with fail;refine (rhas_any S p q a N false 0 bs c w H.out HV.out HN.out ha).mono ?_;rw [HZ.out];rintro e w1 ⟨rfl,hr,hk⟩;have HV1:=Lib.hid (HV.out.kp hk (fun g hg hm=>by simp only [List.mem_singleton] at hm;subst hm;exact HPS.out hg));have HR1:=Lib.hid (show RdM w1 p q a false from hr);have HK1:=Lib.hid hk;clear hr hk HV H;obtain ⟨hc0,hc1,hc2⟩:=HR1.out.cells;have hDw:=HDW.out;go_wp2_with fail
   go_quiet ((go_at_call 78;exact quiet_eq (vlen_any S q N bs c _ (HV1.out.kp0 ((Kp.refl [] w1).drewN _)) HN.out)))
   rename_i nq
   obtain ⟨w2,hw2⟩:∃ w2,w2=w1.drewN nq:=⟨_,rfl⟩;have hk2:Kp [] w1 w2:=by rw [hw2];exact (Kp.refl [] w1).drewN _
   have HV2:=Lib.hid (HV1.out.kp0 hk2);have HR2:=Lib.hid (HR1.out.kp0 hk2);have HK2:=Lib.hid (HK1.out.kp0 hk2);rw [← hw2];clear hw2 hk2 hc0 hc1 hc2 hDw HV1 HR1 HK1;obtain ⟨hc0,hc1,hc2⟩:=HR2.out.cells;obtain ⟨Rk,hRk⟩:∃ Rk,Rk=rankI bs (a:Int):=⟨_,rfl⟩;rw [← hRk] at hsel;have HRK:=Lib.hid hRk;have HT2:=Lib.hid (HT.out.kp HK2.out (by simp only [List.mem_singleton];exact H0P.out));clear hRk hc0;have hDb:D≤N - a:=Nat.le_of_eq HDD.out;rcases hsel with ⟨hlt,hs1,hs2⟩ | ⟨heq,hs2⟩
   ·obtain ⟨K,hK⟩:∃ K,K=a+Z:=⟨_,rfl⟩;rw [← hK] at hs1;have hks:(K:Int) - (a:Int)=(Z:Int):=by omega
    have hKb:K≤16777216:=by omega
    have HS1:=Lib.hid hs1;have HS2:=Lib.hid hs2;have HKK:=Lib.hid hK;clear hs1 hs2 hK;go_wp2_with fail
    go_region_held3 (fun w'=>w'.cell? ⟨p,1,none⟩=some (.pointer (some ⟨q,0,none⟩))∧w'.cell? ⟨p,2,none⟩=some (.int .i64 (a:Int))) (go_keep)
     (first
      | (go_at_call 172
         refine (vrank_any S q (a:Int) bs c _ (HV2.out.kp0 ((Kp.refl [] w2).drew))).mono ?_;rw [← HRK.out];rintro e w3 ⟨rfl,S3,hv3,hk3',hg3',_⟩;have hk3:Kp S w2 w3:=((Kp.refl S w2).drew).trans hk3';have hc1':=hk3.cell hc1 HPS.out;have hc2':=hk3.cell hc2 HPS.out;have HV3:=Lib.hid hv3;have HG3:=Lib.hid (show Grow w2 S S3 from hg3');have HR3:=Lib.hid (HR2.out.kp hk3 HPS.out);have HT3:=Lib.hid (HT2.out.kp hk3 H0.out);have HK3:=Lib.hid (show Kp (p :: S) w w3 from (HK2.out.mono (by simp)).trans (hk3.mono (by intro x hx;simp [hx])))
         clear hv3 hk3 hk3' hg3' hc1 hc2)
      | (go_at_call 146
         refine (qselect (Rk:Int) (HV3.out.kp0 (show Kp [] w3 _ from by first | exact Kp.refl _ _ | exact (Kp.refl _ _).drew)) (HT3.out.kp0 (show Kp [] w3 _ from by first | exact Kp.refl _ _ | exact (Kp.refl _ _).drew)) (fun hm=>by rcases HG3.out _ hm with h | h;exact H0.out h;have:=HT2.out.lt;omega) HS1.out HS2.out).mono ?_;rintro e w4 ⟨rfl,hk4'⟩;have hk4:Kp [] w3 w4:=by first | exact hk4' | exact ((Kp.refl [] w3).drew).trans hk4'
         have hc1'':=hk4.cell hc1' (by simp);have hc2'':=hk4.cell hc2' (by simp);have HV4:=Lib.hid (HV3.out.kp0 hk4);have HR4:=Lib.hid (HR3.out.kp0 hk4);have HK4:=Lib.hid (HK3.out.kp0 hk4)
         clear hk4 hk4' hc1' hc2' HV3 HR3 HT3 HK3))
    have HP3:=Lib.hid (show p ∉ S3 from fun hm=>by
     rcases HG3.out _ hm with h | h
     ·exact HPS.out h
     ·have:=Blk.lt HR2.out;omega)
    have HGF:=Lib.hid (show Grow w S S3 from (fun g hg=>(HG3.out g hg).imp id (fun h=>Nat.le_trans HK2.out.size h)));clear HG3 HR2 HV2 HT2 HK2 hc1'' hc2'';go_wp2_with fail;have hDw:=HDW.out;have hZb:Z≤16777216:=by omega
    have hz2:IntKind.i64.wrap (2 * (Z:Int))=((2 * Z:Nat):Int):=by rw [IntKind.wrap_i64];omega
    obtain ⟨Z2,hZ2⟩:∃ Z2,Z2=2 * Z:=⟨_,rfl⟩;obtain ⟨Z3,hZ3⟩:∃ Z3,Z3=2 * Z+1:=⟨_,rfl⟩;rw [← hZ2] at hz2;have hz3:IntKind.i64.wrap ((Z2:Int)+1)=(Z3:Int):=by rw [IntKind.wrap_i64];omega
    have HZ3:=Lib.hid hZ3;clear hZ2;by_cases hbad:60≤Z ∨ D < Z3
    ·have HR5:=Lib.hid (show R=(0,a,true) by rw [HRR.out];exact rGam_bad HN.out HZ9.out (by rw [← HDD.out,← HZ3.out];exact hbad));by_cases h60:60≤Z
     ·have hd1:decide (60≤(Z:Int))=true:=decide_eq_true (by omega);have hd1':decide (60≤Z)=true:=decide_eq_true h60;clear hZ3 hbad
      go_quiet (fail)
      go_wp2_with fail;refine (spoil_new p 235 4 [.pointer (some ⟨q,0,none⟩),.int .i64 (a:Int)] _ (HR4.out.kp0 ((Kp.refl [] w4).drewN _))).mono ?_;rintro e w6 ⟨rfl,hb6,hk6⟩;have HB6:=Lib.hid hb6;have hk46:Kp [p] w4 w6:=((Kp.refl [p] w4).drewN _).trans hk6;have HV6:=Lib.hid (HV4.out.kp hk46 (by intro x hx hm;simp only [List.mem_singleton] at hm;subst hm;exact HP3.out hx));have HK6:=Lib.hid (HK4.out.trans (hk46.mono (by simp)));clear hb6 hk6 hk46;go_wp2_with fail;go_ret;rw [HR5.out];exact ⟨rfl,HB6.out,S3,true,HV6.out,HK6.out,HGF.out⟩
     ·have hD3:D < Z3:=by omega
      have hd1:decide (60≤(Z:Int))=false:=decide_eq_false (by omega);have hd1':decide (60≤Z)=false:=decide_eq_false h60;have hd2:decide ((D:Int) < (Z3:Int))=true:=decide_eq_true (by omega);have hd2':decide (D < Z3)=true:=decide_eq_true hD3;clear hZ3 hbad
      go_quiet ((go_at_call 78;exact quiet_eq (vlen_any S3 q N bs true _ (HV4.out.kp0 ((Kp.refl [] w4).drewN _)) HN.out)))
      go_wp2_with fail;refine (spoil_new p 235 4 [.pointer (some ⟨q,0,none⟩),.int .i64 (a:Int)] _ (HR4.out.kp0 ((Kp.refl [] w4).drewN _))).mono ?_;rintro e w6 ⟨rfl,hb6,hk6⟩;have HB6:=Lib.hid hb6;have hk46:Kp [p] w4 w6:=((Kp.refl [p] w4).drewN _).trans hk6;have HV6:=Lib.hid (HV4.out.kp hk46 (by intro x hx hm;simp only [List.mem_singleton] at hm;subst hm;exact HP3.out hx));have HK6:=Lib.hid (HK4.out.trans (hk46.mono (by simp)));clear hb6 hk6 hk46;go_wp2_with fail;go_ret;rw [HR5.out];exact ⟨rfl,HB6.out,S3,true,HV6.out,HK6.out,HGF.out⟩
    ·have hZ60:Z < 60:=by omega
     have HR5:=Lib.hid (show R=rNum bs (a+Z) false ((Z+1:Nat):Int) by rw [HRR.out];exact rGam_ok HN.out HZ9.out hZ60 (by rw [← HDD.out,← HZ3.out];omega));have hd1:decide (60≤(Z:Int))=false:=decide_eq_false (by omega);have hd1':decide (60≤Z)=false:=decide_eq_false (by omega);have hd2:decide ((D:Int) < (Z3:Int))=false:=decide_eq_false (by omega);have hd2':decide (D < Z3)=false:=decide_eq_false (by omega);have haZ:a+Z≤N:=by omega
     clear hZ3 hbad
     go_quiet ((go_at_call 78;exact quiet_eq (vlen_any S3 q N bs true _ (HV4.out.kp0 ((Kp.refl [] w4).drewN _)) HN.out)))
     generalize hw5:w4.drewN _=w5
     have hk5:Kp [] w4 w5:=by rw [← hw5];exact (Kp.refl [] w4).drewN _
     have HV5:=Lib.hid (HV4.out.kp0 hk5);have HR6:=Lib.hid (HR4.out.kp0 hk5);have HK5:=Lib.hid (HK4.out.kp0 hk5);clear hw5 hk5 hDw hz2 hz3 hd1 hd1' hd2 hd2' HV4 HR4 HK4;obtain ⟨_,_,hc25⟩:=HR6.out.cells;have cf5:=Blk.free HR6.out 2;have HR7:=Lib.hid (HR6.out.to (z':=a+Z) (v:=(a:Int)+(Z:Int)) (by omega));have HV7:=Lib.hid (HV5.out.kp ((Kp.refl [p] w5).setCell (p:=⟨p,2,none⟩) (.inl (by simp)) (.int .i64 ((a:Int)+(Z:Int)))) (by intro x hx hm;simp only [List.mem_singleton] at hm;subst hm;exact HP3.out hx));have HK7:=Lib.hid (HK5.out.setCell (p:=⟨p,2,none⟩) (.inl (by simp)) (.int .i64 ((a:Int)+(Z:Int))));go_wp2_with fail;have hnm:=rnum_any S3 p q (a+Z) N false ((Z+1:Nat):Int) bs true _ HR7.out HV7.out HN.out haZ HP3.out;rw [show ((Z+1:Nat):Int)=(Z:Int)+1 by omega] at hnm;refine hnm.mono ?_;clear hnm;rw [show rNum bs (a+Z) false ((Z:Int)+1)=R from HR5.out.symm];rintro e w8 ⟨rfl,hr8,hk8⟩;have HV8:=Lib.hid (HV7.out.kp hk8 (by intro x hx hm;simp only [List.mem_singleton] at hm;subst hm;exact HP3.out hx));have HK8:=Lib.hid (HK7.out.trans (hk8.mono (by simp)));have HR8:=Lib.hid hr8;clear hr8 hk8;go_wp2_with fail;go_ret;exact ⟨rfl,HR8.out,S3,true,HV8.out,HK8.out,HGF.out⟩
   ·obtain rfl:Z=D:=heq;have HS2:=Lib.hid hs2;clear hs2;go_wp2_with fail
    go_region_held3 (fun w'=>w'.cell? ⟨p,1,none⟩=some (.pointer (some ⟨q,0,none⟩))∧w'.cell? ⟨p,2,none⟩=some (.int .i64 (a:Int))) (go_keep)
     (first
      | (go_at_call 172
         refine (vrank_any S q (a:Int) bs c _ (HV2.out.kp0 ((Kp.refl [] w2).drew))).mono ?_;rw [← HRK.out];rintro e w3 ⟨rfl,S3,hv3,hk3',hg3',_⟩;have hk3:Kp S w2 w3:=((Kp.refl S w2).drew).trans hk3';have hc1':=hk3.cell hc1 HPS.out;have hc2':=hk3.cell hc2 HPS.out;have HV3:=Lib.hid hv3;have HG3:=Lib.hid (show Grow w2 S S3 from hg3');have HR3:=Lib.hid (HR2.out.kp hk3 HPS.out);have HT3:=Lib.hid (HT2.out.kp hk3 H0.out);have HK3:=Lib.hid (show Kp (p :: S) w w3 from (HK2.out.mono (by simp)).trans (hk3.mono (by intro x hx;simp [hx])))
         clear hv3 hk3 hk3' hg3' hc1 hc2)
      | (go_at_call 146
         refine (qselect (x:=selI bs ((Rk:Nat):Int)) (Rk:Int) (HV3.out.kp0 (show Kp [] w3 _ from by first | exact Kp.refl _ _ | exact (Kp.refl _ _).drew)) (HT3.out.kp0 (show Kp [] w3 _ from by first | exact Kp.refl _ _ | exact (Kp.refl _ _).drew)) (fun hm=>by rcases HG3.out _ hm with h | h;exact H0.out h;have:=HT2.out.lt;omega) rfl HS2.out).mono ?_;rintro e w4 ⟨rfl,hk4'⟩;have hk4:Kp [] w3 w4:=by first | exact hk4' | exact ((Kp.refl [] w3).drew).trans hk4'
         have hc1'':=hk4.cell hc1' (by simp);have hc2'':=hk4.cell hc2' (by simp);have HV4:=Lib.hid (HV3.out.kp0 hk4);have HR4:=Lib.hid (HR3.out.kp0 hk4);have HK4:=Lib.hid (HK3.out.kp0 hk4)
         clear hk4 hk4' hc1' hc2' HV3 HR3 HT3 HK3))
    have HP3:=Lib.hid (show p ∉ S3 from fun hm=>by
     rcases HG3.out _ hm with h | h
     ·exact HPS.out h
     ·have:=Blk.lt HR2.out;omega)
    have HGF:=Lib.hid (show Grow w S S3 from (fun g hg=>(HG3.out g hg).imp id (fun h=>Nat.le_trans HK2.out.size h)));clear HG3 HR2 HV2 HT2 HK2 hc1'' hc2'';go_wp2_with fail;have hDw:=HDW.out;have hZb:Z≤16777216:=by omega
    have hz2:IntKind.i64.wrap (2 * (Z:Int))=((2 * Z:Nat):Int):=by rw [IntKind.wrap_i64];omega
    obtain ⟨Z2,hZ2⟩:∃ Z2,Z2=2 * Z:=⟨_,rfl⟩;obtain ⟨Z3,hZ3⟩:∃ Z3,Z3=2 * Z+1:=⟨_,rfl⟩;rw [← hZ2] at hz2;have hz3:IntKind.i64.wrap ((Z2:Int)+1)=(Z3:Int):=by rw [IntKind.wrap_i64];omega
    have HZ3:=Lib.hid hZ3;clear hZ2;by_cases hbad:60≤Z ∨ Z < Z3
    ·have HR5:=Lib.hid (show R=(0,a,true) by rw [HRR.out];exact rGam_bad HN.out HZ9.out (by rw [← HDD.out,← HZ3.out];exact hbad));by_cases h60:60≤Z
     ·have hd1:decide (60≤(Z:Int))=true:=decide_eq_true (by omega);have hd1':decide (60≤Z)=true:=decide_eq_true h60;clear hZ3 hbad
      go_quiet (fail)
      go_wp2_with fail;refine (spoil_new p 235 4 [.pointer (some ⟨q,0,none⟩),.int .i64 (a:Int)] _ (HR4.out.kp0 ((Kp.refl [] w4).drewN _))).mono ?_;rintro e w6 ⟨rfl,hb6,hk6⟩;have HB6:=Lib.hid hb6;have hk46:Kp [p] w4 w6:=((Kp.refl [p] w4).drewN _).trans hk6;have HV6:=Lib.hid (HV4.out.kp hk46 (by intro x hx hm;simp only [List.mem_singleton] at hm;subst hm;exact HP3.out hx));have HK6:=Lib.hid (HK4.out.trans (hk46.mono (by simp)));clear hb6 hk6 hk46;go_wp2_with fail;go_ret;rw [HR5.out];exact ⟨rfl,HB6.out,S3,true,HV6.out,HK6.out,HGF.out⟩
     ·have hD3:Z < Z3:=by omega
      have hd1:decide (60≤(Z:Int))=false:=decide_eq_false (by omega);have hd1':decide (60≤Z)=false:=decide_eq_false h60;have hd2:decide ((Z:Int) < (Z3:Int))=true:=decide_eq_true (by omega);have hd2':decide (Z < Z3)=true:=decide_eq_true hD3;clear hZ3 hbad
      go_quiet ((go_at_call 78;exact quiet_eq (vlen_any S3 q N bs true _ (HV4.out.kp0 ((Kp.refl [] w4).drewN _)) HN.out)))
      go_wp2_with fail;refine (spoil_new p 235 4 [.pointer (some ⟨q,0,none⟩),.int .i64 (a:Int)] _ (HR4.out.kp0 ((Kp.refl [] w4).drewN _))).mono ?_;rintro e w6 ⟨rfl,hb6,hk6⟩;have HB6:=Lib.hid hb6;have hk46:Kp [p] w4 w6:=((Kp.refl [p] w4).drewN _).trans hk6;have HV6:=Lib.hid (HV4.out.kp hk46 (by intro x hx hm;simp only [List.mem_singleton] at hm;subst hm;exact HP3.out hx));have HK6:=Lib.hid (HK4.out.trans (hk46.mono (by simp)));clear hb6 hk6 hk46;go_wp2_with fail;go_ret;rw [HR5.out];exact ⟨rfl,HB6.out,S3,true,HV6.out,HK6.out,HGF.out⟩
    ·have hZ60:Z < 60:=by omega
     have HR5:=Lib.hid (show R=rNum bs (a+Z) false ((Z+1:Nat):Int) by rw [HRR.out];exact rGam_ok HN.out HZ9.out hZ60 (by rw [← HDD.out,← HZ3.out];omega));have hd1:decide (60≤(Z:Int))=false:=decide_eq_false (by omega);have hd1':decide (60≤Z)=false:=decide_eq_false (by omega);have hd2:decide ((Z:Int) < (Z3:Int))=false:=decide_eq_false (by omega);have hd2':decide (Z < Z3)=false:=decide_eq_false (by omega);have haZ:a+Z≤N:=by omega
     clear hZ3 hbad
     go_quiet ((go_at_call 78;exact quiet_eq (vlen_any S3 q N bs true _ (HV4.out.kp0 ((Kp.refl [] w4).drewN _)) HN.out)))
     generalize hw5:w4.drewN _=w5
     have hk5:Kp [] w4 w5:=by rw [← hw5];exact (Kp.refl [] w4).drewN _
     have HV5:=Lib.hid (HV4.out.kp0 hk5);have HR6:=Lib.hid (HR4.out.kp0 hk5);have HK5:=Lib.hid (HK4.out.kp0 hk5);clear hw5 hk5 hDw hz2 hz3 hd1 hd1' hd2 hd2' HV4 HR4 HK4;obtain ⟨_,_,hc25⟩:=HR6.out.cells;have cf5:=Blk.free HR6.out 2;have HR7:=Lib.hid (HR6.out.to (z':=a+Z) (v:=(a:Int)+(Z:Int)) (by omega));have HV7:=Lib.hid (HV5.out.kp ((Kp.refl [p] w5).setCell (p:=⟨p,2,none⟩) (.inl (by simp)) (.int .i64 ((a:Int)+(Z:Int)))) (by intro x hx hm;simp only [List.mem_singleton] at hm;subst hm;exact HP3.out hx));have HK7:=Lib.hid (HK5.out.setCell (p:=⟨p,2,none⟩) (.inl (by simp)) (.int .i64 ((a:Int)+(Z:Int))));go_wp2_with fail;have hnm:=rnum_any S3 p q (a+Z) N false ((Z+1:Nat):Int) bs true _ HR7.out HV7.out HN.out haZ HP3.out;rw [show ((Z+1:Nat):Int)=(Z:Int)+1 by omega] at hnm;refine hnm.mono ?_;clear hnm;rw [show rNum bs (a+Z) false ((Z:Int)+1)=R from HR5.out.symm];rintro e w8 ⟨rfl,hr8,hk8⟩;have HV8:=Lib.hid (HV7.out.kp hk8 (by intro x hx hm;simp only [List.mem_singleton] at hm;subst hm;exact HP3.out hx));have HK8:=Lib.hid (HK7.out.trans (hk8.mono (by simp)));have HR8:=Lib.hid hr8;clear hr8 hk8;go_wp2_with fail;go_ret;exact ⟨rfl,HR8.out,S3,true,HV8.out,HK8.out,HGF.out⟩
theorem rnew_yes (S:List Nat) (q N a:Nat) (bs:List Bool) (c:Bool) (w:World) (hv:VecM w S q bs c) (hN:bs.length=N) (h:a≤N) :
  Calls Tryz.prog 136 #[.pointer (some ⟨q,0,none⟩),.int .i64 (a:Int)] w fun e w'=>∃ p,e=.returned (.tuple #[.pointer (some ⟨p,0,none⟩),.int .i64 0])∧RdM w' p q a false∧VecM w' S q bs false∧w.heap.size≤p∧p ∉ S∧Kp S w w':=by
 have hN16:N≤16777216:=by rw [← hN];exact hv.tail.2.2.2
 have HV:=Lib.hid hv;clear hv;have HN:=Lib.hid hN;clear hN
 go_enter Tryz.func136,Tryz.ntmps136
 go_wp2_with fail;refine (vset_any S q N 0 0 0 false none [] bs c w HV.out HN.out (Rd.nil _ _ _) rfl (by omega) (fun ad h=>by cases h)).mono ?_;rintro e w1 (⟨hb,_⟩ | ⟨_,rfl,hv1,hk1⟩)
 ·cases hb
 have HV1:=Lib.hid (show VecM w1 S q bs false from hv1);have HK1:=Lib.hid hk1;clear hv1 hk1
 go_wp2_with (go_at_call 78;refine (vlen_any S q N bs false w1 HV1.out HN.out).mono ?_;rintro e w2 ⟨rfl,rfl⟩)
 go_ret2;exact ⟨w1.heap.size,rfl,Blk.new w1 235 [.int .i64 0,.pointer (some ⟨q,0,none⟩),.int .i64 (a:Int)],HV1.out.kp0 ((Kp.refl [] w1).alloc _),HK1.out.size,fun hm=>Nat.lt_irrefl _ (HV1.out.lt _ hm),HK1.out.alloc _⟩

def RrM (w:World) (p:Nat) (A:Option Addr) (N c a:Nat) (bad:Bool):Prop:=Blk w p 213 [.slice A N c,.int .i64 (a:Int),.bool bad]
theorem RrM.kp {w w':World} {p N c a:Nat} {A:Option Addr} {bad:Bool} {T:List Nat} (h:RrM w p A N c a bad) (hk:Kp T w w') (hp:p ∉ T):RrM w' p A N c a bad:=Blk.kp h hk hp
theorem RrM.kp0 {w w':World} {p N c a:Nat} {A:Option Addr} {bad:Bool} (h:RrM w p A N c a bad) (hk:Kp [] w w'):RrM w' p A N c a bad:=h.kp hk (by simp)
theorem RrM.cells {w:World} {p N c a:Nat} {A:Option Addr} {bad:Bool} (h:RrM w p A N c a bad):w.cell? ⟨p,0,none⟩=some (.slice A N c)∧w.cell? ⟨p,1,none⟩=some (.int .i64 (a:Int))∧w.cell? ⟨p,2,none⟩=some (.bool bad):=
 ⟨by rw [Blk.cell h];rfl,by rw [Blk.cell h];rfl,by rw [Blk.cell h];rfl⟩
theorem Rd.cut {w:World} {B:Nat} {A:Option Addr} {xs:List Value} {a n c:Nat} (h:Rd w B A xs) (ha:a+n≤xs.length) (hc:xs.length≤c):Rd w B (if c=a then A else A.map (fun x=>x.add a)) ((xs.drop a).take n):=by
 intro i u hu;rw [List.getElem?_take] at hu
 split at hu
 ·rename_i hi
  rw [List.getElem?_drop] at hu;obtain ⟨ad,e,hb,hcell⟩:=h _ u hu;subst e;rw [if_neg (by omega)];exact ⟨_,rfl,by rw [addr_add_block];exact hb,by rw [addr_add_add];exact hcell⟩
 ·cases hu
theorem rtake_no (p N c a:Nat) (A:Option Addr) (bad:Bool) (m:Int) (w:World) (h:RrM w p A N c a bad) (ha:a≤N) (hN:N≤16777216) (hb:hasB N a bad m=true) :
  Calls Tryz.prog 180 #[.pointer (some ⟨p,0,none⟩),.int .i64 m] w fun e w'=>e=.returned (.tuple #[.slice none 0 0,.bool false])∧RrM w' p A N c a true∧Kp [p] w w':=by
 obtain ⟨hc0,hc1,hc2⟩:=h.cells;have hf:=Blk.free h 2;have H:=Lib.hid h;clear h;unfold hasB at hb;rw [Bool.or_eq_true,decide_eq_true_iff] at hb
 have go:∀ nq,RrM ((w.drewN nq).setCell ⟨p,2,none⟩ (.bool true)) p A N c a true∧Kp [p] w ((w.drewN nq).setCell ⟨p,2,none⟩ (.bool true)):=fun nq =>
  ⟨Blk.set_ (show Blk (w.drewN nq) p _ _ from H.out.kp0 ((Kp.refl [] w).drewN _)) 2 (.bool true),((Kp.refl [p] w).drewN _).setCell (.inl (by simp)) _⟩
 have GO:=Lib.hid go;clear go
 cases bad with
 | true =>
   go_enter Tryz.func180,Tryz.ntmps180
   go_wp2_with fail
   go_quiet (fail)
   go_wp2_with fail;go_ret2;exact ⟨rfl,GO.out _⟩
 | false =>
   have hb':m < 0 ∨ 60 < m ∨ (N:Int) - (a:Int) < m:=by
    rcases hb with h | h
    ·cases h
    ·exact h
   clear hb;by_cases h1:m < 0
   ·have hd1:decide (m < 0)=true:=decide_eq_true h1;clear hb'
    go_enter Tryz.func180,Tryz.ntmps180
    go_wp2_with fail
    go_quiet (fail)
    go_wp2_with fail;go_ret2;exact ⟨rfl,GO.out _⟩
   have hd1:decide (m < 0)=false:=decide_eq_false h1;by_cases h2:60 < m
   ·have hd2:decide (60 < m)=true:=decide_eq_true h2;clear hb'
    go_enter Tryz.func180,Tryz.ntmps180
    go_wp2_with fail
    go_quiet (fail)
    go_wp2_with fail;go_ret2;exact ⟨rfl,GO.out _⟩
   have hd2:decide (60 < m)=false:=decide_eq_false h2;have h3:(N:Int) - (a:Int) < m:=by omega
   obtain ⟨M,rfl⟩:∃ M:Nat,m=(M:Int):=⟨m.toNat,by omega⟩;obtain ⟨D,hD⟩:∃ D,D=N - a:=⟨_,rfl⟩;have hDw:IntKind.i64.wrap ((N:Int) - (a:Int))=(D:Int):=by rw [IntKind.wrap_i64];omega
   have hd3:decide ((D:Int) < (M:Int))=true:=decide_eq_true (by omega);have hd3':decide (D < M)=true:=decide_eq_true (by omega);clear hb' hD h3
   go_enter Tryz.func180,Tryz.ntmps180
   go_wp2_with fail
   go_quiet (fail)
   go_wp2_with fail;go_ret2;exact ⟨rfl,GO.out _⟩
theorem rtake_yes (p N c a M B:Nat) (A:Option Addr) (bs:List Bool) (w:World) (h:RrM w p A N c a false) (hx:Rd w B A (bs.map .bool)) (hN:bs.length=N) (hc:N≤c) (ha:a+M≤N) (hN16:N≤16777216) (hM:M≤60) (hB:B≤p) :
  Calls Tryz.prog 180 #[.pointer (some ⟨p,0,none⟩),.int .i64 (M:Int)] w fun e w'=>∃ A' c',e=.returned (.tuple #[.slice A' M c',.bool true])∧Rd w' B A' (((bs.drop a).take M).map .bool)∧RrM w' p A N c (a+M) false∧Kp [p] w w':=by
 obtain ⟨hc0,hc1,hc2⟩:=h.cells;have H:=Lib.hid h;clear h;have HX:=Lib.hid hx;clear hx;have HN:=Lib.hid hN;clear hN;obtain ⟨D,hD⟩:∃ D,D=N - a:=⟨_,rfl⟩;obtain ⟨z,hz⟩:∃ z,z=a+M:=⟨_,rfl⟩;have hDw:IntKind.i64.wrap ((N:Int) - (a:Int))=(D:Int):=by rw [IntKind.wrap_i64];omega
 have hzw:IntKind.i64.wrap ((a:Int)+(M:Int))=(z:Int):=by rw [IntKind.wrap_i64];omega
 have hd1:decide ((M:Int) < 0)=false:=decide_eq_false (by omega);have hd2:decide (60 < (M:Int))=false:=decide_eq_false (by omega);have hd3:decide ((D:Int) < (M:Int))=false:=decide_eq_false (by omega);have hd3':decide (D < M)=false:=decide_eq_false (by omega);have haz:a≤z:=by omega
 have hzc:z≤c:=by omega
 have hzM:z - a=M:=by omega
 have ha0:(0:Int)≤(a:Int):=by omega
 have haz':(a:Int)≤(z:Int):=by omega
 have hzc':(z:Int)≤(c:Int):=by omega
 have HZ:=Lib.hid hz
 have HCUT:=Lib.hid (show Rd w B (if c=a then A else A.map (fun x=>x.add a)) (((bs.drop a).take M).map .bool) by
  have:=Rd.cut (a:=a) (n:=M) (c:=c) HX.out (by rw [List.length_map,HN.out];omega) (by rw [List.length_map,HN.out];exact hc)
  rwa [← List.map_drop,← List.map_take] at this)
 have hf:=Blk.free H.out 1
 have GO:=Lib.hid (show ∀ nq,RrM ((w.drewN nq).setCell ⟨p,1,none⟩ (.int .i64 (z:Int))) p A N c (a+M) false∧Kp [p] w ((w.drewN nq).setCell ⟨p,1,none⟩ (.int .i64 (z:Int))) from fun nq=>by
  rw [← hz]
  exact ⟨Blk.set_ (show Blk (w.drewN nq) p _ _ from H.out.kp0 ((Kp.refl [] w).drewN _)) 1 (.int .i64 (z:Int)),((Kp.refl [p] w).drewN _).setCell (.inl (by simp)) _⟩)
 clear hD hz;by_cases hca:c=a
 ·have HC2:=Lib.hid (show Rd w B A (((bs.drop a).take M).map .bool) by have h:=HCUT.out;rwa [if_pos hca] at h)
  go_enter Tryz.func180,Tryz.ntmps180
  go_wp2_with fail
  go_quiet (fail)
  go_wp2_with fail
  go_quiet (fail)
  go_wp2_with fail;go_ret2;exact ⟨_,_,rfl,HC2.out.kp (GO.out _).2 (by intro g hg;simp only [List.mem_singleton] at hg;subst hg;exact hB),GO.out _⟩
 ·have HC2:=Lib.hid (show Rd w B (A.map (fun x=>x.add a)) (((bs.drop a).take M).map .bool) by have h:=HCUT.out;rwa [if_neg hca] at h);rcases A with _ | ad
  all_goals
   go_enter Tryz.func180,Tryz.ntmps180
   go_wp2_with fail
   go_quiet (fail)
   go_wp2_with fail
   go_quiet (fail)
   go_wp2_with fail;go_ret2;exact ⟨_,_,rfl,HC2.out.kp (GO.out _).2 (by intro g hg;simp only [List.mem_singleton] at hg;subst hg;exact hB),GO.out _⟩

theorem rrnum_any (p N c a B:Nat) (A:Option Addr) (bad:Bool) (m:Int) (bs:List Bool) (w:World) (h:RrM w p A N c a bad) (hx:Rd w B A (bs.map .bool)) (hN:bs.length=N) (hc:N≤c) (ha:a≤N) (hN16:N≤16777216) (hB:B≤p) :
  Calls Tryz.prog 165 #[.pointer (some ⟨p,0,none⟩),.int .i64 m] w fun e w'=>e=.returned (.int .i64 (((rNum bs a bad m).1:Nat):Int))∧RrM w' p A N c (rNum bs a bad m).2.1 (rNum bs a bad m).2.2∧Kp [p] w w':=by
 cases hz:hasB N a bad m with
 | true =>
   rw [rNum_bad hN hz];have HC:=Lib.hid (rtake_no p N c a A bad m w h ha hN16 hz);clear h hx hN hz
   go_enter Tryz.func165,Tryz.ntmps165
   go_wp2_with fail;refine HC.out.mono ?_;rintro e w1 ⟨rfl,hr,hk⟩;have HR:=Lib.hid hr;clear hr;have HK:=Lib.hid hk;clear hk;go_wp2_with fail
   go_loop [7,8] (fun s y=>s=.int .i64 0∧y=.int .i64 0) (fun _ _=>0)
   case atStart=>exact ⟨rfl,rfl⟩
   case round =>
    obtain ⟨rfl,rfl⟩:=hrel;go_wp2_with fail;go_ret;exact ⟨rfl,HR.out,HK.out⟩
 | false =>
   obtain ⟨rfl,hm0,hm60,hmN,hR⟩:=rNum_ok hN hz;obtain ⟨M,rfl⟩:∃ M:Nat,m=(M:Int):=⟨m.toNat,by omega⟩;rw [Int.toNat_natCast] at hR;rw [hR];have HC:=Lib.hid (rtake_yes p N c a M B A bs w h hx hN hc (by omega) hN16 (by omega) hB);obtain ⟨l,hl⟩:∃ l,l=(bs.drop a).take M:=⟨_,rfl⟩;have HLL:=Lib.hid (show l.length=M by rw [hl,List.length_take,List.length_drop,hN];omega);have hM60:M≤60:=by omega
   rw [← hl] at HC ⊢;clear h hx hN hz hR hl hm0 hm60 hmN
   go_enter Tryz.func165,Tryz.ntmps165
   go_wp2_with fail;refine HC.out.mono ?_;rintro e w1 ⟨A',c',rfl,hrd,hr,hk⟩;have HRD:=Lib.hid hrd;clear hrd;have HR:=Lib.hid hr;clear hr;have HK:=Lib.hid hk;clear hk;go_wp2_with fail
   go_loop [7,8] (fun s y=>∃ (k X:Nat),y=.int .i64 (k:Int)∧s=.int .i64 (X:Int)∧k≤M∧Hid (X=valL (l.take k))) (fun _ y=>M - (intOf y).toNat)
   case atStart=>exact ⟨0,0,rfl,rfl,by omega,Lib.hid rfl⟩
   case round =>
    obtain ⟨k,X,rfl,rfl,hk,HX⟩:=hrel;by_cases hlt:k < M
    ·obtain ⟨b,hb⟩:∃ b,l[k]? = some b:=⟨_,List.getElem?_eq_getElem (by rw [HLL.out];exact hlt)⟩;obtain ⟨ad,rfl,_,hcx⟩:=HRD.out.at_ (i:=k) (u:=.bool b) (by simp [hb]);have HX1:=Lib.hid (show 2 * X+b.toNat=valL (l.take (k+1)) by rw [take_succ_of hb,valL_snoc,← HX.out])
     have hXb:X < 1152921504606846976:=by
      have h1:=valL_lt (l.take k);rw [← HX.out,List.length_take] at h1;exact Nat.lt_of_lt_of_le h1 (Nat.pow_le_pow_right (n:=2) (by omega) (show min k l.length≤60 by omega))
     clear hb
     cases b with
     | true =>
       go_wp2_with fail;exact ⟨⟨k+1,2 * X+1,by go_num,by rw [show (((2 * X+1:Nat)):Int)=2 * (X:Int)+1 by omega],by omega,HX1⟩,by simp [intOf];omega⟩
     | false =>
       go_wp2_with fail;exact ⟨⟨k+1,2 * X,by go_num,by rw [show (((2 * X:Nat)):Int)=2 * (X:Int) by omega],by omega,HX1⟩,by simp [intOf];omega⟩
    ·obtain rfl:M=k:=by omega
     have HXF:=Lib.hid (show X=valL l by rw [HX.out,List.take_of_length_le (by rw [HLL.out];exact Nat.le_refl _)]);go_wp2_with fail;go_ret;exact ⟨by rw [← HXF.out];rfl,HR.out,HK.out⟩
theorem rNum_one {bs:List Bool} {a:Nat} {b:Bool} (hb:bs[a]? = some b):rNum bs a false 1=(b.toNat,a+1,false):=by
 have ha:a < bs.length:=(List.getElem?_eq_some_iff.1 hb).1;unfold rNum;rw [if_neg (by simp;omega)]
 have:(bs.drop a).take (1:Int).toNat=[b]:=by
  rw [show (1:Int).toNat=0+1 from rfl,take_succ_of (by rw [List.getElem?_drop];exact hb)];rfl
 rw [this]
 cases b <;> rfl
theorem rrnext_any (p N c a B:Nat) (A:Option Addr) (bad:Bool) (bs:List Bool) (w:World) (h:RrM w p A N c a bad) (hx:Rd w B A (bs.map .bool)) (hN:bs.length=N) (hc:N≤c) (ha:a≤N) (hN16:N≤16777216) (hB:B≤p) :
  Calls Tryz.prog 166 #[.pointer (some ⟨p,0,none⟩)] w fun e w'=>e=.returned (.bool ((rNum bs a bad 1).1 == 1))∧RrM w' p A N c (rNum bs a bad 1).2.1 (rNum bs a bad 1).2.2∧Kp [p] w w':=by
 cases hz:hasB N a bad 1 with
 | true =>
   rw [rNum_bad hN hz];have HC:=Lib.hid (rtake_no p N c a A bad 1 w h ha hN16 hz);clear h hx hN hz
   go_enter Tryz.func166,Tryz.ntmps166
   go_wp2_with fail;refine HC.out.mono ?_;rintro e w1 ⟨rfl,hr,hk⟩;have HR:=Lib.hid hr;clear hr;have HK:=Lib.hid hk;clear hk;go_wp2_with fail;go_ret;exact ⟨rfl,HR.out,HK.out⟩
 | false =>
   obtain ⟨rfl,hm0,hm60,hmN,hR⟩:=rNum_ok hN hz;have HC:=Lib.hid (rtake_yes p N c a 1 B A bs w h hx hN hc (by omega) hN16 (by omega) hB);obtain ⟨b,hb⟩:∃ b,bs[a]? = some b:=⟨_,List.getElem?_eq_getElem (by rw [hN];omega)⟩;rw [rNum_one hb]
   have hl:(bs.drop a).take 1=[b]:=by
    rw [show 1=0+1 from rfl,take_succ_of (by rw [List.getElem?_drop];exact hb)];rfl
   rw [hl] at HC;clear h hx hN hz hR hl hm0 hm60 hmN hb
   go_enter Tryz.func166,Tryz.ntmps166
   go_wp2_with fail;refine HC.out.mono ?_;rintro e w1 ⟨A',c',rfl,hrd,hr,hk⟩;obtain ⟨ad,rfl,_,hcx⟩:=hrd.at_ (i:=0) (u:=.bool b) rfl;have hcx0:=hcx;rw [addr_add_zero] at hcx0;clear hrd;have HR:=Lib.hid hr;clear hr;have HK:=Lib.hid hk;clear hk;go_wp2_with fail;go_ret;exact ⟨by cases b <;> rfl,HR.out,HK.out⟩

theorem RrM.at_ {w:World} {p N c a z:Nat} {A:Option Addr} {bad:Bool} (h:RrM w p A N c a bad) {v:Int} (hv:v=(z:Int)):RrM (w.setCell ⟨p,1,none⟩ (.int .i64 v)) p A N c z bad:=by
 subst hv;exact Blk.set_ h 1 _
theorem RrM.spoil {w:World} {p N c a:Nat} {A:Option Addr} {bad:Bool} (h:RrM w p A N c a bad):RrM (w.setCell ⟨p,2,none⟩ (.bool true)) p A N c a true:=Blk.set_ h 2 _
theorem rrgam_any (p N c a B:Nat) (A:Option Addr) (bad:Bool) (bs:List Bool) (w:World) (h:RrM w p A N c a bad) (hx:Rd w B A (bs.map .bool)) (hN:bs.length=N) (hc:N≤c) (ha:a≤N) (hN16:N≤16777216) (hB:B≤p) :
  Calls Tryz.prog 148 #[.pointer (some ⟨p,0,none⟩)] w fun e w'=>e=.returned (.int .i64 (((rGam bs a bad).1:Nat):Int))∧RrM w' p A N c (rGam bs a bad).2.1 (rGam bs a bad).2.2∧Kp [p] w w':=by
 obtain ⟨R,hR⟩:∃ R,R=rGam bs a bad:=⟨_,rfl⟩;rw [← hR];have HRR:=Lib.hid hR;obtain ⟨Z,hZ⟩:∃ Z,Z=zer (bs.drop a):=⟨_,rfl⟩;have hZl:=zer_le (bs.drop a);rw [← hZ,List.length_drop,hN] at hZl;have HZ9:=Lib.hid hZ;obtain ⟨hc0,hc1,hc2⟩:=h.cells;have hZN:a+Z≤N:=by omega
 have HC1:=Lib.hid hc1;have H:=Lib.hid h;clear h;have HX:=Lib.hid hx;clear hx;have HN:=Lib.hid hN;clear hN;clear hR hZ hZl hc0 hc2
 go_enter Tryz.func148,Tryz.ntmps148
 go_wp2_with fail;clear hc1
 go_loopw [4] (fun y wr=>∃ k:Nat,y=.int .i64 (k:Int)∧k≤Z∧Hid (Dr w wr)) (fun y _=>Z - (intOf y).toNat)
 case atStart=>exact ⟨0,rfl,by omega,Lib.hid (Dr.refl w)⟩
 case round =>
  obtain ⟨k,rfl,hk,HD⟩:=hrel;have HR1:=Lib.hid (H.out.kp0 (HD.out.kp []));obtain ⟨hc0,hc1,hc2⟩:=HR1.out.cells;obtain ⟨z,hz⟩:∃ z,z=a+k:=⟨_,rfl⟩;have hzw:IntKind.i64.wrap ((a:Int)+(k:Int))=(z:Int):=by rw [IntKind.wrap_i64];omega
  have hz0:(0:Int)≤(z:Int):=by omega
  by_cases hlt:k < Z
  ·have hzN:z < N:=by omega
   have hb:bs[z]? = some false:=by
    have:=zer_get (l:=bs.drop a) (i:=k) (by rw [← HZ9.out];exact hlt)
    rwa [List.getElem?_drop,← hz] at this
   obtain ⟨ad,rfl,_,hcx⟩:=(HX.out.kp0 (HD.out.kp [])).at_ (i:=z) (u:=.bool false) (by simp [hb]);have hd1:decide ((z:Int) < (N:Int))=true:=decide_eq_true (by omega);have hd1':decide (z < N)=true:=decide_eq_true hzN;have hzi:(z:Int) < (N:Int):=by omega
   clear hz hb;go_wp2_with fail
   go_quiet (fail)
   go_wp2_with fail;exact ⟨⟨k+1,by go_num,by omega,Lib.hid (HD.out.drewN _)⟩,by simp [intOf];omega⟩
  ·obtain rfl:Z=k:=by omega
   have HZZ:=Lib.hid hz;have HEND:=Lib.hid (show ∀ nq,RrM (wr.drewN nq) p A N c a bad∧Kp [p] w (wr.drewN nq) from fun nq=>⟨HR1.out.kp0 ((Kp.refl [] wr).drewN _),(HD.out.kp [p]).drewN _⟩);by_cases hzN:z < N
   ·have hb:bs[z]? = some true:=by
     have:=zer_at (l:=bs.drop a) (by rw [← HZ9.out,List.length_drop,HN.out];omega)
     rwa [← HZ9.out,List.getElem?_drop,← hz] at this
    obtain ⟨ad,rfl,_,hcx⟩:=(HX.out.kp0 (HD.out.kp [])).at_ (i:=z) (u:=.bool true) (by simp [hb]);have hd1:decide ((z:Int) < (N:Int))=true:=decide_eq_true (by omega);have hd1':decide (z < N)=true:=decide_eq_true hzN;have hzi:(z:Int) < (N:Int):=by omega
    clear hz hb;go_wp2_with fail
    go_quiet (fail)
    generalize hw2:wr.drewN _=w2
    have HE2:RrM w2 p (some ad) N c a bad∧Kp [p] w w2:=by rw [← hw2];exact HEND.out _
    obtain ⟨hr2,hk2⟩:=HE2;clear hw2 hc0 hc1 hc2 hd1 hd1' hzw HEND HR1 HC1 HD;obtain ⟨hc0,hc1,hc2⟩:=hr2.cells;have hf1:=Blk.free hr2 1;have hf2:=Blk.free hr2 2;have HR2:=Lib.hid hr2;clear hr2;have HK2:=Lib.hid hk2;clear hk2;have HSP:=Lib.hid (show RrM (w2.setCell ⟨p,2,none⟩ (.bool true)) p (some ad) N c a true∧Kp [p] w (w2.setCell ⟨p,2,none⟩ (.bool true)) from ⟨HR2.out.spoil,HK2.out.setCell (.inl (by simp)) _⟩)
    cases bad with
    | true =>
      have HR5:=Lib.hid (show R=(0,a,true) from HRR.out);go_wp2_with fail;go_ret;rw [HR5.out];exact ⟨rfl,HSP.out⟩
    | false =>
      by_cases h60:59 < Z
      ·have HR5:=Lib.hid (show R=(0,a,true) by rw [HRR.out];exact rGam_bad HN.out HZ9.out (.inl (by omega)));go_wp2_with fail;go_ret;rw [HR5.out];exact ⟨rfl,HSP.out⟩
      ·clear HSP hc0;have HR3:=Lib.hid (HR2.out.at_ (z:=a+Z) (v:=(a:Int)+(Z:Int)) (by omega));have HK3:=Lib.hid (HK2.out.setCell (p:=⟨p,1,none⟩) (.inl (by simp)) (.int .i64 ((a:Int)+(Z:Int))));have HX3:=Lib.hid (HX.out.kp HK3.out (by intro g hg;simp only [List.mem_singleton] at hg;subst hg;exact hB));go_wp2_with fail;have hnm:=rrnum_any p N c (a+Z) B (some ad) false ((Z+1:Nat):Int) bs _ HR3.out HX3.out HN.out hc hZN hN16 hB;rw [show ((Z+1:Nat):Int)=(Z:Int)+1 by omega] at hnm;refine hnm.mono ?_;clear hnm;by_cases hD:2 * Z+1≤N - a
       ·have HR5:=Lib.hid (show rNum bs (a+Z) false ((Z:Int)+1)=R by
         rw [show (Z:Int)+1=((Z+1:Nat):Int) by omega,HRR.out];exact (rGam_ok HN.out HZ9.out (by omega) hD).symm)
        have HR6:=Lib.hid (show R.2.2=false by
         rw [← HR5.out];unfold rNum
         rw [if_neg (by rw [HN.out];simp;omega)])
        rw [HR5.out];rintro e w4 ⟨rfl,hr4,hk4⟩;obtain ⟨_,_,hc24⟩:=hr4.cells;rw [HR6.out] at hc24;have HR4:=Lib.hid hr4;have HK4:=Lib.hid (HK3.out.trans hk4);clear hr4 hk4;go_wp2_with fail;go_ret;exact ⟨rfl,HR4.out,HK4.out⟩
       ·have HR5:=Lib.hid (show R=(0,a,true) by rw [HRR.out];exact rGam_bad HN.out HZ9.out (.inr (by omega)))
        have HR6:=Lib.hid (show rNum bs (a+Z) false ((Z:Int)+1)=(0,a+Z,true) from rNum_bad HN.out (by
         unfold hasB;rw [Bool.false_or,decide_eq_true_iff]
         omega))
        rw [HR6.out];rintro e w4 ⟨rfl,hr4,hk4⟩;obtain ⟨_,_,hc24⟩:=hr4.cells;have hf14:=Blk.free hr4 1;have hc14:=hr4.cells.2.1;have HR7:=Lib.hid (RrM.at_ hr4 (z:=a) rfl);have HK4:=Lib.hid ((HK3.out.trans hk4).setCell (p:=⟨p,1,none⟩) (.inl (by simp)) (.int .i64 (a:Int)));clear hr4 hk4;go_wp2_with fail;go_ret;rw [HR5.out];exact ⟨rfl,HR7.out,HK4.out⟩
   ·have hd1:decide ((z:Int) < (N:Int))=false:=decide_eq_false (by omega);have hd1':decide (z < N)=false:=decide_eq_false hzN;clear hz;go_wp2_with fail
    go_quiet (fail)
    generalize hw2:wr.drewN _=w2
    have HE2:RrM w2 p A N c a bad∧Kp [p] w w2:=by rw [← hw2];exact HEND.out _
    obtain ⟨hr2,hk2⟩:=HE2;clear hw2 hc0 hc1 hc2 hd1 hd1' hzw HEND HR1 HC1 HD;obtain ⟨hc0,hc1,hc2⟩:=hr2.cells;have hf1:=Blk.free hr2 1;have hf2:=Blk.free hr2 2;have HR2:=Lib.hid hr2;clear hr2;have HK2:=Lib.hid hk2;clear hk2;have HSP:=Lib.hid (show RrM (w2.setCell ⟨p,2,none⟩ (.bool true)) p A N c a true∧Kp [p] w (w2.setCell ⟨p,2,none⟩ (.bool true)) from ⟨HR2.out.spoil,HK2.out.setCell (.inl (by simp)) _⟩)
    cases bad with
    | true =>
      have HR5:=Lib.hid (show R=(0,a,true) from HRR.out);go_wp2_with fail;go_ret;rw [HR5.out];exact ⟨rfl,HSP.out⟩
    | false =>
      by_cases h60:59 < Z
      ·have HR5:=Lib.hid (show R=(0,a,true) by rw [HRR.out];exact rGam_bad HN.out HZ9.out (.inl (by omega)));go_wp2_with fail;go_ret;rw [HR5.out];exact ⟨rfl,HSP.out⟩
      ·clear HSP hc0;have HR3:=Lib.hid (HR2.out.at_ (z:=a+Z) (v:=(a:Int)+(Z:Int)) (by omega));have HK3:=Lib.hid (HK2.out.setCell (p:=⟨p,1,none⟩) (.inl (by simp)) (.int .i64 ((a:Int)+(Z:Int))));have HX3:=Lib.hid (HX.out.kp HK3.out (by intro g hg;simp only [List.mem_singleton] at hg;subst hg;exact hB));go_wp2_with fail;have hnm:=rrnum_any p N c (a+Z) B A false ((Z+1:Nat):Int) bs _ HR3.out HX3.out HN.out hc hZN hN16 hB;rw [show ((Z+1:Nat):Int)=(Z:Int)+1 by omega] at hnm;refine hnm.mono ?_;clear hnm;by_cases hD:2 * Z+1≤N - a
       ·have HR5:=Lib.hid (show rNum bs (a+Z) false ((Z:Int)+1)=R by
         rw [show (Z:Int)+1=((Z+1:Nat):Int) by omega,HRR.out];exact (rGam_ok HN.out HZ9.out (by omega) hD).symm)
        have HR6:=Lib.hid (show R.2.2=false by
         rw [← HR5.out];unfold rNum
         rw [if_neg (by rw [HN.out];simp;omega)])
        rw [HR5.out];rintro e w4 ⟨rfl,hr4,hk4⟩;obtain ⟨_,_,hc24⟩:=hr4.cells;rw [HR6.out] at hc24;have HR4:=Lib.hid hr4;have HK4:=Lib.hid (HK3.out.trans hk4);clear hr4 hk4;go_wp2_with fail;go_ret;exact ⟨rfl,HR4.out,HK4.out⟩
       ·have HR5:=Lib.hid (show R=(0,a,true) by rw [HRR.out];exact rGam_bad HN.out HZ9.out (.inr (by omega)))
        have HR6:=Lib.hid (show rNum bs (a+Z) false ((Z:Int)+1)=(0,a+Z,true) from rNum_bad HN.out (by
         unfold hasB;rw [Bool.false_or,decide_eq_true_iff]
         omega))
        rw [HR6.out];rintro e w4 ⟨rfl,hr4,hk4⟩;obtain ⟨_,_,hc24⟩:=hr4.cells;have hf14:=Blk.free hr4 1;have hc14:=hr4.cells.2.1;have HR7:=Lib.hid (RrM.at_ hr4 (z:=a) rfl);have HK4:=Lib.hid ((HK3.out.trans hk4).setCell (p:=⟨p,1,none⟩) (.inl (by simp)) (.int .i64 (a:Int)));clear hr4 hk4;go_wp2_with fail;go_ret;rw [HR5.out];exact ⟨rfl,HR7.out,HK4.out⟩
end Go.Proofs.YtanacapkfllbnaaGreatDoor
