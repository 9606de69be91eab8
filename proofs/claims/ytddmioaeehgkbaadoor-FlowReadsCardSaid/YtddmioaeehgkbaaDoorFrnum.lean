/-
  LAYER 3: the reader's Number, Next, NewReader.
  CONDITIONS: as each says.
-/
import Derived.Test.YtddmioaeehgkbaaDoorFrd
namespace Go.Proofs.YtddmioaeehgkbaaDoor
open Go.RowKit

theorem rNum_bad {bs : List Bool} {N a : Nat} {bad : Bool} {m : Int} (hN : bs.length = N) (h : hasB N a bad m = true) : rNum bs a bad m = (0, a, true) := by
  unfold hasB at h
  rw [Bool.or_eq_true, decide_eq_true_iff] at h
  unfold rNum
  rw [if_pos (by rw [hN]; exact h)]
theorem rNum_ok {bs : List Bool} {N a : Nat} {bad : Bool} {m : Int} (hN : bs.length = N) (h : hasB N a bad m = false) : bad = false ∧ 0 ≤ m ∧ m ≤ 60 ∧ m ≤ (N : Int) - (a : Int) ∧ rNum bs a bad m = (valL ((bs.drop a).take m.toNat), a + m.toNat, false) := by
  unfold hasB at h
  rw [Bool.or_eq_false_iff, decide_eq_false_iff_not] at h
  refine ⟨h.1, by omega, by omega, by omega, ?_⟩
  unfold rNum
  rw [if_neg]
  rw [hN, h.1]
  intro hh
  rcases hh with hh | hh
  · cases hh
  · exact h.2 hh
theorem RdM.step {w : World} {p q z : Nat} {bad : Bool} (h : RdM w p q z bad) : RdM (w.setCell ⟨p, 2, none⟩ (.int .i64 ((z : Int) + 1))) p q (z + 1) bad := by
  have h2 := Blk.set_ h 2 (.int .i64 ((z : Int) + 1))
  unfold RdM
  rw [show ((z + 1 : Nat) : Int) = (z : Int) + 1 by omega]
  exact h2
set_option maxRecDepth 100000 in
set_option maxHeartbeats 4000000 in
theorem rnum_any (S : List Nat) (p q a N : Nat) (bad : Bool) (m : Int) (bs : List Bool) (c : Bool) (w : World) (h : RdM w p q a bad) (hv : VecM w S q bs c) (hN : bs.length = N) (ha : a ≤ N) (hpS : p ∉ S) :
    Calls Tryd.prog 14 #[.pointer (some ⟨p, 0, none⟩), .int .i64 m] w fun e w' => e = .returned (.int .i64 (((rNum bs a bad m).1 : Nat) : Int)) ∧ RdM w' p q (rNum bs a bad m).2.1 (rNum bs a bad m).2.2 ∧ Kp [p] w w' := by
  have hN16 : N ≤ 16777216 := by rw [← hN]; exact hv.tail.2.2.2
  cases hz : hasB N a bad m with
  | true =>
    rw [rNum_bad hN hz]
    have H := Lib.hid h; clear h
    have HV := Lib.hid hv; clear hv
    have HN := Lib.hid hN; clear hN
    have HZ := Lib.hid hz; clear hz
    go_enter Tryd.func14, Tryd.ntmps14
    go_wp2_with fail
    refine (rhas_any S p q a N bad m bs c w H.out HV.out HN.out ha).mono ?_
    rw [HZ.out]
    rintro e w1 ⟨rfl, hr, hk⟩
    have HR := Lib.hid hr; clear hr
    have HK := Lib.hid hk; clear hk
    go_wp2_with fail
    go_ret
    exact ⟨rfl, HR.out, HK.out⟩
  | false =>
    obtain ⟨rfl, hm0, hm60, hmN, hR⟩ := rNum_ok hN hz
    obtain ⟨M, rfl⟩ : ∃ M : Nat, m = (M : Int) := ⟨m.toNat, by omega⟩
    rw [Int.toNat_natCast] at hR
    rw [hR]
    have hM60 : M ≤ 60 := by omega
    have haM : a + M ≤ N := by omega
    have H := Lib.hid h; clear h
    have HV := Lib.hid hv; clear hv
    have HN := Lib.hid hN; clear hN
    have HZ := Lib.hid hz; clear hz
    have HPS := Lib.hid hpS; clear hpS
    clear hR hm0 hm60 hmN
    go_enter Tryd.func14, Tryd.ntmps14
    go_wp2_with fail
    refine (rhas_any S p q a N false (M : Int) bs c w H.out HV.out HN.out ha).mono ?_
    rw [HZ.out]
    rintro e w1 ⟨rfl, hr, hk⟩
    have HR := Lib.hid hr; clear hr
    have HK := Lib.hid hk; clear hk
    go_wp2_with fail
    go_loopw [4, 10] (fun s y wr => ∃ (k X z : Nat), y = .int .i64 (k : Int) ∧ s = .int .i64 (X : Int) ∧ k ≤ M ∧ Hid (z = a + k) ∧ Hid (X = valL ((bs.drop a).take k)) ∧ Hid (RdM wr p q z false) ∧ Hid (Kp [p] w wr)) (fun _ y _ => M - (intOf y).toNat)
    case atStart => exact ⟨0, 0, a, rfl, rfl, by omega, Lib.hid rfl, Lib.hid rfl, HR, HK⟩
    case round =>
      clear HR HK
      obtain ⟨k, X, z, rfl, rfl, hk, HZ1, HX, HR, HK⟩ := hrel
      by_cases hlt : k < M
      · have HV1 := Lib.hid (HV.out.kp HK.out (fun g hg hm => by simp only [List.mem_singleton] at hm; subst hm; exact HPS.out hg))
        obtain ⟨b, hb⟩ : ∃ b, bs[z]? = some b := ⟨_, List.getElem?_eq_getElem (by rw [HN.out, HZ1.out]; omega)⟩
        have hbd : (bs.drop a)[k]? = some b := by rw [List.getElem?_drop, ← HZ1.out]; exact hb
        have HX1 := Lib.hid (show 2 * X + b.toNat = valL ((bs.drop a).take (k + 1)) by rw [take_succ_of hbd, valL_snoc, ← HX.out])
        have hXb : X < 1152921504606846976 := by
          have h1 := valL_lt ((bs.drop a).take k)
          rw [← HX.out, List.length_take] at h1
          exact Nat.lt_of_lt_of_le h1 (Nat.pow_le_pow_right (n := 2) (by omega) (show min k (List.drop a bs).length ≤ 60 by omega))
        have hzb : z ≤ 16777216 := by have := HZ1.out; omega
        have HG := Lib.hid (getB_nat hb)
        obtain ⟨_, hc1, hc2⟩ := HR.out.cells
        clear hb hbd
        cases b with
        | true =>
          go_wp2_with fail
          go_quiet ((go_at_call 44; exact quiet_eq ((vget_any S q (z : Int) bs c _ (HV1.out.kp0 ((Kp.refl [] wr).drewN _))).mono (fun e w' hh => by rw [HG.out] at hh; exact hh))))
          rename_i nq
          obtain ⟨w2, hw2⟩ : ∃ w2, w2 = wr.drewN nq := ⟨_, rfl⟩
          have HR2 := Lib.hid (show RdM w2 p q z false by rw [hw2]; exact HR.out.kp0 ((Kp.refl [] wr).drewN _))
          have HK2 := Lib.hid (show Kp [p] w w2 by rw [hw2]; exact HK.out.drewN _)
          rw [← hw2]
          clear hw2 hc1 hc2
          obtain ⟨_, hc1, hc2⟩ := HR2.out.cells
          have cf := Blk.free HR2.out 2
          have HR3 := Lib.hid (HR2.out.step)
          have HK3 := Lib.hid (HK2.out.setCell (p := ⟨p, 2, none⟩) (.inl (by simp)) (.int .i64 ((z : Int) + 1)))
          go_wp2_with fail
          exact ⟨⟨k + 1, 2 * X + 1, z + 1, by go_num, by rw [show (((2 * X + 1 : Nat)) : Int) = (X : Int) * 2 + 1 by omega], by omega, Lib.hid (by rw [HZ1.out]; omega), HX1, HR3, HK3⟩, by simp [intOf]; omega⟩
        | false =>
          go_wp2_with fail
          go_quiet ((go_at_call 44; exact quiet_eq ((vget_any S q (z : Int) bs c _ (HV1.out.kp0 ((Kp.refl [] wr).drewN _))).mono (fun e w' hh => by rw [HG.out] at hh; exact hh))))
          rename_i nq
          obtain ⟨w2, hw2⟩ : ∃ w2, w2 = wr.drewN nq := ⟨_, rfl⟩
          have HR2 := Lib.hid (show RdM w2 p q z false by rw [hw2]; exact HR.out.kp0 ((Kp.refl [] wr).drewN _))
          have HK2 := Lib.hid (show Kp [p] w w2 by rw [hw2]; exact HK.out.drewN _)
          rw [← hw2]
          clear hw2 hc1 hc2
          obtain ⟨_, hc1, hc2⟩ := HR2.out.cells
          have cf := Blk.free HR2.out 2
          have HR3 := Lib.hid (HR2.out.step)
          have HK3 := Lib.hid (HK2.out.setCell (p := ⟨p, 2, none⟩) (.inl (by simp)) (.int .i64 ((z : Int) + 1)))
          go_wp2_with fail
          exact ⟨⟨k + 1, 2 * X, z + 1, by go_num, by rw [show (((2 * X : Nat)) : Int) = (X : Int) * 2 by omega], by omega, Lib.hid (by rw [HZ1.out]; omega), HX1, HR3, HK3⟩, by simp [intOf]; omega⟩
      · obtain rfl : M = k := by omega
        have HXF := Lib.hid (show X = valL ((bs.drop a).take M) from HX.out)
        go_wp2_with fail
        go_ret
        exact ⟨by rw [← HXF.out]; rfl, by rw [show a + M = z from HZ1.out.symm]; exact HR.out, HK.out⟩
theorem rnext_any (S : List Nat) (p q a N : Nat) (bad : Bool) (bs : List Bool) (c : Bool) (w : World) (h : RdM w p q a bad) (hv : VecM w S q bs c) (hN : bs.length = N) (ha : a ≤ N) (hpS : p ∉ S) :
    Calls Tryd.prog 12 #[.pointer (some ⟨p, 0, none⟩)] w fun e w' => e = .returned (.bool ((rNum bs a bad 1).1 == 1)) ∧ RdM w' p q (rNum bs a bad 1).2.1 (rNum bs a bad 1).2.2 ∧ Kp [p] w w' := by
  have HC := Lib.hid (rnum_any S p q a N bad 1 bs c w h hv hN ha hpS)
  obtain ⟨X, hX⟩ : ∃ X, X = (rNum bs a bad 1).1 := ⟨_, rfl⟩
  have hb : ((X : Int) == 1) = (X == 1) := by
    by_cases h : X = 1
    · subst h; rfl
    · have h2 : ¬ (X : Int) = 1 := by omega
      rw [beq_eq_false_iff_ne.2 h2, beq_eq_false_iff_ne.2 h]
  rw [← hX]
  have HX := Lib.hid hX
  clear h hv hN hX
  go_enter Tryd.func12, Tryd.ntmps12
  go_wp2_with fail
  refine HC.out.mono ?_
  rw [← HX.out]
  rintro e w1 ⟨rfl, hr, hk⟩
  have HR := Lib.hid hr; clear hr
  have HK := Lib.hid hk; clear hk
  go_wp2_with fail
  go_ret
  exact ⟨by first | rfl | rw [hb], HR.out, HK.out⟩
end Go.Proofs.YtddmioaeehgkbaaDoor
