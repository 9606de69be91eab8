/-
  LAYER 3: the reader in memory; has, Next, Number, Gamma, At, Err, NewReader.
  LAYER 3: NewReader; the document's reader: take, Next, Number.
  CONDITIONS: as each lemma says.
-/
import Derived.Test.YtpmdfklhgabfgaaQ23
import Derived.Test.YtpmdfklhgabfgaaQ18
import Derived.Test.YtpmdfklhgabfgaaQ20
import Derived.Deep.RegionHeld3
namespace Go.Proofs.Ytpmdfklhgabfgaa
open Go.RowKit

theorem getB_nat {bs : List Bool} {k : Nat} {b : Bool} (h : bs[k]? = some b) : getB bs (k : Int) = b := by
  unfold getB
  rw [if_neg (by omega), Int.toNat_natCast, List.getD_eq_getElem?_getD, h]
  rfl
def errB (b : Bool) : Int := if b then 4 else 0
/-- A reader in memory: its vector's place, where it stands, whether it is spoilt. -/
def RdM (w : World) (p q at_ : Nat) (bad : Bool) : Prop := Blk w p 97 [.int .i64 (errB bad), .pointer (some ⟨q, 0, none⟩), .int .i64 (at_ : Int)]
theorem RdM.kp {w w' : World} {p q a : Nat} {bad : Bool} {T : List Nat} (h : RdM w p q a bad) (hk : Kp T w w') (hp : p ∉ T) : RdM w' p q a bad := Blk.kp h hk hp
theorem RdM.kp0 {w w' : World} {p q a : Nat} {bad : Bool} (h : RdM w p q a bad) (hk : Kp [] w w') : RdM w' p q a bad := h.kp hk (by simp)
theorem RdM.cells {w : World} {p q a : Nat} {bad : Bool} (h : RdM w p q a bad) : w.cell? ⟨p, 0, none⟩ = some (.int .i64 (errB bad)) ∧ w.cell? ⟨p, 1, none⟩ = some (.pointer (some ⟨q, 0, none⟩)) ∧ w.cell? ⟨p, 2, none⟩ = some (.int .i64 (a : Int)) :=
  ⟨by rw [Blk.cell h]; rfl, by rw [Blk.cell h]; rfl, by rw [Blk.cell h]; rfl⟩
theorem rthere_any (p q a : Nat) (bad : Bool) (w : World) (h : RdM w p q a bad) : Calls Try.prog 53 #[.pointer (some ⟨p, 0, none⟩)] w fun e w' => e = .returned (.bool true) ∧ w = w' := by
  obtain ⟨_, hc1, _⟩ := h.cells
  clear h
  go_enter Try.func53, Try.ntmps53
  go_wp2_with fail
  go_ret
  exact ⟨rfl, rfl⟩
theorem rat_any (p q a : Nat) (bad : Bool) (w : World) (h : RdM w p q a bad) : Calls Try.prog 24 #[.pointer (some ⟨p, 0, none⟩)] w fun e w' => e = .returned (.int .i64 (a : Int)) ∧ w = w' := by
  obtain ⟨_, _, hc2⟩ := h.cells
  have H := Lib.hid h; clear h
  go_enter Try.func24, Try.ntmps24
  go_wp2_with fail
  refine (rthere_any p q a bad w H.out).mono ?_
  rintro e w1 ⟨rfl, rfl⟩
  go_wp2_with fail
  go_ret
  exact ⟨rfl, rfl⟩
theorem rerr_any (p q a : Nat) (bad : Bool) (w : World) (h : RdM w p q a bad) : Calls Try.prog 26 #[.pointer (some ⟨p, 0, none⟩)] w fun e w' => e = .returned (.int .i64 (errB bad)) ∧ w = w' := by
  obtain ⟨hc0, _, _⟩ := h.cells
  have H := Lib.hid h; clear h
  go_enter Try.func26, Try.ntmps26
  go_wp2_with fail
  refine (rthere_any p q a bad w H.out).mono ?_
  rintro e w1 ⟨rfl, rfl⟩
  go_wp2_with fail
  go_ret
  exact ⟨rfl, rfl⟩
/-- Is so much there? -/
def hasB (N a : Nat) (bad : Bool) (m : Int) : Bool := bad || decide (m < 0 ∨ 60 < m ∨ (N : Int) - (a : Int) < m)
set_option maxRecDepth 100000 in
set_option maxHeartbeats 4000000 in
theorem rhas_any (S : List Nat) (p q a N : Nat) (bad : Bool) (m : Int) (bs : List Bool) (c : Bool) (w : World) (h : RdM w p q a bad) (hv : VecM w S q bs c) (hN : bs.length = N) (ha : a ≤ N) :
    Calls Try.prog 80 #[.pointer (some ⟨p, 0, none⟩), .int .i64 m] w fun e w' => e = .returned (.bool (!hasB N a bad m)) ∧ RdM w' p q a (hasB N a bad m) ∧ Kp [p] w w' := by
  have hN16 : N ≤ 16777216 := by rw [← hN]; exact hv.tail.2.2.2
  obtain ⟨hc0, hc1, hc2⟩ := h.cells
  have HZ : ∀ b, decide (m < 0 ∨ 60 < m ∨ (N : Int) - (a : Int) < m) = b → hasB N a bad m = (bad || b) := fun b hb => by unfold hasB; rw [hb]
  by_cases h1 : m < 0
  · have hz := HZ true (decide_eq_true (.inl h1))
    rw [Bool.or_true] at hz
    rw [hz]
    have hd1 : decide (m < 0) = true := decide_eq_true h1
    have H := Lib.hid h; clear h
    have HV := Lib.hid hv; clear hv
    have HN := Lib.hid hN; clear hN
    clear hc0 hz HZ
    go_enter Try.func80, Try.ntmps80
    go_wp2_with fail
    refine (rthere_any p q a _ w H.out).mono ?_
    rintro e w1 ⟨rfl, rfl⟩
    go_wp2_with fail
    go_quiet (fail)
    go_wp2_with fail
    cases bad with
    | false =>
      refine (spoil_new p 97 4 [.pointer (some ⟨q, 0, none⟩), .int .i64 (a : Int)] _ (H.out.kp0 ((Kp.refl [] w).drewN _))).mono ?_
      rintro e w2 ⟨rfl, hb2, hk2⟩
      have HB2 := Lib.hid hb2
      have HK2 := Lib.hid (((Kp.refl [p] w).drewN _).trans hk2)
      clear hb2 hk2
      go_wp2_with fail
      refine (sound_no p _ 4 _ w2 HB2.out (by decide)).mono ?_
      rintro e w3 ⟨rfl, rfl⟩
      go_wp2_with fail
      go_ret
      exact ⟨rfl, HB2.out, HK2.out⟩
    | true =>
      refine (spoil_old p 97 4 4 [.pointer (some ⟨q, 0, none⟩), .int .i64 (a : Int)] _ (H.out.kp0 ((Kp.refl [] w).drewN _)) (by decide)).mono ?_
      rintro e w2 ⟨rfl, rfl⟩
      go_wp2_with fail
      refine (sound_no p 97 4 [.pointer (some ⟨q, 0, none⟩), .int .i64 (a : Int)] _ (H.out.kp0 ((Kp.refl [] w).drewN _)) (by decide)).mono ?_
      rintro e w3 ⟨rfl, rfl⟩
      go_wp2_with fail
      go_ret
      exact ⟨rfl, H.out.kp0 ((Kp.refl [] w).drewN _), (Kp.refl [p] w).drewN _⟩
  by_cases h2 : 60 < m
  · have hz := HZ true (decide_eq_true (.inr (.inl h2)))
    rw [Bool.or_true] at hz
    rw [hz]
    have hd1 : decide (m < 0) = false := decide_eq_false h1
    have hd2 : decide (60 < m) = true := decide_eq_true h2
    have H := Lib.hid h; clear h
    have HV := Lib.hid hv; clear hv
    have HN := Lib.hid hN; clear hN
    clear hc0 hz HZ
    go_enter Try.func80, Try.ntmps80
    go_wp2_with fail
    refine (rthere_any p q a _ w H.out).mono ?_
    rintro e w1 ⟨rfl, rfl⟩
    go_wp2_with fail
    go_quiet (fail)
    go_wp2_with fail
    cases bad with
    | false =>
      refine (spoil_new p 97 4 [.pointer (some ⟨q, 0, none⟩), .int .i64 (a : Int)] _ (H.out.kp0 ((Kp.refl [] w).drewN _))).mono ?_
      rintro e w2 ⟨rfl, hb2, hk2⟩
      have HB2 := Lib.hid hb2
      have HK2 := Lib.hid (((Kp.refl [p] w).drewN _).trans hk2)
      clear hb2 hk2
      go_wp2_with fail
      refine (sound_no p _ 4 _ w2 HB2.out (by decide)).mono ?_
      rintro e w3 ⟨rfl, rfl⟩
      go_wp2_with fail
      go_ret
      exact ⟨rfl, HB2.out, HK2.out⟩
    | true =>
      refine (spoil_old p 97 4 4 [.pointer (some ⟨q, 0, none⟩), .int .i64 (a : Int)] _ (H.out.kp0 ((Kp.refl [] w).drewN _)) (by decide)).mono ?_
      rintro e w2 ⟨rfl, rfl⟩
      go_wp2_with fail
      refine (sound_no p 97 4 [.pointer (some ⟨q, 0, none⟩), .int .i64 (a : Int)] _ (H.out.kp0 ((Kp.refl [] w).drewN _)) (by decide)).mono ?_
      rintro e w3 ⟨rfl, rfl⟩
      go_wp2_with fail
      go_ret
      exact ⟨rfl, H.out.kp0 ((Kp.refl [] w).drewN _), (Kp.refl [p] w).drewN _⟩
  obtain ⟨M, rfl⟩ : ∃ M : Nat, m = (M : Int) := ⟨m.toNat, by omega⟩
  have hd1 : decide ((M : Int) < 0) = false := decide_eq_false h1
  have hd2 : decide (60 < (M : Int)) = false := decide_eq_false h2
  by_cases h3 : (N : Int) - (a : Int) < (M : Int)
  · have hz := HZ true (decide_eq_true (.inr (.inr h3)))
    rw [Bool.or_true] at hz
    rw [hz]
    have hd3 : decide ((N : Int) - (a : Int) < (M : Int)) = true := decide_eq_true h3
    have H := Lib.hid h; clear h
    have HV := Lib.hid hv; clear hv
    have HN := Lib.hid hN; clear hN
    clear hc0 hz HZ
    go_enter Try.func80, Try.ntmps80
    go_wp2_with fail
    refine (rthere_any p q a _ w H.out).mono ?_
    rintro e w1 ⟨rfl, rfl⟩
    go_wp2_with fail
    go_quiet ((go_at_call 25; exact quiet_eq (vlen_any S q N bs c _ (HV.out.kp0 ((Kp.refl [] w).drewN _)) HN.out)))
    go_wp2_with fail
    cases bad with
    | false =>
      refine (spoil_new p 97 4 [.pointer (some ⟨q, 0, none⟩), .int .i64 (a : Int)] _ (H.out.kp0 ((Kp.refl [] w).drewN _))).mono ?_
      rintro e w2 ⟨rfl, hb2, hk2⟩
      have HB2 := Lib.hid hb2
      have HK2 := Lib.hid (((Kp.refl [p] w).drewN _).trans hk2)
      clear hb2 hk2
      go_wp2_with fail
      refine (sound_no p _ 4 _ w2 HB2.out (by decide)).mono ?_
      rintro e w3 ⟨rfl, rfl⟩
      go_wp2_with fail
      go_ret
      exact ⟨rfl, HB2.out, HK2.out⟩
    | true =>
      refine (spoil_old p 97 4 4 [.pointer (some ⟨q, 0, none⟩), .int .i64 (a : Int)] _ (H.out.kp0 ((Kp.refl [] w).drewN _)) (by decide)).mono ?_
      rintro e w2 ⟨rfl, rfl⟩
      go_wp2_with fail
      refine (sound_no p 97 4 [.pointer (some ⟨q, 0, none⟩), .int .i64 (a : Int)] _ (H.out.kp0 ((Kp.refl [] w).drewN _)) (by decide)).mono ?_
      rintro e w3 ⟨rfl, rfl⟩
      go_wp2_with fail
      go_ret
      exact ⟨rfl, H.out.kp0 ((Kp.refl [] w).drewN _), (Kp.refl [p] w).drewN _⟩
  · have hz := HZ false (decide_eq_false (by omega))
    rw [Bool.or_false] at hz
    rw [hz]
    have hd3 : decide ((N : Int) - (a : Int) < (M : Int)) = false := decide_eq_false h3
    have H := Lib.hid h; clear h
    have HV := Lib.hid hv; clear hv
    have HN := Lib.hid hN; clear hN
    clear hc0 hz HZ
    go_enter Try.func80, Try.ntmps80
    go_wp2_with fail
    refine (rthere_any p q a _ w H.out).mono ?_
    rintro e w1 ⟨rfl, rfl⟩
    go_wp2_with fail
    go_quiet ((go_at_call 25; exact quiet_eq (vlen_any S q N bs c _ (HV.out.kp0 ((Kp.refl [] w).drewN _)) HN.out)))
    go_wp2_with fail
    cases bad with
    | false =>
      refine (sound_ok p 97 [.pointer (some ⟨q, 0, none⟩), .int .i64 (a : Int)] _ (H.out.kp0 ((Kp.refl [] w).drewN _))).mono ?_
      rintro e w3 ⟨rfl, rfl⟩
      go_wp2_with fail
      go_ret
      exact ⟨rfl, H.out.kp0 ((Kp.refl [] w).drewN _), (Kp.refl [p] w).drewN _⟩
    | true =>
      refine (sound_no p 97 4 [.pointer (some ⟨q, 0, none⟩), .int .i64 (a : Int)] _ (H.out.kp0 ((Kp.refl [] w).drewN _)) (by decide)).mono ?_
      rintro e w3 ⟨rfl, rfl⟩
      go_wp2_with fail
      go_ret
      exact ⟨rfl, H.out.kp0 ((Kp.refl [] w).drewN _), (Kp.refl [p] w).drewN _⟩

theorem rNum_bad {bs : List Bool} {N a : Nat} {bad : Bool} {m : Int} (hN : bs.length = N) (h : hasB N a bad m = true) : rNum bs a bad m = (0, a, true) := by
  unfold hasB at h
  rw [Bool.or_eq_true, decide_eq_true_iff] at h
  unfold rNum
  rw [if_pos (by rw [hN]; exact h)]
theorem rNum_ok {bs : List Bool} {N a : Nat} {bad : Bool} {m : Int} (hN : bs.length = N) (h : hasB N a bad m = false) : bad = false ∧ 0 ≤ m ∧ m ≤ 60 ∧ m ≤ (N : Int) - (a : Int) ∧ rNum bs a bad m = (valL ((bs.drop a).take m.toNat), a + m.toNat, false) := by
  unfold hasB at h
  rw [Bool.or_eq_false_iff, decide_eq_false_iff_not] at h
  refine ⟨h.1, by omega, by omega, by omega, ?_⟩
  unfold rNum
  rw [if_neg]
  rw [hN, h.1]
  intro hh
  rcases hh with hh | hh
  · cases hh
  · exact h.2 hh
theorem RdM.step {w : World} {p q z : Nat} {bad : Bool} (h : RdM w p q z bad) : RdM (w.setCell ⟨p, 2, none⟩ (.int .i64 ((z : Int) + 1))) p q (z + 1) bad := by
  have h2 := Blk.set_ h 2 (.int .i64 ((z : Int) + 1))
  unfold RdM
  rw [show ((z + 1 : Nat) : Int) = (z : Int) + 1 by omega]
  exact h2
set_option maxRecDepth 100000 in
set_option maxHeartbeats 4000000 in
theorem rnum_any (S : List Nat) (p q a N : Nat) (bad : Bool) (m : Int) (bs : List Bool) (c : Bool) (w : World) (h : RdM w p q a bad) (hv : VecM w S q bs c) (hN : bs.length = N) (ha : a ≤ N) (hpS : p ∉ S) :
    Calls Try.prog 73 #[.pointer (some ⟨p, 0, none⟩), .int .i64 m] w fun e w' => e = .returned (.int .i64 (((rNum bs a bad m).1 : Nat) : Int)) ∧ RdM w' p q (rNum bs a bad m).2.1 (rNum bs a bad m).2.2 ∧ Kp [p] w w' := by
  have hN16 : N ≤ 16777216 := by rw [← hN]; exact hv.tail.2.2.2
  cases hz : hasB N a bad m with
  | true =>
    rw [rNum_bad hN hz]
    have H := Lib.hid h; clear h
    have HV := Lib.hid hv; clear hv
    have HN := Lib.hid hN; clear hN
    have HZ := Lib.hid hz; clear hz
    go_enter Try.func73, Try.ntmps73
    go_wp2_with fail
    refine (rhas_any S p q a N bad m bs c w H.out HV.out HN.out ha).mono ?_
    rw [HZ.out]
    rintro e w1 ⟨rfl, hr, hk⟩
    have HR := Lib.hid hr; clear hr
    have HK := Lib.hid hk; clear hk
    go_wp2_with fail
    go_ret
    exact ⟨rfl, HR.out, HK.out⟩
  | false =>
    obtain ⟨rfl, hm0, hm60, hmN, hR⟩ := rNum_ok hN hz
    obtain ⟨M, rfl⟩ : ∃ M : Nat, m = (M : Int) := ⟨m.toNat, by omega⟩
    rw [Int.toNat_natCast] at hR
    rw [hR]
    have hM60 : M ≤ 60 := by omega
    have haM : a + M ≤ N := by omega
    have H := Lib.hid h; clear h
    have HV := Lib.hid hv; clear hv
    have HN := Lib.hid hN; clear hN
    have HZ := Lib.hid hz; clear hz
    have HPS := Lib.hid hpS; clear hpS
    clear hR hm0 hm60 hmN
    go_enter Try.func73, Try.ntmps73
    go_wp2_with fail
    refine (rhas_any S p q a N false (M : Int) bs c w H.out HV.out HN.out ha).mono ?_
    rw [HZ.out]
    rintro e w1 ⟨rfl, hr, hk⟩
    have HR := Lib.hid hr; clear hr
    have HK := Lib.hid hk; clear hk
    go_wp2_with fail
    go_loopw [4, 10] (fun s y wr => ∃ (k X z : Nat), y = .int .i64 (k : Int) ∧ s = .int .i64 (X : Int) ∧ k ≤ M ∧ Hid (z = a + k) ∧ Hid (X = valL ((bs.drop a).take k)) ∧ Hid (RdM wr p q z false) ∧ Hid (Kp [p] w wr)) (fun _ y _ => M - (intOf y).toNat)
    case atStart => exact ⟨0, 0, a, rfl, rfl, by omega, Lib.hid rfl, Lib.hid rfl, HR, HK⟩
    case round =>
      clear HR HK
      obtain ⟨k, X, z, rfl, rfl, hk, HZ1, HX, HR, HK⟩ := hrel
      by_cases hlt : k < M
      · have HV1 := Lib.hid (HV.out.kp HK.out (fun g hg hm => by simp only [List.mem_singleton] at hm; subst hm; exact HPS.out hg))
        obtain ⟨b, hb⟩ : ∃ b, bs[z]? = some b := ⟨_, List.getElem?_eq_getElem (by rw [HN.out, HZ1.out]; omega)⟩
        have hbd : (bs.drop a)[k]? = some b := by rw [List.getElem?_drop, ← HZ1.out]; exact hb
        have HX1 := Lib.hid (show 2 * X + b.toNat = valL ((bs.drop a).take (k + 1)) by rw [take_succ_of hbd, valL_snoc, ← HX.out])
        have hXb : X < 1152921504606846976 := by
          have h1 := valL_lt ((bs.drop a).take k)
          rw [← HX.out, List.length_take] at h1
          exact Nat.lt_of_lt_of_le h1 (Nat.pow_le_pow_right (n := 2) (by omega) (show min k (List.drop a bs).length ≤ 60 by omega))
        have hzb : z ≤ 16777216 := by have := HZ1.out; omega
        have HG := Lib.hid (getB_nat hb)
        obtain ⟨_, hc1, hc2⟩ := HR.out.cells
        clear hb hbd
        cases b with
        | true =>
          go_wp2_with fail
          go_quiet ((go_at_call 55; exact quiet_eq ((vget_any S q (z : Int) bs c _ (HV1.out.kp0 ((Kp.refl [] wr).drewN _))).mono (fun e w' hh => by rw [HG.out] at hh; exact hh))))
          rename_i nq
          obtain ⟨w2, hw2⟩ : ∃ w2, w2 = wr.drewN nq := ⟨_, rfl⟩
          have HR2 := Lib.hid (show RdM w2 p q z false by rw [hw2]; exact HR.out.kp0 ((Kp.refl [] wr).drewN _))
          have HK2 := Lib.hid (show Kp [p] w w2 by rw [hw2]; exact HK.out.drewN _)
          rw [← hw2]
          clear hw2 hc1 hc2
          obtain ⟨_, hc1, hc2⟩ := HR2.out.cells
          have cf := Blk.free HR2.out 2
          have HR3 := Lib.hid (HR2.out.step)
          have HK3 := Lib.hid (HK2.out.setCell (p := ⟨p, 2, none⟩) (.inl (by simp)) (.int .i64 ((z : Int) + 1)))
          go_wp2_with fail
          exact ⟨⟨k + 1, 2 * X + 1, z + 1, by go_num, by rw [show (((2 * X + 1 : Nat)) : Int) = (X : Int) * 2 + 1 by omega], by omega, Lib.hid (by rw [HZ1.out]; omega), HX1, HR3, HK3⟩, by simp [intOf]; omega⟩
        | false =>
          go_wp2_with fail
          go_quiet ((go_at_call 55; exact quiet_eq ((vget_any S q (z : Int) bs c _ (HV1.out.kp0 ((Kp.refl [] wr).drewN _))).mono (fun e w' hh => by rw [HG.out] at hh; exact hh))))
          rename_i nq
          obtain ⟨w2, hw2⟩ : ∃ w2, w2 = wr.drewN nq := ⟨_, rfl⟩
          have HR2 := Lib.hid (show RdM w2 p q z false by rw [hw2]; exact HR.out.kp0 ((Kp.refl [] wr).drewN _))
          have HK2 := Lib.hid (show Kp [p] w w2 by rw [hw2]; exact HK.out.drewN _)
          rw [← hw2]
          clear hw2 hc1 hc2
          obtain ⟨_, hc1, hc2⟩ := HR2.out.cells
          have cf := Blk.free HR2.out 2
          have HR3 := Lib.hid (HR2.out.step)
          have HK3 := Lib.hid (HK2.out.setCell (p := ⟨p, 2, none⟩) (.inl (by simp)) (.int .i64 ((z : Int) + 1)))
          go_wp2_with fail
          exact ⟨⟨k + 1, 2 * X, z + 1, by go_num, by rw [show (((2 * X : Nat)) : Int) = (X : Int) * 2 by omega], by omega, Lib.hid (by rw [HZ1.out]; omega), HX1, HR3, HK3⟩, by simp [intOf]; omega⟩
      · obtain rfl : M = k := by omega
        have HXF := Lib.hid (show X = valL ((bs.drop a).take M) from HX.out)
        go_wp2_with fail
        go_ret
        exact ⟨by rw [← HXF.out]; rfl, by rw [show a + M = z from HZ1.out.symm]; exact HR.out, HK.out⟩
theorem rnext_any (S : List Nat) (p q a N : Nat) (bad : Bool) (bs : List Bool) (c : Bool) (w : World) (h : RdM w p q a bad) (hv : VecM w S q bs c) (hN : bs.length = N) (ha : a ≤ N) (hpS : p ∉ S) :
    Calls Try.prog 52 #[.pointer (some ⟨p, 0, none⟩)] w fun e w' => e = .returned (.bool ((rNum bs a bad 1).1 == 1)) ∧ RdM w' p q (rNum bs a bad 1).2.1 (rNum bs a bad 1).2.2 ∧ Kp [p] w w' := by
  have HC := Lib.hid (rnum_any S p q a N bad 1 bs c w h hv hN ha hpS)
  obtain ⟨X, hX⟩ : ∃ X, X = (rNum bs a bad 1).1 := ⟨_, rfl⟩
  have hb : ((X : Int) == 1) = (X == 1) := by
    by_cases h : X = 1
    · subst h; rfl
    · have h2 : ¬ (X : Int) = 1 := by omega
      rw [beq_eq_false_iff_ne.2 h2, beq_eq_false_iff_ne.2 h]
  rw [← hX]
  have HX := Lib.hid hX
  clear h hv hN hX
  go_enter Try.func52, Try.ntmps52
  go_wp2_with fail
  refine HC.out.mono ?_
  rw [← HX.out]
  rintro e w1 ⟨rfl, hr, hk⟩
  have HR := Lib.hid hr; clear hr
  have HK := Lib.hid hk; clear hk
  go_wp2_with fail
  go_ret
  exact ⟨by first | rfl | rw [hb], HR.out, HK.out⟩

theorem cnt_zer (bs : List Bool) (a : Nat) : cntI bs (a + zer (bs.drop a)) = cntI bs a := by
  rw [cntI_add]
  have : ((bs.drop a).take (zer (bs.drop a))).count true = 0 := by
    rw [List.count_eq_zero]
    intro hm
    obtain ⟨i, hi⟩ := List.getElem?_of_mem hm
    rw [List.getElem?_take] at hi
    split at hi
    · rename_i h
      rw [zer_get h] at hi
      cases hi
    · cases hi
  omega
theorem rank_nat {bs : List Bool} {a : Nat} (h : a ≤ bs.length) : rankI bs (a : Int) = cntI bs a := by
  unfold rankI
  rw [show (min (max (a : Int) 0) (bs.length : Int)).toNat = a by omega]
/-- What Select of the Rank is: the next one. -/
theorem sel_next {bs : List Bool} {a N : Nat} (hN : bs.length = N) (ha : a ≤ N) :
    (zer (bs.drop a) < N - a ∧ selI bs ((rankI bs (a : Int) : Nat) : Int) = ((a + zer (bs.drop a) : Nat) : Int) ∧ selB bs ((rankI bs (a : Int) : Nat) : Int) = true) ∨
    (zer (bs.drop a) = N - a ∧ selB bs ((rankI bs (a : Int) : Nat) : Int) = false) := by
  rw [rank_nat (by omega)]
  have hz := zer_le (bs.drop a)
  rw [List.length_drop, hN] at hz
  by_cases h : zer (bs.drop a) < N - a
  · left
    have h1 := zer_at (l := bs.drop a) (by rw [List.length_drop, hN]; exact h)
    rw [List.getElem?_drop] at h1
    have hs : IsSel bs (((cntI bs a : Nat) : Int)).toNat (a + zer (bs.drop a)) := ⟨h1, by rw [Int.toNat_natCast]; exact cnt_zer bs a⟩
    have ho := selO_some (by omega) hs
    unfold selI selB
    rw [ho]
    exact ⟨h, rfl, rfl⟩
  · right
    refine ⟨by omega, ?_⟩
    have h1 := cnt_zer bs a
    rw [cntI_all (by omega)] at h1
    unfold selB
    rw [selO_none (.inr (by omega))]
    rfl
theorem rGam_bad {bs : List Bool} {a N Z : Nat} (hN : bs.length = N) (hZ : Z = zer (bs.drop a)) (h : 60 ≤ Z ∨ N - a < 2 * Z + 1) : rGam bs a false = (0, a, true) := by
  unfold rGam
  rw [← hZ, hN, if_neg (by simp), if_pos h]
theorem rGam_ok {bs : List Bool} {a N Z : Nat} (hN : bs.length = N) (hZ : Z = zer (bs.drop a)) (h1 : Z < 60) (h2 : 2 * Z + 1 ≤ N - a) : rGam bs a false = rNum bs (a + Z) false ((Z + 1 : Nat) : Int) := by
  unfold rGam rNum
  rw [← hZ, hN, if_neg (by simp), if_neg (by omega), if_neg (by simp; omega), Int.toNat_natCast]
theorem RdM.to {w : World} {p q z z' : Nat} {bad : Bool} (h : RdM w p q z bad) {v : Int} (hv : v = (z' : Int)) : RdM (w.setCell ⟨p, 2, none⟩ (.int .i64 v)) p q z' bad := by
  subst hv
  exact Blk.set_ h 2 _
end Go.Proofs.Ytpmdfklhgabfgaa
namespace Go.Proofs.Ytpmdfklhgabfgaa
open Go.RowKit

set_option maxRecDepth 100000 in
set_option maxHeartbeats 4000000 in
theorem rnew_no (S : List Nat) (q N : Nat) (at_ : Int) (bs : List Bool) (c : Bool) (w : World) (hv : VecM w S q bs c) (hN : bs.length = N) (h : at_ < 0 ∨ (N : Int) < at_) :
    Calls Try.prog 22 #[.pointer (some ⟨q, 0, none⟩), .int .i64 at_] w fun e w' => e = .returned (.tuple #[.pointer none, .int .i64 6]) ∧ VecM w' S q bs false ∧ Kp S w w' := by
  have HV := Lib.hid hv; clear hv
  have HN := Lib.hid hN; clear hN
  rcases h with h | h
  all_goals
    go_enter Try.func22, Try.ntmps22
    go_wp2_with fail
    refine (vset_any S q N 0 0 0 false none [] bs c w HV.out HN.out (Rd.nil _ _ _) rfl (by omega) (fun ad h => by cases h)).mono ?_
    rintro e w1 (⟨hb, _⟩ | ⟨_, rfl, hv1, hk1⟩)
    · cases hb
    have HV1 := Lib.hid (show VecM w1 S q bs false from hv1)
    have HK1 := Lib.hid hk1
    clear hv1 hk1
    go_wp2_with (go_at_call 25; refine (vlen_any S q N bs false w1 HV1.out HN.out).mono ?_; rintro e w2 ⟨rfl, rfl⟩)
    go_ret2
    exact ⟨rfl, HV1.out, HK1.out⟩
set_option maxRecDepth 100000 in
set_option maxHeartbeats 4000000 in
theorem rnew_yes (S : List Nat) (q N a : Nat) (bs : List Bool) (c : Bool) (w : World) (hv : VecM w S q bs c) (hN : bs.length = N) (h : a ≤ N) :
    Calls Try.prog 22 #[.pointer (some ⟨q, 0, none⟩), .int .i64 (a : Int)] w fun e w' => ∃ p, e = .returned (.tuple #[.pointer (some ⟨p, 0, none⟩), .int .i64 0]) ∧ RdM w' p q a false ∧ VecM w' S q bs false ∧ w.heap.size ≤ p ∧ p ∉ S ∧ Kp S w w' := by
  have hN16 : N ≤ 16777216 := by rw [← hN]; exact hv.tail.2.2.2
  have HV := Lib.hid hv; clear hv
  have HN := Lib.hid hN; clear hN
  go_enter Try.func22, Try.ntmps22
  go_wp2_with fail
  refine (vset_any S q N 0 0 0 false none [] bs c w HV.out HN.out (Rd.nil _ _ _) rfl (by omega) (fun ad h => by cases h)).mono ?_
  rintro e w1 (⟨hb, _⟩ | ⟨_, rfl, hv1, hk1⟩)
  · cases hb
  have HV1 := Lib.hid (show VecM w1 S q bs false from hv1)
  have HK1 := Lib.hid hk1
  clear hv1 hk1
  go_wp2_with (go_at_call 25; refine (vlen_any S q N bs false w1 HV1.out HN.out).mono ?_; rintro e w2 ⟨rfl, rfl⟩)
  go_ret2
  exact ⟨w1.heap.size, rfl, Blk.new w1 97 [.int .i64 0, .pointer (some ⟨q, 0, none⟩), .int .i64 (a : Int)], HV1.out.kp0 ((Kp.refl [] w1).alloc _), HK1.out.size, fun hm => Nat.lt_irrefl _ (HV1.out.lt _ hm), HK1.out.alloc _⟩

/-- The document's reader in memory. -/
def RrM (w : World) (p : Nat) (A : Option Addr) (N c a : Nat) (bad : Bool) : Prop := Blk w p 127 [.slice A N c, .int .i64 (a : Int), .bool bad]
theorem RrM.kp {w w' : World} {p N c a : Nat} {A : Option Addr} {bad : Bool} {T : List Nat} (h : RrM w p A N c a bad) (hk : Kp T w w') (hp : p ∉ T) : RrM w' p A N c a bad := Blk.kp h hk hp
theorem RrM.kp0 {w w' : World} {p N c a : Nat} {A : Option Addr} {bad : Bool} (h : RrM w p A N c a bad) (hk : Kp [] w w') : RrM w' p A N c a bad := h.kp hk (by simp)
theorem RrM.cells {w : World} {p N c a : Nat} {A : Option Addr} {bad : Bool} (h : RrM w p A N c a bad) : w.cell? ⟨p, 0, none⟩ = some (.slice A N c) ∧ w.cell? ⟨p, 1, none⟩ = some (.int .i64 (a : Int)) ∧ w.cell? ⟨p, 2, none⟩ = some (.bool bad) :=
  ⟨by rw [Blk.cell h]; rfl, by rw [Blk.cell h]; rfl, by rw [Blk.cell h]; rfl⟩
theorem Rd.cut {w : World} {B : Nat} {A : Option Addr} {xs : List Value} {a n c : Nat} (h : Rd w B A xs) (ha : a + n ≤ xs.length) (hc : xs.length ≤ c) : Rd w B (if c = a then A else A.map (fun x => x.add a)) ((xs.drop a).take n) := by
  intro i u hu
  rw [List.getElem?_take] at hu
  split at hu
  · rename_i hi
    rw [List.getElem?_drop] at hu
    obtain ⟨ad, e, hb, hcell⟩ := h _ u hu
    subst e
    rw [if_neg (by omega)]
    exact ⟨_, rfl, by rw [addr_add_block]; exact hb, by rw [addr_add_add]; exact hcell⟩
  · cases hu
set_option maxRecDepth 100000 in
set_option maxHeartbeats 4000000 in
theorem rtake_no (p N c a : Nat) (A : Option Addr) (bad : Bool) (m : Int) (w : World) (h : RrM w p A N c a bad) (ha : a ≤ N) (hN : N ≤ 16777216) (hb : hasB N a bad m = true) :
    Calls Try.prog 84 #[.pointer (some ⟨p, 0, none⟩), .int .i64 m] w fun e w' => e = .returned (.tuple #[.slice none 0 0, .bool false]) ∧ RrM w' p A N c a true ∧ Kp [p] w w' := by
  obtain ⟨hc0, hc1, hc2⟩ := h.cells
  have hf := Blk.free h 2
  have H := Lib.hid h; clear h
  unfold hasB at hb
  rw [Bool.or_eq_true, decide_eq_true_iff] at hb
  have go : ∀ nq, RrM ((w.drewN nq).setCell ⟨p, 2, none⟩ (.bool true)) p A N c a true ∧ Kp [p] w ((w.drewN nq).setCell ⟨p, 2, none⟩ (.bool true)) := fun nq =>
    ⟨Blk.set_ (show Blk (w.drewN nq) p _ _ from H.out.kp0 ((Kp.refl [] w).drewN _)) 2 (.bool true), ((Kp.refl [p] w).drewN _).setCell (.inl (by simp)) _⟩
  have GO := Lib.hid go
  clear go
  cases bad with
  | true =>
    go_enter Try.func84, Try.ntmps84
    go_wp2_with fail
    go_quiet (fail)
    go_wp2_with fail
    go_ret2
    exact ⟨rfl, GO.out _⟩
  | false =>
    have hb' : m < 0 ∨ 60 < m ∨ (N : Int) - (a : Int) < m := by
      rcases hb with h | h
      · cases h
      · exact h
    clear hb
    by_cases h1 : m < 0
    · have hd1 : decide (m < 0) = true := decide_eq_true h1
      clear hb'
      go_enter Try.func84, Try.ntmps84
      go_wp2_with fail
      go_quiet (fail)
      go_wp2_with fail
      go_ret2
      exact ⟨rfl, GO.out _⟩
    have hd1 : decide (m < 0) = false := decide_eq_false h1
    by_cases h2 : 60 < m
    · have hd2 : decide (60 < m) = true := decide_eq_true h2
      clear hb'
      go_enter Try.func84, Try.ntmps84
      go_wp2_with fail
      go_quiet (fail)
      go_wp2_with fail
      go_ret2
      exact ⟨rfl, GO.out _⟩
    have hd2 : decide (60 < m) = false := decide_eq_false h2
    have h3 : (N : Int) - (a : Int) < m := by omega
    obtain ⟨M, rfl⟩ : ∃ M : Nat, m = (M : Int) := ⟨m.toNat, by omega⟩
    obtain ⟨D, hD⟩ : ∃ D, D = N - a := ⟨_, rfl⟩
    have hDw : IntKind.i64.wrap ((N : Int) - (a : Int)) = (D : Int) := by rw [IntKind.wrap_i64]; omega
    have hd3 : decide ((D : Int) < (M : Int)) = true := decide_eq_true (by omega)
    have hd3' : decide (D < M) = true := decide_eq_true (by omega)
    clear hb' hD h3
    go_enter Try.func84, Try.ntmps84
    go_wp2_with fail
    go_quiet (fail)
    go_wp2_with fail
    go_ret2
    exact ⟨rfl, GO.out _⟩
set_option maxRecDepth 100000 in
set_option maxHeartbeats 4000000 in
theorem rtake_yes (p N c a M B : Nat) (A : Option Addr) (bs : List Bool) (w : World) (h : RrM w p A N c a false) (hx : Rd w B A (bs.map .bool)) (hN : bs.length = N) (hc : N ≤ c) (ha : a + M ≤ N) (hN16 : N ≤ 16777216) (hM : M ≤ 60) (hB : B ≤ p) :
    Calls Try.prog 84 #[.pointer (some ⟨p, 0, none⟩), .int .i64 (M : Int)] w fun e w' => ∃ A' c', e = .returned (.tuple #[.slice A' M c', .bool true]) ∧ Rd w' B A' (((bs.drop a).take M).map .bool) ∧ RrM w' p A N c (a + M) false ∧ Kp [p] w w' := by
  obtain ⟨hc0, hc1, hc2⟩ := h.cells
  have H := Lib.hid h; clear h
  have HX := Lib.hid hx; clear hx
  have HN := Lib.hid hN; clear hN
  obtain ⟨D, hD⟩ : ∃ D, D = N - a := ⟨_, rfl⟩
  obtain ⟨z, hz⟩ : ∃ z, z = a + M := ⟨_, rfl⟩
  have hDw : IntKind.i64.wrap ((N : Int) - (a : Int)) = (D : Int) := by rw [IntKind.wrap_i64]; omega
  have hzw : IntKind.i64.wrap ((a : Int) + (M : Int)) = (z : Int) := by rw [IntKind.wrap_i64]; omega
  have hd1 : decide ((M : Int) < 0) = false := decide_eq_false (by omega)
  have hd2 : decide (60 < (M : Int)) = false := decide_eq_false (by omega)
  have hd3 : decide ((D : Int) < (M : Int)) = false := decide_eq_false (by omega)
  have hd3' : decide (D < M) = false := decide_eq_false (by omega)
  have haz : a ≤ z := by omega
  have hzc : z ≤ c := by omega
  have hzM : z - a = M := by omega
  have ha0 : (0 : Int) ≤ (a : Int) := by omega
  have haz' : (a : Int) ≤ (z : Int) := by omega
  have hzc' : (z : Int) ≤ (c : Int) := by omega
  have HZ := Lib.hid hz
  have HCUT := Lib.hid (show Rd w B (if c = a then A else A.map (fun x => x.add a)) (((bs.drop a).take M).map .bool) by
    have := Rd.cut (a := a) (n := M) (c := c) HX.out (by rw [List.length_map, HN.out]; omega) (by rw [List.length_map, HN.out]; exact hc)
    rwa [← List.map_drop, ← List.map_take] at this)
  have hf := Blk.free H.out 1
  have GO := Lib.hid (show ∀ nq, RrM ((w.drewN nq).setCell ⟨p, 1, none⟩ (.int .i64 (z : Int))) p A N c (a + M) false ∧ Kp [p] w ((w.drewN nq).setCell ⟨p, 1, none⟩ (.int .i64 (z : Int))) from fun nq => by
    rw [← hz]
    exact ⟨Blk.set_ (show Blk (w.drewN nq) p _ _ from H.out.kp0 ((Kp.refl [] w).drewN _)) 1 (.int .i64 (z : Int)), ((Kp.refl [p] w).drewN _).setCell (.inl (by simp)) _⟩)
  clear hD hz
  by_cases hca : c = a
  · have HC2 := Lib.hid (show Rd w B A (((bs.drop a).take M).map .bool) by have h := HCUT.out; rwa [if_pos hca] at h)
    go_enter Try.func84, Try.ntmps84
    go_wp2_with fail
    go_quiet (fail)
    go_wp2_with fail
    go_quiet (fail)
    go_wp2_with fail
    go_ret2
    exact ⟨_, _, rfl, HC2.out.kp (GO.out _).2 (by intro g hg; simp only [List.mem_singleton] at hg; subst hg; exact hB), GO.out _⟩
  · have HC2 := Lib.hid (show Rd w B (A.map (fun x => x.add a)) (((bs.drop a).take M).map .bool) by have h := HCUT.out; rwa [if_neg hca] at h)
    rcases A with _ | ad
    all_goals
      go_enter Try.func84, Try.ntmps84
      go_wp2_with fail
      go_quiet (fail)
      go_wp2_with fail
      go_quiet (fail)
      go_wp2_with fail
      go_ret2
      exact ⟨_, _, rfl, HC2.out.kp (GO.out _).2 (by intro g hg; simp only [List.mem_singleton] at hg; subst hg; exact hB), GO.out _⟩

theorem rNum_one {bs : List Bool} {a : Nat} {b : Bool} (hb : bs[a]? = some b) : rNum bs a false 1 = (b.toNat, a + 1, false) := by
  have ha : a < bs.length := (List.getElem?_eq_some_iff.1 hb).1
  unfold rNum
  rw [if_neg (by simp; omega)]
  have : (bs.drop a).take (1 : Int).toNat = [b] := by
    rw [show (1 : Int).toNat = 0 + 1 from rfl, take_succ_of (by rw [List.getElem?_drop]; exact hb)]
    rfl
  rw [this]
  cases b <;> rfl
set_option maxRecDepth 100000 in
set_option maxHeartbeats 4000000 in
theorem rrnext_any (p N c a B : Nat) (A : Option Addr) (bad : Bool) (bs : List Bool) (w : World) (h : RrM w p A N c a bad) (hx : Rd w B A (bs.map .bool)) (hN : bs.length = N) (hc : N ≤ c) (ha : a ≤ N) (hN16 : N ≤ 16777216) (hB : B ≤ p) :
    Calls Try.prog 81 #[.pointer (some ⟨p, 0, none⟩)] w fun e w' => e = .returned (.bool ((rNum bs a bad 1).1 == 1)) ∧ RrM w' p A N c (rNum bs a bad 1).2.1 (rNum bs a bad 1).2.2 ∧ Kp [p] w w' := by
  cases hz : hasB N a bad 1 with
  | true =>
    rw [rNum_bad hN hz]
    have HC := Lib.hid (rtake_no p N c a A bad 1 w h ha hN16 hz)
    clear h hx hN hz
    go_enter Try.func81, Try.ntmps81
    go_wp2_with fail
    refine HC.out.mono ?_
    rintro e w1 ⟨rfl, hr, hk⟩
    have HR := Lib.hid hr; clear hr
    have HK := Lib.hid hk; clear hk
    go_wp2_with fail
    go_ret
    exact ⟨rfl, HR.out, HK.out⟩
  | false =>
    obtain ⟨rfl, hm0, hm60, hmN, hR⟩ := rNum_ok hN hz
    have HC := Lib.hid (rtake_yes p N c a 1 B A bs w h hx hN hc (by omega) hN16 (by omega) hB)
    obtain ⟨b, hb⟩ : ∃ b, bs[a]? = some b := ⟨_, List.getElem?_eq_getElem (by rw [hN]; omega)⟩
    rw [rNum_one hb]
    have hl : (bs.drop a).take 1 = [b] := by
      rw [show 1 = 0 + 1 from rfl, take_succ_of (by rw [List.getElem?_drop]; exact hb)]
      rfl
    rw [hl] at HC
    clear h hx hN hz hR hl hm0 hm60 hmN hb
    go_enter Try.func81, Try.ntmps81
    go_wp2_with fail
    refine HC.out.mono ?_
    rintro e w1 ⟨A', c', rfl, hrd, hr, hk⟩
    obtain ⟨ad, rfl, _, hcx⟩ := hrd.at_ (i := 0) (u := .bool b) rfl
    have hcx0 := hcx
    rw [addr_add_zero] at hcx0
    clear hrd
    have HR := Lib.hid hr; clear hr
    have HK := Lib.hid hk; clear hk
    go_wp2_with fail
    go_ret
    exact ⟨by cases b <;> rfl, HR.out, HK.out⟩

theorem rGam_true (bs : List Bool) (a : Nat) : rGam bs a true = (0, a, true) := rfl
theorem RrM.at_ {w : World} {p N c a z : Nat} {A : Option Addr} {bad : Bool} (h : RrM w p A N c a bad) {v : Int} (hv : v = (z : Int)) : RrM (w.setCell ⟨p, 1, none⟩ (.int .i64 v)) p A N c z bad := by
  subst hv
  exact Blk.set_ h 1 _
theorem RrM.spoil {w : World} {p N c a : Nat} {A : Option Addr} {bad : Bool} (h : RrM w p A N c a bad) : RrM (w.setCell ⟨p, 2, none⟩ (.bool true)) p A N c a true := Blk.set_ h 2 _
end Go.Proofs.Ytpmdfklhgabfgaa
