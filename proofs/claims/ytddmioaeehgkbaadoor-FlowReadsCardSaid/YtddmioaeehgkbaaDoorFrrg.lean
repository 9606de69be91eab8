/-
  LAYER 3: the document's reader: Gamma.
  CONDITIONS: as each says.
-/
import Derived.Test.YtddmioaeehgkbaaDoorFrrn
namespace Go.Proofs.YtddmioaeehgkbaaDoor
open Go.RowKit

theorem rGam_true (bs : List Bool) (a : Nat) : rGam bs a true = (0, a, true) := rfl
theorem RrM.at_ {w : World} {p N c a z : Nat} {A : Option Addr} {bad : Bool} (h : RrM w p A N c a bad) {v : Int} (hv : v = (z : Int)) : RrM (w.setCell ⟨p, 1, none⟩ (.int .i64 v)) p A N c z bad := by
  subst hv
  exact Blk.set_ h 1 _
theorem RrM.spoil {w : World} {p N c a : Nat} {A : Option Addr} {bad : Bool} (h : RrM w p A N c a bad) : RrM (w.setCell ⟨p, 2, none⟩ (.bool true)) p A N c a true := Blk.set_ h 2 _
set_option maxRecDepth 100000 in
set_option maxHeartbeats 4000000 in
theorem rrgam_any (p N c a B : Nat) (A : Option Addr) (bad : Bool) (bs : List Bool) (w : World) (h : RrM w p A N c a bad) (hx : Rd w B A (bs.map .bool)) (hN : bs.length = N) (hc : N ≤ c) (ha : a ≤ N) (hN16 : N ≤ 16777216) (hB : B ≤ p) :
    Calls Tryd.prog 17 #[.pointer (some ⟨p, 0, none⟩)] w fun e w' => e = .returned (.int .i64 (((rGam bs a bad).1 : Nat) : Int)) ∧ RrM w' p A N c (rGam bs a bad).2.1 (rGam bs a bad).2.2 ∧ Kp [p] w w' := by
  obtain ⟨R, hR⟩ : ∃ R, R = rGam bs a bad := ⟨_, rfl⟩
  rw [← hR]
  have HRR := Lib.hid hR
  obtain ⟨Z, hZ⟩ : ∃ Z, Z = zer (bs.drop a) := ⟨_, rfl⟩
  have hZl := zer_le (bs.drop a)
  rw [← hZ, List.length_drop, hN] at hZl
  have HZ9 := Lib.hid hZ
  obtain ⟨hc0, hc1, hc2⟩ := h.cells
  have hZN : a + Z ≤ N := by omega
  have HC1 := Lib.hid hc1
  have H := Lib.hid h; clear h
  have HX := Lib.hid hx; clear hx
  have HN := Lib.hid hN; clear hN
  clear hR hZ hZl hc0 hc2
  go_enter Tryd.func17, Tryd.ntmps17
  go_wp2_with fail
  clear hc1
  go_loopw [4] (fun y wr => ∃ k : Nat, y = .int .i64 (k : Int) ∧ k ≤ Z ∧ Hid (Dr w wr)) (fun y _ => Z - (intOf y).toNat)
  case atStart => exact ⟨0, rfl, by omega, Lib.hid (Dr.refl w)⟩
  case round =>
    obtain ⟨k, rfl, hk, HD⟩ := hrel
    have HR1 := Lib.hid (H.out.kp0 (HD.out.kp []))
    obtain ⟨hc0, hc1, hc2⟩ := HR1.out.cells
    obtain ⟨z, hz⟩ : ∃ z, z = a + k := ⟨_, rfl⟩
    have hzw : IntKind.i64.wrap ((a : Int) + (k : Int)) = (z : Int) := by rw [IntKind.wrap_i64]; omega
    have hz0 : (0 : Int) ≤ (z : Int) := by omega
    by_cases hlt : k < Z
    · have hzN : z < N := by omega
      have hb : bs[z]? = some false := by
        have := zer_get (l := bs.drop a) (i := k) (by rw [← HZ9.out]; exact hlt)
        rwa [List.getElem?_drop, ← hz] at this
      obtain ⟨ad, rfl, _, hcx⟩ := (HX.out.kp0 (HD.out.kp [])).at_ (i := z) (u := .bool false) (by simp [hb])
      have hd1 : decide ((z : Int) < (N : Int)) = true := decide_eq_true (by omega)
      have hd1' : decide (z < N) = true := decide_eq_true hzN
      have hzi : (z : Int) < (N : Int) := by omega
      clear hz hb
      go_wp2_with fail
      go_quiet (fail)
      go_wp2_with fail
      exact ⟨⟨k + 1, by go_num, by omega, Lib.hid (HD.out.drewN _)⟩, by simp [intOf]; omega⟩
    · obtain rfl : Z = k := by omega
      have HZZ := Lib.hid hz
      have HEND := Lib.hid (show ∀ nq, RrM (wr.drewN nq) p A N c a bad ∧ Kp [p] w (wr.drewN nq) from fun nq => ⟨HR1.out.kp0 ((Kp.refl [] wr).drewN _), (HD.out.kp [p]).drewN _⟩)
      by_cases hzN : z < N
      · have hb : bs[z]? = some true := by
          have := zer_at (l := bs.drop a) (by rw [← HZ9.out, List.length_drop, HN.out]; omega)
          rwa [← HZ9.out, List.getElem?_drop, ← hz] at this
        obtain ⟨ad, rfl, _, hcx⟩ := (HX.out.kp0 (HD.out.kp [])).at_ (i := z) (u := .bool true) (by simp [hb])
        have hd1 : decide ((z : Int) < (N : Int)) = true := decide_eq_true (by omega)
        have hd1' : decide (z < N) = true := decide_eq_true hzN
        have hzi : (z : Int) < (N : Int) := by omega
        clear hz hb
        go_wp2_with fail
        go_quiet (fail)
        generalize hw2 : wr.drewN _ = w2
        have HE2 : RrM w2 p (some ad) N c a bad ∧ Kp [p] w w2 := by rw [← hw2]; exact HEND.out _
        obtain ⟨hr2, hk2⟩ := HE2
        clear hw2 hc0 hc1 hc2 hd1 hd1' hzw HEND HR1 HC1 HD
        obtain ⟨hc0, hc1, hc2⟩ := hr2.cells
        have hf1 := Blk.free hr2 1
        have hf2 := Blk.free hr2 2
        have HR2 := Lib.hid hr2; clear hr2
        have HK2 := Lib.hid hk2; clear hk2
        have HSP := Lib.hid (show RrM (w2.setCell ⟨p, 2, none⟩ (.bool true)) p (some ad) N c a true ∧ Kp [p] w (w2.setCell ⟨p, 2, none⟩ (.bool true)) from ⟨HR2.out.spoil, HK2.out.setCell (.inl (by simp)) _⟩)
        cases bad with
        | true =>
          have HR5 := Lib.hid (show R = (0, a, true) from HRR.out)
          go_wp2_with fail
          go_ret
          rw [HR5.out]
          exact ⟨rfl, HSP.out⟩
        | false =>
          by_cases h60 : 59 < Z
          · have HR5 := Lib.hid (show R = (0, a, true) by rw [HRR.out]; exact rGam_bad HN.out HZ9.out (.inl (by omega)))
            go_wp2_with fail
            go_ret
            rw [HR5.out]
            exact ⟨rfl, HSP.out⟩
          · clear HSP hc0
            have HR3 := Lib.hid (HR2.out.at_ (z := a + Z) (v := (a : Int) + (Z : Int)) (by omega))
            have HK3 := Lib.hid (HK2.out.setCell (p := ⟨p, 1, none⟩) (.inl (by simp)) (.int .i64 ((a : Int) + (Z : Int))))
            have HX3 := Lib.hid (HX.out.kp HK3.out (by intro g hg; simp only [List.mem_singleton] at hg; subst hg; exact hB))
            go_wp2_with fail
            have hnm := rrnum_any p N c (a + Z) B (some ad) false ((Z + 1 : Nat) : Int) bs _ HR3.out HX3.out HN.out hc hZN hN16 hB
            rw [show ((Z + 1 : Nat) : Int) = (Z : Int) + 1 by omega] at hnm
            refine hnm.mono ?_
            clear hnm
            by_cases hD : 2 * Z + 1 ≤ N - a
            · have HR5 := Lib.hid (show rNum bs (a + Z) false ((Z : Int) + 1) = R by
                rw [show (Z : Int) + 1 = ((Z + 1 : Nat) : Int) by omega, HRR.out]; exact (rGam_ok HN.out HZ9.out (by omega) hD).symm)
              have HR6 := Lib.hid (show R.2.2 = false by
                rw [← HR5.out]
                unfold rNum
                rw [if_neg (by rw [HN.out]; simp; omega)])
              rw [HR5.out]
              rintro e w4 ⟨rfl, hr4, hk4⟩
              obtain ⟨_, _, hc24⟩ := hr4.cells
              rw [HR6.out] at hc24
              have HR4 := Lib.hid hr4
              have HK4 := Lib.hid (HK3.out.trans hk4)
              clear hr4 hk4
              go_wp2_with fail
              go_ret
              exact ⟨rfl, HR4.out, HK4.out⟩
            · have HR5 := Lib.hid (show R = (0, a, true) by rw [HRR.out]; exact rGam_bad HN.out HZ9.out (.inr (by omega)))
              have HR6 := Lib.hid (show rNum bs (a + Z) false ((Z : Int) + 1) = (0, a + Z, true) from rNum_bad HN.out (by
                unfold hasB
                rw [Bool.false_or, decide_eq_true_iff]
                omega))
              rw [HR6.out]
              rintro e w4 ⟨rfl, hr4, hk4⟩
              obtain ⟨_, _, hc24⟩ := hr4.cells
              have hf14 := Blk.free hr4 1
              have hc14 := hr4.cells.2.1
              have HR7 := Lib.hid (RrM.at_ hr4 (z := a) rfl)
              have HK4 := Lib.hid ((HK3.out.trans hk4).setCell (p := ⟨p, 1, none⟩) (.inl (by simp)) (.int .i64 (a : Int)))
              clear hr4 hk4
              go_wp2_with fail
              go_ret
              rw [HR5.out]
              exact ⟨rfl, HR7.out, HK4.out⟩
      · have hd1 : decide ((z : Int) < (N : Int)) = false := decide_eq_false (by omega)
        have hd1' : decide (z < N) = false := decide_eq_false hzN
        clear hz
        go_wp2_with fail
        go_quiet (fail)
        generalize hw2 : wr.drewN _ = w2
        have HE2 : RrM w2 p A N c a bad ∧ Kp [p] w w2 := by rw [← hw2]; exact HEND.out _
        obtain ⟨hr2, hk2⟩ := HE2
        clear hw2 hc0 hc1 hc2 hd1 hd1' hzw HEND HR1 HC1 HD
        obtain ⟨hc0, hc1, hc2⟩ := hr2.cells
        have hf1 := Blk.free hr2 1
        have hf2 := Blk.free hr2 2
        have HR2 := Lib.hid hr2; clear hr2
        have HK2 := Lib.hid hk2; clear hk2
        have HSP := Lib.hid (show RrM (w2.setCell ⟨p, 2, none⟩ (.bool true)) p A N c a true ∧ Kp [p] w (w2.setCell ⟨p, 2, none⟩ (.bool true)) from ⟨HR2.out.spoil, HK2.out.setCell (.inl (by simp)) _⟩)
        cases bad with
        | true =>
          have HR5 := Lib.hid (show R = (0, a, true) from HRR.out)
          go_wp2_with fail
          go_ret
          rw [HR5.out]
          exact ⟨rfl, HSP.out⟩
        | false =>
          by_cases h60 : 59 < Z
          · have HR5 := Lib.hid (show R = (0, a, true) by rw [HRR.out]; exact rGam_bad HN.out HZ9.out (.inl (by omega)))
            go_wp2_with fail
            go_ret
            rw [HR5.out]
            exact ⟨rfl, HSP.out⟩
          · clear HSP hc0
            have HR3 := Lib.hid (HR2.out.at_ (z := a + Z) (v := (a : Int) + (Z : Int)) (by omega))
            have HK3 := Lib.hid (HK2.out.setCell (p := ⟨p, 1, none⟩) (.inl (by simp)) (.int .i64 ((a : Int) + (Z : Int))))
            have HX3 := Lib.hid (HX.out.kp HK3.out (by intro g hg; simp only [List.mem_singleton] at hg; subst hg; exact hB))
            go_wp2_with fail
            have hnm := rrnum_any p N c (a + Z) B A false ((Z + 1 : Nat) : Int) bs _ HR3.out HX3.out HN.out hc hZN hN16 hB
            rw [show ((Z + 1 : Nat) : Int) = (Z : Int) + 1 by omega] at hnm
            refine hnm.mono ?_
            clear hnm
            by_cases hD : 2 * Z + 1 ≤ N - a
            · have HR5 := Lib.hid (show rNum bs (a + Z) false ((Z : Int) + 1) = R by
                rw [show (Z : Int) + 1 = ((Z + 1 : Nat) : Int) by omega, HRR.out]; exact (rGam_ok HN.out HZ9.out (by omega) hD).symm)
              have HR6 := Lib.hid (show R.2.2 = false by
                rw [← HR5.out]
                unfold rNum
                rw [if_neg (by rw [HN.out]; simp; omega)])
              rw [HR5.out]
              rintro e w4 ⟨rfl, hr4, hk4⟩
              obtain ⟨_, _, hc24⟩ := hr4.cells
              rw [HR6.out] at hc24
              have HR4 := Lib.hid hr4
              have HK4 := Lib.hid (HK3.out.trans hk4)
              clear hr4 hk4
              go_wp2_with fail
              go_ret
              exact ⟨rfl, HR4.out, HK4.out⟩
            · have HR5 := Lib.hid (show R = (0, a, true) by rw [HRR.out]; exact rGam_bad HN.out HZ9.out (.inr (by omega)))
              have HR6 := Lib.hid (show rNum bs (a + Z) false ((Z : Int) + 1) = (0, a + Z, true) from rNum_bad HN.out (by
                unfold hasB
                rw [Bool.false_or, decide_eq_true_iff]
                omega))
              rw [HR6.out]
              rintro e w4 ⟨rfl, hr4, hk4⟩
              obtain ⟨_, _, hc24⟩ := hr4.cells
              have hf14 := Blk.free hr4 1
              have hc14 := hr4.cells.2.1
              have HR7 := Lib.hid (RrM.at_ hr4 (z := a) rfl)
              have HK4 := Lib.hid ((HK3.out.trans hk4).setCell (p := ⟨p, 1, none⟩) (.inl (by simp)) (.int .i64 (a : Int)))
              clear hr4 hk4
              go_wp2_with fail
              go_ret
              rw [HR5.out]
              exact ⟨rfl, HR7.out, HK4.out⟩
end Go.Proofs.YtddmioaeehgkbaaDoor
