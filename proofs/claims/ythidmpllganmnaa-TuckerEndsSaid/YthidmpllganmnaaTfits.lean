/-
  THE STATEMENT TuckerFits OF LAYER 5, its walk: for every weights and lengths the call returns true and writes to nothing that was there.
  CONDITIONS: numbers of 64 bits.
-/
import Derived.Test.YthidmpllganmnaaTtells
namespace Go.Proofs.Ythidmpllganmnaa
open Go.RowKit

theorem int_wf {x : Int} (h : (Lit.int .i64 x).wf = true) : -9223372036854775808 ≤ x ∧ x ≤ 9223372036854775807 := by
  simpa [Lit.wf, IntKind.min, IntKind.max, IntKind.signed, IntKind.bits] using h

set_option maxRecDepth 100000 in
set_option maxHeartbeats 2000000 in
theorem fitsL_any (A A' : Option Addr) (n m c c' B B' : Nat) (l ls : List Int) (w : World) (hx : Rd w B A (l.map (.int .i64))) (hy : Rd w B' A' (ls.map (.int .i64))) (hn : l.length = n) (hm : ls.length = m) (hb : n ≤ 140737488355328) (hb' : m ≤ 140737488355328) (hr : ∀ x ∈ ls, x ≤ 9223372036854775807) :
    Calls Try.prog 4 #[.slice A n c, .slice A' m c'] w fun e w' => e = .returned (.bool true) ∧ Kp [] w w' := by
  have HX := Lib.hid hx.here; clear hx
  have HY := Lib.hid hy.here; clear hy
  have HN := Lib.hid hn; clear hn
  have HM := Lib.hid hm; clear hm
  have HRG := Lib.hid hr; clear hr
  go_enter Try.func4, Try.ntmps4
  by_cases hbig : 300 < n ∨ 300 < m
  · have hbg : decide ((300 : Int) < (n : Int)) = true ∨ (decide ((300 : Int) < (n : Int)) = false ∧ decide ((300 : Int) < (m : Int)) = true) := by
      by_cases h : 300 < n
      · left; simp; omega
      · right; constructor <;> simp <;> omega
    clear hbig
    rcases hbg with h1 | ⟨h1, h2⟩
    all_goals go_wp2_with fail
    all_goals
      refine (awake_any _).mono ?_
      rintro e w1 ⟨rfl, hk1⟩
      go_wp2_with fail
      go_ret
      exact ⟨rfl, hk1⟩
  · have h1 : decide ((300 : Int) < (n : Int)) = false := by simp; omega
    have h2 : decide ((300 : Int) < (m : Int)) = false := by simp; omega
    have HB9 := Lib.hid (show n ≤ 1000000000 ∧ m ≤ 1000000000 by omega)
    clear hbig
    go_wp2_with fail
    refine (lentI A n c _ l w HX.out HN.out HB9.out.1).mono ?_
    rintro e w1 ⟨rfl, hk1, hb1⟩
    have HBL := Lib.hid hb1; clear hb1
    have HK1 := Lib.hid hk1; clear hk1
    go_wp2_with fail
    refine (lentI A' m c' _ ls w1 (HY.out.kp0 HK1.out) HM.out HB9.out.2).mono ?_
    rintro e w2 ⟨rfl, hk2, hb2⟩
    have HBM := Lib.hid hb2; clear hb2
    have HBL2 := Lib.hid (HBL.out.kp0 hk2); clear HBL
    have HK2 := Lib.hid (HK1.out.trans hk2); clear hk2 HK1
    go_wp2_with fail
    refine (tcost_any _ _ n m _ _ _ _ l ls w2 (Rd.lent HBL2.out) (Rd.lent HBM.out) HN.out HM.out HB9.out.1 HB9.out.2).mono ?_
    rintro e w3 ⟨rfl, hk3⟩
    have HBL3 := Lib.hid (HBL2.out.kp0 hk3); clear HBL2
    have HBM3 := Lib.hid (HBM.out.kp0 hk3); clear HBM
    have HK3 := Lib.hid (HK2.out.trans hk3); clear hk3 HK2
    obtain ⟨V, hV⟩ : ∃ V, V = costV l ls := ⟨_, rfl⟩
    obtain ⟨E, hE⟩ : ∃ E, E = costE l ls := ⟨_, rfl⟩
    rw [← hV, ← hE]
    have HVE := Lib.hid (And.intro hV hE); clear hV hE
    go_wp2_with fail
    refine (rcost_any A A' n m c c' _ _ l ls w3 (HX.out.kp0 HK3.out) (HY.out.kp0 HK3.out) HN.out HM.out HB9.out.1 HB9.out.2 HRG.out).mono ?_
    rintro e w4 ⟨rfl, hk4⟩
    rw [← HVE.out.1, ← HVE.out.2]
    have HBL4 := Lib.hid (HBL3.out.kp0 hk4); clear HBL3
    have HBM4 := Lib.hid (HBM3.out.kp0 hk4); clear HBM3
    have HK4 := Lib.hid (HK3.out.trans hk4); clear hk4 HK3 HVE
    go_wp2_with fail
    refine (tfits_any _ m _ _ ls w4 (Rd.lent HBM4.out) HM.out HB9.out.2).mono ?_
    rintro e w5 ⟨rfl, hk5⟩
    obtain ⟨F, hF⟩ : ∃ F : Bool, F = @decide (okF ls) (Classical.propDecidable _) := ⟨_, rfl⟩
    rw [← hF]
    have HF := Lib.hid hF; clear hF
    have HBL5 := Lib.hid (HBL4.out.kp0 hk5); clear HBL4
    have HBM5 := Lib.hid (HBM4.out.kp0 hk5); clear HBM4
    have HK5 := Lib.hid (HK4.out.trans hk5); clear hk5 HK4
    go_wp2_with fail
    refine (rfits_any A' m c' _ ls w5 (HY.out.kp0 HK5.out) HM.out HB9.out.2 HRG.out).mono ?_
    rintro e w6 ⟨rfl, hk6⟩
    rw [← HF.out]
    have HBL6 := Lib.hid (HBL5.out.kp0 hk6); clear HBL5
    have HBM6 := Lib.hid (HBM5.out.kp0 hk6); clear HBM5
    have HK6 := Lib.hid (HK5.out.trans hk6); clear hk6 HK5 HF
    go_wp2_with fail
    refine (keptI _ A n (n + 12) c _ _ l w6 (HBL6.out.rd (B := w6.heap.size) HBL6.out.lt) (HX.out.kp0 HK6.out) HN.out HB9.out.1 (Nat.le_refl _)).mono ?_
    rintro e w7 ⟨rfl, hd7⟩
    have HBM7 := Lib.hid (HBM6.out.kp0 (hd7.kp [])); clear HBM6
    have HK7 := Lib.hid (HK6.out.trans (hd7.kp [])); clear hd7 HK6
    go_wp2_with fail
    refine (keptI _ A' m (m + 12) c' _ _ ls w7 (HBM7.out.rd (B := w7.heap.size) HBM7.out.lt) (HY.out.kp0 HK7.out) HM.out HB9.out.2 (Nat.le_refl _)).mono ?_
    rintro e w8 ⟨rfl, hd8⟩
    have HK8 := Lib.hid (HK7.out.trans (hd8.kp [])); clear hd8 HK7
    go_wp2_with fail
    refine (awake_any _).mono ?_
    rintro e w9 ⟨rfl, hk9⟩
    have HK9 := Lib.hid (HK8.out.trans hk9); clear hk9 HK8
    go_wp2_with fail
    go_ret
    exact ⟨rfl, HK9.out⟩
end Go.Proofs.Ythidmpllganmnaa
