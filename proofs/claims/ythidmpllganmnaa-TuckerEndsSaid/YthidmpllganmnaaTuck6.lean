/-
  THE CONTRACTS OF LAYER 5, sixth part: tucker.Lengths.
  CONDITIONS: rows of at most 10^9 numbers.
-/
import Derived.Test.YthidmpllganmnaaTuck5
namespace Go.Proofs.Ythidmpllganmnaa
open Go.RowKit

open Classical in
/-- The lengths that any numbers have, and the error. -/
noncomputable def lensL (l : List Int) : List Int := if okW l then (if l.length = 1 then [1] else lens (wt l) 0 (l.length - 1) 0) else []
open Classical in
noncomputable def lensE (l : List Int) : Int := if okW l then 0 else 2
theorem lensL_no {l : List Int} (h : ¬ okW l) : lensL l = [] := by unfold lensL; rw [if_neg h]
theorem lensE_no {l : List Int} (h : ¬ okW l) : lensE l = 2 := by unfold lensE; rw [if_neg h]
theorem lensE_ok {l : List Int} (h : okW l) : lensE l = 0 := by unfold lensE; rw [if_pos h]
theorem lensL_one {l : List Int} (h : okW l) (h1 : l.length = 1) : lensL l = [1] := by unfold lensL; rw [if_pos h, if_pos h1]
theorem lensL_more {l : List Int} (h : okW l) (h1 : l.length ≠ 1) : lensL l = lens (wt l) 0 (l.length - 1) 0 := by unfold lensL; rw [if_pos h, if_neg h1]
theorem lensL_len {l : List Int} (h : okW l) : (lensL l).length = l.length := by
  by_cases h1 : l.length = 1
  · rw [lensL_one h h1, h1]; rfl
  · rw [lensL_more h h1, lens_len _ _ _ _ _ rfl (by omega)]
    have := h.2.1
    omega
theorem lensL_le (l : List Int) : (lensL l).length ≤ 257 := by
  by_cases h : okW l
  · rw [lensL_len h]; exact h.2.2
  · rw [lensL_no h]; simp

open Classical in
set_option maxHeartbeats 1000000 in
theorem tlengths_any (A : Option Addr) (n c B : Nat) (l : List Int) (w : World) (hx : Rd w B A (l.map (.int .i64))) (hn : l.length = n) (hb : n ≤ 1000000000) :
    Calls Try.prog 10 #[.slice A n c] w fun e w' => ∃ A' m c', m = (lensL l).length ∧ e = .returned (.tuple #[.slice A' m c', .int .i64 (lensE l)]) ∧ w'.ownsRow w.heap.size 3 1 (.slice A' m c') m ((lensL l).map (.int .i64)) ∧ Kp [] w w' := by
  have HX := Lib.hid hx; clear hx
  have HN := Lib.hid hn; clear hn
  go_enter Try.func10, Try.ntmps10
  go_wp2_with fail
  refine (right_any A n c B l w HX.out HN.out hb).mono ?_
  rintro e w1 ⟨rfl, rfl⟩
  by_cases hok : okW l
  · have hd : decide (okW l) = true := by simp [hok]
    rw [hd]
    have HOK := Lib.hid hok; clear hok hd
    by_cases h1 : n = 1
    · subst h1
      go_wp2_with fail
      go_ret2
      refine ⟨some ⟨w.heap.size, 0, none⟩, 1, 1, by rw [lensL_one HOK.out HN.out]; rfl, by rw [lensE_ok HOK.out]; rfl, ?_, (Kp.refl [] w).alloc _⟩
      rw [lensL_one HOK.out HN.out]
      exact own_of_blk (xs := [.int .i64 1]) (rest := []) (Blk.new w 3 [.int .i64 1]) (Nat.le_refl _) (Nat.le_refl _) (by unfold maxLen; omega) rfl rfl
    · have hn1 : ((n : Int) == 1) = false := by simp; omega
      obtain ⟨p, hp⟩ : ∃ p, n = p + 1 := ⟨n - 1, by have := HOK.out.2.1; have := HN.out; omega⟩
      have hwp : IntKind.i64.wrap ((n : Int) - 1) = (p : Int) := by rw [IntKind.wrap_i64]; omega
      have hn257 : n ≤ 257 := by have := HOK.out.2.2; have := HN.out; omega
      have hp1 : 1 ≤ p := by omega
      have HP := Lib.hid hp; clear hp h1
      go_wp2_with fail
      refine (filled_any A n c B l w HX.out HN.out hn257 HOK.out.1).mono ?_
      rintro e w2 ⟨g, G, R, D, As, cs, rfl, ht, hD, hk2⟩
      have HT := Lib.hid ht; clear ht
      have HD := Lib.hid hD; clear hD
      have HK := Lib.hid hk2; clear hk2
      go_wp2_with fail
      refine (lengths_any g G n cs R D As l hn257 p 0 p 0 w2 rfl (by omega) (by have := HP.out; omega) (by have := HP.out; omega) HT.out HD.out).mono ?_
      rintro e w3 ⟨A3, c3, rfl, hown3, hk3⟩
      have hll : lensL l = lens (wt l) 0 p 0 := by rw [lensL_more HOK.out (by have := HN.out; have := HP.out; omega), HN.out, HP.out]; rfl
      have HO3 := Lib.hid hown3; clear hown3
      have HLL := Lib.hid hll; clear hll
      have HK3 := Lib.hid (HK.out.trans hk3); clear hk3
      go_wp2_with fail
      go_ret2
      refine ⟨A3, p - 0 + 1, c3, by rw [HLL.out, lens_len _ _ _ _ _ rfl (by omega)], by rw [lensE_ok HOK.out]; rfl, ?_, HK3.out⟩
      rw [HLL.out]
      exact own_base HO3.out HK.out.size
  · have hd : decide (okW l) = false := by simp [hok]
    rw [hd]
    have HOK := Lib.hid hok; clear hok hd
    go_wp2_with fail
    go_ret2
    refine ⟨none, 0, 0, by rw [lensL_no HOK.out]; rfl, by rw [lensE_no HOK.out]; rfl, ?_, Kp.refl [] w⟩
    rw [lensL_no HOK.out]
    exact ⟨rfl, .inl ⟨rfl, rfl⟩⟩
end Go.Proofs.Ythidmpllganmnaa
