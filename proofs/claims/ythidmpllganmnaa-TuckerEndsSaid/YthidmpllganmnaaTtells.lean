/-
  THE STATEMENT TuckerTells OF LAYER 5, its walk: for every weights the call returns true and writes to nothing that was there.
  CONDITIONS: rows of at most 10^9 numbers.
-/
import Derived.Test.YthidmpllganmnaaTawake
namespace Go.Proofs.Ythidmpllganmnaa
open Go.RowKit

theorem Rd.lent {w : World} {g : Nat} {l more : List Int} (h : Blk w g 3 ((l ++ more).map (.int .i64))) : Rd w w.heap.size (some ⟨g, 0, none⟩) (l.map (.int .i64)) := by
  have := (h.rd h.lt).take (l.map (Value.int .i64)).length
  rwa [List.map_append, List.take_left'] at this
  rfl

set_option maxRecDepth 100000 in
set_option maxHeartbeats 2000000 in
theorem tells_any (A : Option Addr) (n c B : Nat) (l : List Int) (w : World) (hx : Rd w B A (l.map (.int .i64))) (hn : l.length = n) (hb : n ≤ 140737488355328) :
    Calls Try.prog 3 #[.slice A n c] w fun e w' => e = .returned (.bool true) ∧ Kp [] w w' := by
  have HX := Lib.hid hx.here; clear hx
  have HN := Lib.hid hn; clear hn
  go_enter Try.func3, Try.ntmps3
  by_cases hbig : (70 < n ∧ n < 258) ∨ 300 < n
  · by_cases h300 : 300 < n
    · go_wp2_with fail
      refine (awake_any _).mono ?_
      rintro e w1 ⟨rfl, hk1⟩
      go_wp2_with fail
      go_ret
      exact ⟨rfl, hk1⟩
    · have h70 : 70 < n := by omega
      have h258 : n < 258 := by omega
      clear hbig
      go_wp2_with fail
      refine (awake_any _).mono ?_
      rintro e w1 ⟨rfl, hk1⟩
      go_wp2_with fail
      go_ret
      exact ⟨rfl, hk1⟩
  · have h300 : ¬ 300 < n := by omega
    have hb9 : n ≤ 1000000000 := by omega
    have hrest : decide ((70 : Int) < (n : Int)) = false ∨ decide ((n : Int) < 258) = false := by
      by_cases h : 70 < n
      · right; simp; omega
      · left; simp; omega
    clear hbig
    have HB9 := Lib.hid hb9; clear hb9
    rcases hrest with h70 | h258
    all_goals go_wp2_with fail
    all_goals
      refine (lentI A n c _ l w HX.out HN.out HB9.out).mono ?_
      rintro e w1 ⟨rfl, hk1, hb1⟩
      have HW1 := Lib.hid (show w.heap.size + 1 ≤ w1.heap.size from hb1.lt)
      have HBL := Lib.hid hb1; clear hb1
      have HK1 := Lib.hid hk1; clear hk1
      go_wp2_with fail
      refine (tlengths_any _ n (n + 12) _ l w1 (Rd.lent HBL.out) HN.out HB9.out).mono ?_
      rintro e w2 ⟨A1, m1, c1, hm1, rfl, hown1, hk2⟩
      have HM1 := Lib.hid hm1; clear hm1
      have HO1 := Lib.hid hown1; clear hown1
      have HK2 := Lib.hid hk2; clear hk2
      go_wp2_with fail
      refine (rlengths_any A n c _ l w2 (HX.out.kp0 (HK1.out.trans HK2.out)) HN.out HB9.out).mono ?_
      rintro e w3 ⟨A2, m2, c2, hm2, rfl, hown2, hk3⟩
      have HM2 := Lib.hid hm2; clear hm2
      have HR2 := Lib.hid (own_rd hown2); clear hown2
      have HO1' := Lib.hid (own_kp0 HO1.out hk3); clear HO1
      have HBL3 := Lib.hid (HBL.out.kp0 (HK2.out.trans hk3)); clear HBL
      have HKA := Lib.hid ((HK1.out.trans HK2.out).trans hk3)
      go_wp2_with fail
      refine (sameI A1 A2 m1 m2 c1 c2 _ _ (lensL l) (lensL l) w3 (own_rd HO1'.out) HR2.out HM1.out.symm HM2.out.symm (by have := lensL_le l; have := HM1.out; omega) (by have := lensL_le l; have := HM2.out; omega)).mono ?_
      rintro e w4 ⟨rfl, hd4⟩
      rw [show decide (lensL l = lensL l) = true from by simp]
      have HK4 := Lib.hid (hd4.kp []); clear hd4
      go_wp2_with fail
      refine (keptI _ A n (n + 12) c _ _ l w4 ((HBL3.out.kp0 HK4.out).rd (B := w4.heap.size) (HBL3.out.kp0 HK4.out).lt) (HX.out.kp0 (HKA.out.trans HK4.out)) HN.out HB9.out (Nat.le_refl _)).mono ?_
      rintro e w5 ⟨rfl, hd5⟩
      have HK5 := Lib.hid (HK4.out.trans (hd5.kp [])); clear hd5 HK4
      have HO5 := Lib.hid (own_kp0 HO1'.out HK5.out); clear HO1'
      go_wp2_with fail
      refine (overI _ m1 c1 A1 _ w5 HO5.out (by have := lensL_le l; have := HM1.out; omega)).mono ?_
      rintro e w6 ⟨rfl, hk6⟩
      have hge : ∀ g ∈ ownL (.slice A1 m1 c1), w1.heap.size ≤ g := fun g hg => (own_ge HO5.out (mem_ownL.1 hg)).1
      have HK6 := Lib.hid ((HKA.out.trans HK5.out).trans' hk6 (fun g hg => .inr (by have := hge g hg; have := HW1.out; omega)))
      have HB6 := Lib.hid ((HBL3.out.kp0 HK5.out).kp hk6 (fun hg => by have := hge _ hg; have := HW1.out; omega))
      clear hge hk6 HBL3 HKA HK5 HO5
      go_wp2_with fail
      refine (keptI _ A n (n + 12) c _ _ l w6 (HB6.out.rd (B := w6.heap.size) HB6.out.lt) (HX.out.kp0 HK6.out) HN.out HB9.out (Nat.le_refl _)).mono ?_
      rintro e w7 ⟨rfl, hd7⟩
      have HK7 := Lib.hid (HK6.out.trans (hd7.kp [])); clear hd7 HK6 HB6
      go_wp2_with fail
      refine (awake_any _).mono ?_
      rintro e w8 ⟨rfl, hk8⟩
      have HK8 := Lib.hid (HK7.out.trans hk8); clear hk8 HK7
      go_wp2_with fail
      go_ret
      exact ⟨rfl, HK8.out⟩
end Go.Proofs.Ythidmpllganmnaa
