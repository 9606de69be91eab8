/-
  THE CONTRACTS OF LAYER 2, third part: a row of noughts, a row of numbers.
  CONDITIONS: as each says.
-/
import Derived.Test.YtlkgepojjjcaoaaPget
import Derived.Test.YtlkgepojjjcaoaaRegion
namespace Go.Proofs.Ytlkgepojjjcaoaa
open Go.RowKit

theorem Try.info_u64 : (Try.prog.info? 64).map (fun i => (i.zero, i.size, i.bytes)) = some (some (.int .u64 0), 1, 8) := by kernel_rfl
/-- What is wrong with a width and a count. -/
def errRow (wd n : Int) : Int := if wd < 1 ∨ 60 < wd ∨ n < 0 then 2 else if 16777216 / wd < n then 3 else 0

set_option maxHeartbeats 1000000 in
theorem empty_no (wd n : Int) (w : World) (h : errRow wd n ≠ 0) :
    Calls Try.prog 38 #[.int .i64 wd, .int .i64 n] w fun e w' => e = .returned (.tuple #[.pointer none, .int .i64 (errRow wd n)]) ∧ w = w' := by
  by_cases h1 : wd < 1
  · have HE := Lib.hid (show errRow wd n = 2 by unfold errRow; rw [if_pos (.inl h1)])
    clear h
    go_enter Try.func38, Try.ntmps38
    go_wp2_with fail
    go_ret2
    exact ⟨by rw [HE.out]; rfl, rfl⟩
  by_cases h2 : 60 < wd
  · have HE := Lib.hid (show errRow wd n = 2 by unfold errRow; rw [if_pos (.inr (.inl h2))])
    clear h
    go_enter Try.func38, Try.ntmps38
    go_wp2_with fail
    go_ret2
    exact ⟨by rw [HE.out]; rfl, rfl⟩
  by_cases h3 : n < 0
  · have HE := Lib.hid (show errRow wd n = 2 by unfold errRow; rw [if_pos (.inr (.inr h3))])
    clear h
    go_enter Try.func38, Try.ntmps38
    go_wp2_with fail
    go_ret2
    exact ⟨by rw [HE.out]; rfl, rfl⟩
  obtain ⟨q, hq⟩ : ∃ q, q = 16777216 / wd := ⟨_, rfl⟩
  have h4 : q < n := by
    unfold errRow at h
    rw [if_neg (by omega), ← hq] at h
    by_cases h5 : q < n
    · exact h5
    · rw [if_neg h5] at h; exact absurd rfl h
  have HE := Lib.hid (show errRow wd n = 3 by unfold errRow; rw [if_neg (by omega), ← hq, if_pos h4])
  have hqb : 0 ≤ q ∧ q ≤ 16777216 := by
    rw [hq]
    exact ⟨Int.ediv_nonneg (by omega) (by omega), Int.ediv_le_self _ (by omega)⟩
  have hdv : Int.tdiv 16777216 wd = q := by rw [Int.tdiv_eq_ediv_of_nonneg (by omega), hq]
  have hwq : IntKind.i64.wrap q = q := by rw [IntKind.wrap_i64]; omega
  have hwz : wd ≠ 0 := by omega
  clear h hq
  go_enter Try.func38, Try.ntmps38
  go_wp2_with fail
  go_ret2
  exact ⟨by rw [HE.out]; rfl, rfl⟩

set_option maxHeartbeats 1000000 in
theorem empty_ok (wd n : Nat) (w : World) (h : errRow wd n = 0) :
    Calls Try.prog 38 #[.int .i64 wd, .int .i64 n] w fun e w' => ∃ g p m, e = .returned (.tuple #[.pointer (some ⟨p, 0, none⟩), .int .i64 0]) ∧ m = (wd * n + 63) / 64 ∧ w.heap.size ≤ g ∧ w.heap.size ≤ p ∧ Blk w' g 64 (wordsV (List.replicate m 0)) ∧
      Blk w' p 63 [.slice (some ⟨g, 0, none⟩) m m, .int .i64 wd, .int .i64 n] ∧ Kp [] w w' := by
  obtain ⟨i0, hi, hz0, hz1, hz2⟩ := info_parts Try.info_u64
  have hb : 1 ≤ wd ∧ wd ≤ 60 := by
    unfold errRow at h
    by_cases h1 : (wd : Int) < 1 ∨ 60 < (wd : Int) ∨ (n : Int) < 0
    · rw [if_pos h1] at h; cases h
    · omega
  obtain ⟨q, hq⟩ : ∃ q, q = 16777216 / wd := ⟨_, rfl⟩
  have hqi : (16777216 : Int) / (wd : Int) = (q : Int) := by rw [hq]; simp
  have hnq : n ≤ q := by
    unfold errRow at h
    rw [if_neg (by omega), hqi] at h
    by_cases h5 : (q : Int) < (n : Int)
    · rw [if_pos h5] at h; cases h
    · omega
  obtain ⟨P, hP⟩ : ∃ P, P = wd * n := ⟨_, rfl⟩
  have hPb : P ≤ 16777216 := by
    rw [hP]
    refine Nat.le_trans (Nat.mul_le_mul_left _ hnq) ?_
    rw [hq]
    exact Nat.mul_div_le _ _
  have hqb : q ≤ 16777216 := by rw [hq]; exact Nat.div_le_self _ _
  have hdv : Int.tdiv 16777216 (wd : Int) = (q : Int) := by rw [Int.tdiv_eq_ediv_of_nonneg (by omega), hqi]
  have hwq : IntKind.i64.wrap (q : Int) = (q : Int) := by rw [IntKind.wrap_i64]; omega
  have hwz : ¬ wd = 0 := by omega
  have hmul : (wd : Int) * (n : Int) = (P : Int) := by rw [hP]; exact (Int.natCast_mul wd n).symm
  have hw1 : IntKind.i64.wrap ((wd : Int) * (n : Int)) = (P : Int) := by rw [hmul, IntKind.wrap_i64]; omega
  have hw2 : IntKind.i64.wrap ((P : Int) + 64) = ((P + 64 : Nat) : Int) := by rw [IntKind.wrap_i64]; omega
  have hw3 : IntKind.i64.wrap ((P : Int) + 64 - 1) = ((P + 63 : Nat) : Int) := by rw [IntKind.wrap_i64]; omega
  obtain ⟨m, hm⟩ : ∃ m, m = (P + 63) / 64 := ⟨_, rfl⟩
  have hw4 : Int.tdiv ((P : Int) + 63) 64 = (m : Int) := by rw [Int.tdiv_eq_ediv_of_nonneg (by omega)]; omega
  have hw5 : IntKind.i64.wrap (m : Int) = (m : Int) := by rw [IntKind.wrap_i64]; omega
  have hmb : m ≤ 1000000 := by omega
  have hmk := run_make_list (P := Try.prog) 61 64 i0 (.int .u64 0) Try.underlying61 hi hz0 hz1 rfl .i64 .i64 m (by rw [hz2]; omega) (by omega)
  have HM := Lib.hid (show m = (wd * n + 63) / 64 by rw [hm, hP])
  clear h hq hqi hP hPb hmul hm hi hz0 hz1 hz2
  go_enter Try.func38, Try.ntmps38
  go_wp2_with fail
  go_ret2
  have b1 := Blk.new w 64 (List.replicate m (.int .u64 0))
  have b2 := Blk.new (w.alloc (.cells (List.replicate m (.int .u64 0)).toArray 64)) 63 [.slice (some ⟨w.heap.size, 0, none⟩) m m, .int .i64 (wd : Int), .int .i64 (n : Int)]
  have e : (w.alloc (.cells (List.replicate m (.int .u64 0)).toArray 64)).heap.size = w.heap.size + 1 := by simp
  rw [e] at b2
  refine ⟨w.heap.size, w.heap.size + 1, m, rfl, HM.out, Nat.le_refl _, Nat.le_succ _, ?_, ?_, ((Kp.refl [] w).alloc _).alloc _⟩
  · have := b1.alloc (.cells [.slice (some ⟨w.heap.size, 0, none⟩) m m, .int .i64 (wd : Int), .int .i64 (n : Int)].toArray 63)
    simpa [wordsV] using this
  · simpa using b2
end Go.Proofs.Ytlkgepojjjcaoaa
