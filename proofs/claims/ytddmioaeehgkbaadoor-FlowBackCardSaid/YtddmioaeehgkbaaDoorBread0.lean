/-
  LAYER 1: Read: a vector of bytes.
  CONDITIONS: bytes; at most 10^9 of them.
-/
import Derived.Test.YtddmioaeehgkbaaDoorBpl
namespace Go.Proofs.YtddmioaeehgkbaaDoor
open Go.RowKit

/-- What is wrong with a length. -/
def lenE (n : Int) : Int := if n < 0 then 2 else if 16777216 < n then 3 else 0
/-- What is wrong with bytes as so many bits. -/
def readE (n : Int) (bs : List Nat) : Int := if lenE n = 0 then (if bs.length = (n.toNat + 7) / 8 ∧ packN 8 bs < 2 ^ n.toNat then 0 else 4) else lenE n
theorem readE_err {n : Int} {bs : List Nat} (h : lenE n ≠ 0) : readE n bs = lenE n := by unfold readE; rw [if_neg h]
theorem readE_ok {n : Nat} {bs : List Nat} (h : lenE n = 0) (h1 : bs.length = (n + 7) / 8) (h2 : packN 8 bs < 2 ^ n) : readE n bs = 0 := by
  unfold readE; rw [if_pos h, Int.toNat_natCast, if_pos ⟨h1, h2⟩]
theorem readE_no {n : Nat} {bs : List Nat} (h : lenE n = 0) (h1 : ¬ (bs.length = (n + 7) / 8 ∧ packN 8 bs < 2 ^ n)) : readE n bs = 4 := by
  unfold readE; rw [if_pos h, Int.toNat_natCast, if_neg h1]
theorem lenE_ok {n : Int} (h : lenE n = 0) : 0 ≤ n ∧ n ≤ 16777216 := by
  unfold lenE at h
  by_cases h1 : n < 0
  · rw [if_pos h1] at h; cases h
  · rw [if_neg h1] at h
    by_cases h2 : 16777216 < n
    · rw [if_pos h2] at h; cases h
    · omega
theorem lenE_nat {n : Nat} (h : n ≤ 16777216) : lenE (n : Int) = 0 := by unfold lenE; rw [if_neg (by omega), if_neg (by omega)]

theorem bnew_no (n : Int) (w : World) (h : lenE n ≠ 0) : Calls Tryd.prog 40 #[.int .i64 n] w fun e w' => e = .returned (.tuple #[.pointer none, .int .i64 (lenE n)]) ∧ w = w' := by
  by_cases h0 : n < 0
  · refine (bnew_neg n w h0).mono fun e w' hh => ?_
    unfold lenE
    rw [if_pos h0]
    exact hh
  · by_cases h1 : 16777216 < n
    · obtain ⟨m, rfl⟩ : ∃ m : Nat, n = (m : Int) := ⟨n.toNat, by omega⟩
      refine (bnew_long m w (by omega)).mono fun e w' hh => ?_
      unfold lenE
      rw [if_neg h0, if_pos h1]
      exact hh
    · exact absurd (show lenE n = 0 by unfold lenE; rw [if_neg h0, if_neg h1]) h

set_option maxRecDepth 100000 in
set_option maxHeartbeats 2000000 in
theorem bnew_raw (n : Nat) (w : World) (h : n ≤ 16777216) : Calls Tryd.prog 40 #[.int .i64 n] w fun e w' =>
    ∃ g p m, e = .returned (.tuple #[.pointer (some ⟨p, 0, none⟩), .int .i64 0]) ∧ m = (n + 63) / 64 ∧ w.heap.size ≤ g ∧ w.heap.size ≤ p ∧ Blk w' g 72 (wordsV (List.replicate m 0)) ∧
      Blk w' p 77 [.slice (some ⟨g, 0, none⟩) m m, .slice none 0 0, .bool false, .int .i64 (n : Int), .bool true] ∧ Kp [] w w' := by
  obtain ⟨i0, hi, hz0, hz1, hz2⟩ := info_parts Tryd.info_u64
  obtain ⟨m, hm⟩ : ∃ m, m = (n + 63) / 64 := ⟨_, rfl⟩
  have hw1 : IntKind.i64.wrap ((n : Int) + 64) = ((n + 64 : Nat) : Int) := by rw [IntKind.wrap_i64]; omega
  have hw2 : IntKind.i64.wrap ((n : Int) + 64 - 1) = ((n + 63 : Nat) : Int) := by rw [IntKind.wrap_i64]; omega
  have hw3 : Int.tdiv ((n : Int) + 63) 64 = (m : Int) := by rw [Int.tdiv_eq_ediv_of_nonneg (by omega)]; omega
  have hw4 : IntKind.i64.wrap (m : Int) = (m : Int) := by rw [IntKind.wrap_i64]; omega
  have hmb : m ≤ 1000000 := by omega
  have hmk := run_make_list (P := Tryd.prog) 73 72 i0 (.int .u64 0) Tryd.underlying73 hi hz0 hz1 rfl .i64 .i64 m (by rw [hz2]; omega) (by omega)
  have HM := Lib.hid hm
  clear hm hi hz0 hz1 hz2
  go_enter Tryd.func40, Tryd.ntmps40
  go_wp2_with fail
  go_ret2
  have b1 := Blk.new w 72 (List.replicate m (.int .u64 0))
  have b2 := Blk.new (w.alloc (.cells (List.replicate m (.int .u64 0)).toArray 72)) 77 [.slice (some ⟨w.heap.size, 0, none⟩) m m, .slice none 0 0, .bool false, .int .i64 (n : Int), .bool true]
  have e : (w.alloc (.cells (List.replicate m (.int .u64 0)).toArray 72)).heap.size = w.heap.size + 1 := by simp
  rw [e] at b2
  refine ⟨w.heap.size, w.heap.size + 1, m, rfl, HM.out, Nat.le_refl _, Nat.le_succ _, ?_, ?_, ((Kp.refl [] w).alloc _).alloc _⟩
  · have := b1.alloc (.cells [.slice (some ⟨w.heap.size, 0, none⟩) m m, .slice none 0 0, .bool false, .int .i64 (n : Int), .bool true].toArray 77)
    simpa [wordsV] using this
  · simpa using b2

end Go.Proofs.YtddmioaeehgkbaaDoor
