/-
  LAYER 1's REFERENCE: New, Read.
  CONDITIONS: as each says.
-/
import Derived.Test.YtddmioaeehgkbaaDoorBref2
namespace Go.Proofs.YtddmioaeehgkbaaDoor
open Go.RowKit

theorem Tryd.info_bool_ : (Tryd.prog.info? 4).map (fun i => (i.zero, i.size, i.bytes)) = some (some (.bool false), 1, 1) := by kernel_rfl
theorem rbnew_no (n : Int) (w : World) (h : lenE n ≠ 0) : Calls Tryd.prog 60 #[.int .i64 n] w fun e w' => e = .returned (.tuple #[.pointer none, .int .i64 (lenE n)]) ∧ w = w' := by
  by_cases h0 : n < 0
  · have HE := Lib.hid (show lenE n = 2 by unfold lenE; rw [if_pos h0])
    rw [HE.out]
    clear h
    go_enter Tryd.func60, Tryd.ntmps60
    go_wp2_with fail
    go_ret2
    exact ⟨rfl, rfl⟩
  · by_cases h1 : 16777216 < n
    · have HE := Lib.hid (show lenE n = 3 by unfold lenE; rw [if_neg h0, if_pos h1])
      rw [HE.out]
      clear h
      go_enter Tryd.func60, Tryd.ntmps60
      go_wp2_with fail
      go_ret2
      exact ⟨rfl, rfl⟩
    · exact absurd (show lenE n = 0 by unfold lenE; rw [if_neg h0, if_neg h1]) h

set_option maxRecDepth 100000 in
set_option maxHeartbeats 2000000 in
theorem rbnew_raw (n : Nat) (w : World) (h : n ≤ 16777216) : Calls Tryd.prog 60 #[.int .i64 n] w fun e w' =>
    ∃ g p, e = .returned (.tuple #[.pointer (some ⟨p, 0, none⟩), .int .i64 0]) ∧ w.heap.size ≤ g ∧ w.heap.size ≤ p ∧ g ≠ p ∧ Blk w' g 4 ((List.replicate n false).map .bool) ∧ Blk w' p 98 [.slice (some ⟨g, 0, none⟩) n n] ∧ Kp [] w w' := by
  obtain ⟨i0, hi, hz0, hz1, hz2⟩ := info_parts Tryd.info_bool_
  have hmk := run_make_list (P := Tryd.prog) 22 4 i0 (.bool false) Tryd.underlying22 hi hz0 hz1 rfl .i64 .i64 n (by rw [hz2]; omega) (by omega)
  clear hi hz0 hz1 hz2
  go_enter Tryd.func60, Tryd.ntmps60
  go_wp2_with fail
  go_ret2
  have b1 := Blk.new w 4 (List.replicate n (.bool false))
  have b2 := Blk.new (w.alloc (.cells (List.replicate n (.bool false)).toArray 4)) 98 [.slice (some ⟨w.heap.size, 0, none⟩) n n]
  have e : (w.alloc (.cells (List.replicate n (.bool false)).toArray 4)).heap.size = w.heap.size + 1 := by simp
  rw [e] at b2
  refine ⟨w.heap.size, w.heap.size + 1, rfl, Nat.le_refl _, Nat.le_succ _, by omega, ?_, ?_, ((Kp.refl [] w).alloc _).alloc _⟩
  · have := b1.alloc (.cells [.slice (some ⟨w.heap.size, 0, none⟩) n n].toArray 98)
    simpa using this
  · simpa using b2
theorem RefV.of_blk {w : World} {g p n : Nat} {bs : List Bool} (hn : bs.length = n) (hm : n ≤ maxLen) (hg : Blk w g 4 (bs.map .bool)) (hp : Blk w p 98 [.slice (some ⟨g, 0, none⟩) n n]) : RefV w [p, g] p bs := by
  subst hn
  refine ⟨some ⟨g, 0, none⟩, bs.length, hp, ?_, rfl⟩
  exact own_of_blk (xs := bs.map .bool) (rest := []) (by rw [List.append_nil]; exact hg) (Nat.zero_le _) (Nat.le_refl _) hm (by simp) (by simp)

theorem top_zero {N n : Nat} : ∀ {j : Nat}, n ≤ j → N < 2 ^ j → (∀ i, n ≤ i → i < j → N / 2 ^ i % 2 = 0) → N < 2 ^ n
  | 0, hj, h, _ => by
    obtain rfl : n = 0 := by omega
    exact h
  | j + 1, hj, h, hb => by
    by_cases hnj : n = j + 1
    · rw [hnj]; exact h
    · refine top_zero (j := j) (by omega) ?_ (fun i h1 h2 => hb i h1 (by omega))
      have h1 := hb j (by omega) (by omega)
      have h2 : N / 2 ^ j < 2 := by rw [Nat.div_lt_iff_lt_mul (Nat.two_pow_pos _), Nat.mul_comm, ← Nat.pow_succ]; exact h
      have h3 : N / 2 ^ j = 0 := by
        obtain ⟨z, hz⟩ : ∃ z, z = N / 2 ^ j := ⟨_, rfl⟩
        rw [← hz] at h1 h2 ⊢
        omega
      rw [Nat.div_eq_zero_iff] at h3
      have := Nat.two_pow_pos j
      omega

end Go.Proofs.YtddmioaeehgkbaaDoor
