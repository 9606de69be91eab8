/-
  TreeSides.
  CONDITIONS: the numbers' bounds.
-/
import Derived.Test.YtldmabkilgpgcaaGaw
namespace Go.Proofs.Ytldmabkilgpgcaa
open Go.RowKit

theorem int_wf {x : Int} (h : (Lit.int .i64 x).wf = true) : -9223372036854775808 ≤ x ∧ x ≤ 9223372036854775807 := by
  simpa [Lit.wf, IntKind.min, IntKind.max, IntKind.signed, IntKind.bits] using h
theorem single_next (h : Nat) (p : Nat × Nat) : nextL h [[p]] = [[p]] := by
  unfold nextL parts part
  rcases (show qN h p = 0 ∨ qN h p = 1 ∨ qN h p = 2 ∨ qN h p = 3 by have := qN_lt h p; omega) with e | e | e | e <;> simp [e]
theorem single_bits (h : Nat) (p : Nat × Nat) : (bitsL h [[p]]).length = 4 ∧ (bitsL h [[p]]).count true = 1 := by
  unfold bitsL parts part
  rcases (show qN h p = 0 ∨ qN h p = 1 ∨ qN h p = 2 ∨ qN h p = 3 by have := qN_lt h p; omega) with e | e | e | e <;> simp [e]
theorem single_lev (p : Nat × Nat) : ∀ h, (levL h [[p]]).length = 4 * h ∧ (levL h [[p]]).count true = h
  | 0 => ⟨rfl, rfl⟩
  | h + 1 => by
    obtain ⟨h1, h2⟩ := single_lev p h
    obtain ⟨h3, h4⟩ := single_bits h p
    unfold levL
    rw [single_next, List.length_append, List.count_append]
    omega
set_option maxRecDepth 100000 in
set_option maxHeartbeats 4000000 in
theorem treesides_any (r c : Int) (w : World) (hr0 : -9223372036854775808 ≤ r) (hr1 : r ≤ 9223372036854775807) (hc0 : -9223372036854775808 ≤ c) (hc1 : c ≤ 9223372036854775807) :
    Calls Try.prog 4 #[.int .i64 r, .int .i64 c] w fun e w' => e = .returned (.bool true) ∧ Kp [] w w' := by
  obtain ⟨m, hm⟩ : ∃ m, m = max r c := ⟨_, rfl⟩
  have HS := Lib.hid (show ∀ w, Calls Try.prog 13 #[.int .i64 r, .int .i64 c] w fun e w' => e = .returned (.int .i64 (sideI m)) ∧ w = w' from fun w => tside_any r c m w hm)
  obtain ⟨s, hs⟩ : ∃ s, s = sideI m := ⟨_, rfl⟩
  have HSP := Lib.hid (sideI_spec m)
  rw [← hs] at HS HSP
  clear hs
  go_enter Try.func4, Try.ntmps4
  go_wp2_with fail
  refine (tawake_any w).mono ?_
  rintro e w1 ⟨rfl, hk⟩
  have HK := Lib.hid hk
  clear hk
  go_wp2_with fail
  refine (HS.out w1).mono ?_
  rintro e w2 ⟨rfl, rfl⟩
  rcases HSP.out with ⟨rfl, hbig⟩ | ⟨j, hj1, hj17, hsp, hms, hjm⟩
  · by_cases hrb : 131072 < r
    · go_wp2_with fail
      go_ret
      exact ⟨rfl, HK.out⟩
    · have hcb : 131072 < c := by omega
      go_wp2_with fail
      go_ret
      exact ⟨rfl, HK.out⟩
  · have hp17 : 2 ^ j ≤ 2 ^ 17 := Nat.pow_le_pow_right (by omega) hj17
    have hp1 : 2 ^ 1 ≤ 2 ^ j := Nat.pow_le_pow_right (by omega) hj1
    obtain ⟨P, hP⟩ : ∃ P, P = 2 ^ j := ⟨_, rfl⟩
    have HP := Lib.hid hP
    rw [← hP] at hsp hp17 hp1 hms
    have HJM := Lib.hid (show s = 2 ∨ Int.tdiv s 2 < m by
      rcases hjm with rfl | h
      · exact .inl (by rw [hsp, hP]; rfl)
      · refine .inr ?_
        have hh : P / 2 = 2 ^ (j - 1) := by rw [hP]; obtain ⟨i, rfl⟩ : ∃ i, j = i + 1 := ⟨j - 1, by omega⟩; rw [Nat.pow_succ, Nat.mul_div_cancel _ (by omega)]; rfl
        rw [← hh] at h
        rw [hsp]
        exact h)
    clear hP hjm
    subst hsp
    have hne : ((P : Int) == 0) = false := by simp; omega
    have hm1 : (P : Int) - 1 = ((P - 1 : Nat) : Int) := by omega
    obtain ⟨bs, hbs⟩ : ∃ bs, bs = levL j [[(P - 1, P - 1)]] := ⟨_, rfl⟩
    have HBS := Lib.hid (show bs.length = 4 * j ∧ bs.count true = j by rw [hbs]; exact single_lev _ j)
    have HKO := Lib.hid (show kOf bs = 1 by unfold kOf; rw [HBS.out.1, HBS.out.2]; omega)
    have hk1 := (Kp.refl [] w1).alloc (.cells #[.int .i64 ((P - 1 : Nat) : Int), .int .i64 ((P - 1 : Nat) : Int)] 24)
    have HOF := Lib.hid (tof_ok j 1 1 _ (some ⟨w1.heap.size, 0, none⟩) [(P - 1, P - 1)] _ hj1 hj17 (rd_new' w1 #[.int .i64 ((P - 1 : Nat) : Int), .int .i64 ((P - 1 : Nat) : Int)] 24 rfl) rfl (by omega) (fun p hp => by simp only [List.mem_singleton] at hp; subst hp; rw [← HP.out]; exact ⟨by simp only; omega, by simp only; omega⟩) (by rw [← hbs, HBS.out.1, HBS.out.2]; omega))
    rw [← hbs, ← HP.out, HKO.out] at HOF
    replace HK := Lib.hid (HK.out.trans hk1)
    clear hk1 hbs
    go_wp2_with fail
    refine HOF.out.mono ?_
    rintro e w3 ⟨S, p, q, rfl, ht, hS, hp, hk3⟩
    have HT := Lib.hid ht
    replace HK := Lib.hid (HK.out.trans hk3)
    clear ht hS hp hk3 HOF
    go_wp2_with fail
    have hk4 := (Kp.refl [] w3).alloc (.cells #[.int .i64 (P : Int), .int .i64 0] 24)
    have hgt : hgt (P : Int) = j := by rw [HP.out]; exact hgt_pow hj1 hj17
    refine (tof_out (P : Int) j 1 1 _ (some ⟨w3.heap.size, 0, none⟩) [((P : Int), 0)] _ hgt (by omega) (rd_new' w3 #[.int .i64 (P : Int), .int .i64 0] 24 rfl) rfl (by omega) (by simp [outI]) (fun x hx => by simp only [List.mem_singleton] at hx; subst hx; exact ⟨⟨by simp only; omega, by simp only; omega⟩, by simp only; omega, by simp only; omega⟩)).mono ?_
    rintro e w4 ⟨rfl, hk5⟩
    have HT4 := Lib.hid ((HT.out.kp0 hk4).kp0 hk5)
    have HK4 := Lib.hid (HK.out.trans (hk4.trans hk5))
    clear hk4 hk5 hgt HT HK
    go_wp2_with fail
    refine (tside2_any S p q j 1 bs true w4 HT4.out hj17).mono ?_
    rw [← HP.out]
    rintro e w5 ⟨rfl, rfl⟩
    go_wp2_with fail
    refine (tlen_any S p q j 1 bs true w4 HT4.out).mono ?_
    rintro e w5 ⟨rfl, rfl⟩
    go_wp2_with fail
    refine (tnodes_any S p q j 1 (4 * j) bs true w4 HT4.out HBS.out.1).mono ?_
    rw [show 4 * j / 4 = j by omega]
    rintro e w5 ⟨rfl, rfl⟩
    go_wp2_with fail
    refine (theight_any S p q j 1 bs true w4 HT4.out).mono ?_
    rintro e w5 ⟨rfl, rfl⟩
    have hgp : wrap64 ((2 : Int) ^ j) = (P : Int) := by rw [g_pow hj17, HP.out]
    go_wp2_with fail
    refine (theight_any S p q j 1 bs true w4 HT4.out).mono ?_
    rintro e w5 ⟨rfl, rfl⟩
    have hrP : r ≤ (P : Int) := by omega
    have hcP : c ≤ (P : Int) := by omega
    obtain ⟨H, hH⟩ : ∃ H : Int, H = Int.tdiv (P : Int) 2 := ⟨_, rfl⟩
    have HJ := HJM.out
    rw [← hH] at HJ
    have hH0 : 0 ≤ H := by rw [hH]; exact Int.natCast_nonneg (P / 2)
    have hH1 : H ≤ 131072 := by rw [hH]; show ((P / 2 : Nat) : Int) ≤ 131072; omega
    have hHs := hH.symm
    clear hH
    by_cases h2 : (P : Int) = 2
    · obtain rfl : P = 2 := by omega
      go_wp2_with fail
      go_ret
      exact ⟨by simp [*], HK4.out⟩
    · have hHm : H < m := by
        rcases HJ with h | h
        · exact absurd h h2
        · exact h
      clear HJ
      by_cases hHr : H < r
      · go_wp2_with fail
        go_ret
        exact ⟨by simp [*], HK4.out⟩
      · have hHc : H < c := by omega
        go_wp2_with fail
        go_ret
        exact ⟨by simp [*], HK4.out⟩
end Go.Proofs.Ytldmabkilgpgcaa
