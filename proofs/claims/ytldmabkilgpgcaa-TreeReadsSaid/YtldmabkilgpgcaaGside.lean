/-
  LAYER 15 (tree): Side, height.
  CONDITIONS: as each says.
-/
import Derived.Test.YtldmabkilgpgcaaMGrid
import Derived.Test.YtldmabkilgpgcaaPick
namespace Go.Proofs.Ytldmabkilgpgcaa
open Go.RowKit

set_option maxRecDepth 100000 in
set_option maxHeartbeats 4000000 in
theorem tside_any (r c m : Int) (w : World) (hm : m = max r c) :
    Calls Try.prog 13 #[.int .i64 r, .int .i64 c] w fun e w' => e = .returned (.int .i64 (sideI m)) ∧ w = w' := by
  obtain ⟨R, hR⟩ : ∃ R, R = sideI m := ⟨_, rfl⟩
  rw [← hR]
  have HR := Lib.hid hR; clear hR
  have HM := Lib.hid hm; clear hm
  go_enter Try.func13, Try.ntmps13
  go_wp2_with fail
  go_loopw [5] (fun v wr => ∃ k s : Nat, v = .int .i64 (s : Int) ∧ k ≤ 17 ∧ Hid (s = 2 ^ (k + 1)) ∧ Hid (R = sideF (17 - k) (s : Int) m) ∧ w = wr) (fun v _ => 300000 - (intOf v).toNat)
  case atStart => exact ⟨0, 2, rfl, by omega, Lib.hid rfl, HR, rfl⟩
  case round =>
    obtain ⟨k, s, rfl, hk, HS, HF, rfl⟩ := hrel
    have hs1 : 1 ≤ s := by rw [HS.out]; exact Nat.pow_pos (by omega)
    have hmx : (if r < c then c else r) = m := by rw [HM.out]; by_cases h : r < c <;> simp [h] <;> omega
    by_cases h17 : k < 17
    · have hs : s ≤ 131072 := by rw [HS.out]; exact Nat.pow_le_pow_right (n := 2) (by omega) (show k + 1 ≤ 17 by omega)
      have HF2 := Lib.hid (show R = if m ≤ (s : Int) then (s : Int) else sideF (17 - (k + 1)) (2 * (s : Int)) m by rw [HF.out, show 17 - k = (17 - (k + 1)) + 1 by omega]; rfl)
      by_cases hms : m ≤ (s : Int)
      · have HR2 := Lib.hid (show R = (s : Int) by rw [HF2.out, if_pos hms])
        go_wp2_with fail
        go_ret
        exact ⟨by rw [HR2.out]; rfl, rfl⟩
      · have HR2 := Lib.hid (show R = sideF (17 - (k + 1)) ((s * 2 : Nat) : Int) m by rw [HF2.out, if_neg hms, Int.natCast_mul, Int.mul_comm]; rfl)
        have HS2 := Lib.hid (show s * 2 = 2 ^ (k + 1 + 1) by rw [HS.out, Nat.pow_succ 2 (k + 1)])
        go_wp2_with fail
        exact ⟨⟨k + 1, s * 2, by go_num, by omega, HS2, HR2, trivial⟩, by simp [intOf]; omega⟩
    · obtain rfl : k = 17 := by omega
      have hs : s = 262144 := HS.out
      subst hs
      have HR2 := Lib.hid (show R = 0 from HF.out)
      go_wp2_with fail
      go_ret
      exact ⟨by rw [HR2.out]; rfl, rfl⟩
set_option maxRecDepth 100000 in
set_option maxHeartbeats 4000000 in
theorem height_any (s : Int) (w : World) (hs0 : -9223372036854775808 ≤ s) (hs1 : s ≤ 9223372036854775807) :
    Calls Try.prog 34 #[.int .i64 s] w fun e w' => e = .returned (.int .i64 ((hgt s : Nat) : Int)) ∧ w = w' := by
  obtain ⟨H, hH⟩ : ∃ H, H = hgt s := ⟨_, rfl⟩
  rw [← hH]
  have HH := Lib.hid (hgt_spec s)
  rw [← hH] at HH
  have HS := Lib.hid (show ∀ w, Calls Try.prog 13 #[.int .i64 s, .int .i64 s] w fun e w' => e = .returned (.int .i64 (sideI s)) ∧ w = w' from fun w => tside_any s s s w (by omega))
  obtain ⟨T, hT⟩ : ∃ T, T = sideI s := ⟨_, rfl⟩
  rw [← hT] at HH HS
  have HT := Lib.hid hT
  clear hH hT
  go_enter Try.func34, Try.ntmps34
  by_cases h2 : s < 2
  · obtain rfl : H = 0 := by
      rcases HH.out with ⟨h, _⟩ | ⟨h1, h2', h3⟩
      · exact h
      · have : 2 ^ 1 ≤ 2 ^ H := Nat.pow_le_pow_right (by omega) h1
        omega
    go_wp2_with fail
    go_ret
    exact ⟨rfl, rfl⟩
  · go_wp2_with fail
    refine (HS.out _).mono ?_
    rintro e w1 ⟨rfl, rfl⟩
    by_cases hT : T = s
    · obtain ⟨h1, h17, hp⟩ : 1 ≤ H ∧ H ≤ 17 ∧ s = ((2 ^ H : Nat) : Int) := by
        rcases HH.out with ⟨_, h⟩ | h
        · exact absurd ⟨by omega, hT⟩ h
        · exact h
      have HP := Lib.hid hp
      subst hT
      clear hp
      go_wp2_with fail
      go_loopw [0, 2] (fun v x wr => ∃ k y : Nat, x = .int .i64 (k : Int) ∧ v = .int .i64 (y : Int) ∧ k ≤ H ∧ y ≤ 131072 ∧ 1 ≤ y ∧ Hid (y = 2 ^ (H - k)) ∧ w = wr) (fun v _ _ => (intOf v).toNat)
      case atStart =>
        have hy : 2 ^ H ≤ 2 ^ 17 := Nat.pow_le_pow_right (by omega) h17
        have hy1 : 0 < 2 ^ H := Nat.pow_pos (by omega)
        exact ⟨0, 2 ^ H, rfl, by rw [HP.out], by omega, by omega, by omega, Lib.hid rfl, rfl⟩
      case round =>
        obtain ⟨k, y, rfl, rfl, hk, hy, hy1, HY, rfl⟩ := hrel
        by_cases hkH : k < H
        · have HY2 := Lib.hid (show y / 2 = 2 ^ (H - (k + 1)) by rw [HY.out, show H - k = (H - (k + 1)) + 1 by omega, Nat.pow_succ, Nat.mul_div_cancel _ (by omega)])
          have hy2 : 1 ≤ y / 2 := by rw [HY2.out]; exact Nat.pow_pos (by omega)
          have htd : Int.tdiv (y : Int) 2 = ((y / 2 : Nat) : Int) := rfl
          go_wp2_with fail
          exact ⟨⟨k + 1, y / 2, by go_num, by go_num, by omega, by omega, hy2, HY2, trivial⟩, by simp [intOf]; omega⟩
        · obtain rfl : k = H := by omega
          obtain rfl : y = 1 := by rw [HY.out, Nat.sub_self]
          go_wp2_with fail
          go_ret
          exact ⟨rfl, rfl⟩
    · obtain rfl : H = 0 := by
        rcases HH.out with ⟨h, _⟩ | ⟨h1, h2', h3⟩
        · exact h
        · exact absurd (HT.out.trans ((side_is (by omega)).2 ⟨H, h1, h2', h3⟩)) hT
      go_wp2_with fail
      go_ret
      exact ⟨rfl, rfl⟩
end Go.Proofs.Ytldmabkilgpgcaa
