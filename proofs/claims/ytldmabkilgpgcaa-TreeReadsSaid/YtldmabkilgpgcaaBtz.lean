/-
  LAYER 1's library: bits.TrailingZeros64, where its table lies in memory; all ones; the closure of find.
  CONDITIONS: as each says.
-/
import Derived.Test.YtldmabkilgpgcaaBrank
import Derived.Test.YtldmabkilgpgcaaSearch
namespace Go.Proofs.Ytldmabkilgpgcaa
open Go.RowKit

def dbTab : List Int := [0, 1, 56, 2, 57, 49, 28, 3, 61, 58, 42, 50, 38, 29, 17, 4, 62, 47, 59, 36, 45, 43, 51, 22, 53, 39, 33, 30, 24, 18, 12, 5, 63, 55, 48, 27, 60, 41, 37, 16, 46, 35, 44, 21, 52, 32, 23, 11, 54, 26, 40, 15, 34, 20, 31, 10, 25, 14, 19, 9, 13, 8, 7, 6]
theorem db_at : ∀ c : Nat, c < 64 → dbTab[2 ^ c * 285870213051353865 % 18446744073709551616 / 288230376151711744]? = some (c : Int) := by decide +kernel
theorem ft_app : ∀ {l : List Bool} (n : Nat), 0 < l.count true → ft (l ++ List.replicate n false) = ft l
  | [], n, h => by simp at h
  | true :: l, n, _ => rfl
  | false :: l, n, h => by
    have := ft_app (l := l) n (by simpa [List.count_cons] using h)
    show ft (l ++ List.replicate n false) + 1 = ft l + 1
    rw [this]
theorem bitN_pad (l : List Bool) (n : Nat) : bitN (l ++ List.replicate n false) = bitN l := by rw [bitN_app, bitN_zeros, Nat.mul_zero, Nat.add_zero]

set_option maxRecDepth 100000 in
set_option maxHeartbeats 2000000 in
theorem all_any (S : List Nat) (p : Nat) (bs : List Bool) (c : Bool) (w : World) (h : VecM w S p bs c) :
    Calls Try.prog 62 #[.pointer (some ⟨p, 0, none⟩)] w fun e w' => e = .returned (.int .i64 ((bs.count true : Nat) : Int)) ∧ ∃ S', VecM w' S' p bs true ∧ Kp S w w' ∧ Grow w S S' ∧ (c = true → Kp [] w w' ∧ S = S') := by
  have HH := Lib.hid h; clear h
  obtain ⟨N, hN⟩ : ∃ N, N = bs.count true := ⟨_, rfl⟩
  rw [← hN]
  have HNC := Lib.hid hN; clear hN
  go_enter Try.func62, Try.ntmps62
  go_wp2_with fail
  refine (count_any S p bs c w HH.out).mono ?_
  rintro e w1 ⟨rfl, S', hv1, hk1, hg1, hc1⟩
  have HV := Lib.hid hv1
  have HK := Lib.hid hk1
  have HG := Lib.hid hg1
  have HC := Lib.hid (show c = true → Kp [] w w1 ∧ S = S' from fun hc => by obtain ⟨rfl, rfl⟩ := hc1 hc; exact ⟨Kp.refl _ _, rfl⟩)
  clear hv1 hk1 hg1 hc1
  obtain ⟨ga, ca, c1, hca⟩ := HV.out.ahead
  obtain ⟨_, _, _, hnb⟩ := HV.out.tail
  obtain ⟨R, hR⟩ : ∃ R, R = rowsOf bs.length := ⟨_, rfl⟩
  rw [← hR] at c1 hca
  have hRb : 1 ≤ R ∧ R ≤ 40000 := by unfold rowsOf at hR; omega
  obtain ⟨R1, hR1⟩ : ∃ R1, R = R1 + 1 := ⟨R - 1, by omega⟩
  have cl := hca R1 (by omega)
  have hNl : cntI bs (512 * R1) = N := by
    unfold rowsOf at hR
    rw [HNC.out, cntI_all (by omega)]
  rw [hNl] at cl
  have hwR : IntKind.i64.wrap ((R : Int) - 1) = (R1 : Int) := by rw [IntKind.wrap_i64]; omega
  have hRR : (R1 : Int) < (R : Int) := by omega
  clear hNl hR1 hR hca hnb
  go_wp2_with fail
  go_quiet (fail)
  go_wp2_with fail
  go_ret
  exact ⟨rfl, S', HV.out.kp0 (Kp.of_drewN _ _), HK.out.drewN _, HG.out, fun hc => ⟨(HC.out hc).1.drewN _, (HC.out hc).2⟩⟩

end Go.Proofs.Ytldmabkilgpgcaa
