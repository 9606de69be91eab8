/-
  LAYER 1's library: bits.TrailingZeros64, where its table lies in memory; all ones; the closure of find.
  CONDITIONS: as each says.
-/
import Derived.Test.YtddmioaeehgkbaaDoorBrank
import Derived.Test.YtddmioaeehgkbaaDoorSearch
namespace Go.Proofs.YtddmioaeehgkbaaDoor
open Go.RowKit

def dbTab : List Int := [0, 1, 56, 2, 57, 49, 28, 3, 61, 58, 42, 50, 38, 29, 17, 4, 62, 47, 59, 36, 45, 43, 51, 22, 53, 39, 33, 30, 24, 18, 12, 5, 63, 55, 48, 27, 60, 41, 37, 16, 46, 35, 44, 21, 52, 32, 23, 11, 54, 26, 40, 15, 34, 20, 31, 10, 25, 14, 19, 9, 13, 8, 7, 6]
/-- The table lies in memory. -/
def Tab64 (w : World) : Prop := ∀ (i : Nat) (v : Int), dbTab[i]? = some v → w.cell? ⟨0, i, none⟩ = some (.int .u8 v)
theorem Tab64.kp {w w' : World} {S : List Nat} (h : Tab64 w) (hk : Kp S w w') (hS : 0 ∉ S) : Tab64 w' := fun i v hv => hk.cell (h i v hv) hS
theorem Tab64.kp0 {w w' : World} (h : Tab64 w) (hk : Kp [] w w') : Tab64 w' := h.kp hk (by simp)
theorem db_at : ∀ c : Nat, c < 64 → dbTab[2 ^ c * 285870213051353865 % 18446744073709551616 / 288230376151711744]? = some (c : Int) := by decide +kernel
theorem ft_app : ∀ {l : List Bool} (n : Nat), 0 < l.count true → ft (l ++ List.replicate n false) = ft l
  | [], n, h => by simp at h
  | true :: l, n, _ => rfl
  | false :: l, n, h => by
    have := ft_app (l := l) n (by simpa [List.count_cons] using h)
    show ft (l ++ List.replicate n false) + 1 = ft l + 1
    rw [this]
theorem bitN_pad (l : List Bool) (n : Nat) : bitN (l ++ List.replicate n false) = bitN l := by rw [bitN_app, bitN_zeros, Nat.mul_zero, Nat.add_zero]

set_option maxRecDepth 10000 in
set_option maxHeartbeats 1000000 in
theorem tz_any (l : List Bool) (w : World) (hl : l.length ≤ 64) (hc : 0 < l.count true) (ht : Tab64 w) :
    Calls Tryd.prog 74 #[.int .u64 (bitN l : Nat)] w fun e w' => e = .returned (.int .i64 (ft l : Nat)) ∧ w = w' := by
  obtain ⟨x, hx⟩ : ∃ x, x = bitN l := ⟨_, rfl⟩
  obtain ⟨c, hcc⟩ : ∃ c, c = ft l := ⟨_, rfl⟩
  have hxp : 0 < x := by rw [hx]; exact bitN_pos hc
  have hxb : x < 2 ^ 64 := by rw [hx]; exact Nat.lt_of_lt_of_le (bitN_lt l) (Nat.pow_le_pow_right (by omega) hl)
  have hc64 : c < 64 := by rw [hcc]; exact Nat.lt_of_lt_of_le (ft_lt hc) hl
  have hneg : x &&& (2 ^ 64 - x) = 2 ^ c := by
    have hcp : 0 < (l ++ List.replicate (64 - l.length) false).count true := by rw [List.count_append]; omega
    have := and_neg hcp
    rw [bitN_pad, ft_app _ hc, List.length_append, List.length_replicate, show l.length + (64 - l.length) = 64 by omega, ← hx, ← hcc] at this
    exact this
  rw [← hx, ← hcc]
  obtain ⟨y, hy⟩ : ∃ y, y = 2 ^ 64 - x := ⟨_, rfl⟩
  rw [← hy] at hneg
  have q1 : IntKind.u64.wrap (-(x : Int)) = (y : Int) := by
    have : IntKind.u64.wrap (-(x : Int)) = (-(x : Int)) % 18446744073709551616 := by simp [IntKind.wrap, IntKind.signed, IntKind.bits]
    rw [this]; omega
  obtain ⟨P, hP⟩ : ∃ P, P = 2 ^ c := ⟨_, rfl⟩
  have hPb : P ≤ 9223372036854775808 := by rw [hP]; exact Nat.le_trans (Nat.pow_le_pow_right (by omega) (show c ≤ 63 by omega)) (by decide)
  have q2 : bits .and .u64 (x : Int) (y : Int) = (P : Int) := by rw [u64_and_nat x y (by omega) (by omega), hneg, hP]
  obtain ⟨M, hM⟩ : ∃ M, M = P * 285870213051353865 % 18446744073709551616 := ⟨_, rfl⟩
  have q3 : IntKind.u64.wrap ((P : Int) * 285870213051353865) = (M : Int) := by
    have : IntKind.u64.wrap ((P : Int) * 285870213051353865) = ((P : Int) * 285870213051353865) % 18446744073709551616 := by simp [IntKind.wrap, IntKind.signed, IntKind.bits]
    rw [this]; omega
  obtain ⟨I, hI⟩ : ∃ I, I = M / 288230376151711744 := ⟨_, rfl⟩
  have q4 : (M : Int) / 288230376151711744 = (I : Int) := by omega
  have hI64 : I < 64 := by omega
  have ci := ht I (c : Int) (by rw [hI, hM, hP]; exact db_at c hc64)
  have q5 : IntKind.i64.wrap (c : Int) = (c : Int) := by rw [IntKind.wrap_i64]; omega
  have hI1 : (I : Int) < 64 := by omega
  have hI0 : (0 : Int) ≤ (I : Int) := by omega
  have hx0 : ((x : Int) == 0) = false := by simp; omega
  clear hx hcc hc hl hneg hy hP hM hI hxb hPb
  go_enter Tryd.func74, Tryd.ntmps74
  go_wp2_with fail
  go_ret
  exact ⟨rfl, rfl⟩

set_option maxRecDepth 100000 in
set_option maxHeartbeats 2000000 in
theorem all_any (S : List Nat) (p : Nat) (bs : List Bool) (c : Bool) (w : World) (h : VecM w S p bs c) :
    Calls Tryd.prog 65 #[.pointer (some ⟨p, 0, none⟩)] w fun e w' => e = .returned (.int .i64 ((bs.count true : Nat) : Int)) ∧ ∃ S', VecM w' S' p bs true ∧ Kp S w w' ∧ Grow w S S' ∧ (c = true → Kp [] w w' ∧ S = S') := by
  have HH := Lib.hid h; clear h
  obtain ⟨N, hN⟩ : ∃ N, N = bs.count true := ⟨_, rfl⟩
  rw [← hN]
  have HNC := Lib.hid hN; clear hN
  go_enter Tryd.func65, Tryd.ntmps65
  go_wp2_with fail
  refine (count_any S p bs c w HH.out).mono ?_
  rintro e w1 ⟨rfl, S', hv1, hk1, hg1, hc1⟩
  have HV := Lib.hid hv1
  have HK := Lib.hid hk1
  have HG := Lib.hid hg1
  have HC := Lib.hid (show c = true → Kp [] w w1 ∧ S = S' from fun hc => by obtain ⟨rfl, rfl⟩ := hc1 hc; exact ⟨Kp.refl _ _, rfl⟩)
  clear hv1 hk1 hg1 hc1
  obtain ⟨ga, ca, c1, hca⟩ := HV.out.ahead
  obtain ⟨_, _, _, hnb⟩ := HV.out.tail
  obtain ⟨R, hR⟩ : ∃ R, R = rowsOf bs.length := ⟨_, rfl⟩
  rw [← hR] at c1 hca
  have hRb : 1 ≤ R ∧ R ≤ 40000 := by unfold rowsOf at hR; omega
  obtain ⟨R1, hR1⟩ : ∃ R1, R = R1 + 1 := ⟨R - 1, by omega⟩
  have cl := hca R1 (by omega)
  have hNl : cntI bs (512 * R1) = N := by
    unfold rowsOf at hR
    rw [HNC.out, cntI_all (by omega)]
  rw [hNl] at cl
  have hwR : IntKind.i64.wrap ((R : Int) - 1) = (R1 : Int) := by rw [IntKind.wrap_i64]; omega
  have hRR : (R1 : Int) < (R : Int) := by omega
  clear hNl hR1 hR hca hnb
  go_wp2_with fail
  go_quiet (fail)
  go_wp2_with fail
  go_ret
  exact ⟨rfl, S', HV.out.kp0 (Kp.of_drewN _ _), HK.out.drewN _, HG.out, fun hc => ⟨(HC.out hc).1.drewN _, (HC.out hc).2⟩⟩

theorem bfindc_any (S : List Nat) (p k r b1 b2 : Nat) (bs : List Bool) (w : World) (h : VecM w S p bs true) (hr : r < rowsOf bs.length) (h1 : w.cell? ⟨b1, 0, none⟩ = some (.pointer (some ⟨p, 0, none⟩))) (h2 : w.cell? ⟨b2, 0, none⟩ = some (.int .i64 k)) :
    Calls Tryd.prog 72 #[.int .i64 r, .pointer (some ⟨b1, 0, none⟩), .pointer (some ⟨b2, 0, none⟩)] w fun e w' => e = .returned (.bool (decide (k < cntI bs (512 * r)))) ∧ Dr w w' := by
  obtain ⟨ga, ca, c1, hca⟩ := h.ahead
  have cr := hca r hr
  obtain ⟨R, hR⟩ : ∃ R, R = rowsOf bs.length := ⟨_, rfl⟩
  rw [← hR] at c1 hr
  obtain ⟨N, hN⟩ : ∃ N, N = cntI bs (512 * r) := ⟨_, rfl⟩
  rw [← hN] at cr ⊢
  have hri : (r : Int) < (R : Int) := by omega
  obtain ⟨q, hq⟩ : ∃ q, decide ((k : Int) < (N : Int)) = q := ⟨_, rfl⟩
  have HQ := Lib.hid (show decide (k < N) = q by rw [← hq]; simp)
  clear h hca hN hR
  go_enter Tryd.func72, Tryd.ntmps72
  go_wp2_with fail
  go_quiet (fail)
  go_wp2_with fail
  go_ret
  exact ⟨by rw [HQ.out]; rfl, (Dr.refl w).drewN _⟩
end Go.Proofs.YtddmioaeehgkbaaDoor
