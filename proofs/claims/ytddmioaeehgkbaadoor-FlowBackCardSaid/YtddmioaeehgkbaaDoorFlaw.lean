/-
  LAYER 3: the statement's size, its example.
  CONDITIONS: as each says.
-/
import Derived.Test.YtddmioaeehgkbaaDoorFrref
import Derived.Test.YtddmioaeehgkbaaDoorFdeed
import Derived.Test.YtddmioaeehgkbaaDoorPick
namespace Go.Proofs.YtddmioaeehgkbaaDoor
open Go.RowKit

/-- What size says. -/
def FSize (n : Nat) (ds : List FD) (w : World) (e : Ending) (w' : World) : Prop := (∃ Z : Nat, e = .returned (.int .i64 (Z : Int)) ∧ Z ≤ 562949953421312 ∧ (Z ≤ 600 → n ≤ 600 ∧ ∀ d ∈ ds, d.ones.length ≤ 600 ∧ d.nums.length ≤ 600)) ∧ Kp [] w w'
set_option maxRecDepth 100000 in
set_option maxHeartbeats 4000000 in
theorem fsize_any (A : Option Addr) (n c B : Nat) (ds : List FD) (w : World) (hx : FDeedRd w B A ds) (hn : ds.length = n) (hb : n ≤ 140737488351232) (hl : ∀ d ∈ ds, FDok d) :
    Calls Tryd.prog 7 #[.slice A n c] w (FSize n ds w) := by
  have HX := Lib.hid hx; clear hx
  have HN := Lib.hid hn; clear hn
  have HL := Lib.hid hl; clear hl
  go_enter Tryd.func7, Tryd.ntmps7
  go_wp2_with fail
  go_loopw [3, 4] (fun y x wr => ∃ k N : Nat, x = .int .i64 (k : Int) ∧ y = .int .i64 (N : Int) ∧ k ≤ n ∧ n ≤ N ∧ N ≤ 562949953421312 ∧ Hid (∀ d ∈ ds.take k, d.ones.length ≤ N ∧ d.nums.length ≤ N) ∧ Hid (Kp [] w wr)) (fun _ x _ => n - (intOf x).toNat)
  case atStart => exact ⟨0, n, rfl, rfl, by omega, by omega, by omega, Lib.hid (by simp), Lib.hid (Kp.refl _ _)⟩
  case round =>
    obtain ⟨k, N, rfl, rfl, hk, hnN, hNb, HA, HK⟩ := hrel
    by_cases hlt : k < n
    · by_cases hN : N ≤ 600
      · obtain ⟨what, wide, ones, nums, ad, A2, c2, A3, c3, hd, rfl, _, _, _, hc2, hc3, _, _, _, _⟩ := (HX.out.kp0 HK.out).ix (i := k) (by rw [HN.out]; exact hlt)
        have hok := HL.out _ (List.mem_of_getElem? hd)
        have hl1 : ones.length ≤ 140737488351232 := hok.1
        have hl2 : nums.length ≤ 140737488351232 := hok.2.1
        obtain ⟨L1, hL1⟩ : ∃ L1, L1 = ones.length := ⟨_, rfl⟩
        obtain ⟨L2, hL2⟩ : ∃ L2, L2 = nums.length := ⟨_, rfl⟩
        rw [← hL1] at hl1 hc2
        rw [← hL2] at hl2 hc3
        have HA2 := Lib.hid (show ∀ d ∈ ds.take (k + 1), d.ones.length ≤ N + L1 + L2 ∧ d.nums.length ≤ N + L1 + L2 from fun d hm => by
          rw [take_succ_of hd] at hm
          rcases List.mem_append.1 hm with h | h
          · have := HA.out d h; omega
          · simp only [List.mem_singleton] at h; subst h; show ones.length ≤ _ ∧ nums.length ≤ _; omega)
        obtain ⟨N1, hN1⟩ : ∃ N1, N1 = N + L1 := ⟨_, rfl⟩
        obtain ⟨N2, hN2⟩ : ∃ N2, N2 = N1 + L2 := ⟨_, rfl⟩
        have hs1 : IntKind.i64.wrap ((N : Int) + (L1 : Int)) = (N1 : Int) := by rw [IntKind.wrap_i64]; omega
        have hs2 : IntKind.i64.wrap ((N1 : Int) + (L2 : Int)) = (N2 : Int) := by rw [IntKind.wrap_i64]; omega
        have hi0 : (0 : Int) ≤ (k : Int) := by omega
        have hi1 : (k : Int) < (n : Int) := by omega
        have hnN2 : n ≤ N2 := by omega
        have hN2b : N2 ≤ 562949953421312 := by omega
        rw [← hN1, ← hN2] at HA2
        clear hd hL1 hL2 hok HA hN1 hN2
        go_wp2_with fail
        go_quiet (fail)
        go_wp2_with fail
        exact ⟨⟨k + 1, N2, by go_num, rfl, by omega, hnN2, hN2b, HA2, Lib.hid (HK.out.drewN _)⟩, by simp [intOf]; omega⟩
      · go_wp2_with fail
        go_ret
        exact ⟨⟨N, rfl, by omega, fun h => by omega⟩, HK.out⟩
    · obtain rfl : n = k := by omega
      have HA2 := Lib.hid (show ∀ d ∈ ds, d.ones.length ≤ N ∧ d.nums.length ≤ N from fun d hm => HA.out d (by rw [List.take_of_length_le (by rw [HN.out]; exact Nat.le_refl _)]; exact hm))
      by_cases hN : N ≤ 600
      all_goals
        go_wp2_with fail
        go_ret
        exact ⟨⟨N, rfl, by omega, fun h => ⟨by omega, fun d hd => by have := HA2.out d hd; omega⟩⟩, HK.out⟩

theorem rd_new' (w : World) (C : Array Value) (e : TypeId) {g : Nat} (hg : g = w.heap.size) : Rd (w.alloc (.cells C e)) (w.alloc (.cells C e)).heap.size (some ⟨g, 0, none⟩) C.toList := by
  subst hg
  exact (Rd.new w C e (0, 0)).bound (by simp)
abbrev L5 : List Bool := [false, false, true, false, true]
abbrev L9 : List Bool := [false, false, true, false, true, false, true, false, true]
set_option maxRecDepth 100000 in
set_option maxHeartbeats 4000000 in
theorem fawake_any (w : World) (ht : Tab64 w) : Calls Tryd.prog 8 #[] w fun e w' => e = .returned (.bool true) ∧ Kp [] w w' := by
  have HT := Lib.hid ht; clear ht
  have E1 := Lib.hid (show wGam ([], 0) [5] = (L5, 0) by decide)
  have E2 := Lib.hid (show wNum (L5, 0) 4 [5] = (L9, 0) by decide)
  have E3 := Lib.hid (show bytesN (bitN L9) 2 = [84, 1] by decide)
  have E4 := Lib.hid (show rGam L9 0 false = (5, 5, false) by decide)
  have E5 := Lib.hid (show rNum L9 5 false 4 = (5, 9, false) by decide)
  have E6 := Lib.hid (show rNum L9 9 false 1 = (0, 9, true) by decide)
  go_enter Tryd.func8, Tryd.ntmps8
  go_wp2_with fail
  refine (wnew_any w).mono ?_
  rintro e w1 ⟨S1, p, rfl, hw, hS, hk⟩
  have HK := Lib.hid hk
  have HW := Lib.hid hw; clear hw
  have HS := Lib.hid hS; clear hS
  clear hk
  go_wp2_with fail
  refine (wgamma_any S1 p 0 1 1 _ (some ⟨w1.heap.size, 0, none⟩) [5] ([], 0) _ (HW.out.kp0 ((Kp.refl [] w1).alloc _)) rfl (rd_new' w1 #[.int .i64 5] 3 rfl) rfl (by omega) (by decide)).mono ?_
  rw [E1.out]
  rintro e w2 ⟨rfl, S2, hw2, hk2, hg2⟩
  have hk12 : Kp S1 w1 w2 := ((Kp.refl S1 w1).alloc _).trans hk2
  have HS2 := Lib.hid (show ∀ x ∈ S2, w.heap.size ≤ x from fun x hx => by
    rcases hg2 x hx with h | h
    · exact HS.out x h
    · have := HK.out.size; simp at h; omega)
  replace HK := Lib.hid (HK.out.trans' hk12 (fun x hx => .inr (HS.out x hx)))
  have HW2 := Lib.hid hw2; clear hw2
  clear hk2 hk12 hg2 HS HW
  go_wp2_with fail
  refine (wnumber_any S2 p 5 1 1 _ 4 (some ⟨w2.heap.size, 0, none⟩) [5] (L5, 0) _ (HW2.out.kp0 ((Kp.refl [] w2).alloc _)) rfl (rd_new' w2 #[.int .i64 5] 3 rfl) rfl (by omega) (by decide)).mono ?_
  rw [E2.out]
  rintro e w3 ⟨rfl, S3, hw3, hk3, hg3⟩
  have hk23 : Kp S2 w2 w3 := ((Kp.refl S2 w2).alloc _).trans hk3
  have HS3 := Lib.hid (show ∀ x ∈ S3, w.heap.size ≤ x from fun x hx => by
    rcases hg3 x hx with h | h
    · exact HS2.out x h
    · have := HK.out.size; simp at h; omega)
  replace HK := Lib.hid (HK.out.trans' hk23 (fun x hx => .inr (HS2.out x hx)))
  have HW3 := Lib.hid hw3; clear hw3
  clear hk3 hk23 hg3 HS2 HW2
  go_wp2_with fail
  refine (wvec_ok S3 p L9 w3 HW3.out).mono ?_
  rintro e w4 ⟨T, q, rfl, hv, hT, hk⟩
  have HT4 := Lib.hid (show ∀ x ∈ T, w.heap.size ≤ x from fun x hx => Nat.le_trans HK.out.size (hT x hx))
  replace HK := Lib.hid (HK.out.kp0 hk)
  have HV := Lib.hid hv; clear hv
  clear hk hT HW3
  go_wp2_with fail
  refine (rnew_yes T q 9 0 L9 false w4 HV.out rfl (by omega)).mono ?_
  rintro e w5 ⟨pr, rfl, hr5, hv5, hpr, hprT, hk5⟩
  have HPR := Lib.hid (show w.heap.size ≤ pr from Nat.le_trans HK.out.size hpr)
  replace HK := Lib.hid (HK.out.trans' hk5 (fun x hx => .inr (HT4.out x hx)))
  have HPT := Lib.hid hprT
  have HR5 := Lib.hid hr5; clear hr5
  have HV5 := Lib.hid hv5; clear hv5
  clear hpr hk5 hprT HV
  go_wp2_with fail
  refine (vbytes_any T q L9 false w5 HV5.out).mono ?_
  rintro e w6 ⟨A6, m6, c6, hm6, rfl, hown, hk⟩
  obtain rfl : m6 = 2 := hm6
  rw [E3.out] at hown
  have HO := Lib.hid hown
  replace HV5 := Lib.hid (HV5.out.kp0 hk)
  replace HR5 := Lib.hid (HR5.out.kp0 hk)
  replace HK := Lib.hid (HK.out.kp0 hk)
  clear hk
  clear hown
  go_wp2_with fail
  refine (sameB A6 (some ⟨w6.heap.size, 0, none⟩) 2 2 c6 2 _ _ [84, 1] [84, 1] _ (own_rd (own_kp0 HO.out ((Kp.refl [] w6).alloc _))) (rd_new' w6 #[.int .u8 84, .int .u8 1] 5 rfl) rfl rfl (by omega) (by omega)).mono ?_
  rintro e w7 ⟨rfl, hd⟩
  have hk : Kp [] w6 w7 := ((Kp.refl [] w6).alloc _).trans (hd.kp [])
  replace HV5 := Lib.hid (HV5.out.kp0 hk)
  replace HR5 := Lib.hid (HR5.out.kp0 hk)
  replace HK := Lib.hid (HK.out.kp0 hk)
  clear hk
  clear hd HO
  go_wp2_with fail
  have H0T := Lib.hid (show 0 ∉ T from fun h => by have h1 := HT4.out _ h; have h2 := HT.out.lt; omega)
  refine (rgam_any T pr q 0 9 false L9 false w7 HR5.out HV5.out rfl (by omega) HPT.out (HT.out.kp0 HK.out) H0T.out (fun h => by have h1 := HPR.out; have h2 := HT.out.lt; omega)).mono ?_
  rw [E4.out]
  rintro e w8 ⟨rfl, hr8, T8, c8, hv8, hk8, hg8⟩
  have HPT8 := Lib.hid (show pr ∉ T8 from fun hm => by
    rcases hg8 _ hm with h | h
    · exact HPT.out h
    · have := Blk.lt HR5.out; omega)
  replace HK := Lib.hid (HK.out.trans' hk8 (fun x hx => by
    simp only [List.mem_cons] at hx
    rcases hx with rfl | hx
    · exact .inr HPR.out
    · exact .inr (HT4.out x hx)))
  have HR8 := Lib.hid hr8; clear hr8
  have HV8 := Lib.hid hv8; clear hv8
  clear hk8 hg8 HR5 HV5 HPT
  go_wp2_with fail
  refine (rnum_any T8 pr q 5 9 false 4 L9 c8 w8 HR8.out HV8.out rfl (by omega) HPT8.out).mono ?_
  rw [E5.out]
  rintro e w9 ⟨rfl, hr9, hk9⟩
  have HV9 := Lib.hid (HV8.out.kp hk9 (by intro x hx hm; simp only [List.mem_singleton] at hm; subst hm; exact HPT8.out hx))
  replace HK := Lib.hid (HK.out.trans' hk9 (fun x hx => by simp only [List.mem_singleton] at hx; subst hx; exact .inr HPR.out))
  have HR9 := Lib.hid hr9; clear hr9
  clear hk9 HR8 HV8
  go_wp2_with fail
  refine (rat_any pr q 9 false w9 HR9.out).mono ?_
  rintro e wa ⟨rfl, rfl⟩
  go_wp2_with fail
  refine (rerr_any pr q 9 false w9 HR9.out).mono ?_
  rw [show errB false = 0 from rfl]
  rintro e wa ⟨rfl, rfl⟩
  go_wp2_with fail
  refine (rnext_any T8 pr q 9 9 false L9 c8 w9 HR9.out HV9.out rfl (by omega) HPT8.out).mono ?_
  rw [E6.out]
  rintro e wa ⟨rfl, hra, hka⟩
  replace HK := Lib.hid (HK.out.trans' hka (fun x hx => by simp only [List.mem_singleton] at hx; subst hx; exact .inr HPR.out))
  have HRA := Lib.hid hra; clear hra
  clear hka HR9 HV9
  go_wp2_with fail
  refine (rerr_any pr q 9 true wa HRA.out).mono ?_
  rw [show errB true = 4 from rfl]
  rintro e wb ⟨rfl, rfl⟩
  go_wp2_with fail
  go_ret
  exact ⟨rfl, HK.out⟩
end Go.Proofs.YtddmioaeehgkbaaDoor
