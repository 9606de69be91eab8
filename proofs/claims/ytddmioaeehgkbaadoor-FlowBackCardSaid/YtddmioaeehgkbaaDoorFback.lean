/-
  FlowBack: the walk.
  CONDITIONS: the bounds that a row's reach gives.
-/
import Derived.Test.YtddmioaeehgkbaaDoorFback2
import Derived.Deep.DeepCutAuto
import Derived.Deep.CutBlock
namespace Go.Proofs.YtddmioaeehgkbaaDoor
open Go.RowKit

def fdB (d : FD) : List Bool := deedB d.what d.wide d.ones d.nums
theorem flat_drop {ds : List FD} {k : Nat} {d : FD} (h : ds[k]? = some d) : (ds.flatMap fdB).drop ((ds.take k).flatMap fdB).length = fdB d ++ (ds.drop (k + 1)).flatMap fdB := by
  obtain ⟨hk, he⟩ := List.getElem?_eq_some_iff.1 h
  conv => lhs; arg 2; rw [← List.take_append_drop k ds]
  rw [List.flatMap_append, List.drop_left, List.drop_eq_getElem_cons hk, he, List.flatMap_cons]
theorem flat_next {ds : List FD} {k : Nat} {d : FD} (h : ds[k]? = some d) : (ds.take (k + 1)).flatMap fdB = (ds.take k).flatMap fdB ++ fdB d := by
  obtain ⟨hk, he⟩ := List.getElem?_eq_some_iff.1 h
  rw [List.take_add_one, h, Option.toList_some, List.flatMap_append, List.flatMap_singleton]
theorem take_ok {ds : List FD} {k : Nat} {d : FD} {P : FD → Prop} (h : ds[k]? = some d) (h1 : ∀ x ∈ ds.take k, P x) (h2 : P d) : ∀ x ∈ ds.take (k + 1), P x := fun x hx => by
  rw [List.take_add_one, h, Option.toList_some, List.mem_append, List.mem_singleton] at hx
  rcases hx with hx | rfl
  · exact h1 x hx
  · exact h2
theorem bl_half {v : Nat} (h : v < 2 ^ 64) (h0 : v ≠ 0) : bl (v / 2) + 1 = bl v := by
  obtain ⟨h1, h2, h3⟩ := bl_spec h h0
  obtain ⟨b, hb⟩ : ∃ b, bl v = b + 1 := ⟨bl v - 1, by omega⟩
  have h64 : bl v ≤ 64 := (bl_le_iff h (Nat.le_refl _)).2 h
  rw [hb] at h2 h3 h64 ⊢
  rw [Nat.add_sub_cancel] at h2
  have hv : v / 2 < 2 ^ 64 := by omega
  have hle : bl (v / 2) ≤ b := (bl_le_iff hv (by omega)).2 (by rw [Nat.pow_succ] at h3; omega)
  have hge : b ≤ bl (v / 2) := by
    rcases Nat.eq_zero_or_pos b with rfl | hp
    · omega
    · obtain ⟨c, rfl⟩ : ∃ c, b = c + 1 := ⟨b - 1, by omega⟩
      have hn : ¬ bl (v / 2) ≤ c := fun hc => by
        have := (bl_le_iff hv (by omega)).1 hc
        rw [Nat.pow_succ] at h2
        omega
      omega
  omega
set_option maxRecDepth 100000 in
set_option maxHeartbeats 4000000 in
theorem flowback_any (A0 : Option Addr) (L0 c0 : Nat) (ds : List FD) (w : World) (h0 : FDeedRd w w.heap.size A0 ds) (hn0 : ds.length = L0) (hb0 : L0 ≤ 140737488351232) (hl : ∀ d ∈ ds, FDok d) (ht : Tab64 w) :
    Calls Tryd.prog 6 #[.slice A0 L0 c0] w fun e w' => e = .returned (.bool true) ∧ Kp [] w w' := by
  have H0 := Lib.hid h0; clear h0
  have HN0 := Lib.hid hn0; clear hn0
  have HT := Lib.hid ht; clear ht
  have HSIZE := Lib.hid (fun w1 (hk : Kp [] w w1) => fsize_any A0 L0 c0 _ ds w1 (H0.out.kp0 hk) HN0.out hb0 hl)
  have HL := Lib.hid hl
  clear hl
  go_enter Tryd.func6, Tryd.ntmps6
  go_wp2_with fail
  refine (fawake_any w HT.out).mono ?_
  rintro e w1 ⟨rfl, hk⟩
  have HK := Lib.hid hk
  clear hk
  go_wp2_with fail
  refine (HSIZE.out w1 HK.out).mono ?_
  rintro e w2 ⟨⟨Z, rfl, hZb, hZ⟩, hk⟩
  replace HK := Lib.hid (HK.out.trans hk)
  clear hk
  by_cases hbig : 600 < Z
  · clear hZ
    go_wp2_with fail
    go_ret
    exact ⟨rfl, HK.out⟩
  obtain ⟨hL0, hll⟩ := hZ (by omega)
  have HLL := Lib.hid hll
  clear hZ hll HSIZE
  go_wp2_with fail
  refine (wnew_any w2).mono ?_
  rintro e w3 ⟨S0, p, rfl, hw, hS, hk⟩
  have HS := Lib.hid (show ∀ x ∈ S0, w.heap.size ≤ x from fun x hx => Nat.le_trans HK.out.size (hS x hx))
  replace HK := Lib.hid (HK.out.kp0 hk)
  clear hk
  have HW := Lib.hid hw; clear hw
  clear hS
  replace H0 := Lib.hid (H0.out.kp0 HK.out)
  go_wp2_with fail
  go_loopw [4] (fun x wr => ∃ (k : Nat) (S : List Nat), x = .int .i64 (k : Int) ∧ k ≤ L0 ∧ Hid (WrM wr S p ((ds.take k).flatMap fdB, 0)) ∧ Hid (∀ d ∈ ds.take k, deedOk d.what d.wide d.nums) ∧ Hid (∀ x ∈ S, w.heap.size ≤ x) ∧ Hid (FDeedRd wr w.heap.size A0 ds) ∧ Hid (Kp [] w wr)) (fun x _ => L0 - (intOf x).toNat)
  case atStart => exact ⟨0, S0, rfl, by omega, HW, Lib.hid (by simp), HS, H0, HK⟩
  case round =>
    clear HW HS H0 HK
    obtain ⟨k, S, rfl, hk, HW, HOK, HS, H0, HK⟩ := hrel
    obtain ⟨L, hL⟩ : ∃ L, L = (ds.take k).flatMap fdB := ⟨_, rfl⟩
    rw [← hL] at HW
    obtain ⟨n, hn⟩ : ∃ n, L.length = n := ⟨_, rfl⟩
    have HLK := Lib.hid hL
    have HNS := Lib.hid hn
    clear hL hn
    by_cases hlt : k < L0
    · obtain ⟨what, wide, ones, nums, ad, A2, c2, A3, c3, hd, rfl, hadb, hcw, hcd, hco, hcn, hc2, hr2, hc3, hr3⟩ := H0.out.ix (i := k) (by rw [HN0.out]; exact hlt)
      have hdm := List.mem_of_getElem? hd
      have h600 := HLL.out _ hdm
      have hok := HL.out _ hdm
      obtain ⟨m1, hm1⟩ : ∃ m1, ones.length = m1 := ⟨_, rfl⟩
      obtain ⟨m2, hm2⟩ : ∃ m2, nums.length = m2 := ⟨_, rfl⟩
      have hb1 : m1 ≤ 600 := by rw [← hm1]; exact h600.1
      have hb2 : m2 ≤ 600 := by rw [← hm2]; exact h600.2
      have HNU := Lib.hid (show ∀ x ∈ nums, x ≤ 9223372036854775807 from fun x hx => (hok.2.2.1 x hx).2)
      rw [hm1] at hco
      rw [hm2] at hcn
      have HM1 := Lib.hid hm1
      have HM2 := Lib.hid hm2
      have HR2 := Lib.hid hr2
      have HR3 := Lib.hid hr3
      have HD := Lib.hid hd
      clear hd hdm h600 hok hm1 hm2 hc2 hr2 hc3 hr3
      have hi0 : (0 : Int) ≤ (k : Int) := by omega
      have hi1 : (k : Int) < (L0 : Int) := by omega
      go_wp2_with fail
      refine (wlen_any S p (L, 0) n wr HW.out HNS.out).mono ?_
      rintro e w5 ⟨rfl, rfl⟩
      go_wp2_with fail
      obtain ⟨R, hR⟩ : ∃ R, R = fputR (L, 0) what wide ones nums := ⟨_, rfl⟩
      have HRE := Lib.hid hR
      have HOKR := Lib.hid (show R.2 = 0 → R.1 = L ++ deedB what wide ones nums ∧ deedOk what wide nums from by rw [hR]; exact fputR_ok)
      have HNOR := Lib.hid (show R.2 ≠ 0 → R.1 = L from by rw [hR]; exact fputR_no)
      clear hR
      refine (fput_any S p n m1 m2 c2 c3 _ what wide A2 A3 ones nums (L, 0) wr HW.out HNS.out HR2.out HM1.out HR3.out HM2.out (by omega) (by omega) HNU.out).mono ?_
      rw [← HRE.out]
      rintro e w6 ⟨rfl, S6, hw6, hk6, hg6⟩
      have HS6 := Lib.hid (hg6.ge HS.out HK.out.size)
      replace H0 := Lib.hid (H0.out.kp hk6 HS.out)
      replace HK := Lib.hid (HK.out.trans' hk6 (fun x hx => .inr (HS.out x hx)))
      clear hcw hcd hco hcn HR2 HR3 HRE HW
      obtain ⟨L6, E⟩ := R
      have HW6 := Lib.hid hw6; clear hw6
      clear hk6 hg6 HS
      by_cases hE : E = 0
      · obtain rfl : 0 = E := hE.symm
        obtain ⟨hL6, hdk⟩ := HOKR.out rfl
        obtain ⟨n6, hn6⟩ : ∃ n6, L6.length = n6 := ⟨_, rfl⟩
        have hB6 : n6 ≤ 16777216 := by obtain ⟨A, c, _, _, h3, _⟩ := HW6.out; rw [← hn6]; exact h3
        have HNX := Lib.hid (show L6 = (ds.take (k + 1)).flatMap fdB by rw [flat_next HD.out, ← HLK.out]; exact hL6)
        have HOX := Lib.hid (show ∀ d ∈ ds.take (k + 1), deedOk d.what d.wide d.nums from take_ok HD.out HOK.out hdk)
        have HDO := Lib.hid hdk
        have HN6 := Lib.hid hn6
        have HSM := Lib.hid (show n6 = n + (deedB what wide ones nums).length by rw [← hn6, ← HNS.out, ← List.length_append]; exact congrArg List.length hL6)
        clear hL6 hdk HNOR HOKR hn6 hE
        obtain ⟨what2, wide2, ones2, nums2, ad2, A2', c2', A3', c3', hd2, he2, _, hcw, hcd, hco, hcn, _, _, _, hr3⟩ := H0.out.ix (i := k) (by rw [HN0.out]; exact hlt)
        rw [HD.out] at hd2
        injection hd2 with hd2
        injection hd2 with e1 e2 e3 e4
        subst e1 e2 e3 e4
        injection he2 with he2
        subst he2
        rw [HM1.out] at hco
        rw [HM2.out] at hcn
        have HR3 := Lib.hid hr3
        clear hr3
        obtain ⟨r, hr⟩ : ∃ r : Int, r = pickI what 3 := ⟨_, rfl⟩
        have hrb := pickI_bound (x := what) (n := 3) (by omega)
        rw [← hr] at hrb
        have HPK := Lib.hid (show ∀ w, Calls Tryd.prog 11 #[.int .i64 what, .int .i64 3] w fun e w' => e = .returned (.int .i64 r) ∧ w = w' from fun w => by rw [hr]; exact pick_any what 3 w (by omega))
        rcases (show r = 0 ∨ r = 1 ∨ r = 2 by omega) with rfl | rfl | rfl
        · have hq : (n : Int) + (m1 : Int) = (n6 : Int) := by
            have := HSM.out
            unfold deedB at this
            rw [if_pos hr.symm, HM1.out] at this
            omega
          clear hr hrb
          go_wp2_with fail
          go_loopw [9, 10] (fun s x wr => s = .int .i64 0 ∧ x = .int .i64 0 ∧ w6 = wr) (fun _ _ _ => 0)
          case atStart => exact ⟨rfl, rfl, rfl⟩
          case round =>
            obtain ⟨rfl, rfl, rfl⟩ := hrel
            by_cases hm0 : m2 = 0
            · subst hm0
              go_wp2_with fail
              refine (HPK.out _).mono ?_
              rintro e w8 ⟨rfl, rfl⟩
              go_wp2_with fail
              refine (HPK.out _).mono ?_
              rintro e w8 ⟨rfl, rfl⟩
              go_wp2_with fail
              refine (wlen_any S6 p (L6, 0) n6 w6 HW6.out HN6.out).mono ?_
              rintro e w8 ⟨rfl, rfl⟩
              go_wp2_with fail
              exact ⟨⟨k + 1, S6, by go_num, by omega, Lib.hid (HNX.out ▸ HW6.out), HOX, HS6, H0, HK⟩, by simp [intOf]; omega⟩
            · have hm1 : (0 : Int) < (m2 : Int) := by omega
              go_wp2_with fail
              refine (HPK.out _).mono ?_
              rintro e w8 ⟨rfl, rfl⟩
              go_wp2_with fail
              refine (HPK.out _).mono ?_
              rintro e w8 ⟨rfl, rfl⟩
              go_wp2_with fail
              refine (HPK.out _).mono ?_
              rintro e w8 ⟨rfl, rfl⟩
              go_wp2_with fail
              refine (wlen_any S6 p (L6, 0) n6 w6 HW6.out HN6.out).mono ?_
              rintro e w8 ⟨rfl, rfl⟩
              go_wp2_with fail
              exact ⟨⟨k + 1, S6, by go_num, by omega, Lib.hid (HNX.out ▸ HW6.out), HOX, HS6, H0, HK⟩, by simp [intOf]; omega⟩
        · obtain ⟨M, hM, hM60⟩ : ∃ M : Nat, wide = (M : Int) ∧ M ≤ 60 := by
            have := HDO.out
            unfold deedOk at this
            rw [if_neg (by omega), if_pos hr.symm] at this
            exact ⟨wide.toNat, by omega, by omega⟩
          subst hM
          obtain ⟨z, hz⟩ : ∃ z, M * m2 = z := ⟨_, rfl⟩
          have hzb : z ≤ 36000 := by rw [← hz]; exact Nat.mul_le_mul hM60 hb2
          have hq : (n : Int) + (z : Int) = (n6 : Int) := by
            have := HSM.out
            unfold deedB at this
            rw [if_neg (by omega), if_pos hr.symm, numL_len, HM2.out, Int.toNat_natCast, hz] at this
            omega
          have hqz : (M : Int) * (m2 : Int) = (z : Int) := by rw [← hz]; exact (Int.natCast_mul M m2).symm
          clear hr hrb hz
          go_wp2_with fail
          go_loopw [9, 10] (fun s x wr => s = .int .i64 0 ∧ x = .int .i64 0 ∧ w6 = wr) (fun _ _ _ => 0)
          case atStart => exact ⟨rfl, rfl, rfl⟩
          case round =>
            obtain ⟨rfl, rfl, rfl⟩ := hrel
            by_cases hm0 : m2 = 0
            · subst hm0
              go_wp2_with fail
              refine (HPK.out _).mono ?_
              rintro e w8 ⟨rfl, rfl⟩
              go_wp2_with fail
              go_quiet (fail)
              go_wp2_with fail
              refine (HPK.out _).mono ?_
              rintro e w8 ⟨rfl, rfl⟩
              go_wp2_with fail
              refine (wlen_any S6 p (L6, 0) n6 _ (HW6.out.kp0 ((Kp.refl [] w6).drewN _)) HN6.out).mono ?_
              rintro e w8 ⟨rfl, rfl⟩
              go_wp2_with fail
              exact ⟨⟨k + 1, S6, by go_num, by omega, Lib.hid (HNX.out ▸ HW6.out.kp0 ((Kp.refl [] w6).drewN _)), HOX, HS6, Lib.hid (H0.out.kp0 ((Kp.refl [] w6).drewN _)), Lib.hid (HK.out.drewN _)⟩, by simp [intOf]; omega⟩
            · have hm1 : (0 : Int) < (m2 : Int) := by omega
              go_wp2_with fail
              refine (HPK.out _).mono ?_
              rintro e w8 ⟨rfl, rfl⟩
              go_wp2_with fail
              refine (HPK.out _).mono ?_
              rintro e w8 ⟨rfl, rfl⟩
              go_wp2_with fail
              go_quiet (fail)
              go_wp2_with fail
              refine (HPK.out _).mono ?_
              rintro e w8 ⟨rfl, rfl⟩
              go_wp2_with fail
              refine (wlen_any S6 p (L6, 0) n6 _ (HW6.out.kp0 ((Kp.refl [] w6).drewN _)) HN6.out).mono ?_
              rintro e w8 ⟨rfl, rfl⟩
              go_wp2_with fail
              exact ⟨⟨k + 1, S6, by go_num, by omega, Lib.hid (HNX.out ▸ HW6.out.kp0 ((Kp.refl [] w6).drewN _)), HOX, HS6, Lib.hid (H0.out.kp0 ((Kp.refl [] w6).drewN _)), Lib.hid (HK.out.drewN _)⟩, by simp [intOf]; omega⟩
        · have hOG := HDO.out
          unfold deedOk at hOG
          rw [if_neg (by omega), if_neg (by omega)] at hOG
          have HOG := Lib.hid (show ∀ x ∈ nums, okG x = true from fun x hx => List.all_eq_true.1 hOG x hx)
          have HSG := Lib.hid (show n6 = n + (gamsL nums).length by
            have := HSM.out
            unfold deedB at this
            rw [if_neg (by omega), if_neg (by omega)] at this
            exact this)
          clear hr hrb hOG
          go_wp2_with fail
          go_loopw [9, 10] (fun s x wr => ∃ j g : Nat, s = .int .i64 (g : Int) ∧ x = .int .i64 (j : Int) ∧ j ≤ m2 ∧ g ≤ 119 * j ∧ Hid (g = (gamsL (nums.take j)).length) ∧ w6 = wr) (fun _ x _ => m2 - (intOf x).toNat)
          case atStart => exact ⟨0, 0, rfl, rfl, by omega, by omega, Lib.hid rfl, rfl⟩
          case round =>
            obtain ⟨j, g, rfl, rfl, hj, hg, HG, rfl⟩ := hrel
            by_cases hjm : j < m2
            · obtain ⟨x, ad3, hx, he3, _, hcx⟩ := HR3.out.ix (i := j) (by rw [HM2.out]; exact hjm)
              subst he3
              obtain ⟨z, rfl, hz0, hz60⟩ := okG_nat (HOG.out x (List.mem_of_getElem? hx))
              have hz63 : z ≤ 9223372036854775807 := by have := HNU.out _ (List.mem_of_getElem? hx); omega
              obtain ⟨b, hb⟩ : ∃ b, bl z = b := ⟨_, rfl⟩
              have hb1 : 1 ≤ b := by rw [← hb]; exact (bl_spec (by omega) hz0).1
              rw [hb] at hz60
              have HGN := Lib.hid (show g + (2 * b - 1) = (gamsL (nums.take (j + 1))).length by
                rw [List.take_add_one, hx, Option.toList_some, gamsL_snoc, List.length_append, ← HG.out, Int.toNat_natCast, gamL_len (by omega) hz0, hb])
              have HB := Lib.hid hb
              have hj0 : (0 : Int) ≤ (j : Int) := by omega
              have hj1 : (j : Int) < (m2 : Int) := by omega
              clear hx hb
              go_wp2_with fail
              refine (HPK.out _).mono ?_
              rintro e w8 ⟨rfl, rfl⟩
              go_wp2_with fail
              go_loopw [11, 12] (fun s x wr => ∃ u v : Nat, s = .int .i64 (u : Int) ∧ x = .int .i64 (v : Int) ∧ u ≤ b ∧ v ≤ 9223372036854775807 ∧ Hid (u + bl v = b) ∧ w6 = wr) (fun _ x _ => (intOf x).toNat)
              case atStart => exact ⟨0, z, rfl, rfl, by omega, by omega, Lib.hid (by rw [HB.out]; omega), rfl⟩
              case round =>
                obtain ⟨u, v, rfl, rfl, hu, hv, HU, rfl⟩ := hrel
                by_cases hv0 : v = 0
                · subst hv0
                  obtain rfl : u = b := by have := HU.out; rw [bl_zero] at this; omega
                  obtain ⟨g2, hg2⟩ : ∃ g2, g + (2 * u - 1) = g2 := ⟨_, rfl⟩
                  have hgb : g2 ≤ 119 * (j + 1) := by omega
                  have hgq : (g : Int) + 2 * (u : Int) - 1 = (g2 : Int) := by omega
                  rw [hg2] at HGN
                  clear hg2
                  go_wp2_with fail
                  exact ⟨⟨j + 1, g2, rfl, by go_num, by omega, hgb, HGN, trivial⟩, by simp [intOf]; omega⟩
                · have HU2 := Lib.hid (show u + 1 + bl (v / 2) = b by have h1 := HU.out; have h2 := bl_half (v := v) (by omega) hv0; omega)
                  have hub : u + 1 ≤ b := by have := HU2.out; omega
                  have hvp : (0 : Int) < (v : Int) := by omega
                  have htd : Int.tdiv (v : Int) 2 = ((v / 2 : Nat) : Int) := rfl
                  go_wp2_with fail
                  exact ⟨⟨u + 1, v / 2, by go_num, by go_num, hub, by omega, HU2, trivial⟩, by simp [intOf]; omega⟩
            · obtain rfl : m2 = j := by omega
              have hq : (n : Int) + (g : Int) = (n6 : Int) := by
                have := HSG.out
                have h2 := HG.out
                rw [List.take_of_length_le (Nat.le_of_eq HM2.out)] at h2
                omega
              go_wp2_with fail
              refine (HPK.out _).mono ?_
              rintro e w8 ⟨rfl, rfl⟩
              go_wp2_with fail
              refine (HPK.out _).mono ?_
              rintro e w8 ⟨rfl, rfl⟩
              go_wp2_with fail
              refine (wlen_any S6 p (L6, 0) n6 w6 HW6.out HN6.out).mono ?_
              rintro e w8 ⟨rfl, rfl⟩
              go_wp2_with fail
              exact ⟨⟨k + 1, S6, by go_num, by omega, Lib.hid (HNX.out ▸ HW6.out), HOX, HS6, H0, HK⟩, by simp [intOf]; omega⟩
      · obtain rfl : L6 = L := HNOR.out hE
        have hEb : (E == 0) = false := by simpa using hE
        have HE := Lib.hid hE
        have HVE := Lib.hid (show Calls Tryd.prog 32 #[.pointer (some ⟨p, 0, none⟩)] w6 fun e w' => e = .returned (.tuple #[.pointer none, .int .i64 E]) ∧ Kp [] w6 w' from wvec_err S6 p (L6, E) w6 HW6.out hE)
        have HPE := Lib.hid (show wPut (L6, E) [true] = (L6, E) by unfold wPut; rw [if_pos hE])
        clear hE
        go_wp2_with fail
        refine HVE.out.mono ?_
        rintro e w7 ⟨rfl, hk7⟩
        have HW7 := Lib.hid (HW6.out.kp0 hk7)
        replace HK := Lib.hid (HK.out.kp0 hk7)
        clear hk7 HVE
        go_wp2_with fail
        refine (wput_any S6 p n 1 1 _ (some ⟨w7.heap.size, 0, none⟩) [true] (L6, E) _ (HW7.out.kp0 ((Kp.refl [] w7).alloc _)) HNS.out (rd_new' w7 #[.bool true] 4 rfl) rfl (by omega)).mono ?_
        rw [HPE.out]
        rintro e w8 ⟨rfl, S8, hw8, hk8, _⟩
        replace HK := Lib.hid (HK.out.trans' (((Kp.refl S6 w7).alloc _).trans hk8) (fun x hx => .inr (HS6.out x hx)))
        have HW8 := Lib.hid hw8; clear hw8
        clear hk8
        go_wp2_with fail
        refine (wlen_any S8 p (L6, E) n w8 HW8.out HNS.out).mono ?_
        rintro e w9 ⟨rfl, rfl⟩
        go_wp2_with fail
        go_ret
        exact ⟨rfl, HK.out⟩
    · obtain rfl : L0 = k := by omega
      obtain ⟨wk, rfl⟩ : ∃ wk, wk = wr := ⟨_, rfl⟩
      have HBL := Lib.hid (show n ≤ 16777216 by obtain ⟨A, c, _, _, h3, _⟩ := HW.out; rw [← HNS.out]; exact h3)
      have HTK := Lib.hid (show Tab64 wk from HT.out.kp0 HK.out)
      go_wp2_with fail
      refine (wvec_ok S p L wk HW.out).mono ?_
      rintro e w6 ⟨V, q, rfl, hv, hV, hk6⟩
      have HVB := Lib.hid hV
      have HK6 := Lib.hid hk6
      have HV := Lib.hid hv; clear hv
      clear hk6 hV
      go_wp2_with fail
      refine (rnew_yes V q n 0 L false w6 HV.out HNS.out (by omega)).mono ?_
      rintro e w7 ⟨pr, rfl, hr7, hv7, hpr, hprV, hk7⟩
      have HRB := Lib.hid (show RB wk w7 [] pr q n L 0 from ⟨V, false, hv7, hr7, by omega, hprV, HVB.out, Nat.le_trans HK6.out.size hpr, by simp, by simp, by simp, HK6.out.trans' hk7 (fun x hx => .inr (HVB.out x hx))⟩)
      clear hr7 hv7 hpr hprV hk7 HK6 HV HVB
      go_wp2_with fail
      go_loopw [17] (fun x wr => ∃ k : Nat, x = .int .i64 (k : Int) ∧ k ≤ L0 ∧ Hid (RB wk wr [] pr q n L ((ds.take k).flatMap fdB).length)) (fun x _ => L0 - (intOf x).toNat)
      case atStart => exact ⟨0, rfl, by omega, HRB⟩
      case round =>
        clear HRB
        obtain ⟨k, rfl, hk, HRB⟩ := hrel
        obtain ⟨a, ha⟩ : ∃ a, a = ((ds.take k).flatMap fdB).length := ⟨_, rfl⟩
        rw [← ha] at HRB
        have HA := Lib.hid ha
        clear ha
        have HKR := Lib.hid (show Kp [] wk wr by obtain ⟨_, _, _, _, _, _, _, _, _, _, _, h⟩ := HRB.out; exact h)
        by_cases hlt : k < L0
        · obtain ⟨what, wide, ones, nums, ad, A2, c2, A3, c3, hd, rfl, hadb, hcw, hcd, hco, hcn, hc2, hr2, hc3, hr3⟩ := (H0.out.kp0 HKR.out).ix (i := k) (by rw [HN0.out]; exact hlt)
          have hdm := List.mem_of_getElem? hd
          have h600 := HLL.out _ hdm
          have hok := HL.out _ hdm
          obtain ⟨m1, hm1⟩ : ∃ m1, ones.length = m1 := ⟨_, rfl⟩
          obtain ⟨m2, hm2⟩ : ∃ m2, nums.length = m2 := ⟨_, rfl⟩
          have hb1 : m1 ≤ 600 := by rw [← hm1]; exact h600.1
          have hb2 : m2 ≤ 600 := by rw [← hm2]; exact h600.2
          have HNU := Lib.hid (show ∀ x ∈ nums, x ≤ 9223372036854775807 from fun x hx => (hok.2.2.1 x hx).2)
          have HDO := Lib.hid (show deedOk what wide nums from HOK.out _ (by rw [List.take_of_length_le (Nat.le_of_eq HN0.out)]; exact hdm))
          have HDR := Lib.hid (show L.drop a = deedB what wide ones nums ++ (ds.drop (k + 1)).flatMap fdB by
            rw [HLK.out, List.take_of_length_le (Nat.le_of_eq HN0.out), HA.out]; exact flat_drop hd)
          have HNX := Lib.hid (show ((ds.take (k + 1)).flatMap fdB).length = a + (deedB what wide ones nums).length by
            rw [flat_next hd, List.length_append, HA.out]; rfl)
          rw [hm1] at hco
          rw [hm2] at hcn
          have HM1 := Lib.hid hm1
          have HM2 := Lib.hid hm2
          have HR2 := Lib.hid (hr2.bound HK.out.size)
          have HR3 := Lib.hid (hr3.bound HK.out.size)
          clear hd hdm h600 hok hm1 hm2 hc2 hr2 hc3 hr3
          have hi0 : (0 : Int) ≤ (k : Int) := by omega
          have hi1 : (k : Int) < (L0 : Int) := by omega
          go_wp2_with fail
          refine (back_any wk pr q a n m1 m2 c2 c3 what wide A2 A3 ones nums L _ wr HTK.out HRB.out HNS.out HR2.out HM1.out HR3.out HM2.out (by omega) (by omega) HNU.out HDO.out HDR.out).mono ?_
          rintro e w8 ⟨rfl, hrb8⟩
          rw [← HNX.out] at hrb8
          have HRB8 := Lib.hid hrb8
          clear hrb8
          go_wp2_with fail
          exact ⟨⟨k + 1, by go_num, by omega, HRB8⟩, by simp [intOf]; omega⟩
        · obtain rfl : L0 = k := by omega
          obtain rfl : n = a := by rw [HA.out, ← HLK.out, HNS.out]
          obtain ⟨S7, c7, q1, q2, _, q4, q5, q6, _⟩ := HRB.out
          have HW7 := Lib.hid (HW.out.kp0 HKR.out)
          have HV7 := Lib.hid q1
          have HR7 := Lib.hid q2
          have HP7 := Lib.hid q4
          have HP6 := Lib.hid q6
          clear q1 q2 q4 q5 q6 HRB
          have HRN := Lib.hid (show rNum L n false 1 = (0, n, true) from rNum_bad HNS.out (by unfold hasB; rw [Bool.false_or, decide_eq_true_iff]; omega))
          go_wp2_with fail
          refine (rerr_any pr q n false wr HR7.out).mono ?_
          rintro e w8 ⟨rfl, rfl⟩
          go_wp2_with fail
          refine (rat_any pr q n false wr HR7.out).mono ?_
          rintro e w8 ⟨rfl, rfl⟩
          go_wp2_with fail
          refine (wlen_any S p (L, 0) n wr HW7.out HNS.out).mono ?_
          rintro e w8 ⟨rfl, rfl⟩
          go_wp2_with fail
          refine (rnext_any S7 pr q n n false L c7 wr HR7.out HV7.out HNS.out (Nat.le_refl _) HP7.out).mono ?_
          rw [HRN.out]
          rintro e w8 ⟨rfl, hr8, hk8⟩
          have HK8 := Lib.hid (HKR.out.trans' hk8 (fun x hx => .inr (by simp only [List.mem_singleton] at hx; subst hx; exact HP6.out)))
          have HR8 := Lib.hid hr8
          have HW8 := Lib.hid (HW.out.kp0 HK8.out)
          clear hr8 hk8 HW7 HR7 HKR
          go_wp2_with fail
          refine (rerr_any pr q n true w8 HR8.out).mono ?_
          rintro e w9 ⟨rfl, rfl⟩
          go_wp2_with fail
          refine (rat_any pr q n true w8 HR8.out).mono ?_
          rintro e w9 ⟨rfl, rfl⟩
          go_wp2_with fail
          refine (wlen_any S p (L, 0) n w8 HW8.out HNS.out).mono ?_
          rintro e w9 ⟨rfl, rfl⟩
          go_wp2_with fail
          go_ret
          exact ⟨rfl, HK.out.trans HK8.out⟩
end Go.Proofs.YtddmioaeehgkbaaDoor
