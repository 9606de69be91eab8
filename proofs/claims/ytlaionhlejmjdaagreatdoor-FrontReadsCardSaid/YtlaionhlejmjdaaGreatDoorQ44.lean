/-
  LAYER 12 (front): FrontOf, the walk.
  LAYER 12 (front): FrontReads, the walk.
  CONDITIONS: as each lemma says.
-/
import Derived.Test.YtlaionhlejmjdaaGreatDoorQ40
import Derived.Test.YtlaionhlejmjdaaGreatDoorQ42
import Derived.Test.YtlaionhlejmjdaaGreatDoorQ35
import Derived.Test.YtlaionhlejmjdaaGreatDoorQ36
import Derived.Test.YtlaionhlejmjdaaGreatDoorQ37
import Derived.Test.YtlaionhlejmjdaaGreatDoorQ43
import Derived.Test.YtlaionhlejmjdaaGreatDoorQ19
namespace Go.Proofs.YtlaionhlejmjdaaGreatDoor
open Go.RowKit

end Go.Proofs.YtlaionhlejmjdaaGreatDoor
namespace Go.Proofs.YtlaionhlejmjdaaGreatDoor
open Go.RowKit

set_option maxRecDepth 100000 in
set_option maxHeartbeats 4000000 in
theorem fread_neg (lo hi p q N : Nat) (n : Int) (S : List Nat) (cc : Bool) (T : CT) (sg : List Nat) (ls : List Int) (L : List Bool) (w : World) (h : CodeM w lo hi p T sg ls) (hv : VecM w S q L cc) (hN : L.length = N) (hn : n < 0) (hS : ∀ g ∈ S, g < lo ∨ hi ≤ g) :
    Calls Tryz.prog 18 #[.pointer (some ⟨p, 0, none⟩), .int .i64 n, .pointer (some ⟨q, 0, none⟩)] w fun e w' => e = .returned (.tuple #[.pointer none, .int .i64 2]) ∧ Kp S w w' := by
  have H := Lib.hid h; clear h
  have HV := Lib.hid hv; clear hv
  have HN := Lib.hid hN; clear hN
  have HS := Lib.hid hS; clear hS
  have hnd : decide (n < 0) = true := by simpa using hn
  go_enter Tryz.func18, Tryz.ntmps18
  go_wp2_with fail
  refine (rnew_yes S q N 0 L cc w HV.out HN.out (by omega)).mono ?_
  rintro e w1 ⟨rp, rfl, hr1, hv1, hrp, hrpS, hk1⟩
  have HK := Lib.hid hk1
  have HC1 := Lib.hid (H.out.kp hk1 HS.out)
  clear hr1 hv1 hrp hrpS hk1
  go_wp2_with fail
  refine (csigns_any lo hi p T sg ls w1 HC1.out).mono ?_
  rintro e w2 ⟨As, ns, cs, hns, rfl, hown2, hk2⟩
  have hn1 : 1 ≤ ns := by rw [hns]; exact H.out.1.2.2.2.2.1
  have hnz : ((ns : Int) == 0) = false := by simp; omega
  replace HK := Lib.hid (HK.out.trans (hk2.mono (by simp)))
  clear hns hown2 hk2
  go_wp2_with fail
  go_ret2
  exact ⟨rfl, HK.out⟩
set_option maxRecDepth 100000 in
set_option maxHeartbeats 4000000 in
theorem rfread_neg (p N cA : Nat) (n : Int) (A0 : Option Addr) (w : World) (hn : n < 0) :
    Calls Tryz.prog 19 #[.pointer (some ⟨p, 0, none⟩), .int .i64 n, .slice A0 N cA] w fun e w' => e = .returned (.tuple #[.pointer none, .int .i64 2]) ∧ w = w' := by
  have hnd : decide (n < 0) = true := by simpa using hn
  go_enter Tryz.func19, Tryz.ntmps19
  go_wp2_with fail
  go_ret2
  exact ⟨rfl, rfl⟩
set_option maxRecDepth 100000 in
set_option maxHeartbeats 4000000 in
theorem frontreads_any (A0 B0 : Option Addr) (n c0 N cN : Nat) (ss : List ByteArray) (L : List Bool) (k i : Int) (s : ByteArray) (w : World) (h0 : Rd w w.heap.size A0 (ss.map .string)) (hm0 : Rd w w.heap.size B0 (L.map .bool)) (hn : ss.length = n) (hm : L.length = N) (hcN : N ≤ cN) (hb : n ≤ 140737488351232) (hb' : N ≤ 140737488351232) (hl : ∀ s ∈ ss, s.size ≤ 140737488351232) (hs : s.size ≤ 140737488351232) (ht : Tab64 w) :
    Calls Tryz.prog 4 #[.slice A0 n c0, .int .i64 k, .slice B0 N cN, .int .i64 i, .string s] w fun e w' => e = .returned (.bool true) ∧ Kp [] w w' := by
  have HX := Lib.hid h0
  have HY := Lib.hid hm0
  clear h0 hm0
  have HN := Lib.hid hn; clear hn
  have HM := Lib.hid hm; clear hm
  have HL := Lib.hid hl; clear hl
  have HT := Lib.hid ht; clear ht
  go_enter Tryz.func4, Tryz.ntmps4
  go_wp2_with fail
  refine (fsize12_any A0 n c0 _ ss w HX.out HN.out hb HL.out).mono ?_
  rintro e w1 ⟨⟨Z, rfl, hZ, hnZ, hZs⟩, rfl⟩
  have HZS := Lib.hid hZs
  clear hZs
  by_cases hZ6 : 900 < Z + N + s.size
  · have hzd : decide ((900 : Int) < (Z : Int) + (N : Int) + (s.size : Int)) = true := by simp; omega
    go_wp2_with fail
    refine (awake_f w HT.out).mono ?_
    rintro e w1 ⟨rfl, hk1⟩
    go_wp2_with fail
    go_ret
    exact ⟨rfl, hk1⟩
  have HSL := Lib.hid (show (symL ss).length ≤ 900 from Nat.le_trans (HZS.out (by omega)) (by omega))
  have hzd : decide ((900 : Int) < (Z : Int) + (N : Int) + (s.size : Int)) = false := by simp; omega
  have hn9 : n ≤ 900 := by omega
  have hN9 : N ≤ 900 := by omega
  have hs9 : s.size ≤ 900 := by omega
  clear hb hb'
  by_cases hn0 : n = 0
  · subst hn0
    go_wp2_with fail
    refine (awake_f w HT.out).mono ?_
    rintro e w1 ⟨rfl, hk1⟩
    go_wp2_with fail
    go_ret
    exact ⟨rfl, hk1⟩
  have hn0' : ((n : Int) == 0) = false := by simp; omega
  have hn1 : 1 ≤ n := by omega
  by_cases hk9 : 900 < k
  · have hkd : decide ((900 : Int) < k) = true := by simpa using hk9
    go_wp2_with fail
    refine (awake_f w HT.out).mono ?_
    rintro e w1 ⟨rfl, hk1⟩
    go_wp2_with fail
    go_ret
    exact ⟨rfl, hk1⟩
  have hkd : decide ((900 : Int) < k) = false := by simpa using hk9
  go_wp2_with fail
  clear hzd hZ6 hZ hnZ hn0' hkd
  refine (aof_any A0 n c0 _ ss w HX.out HN.out hn1 (by have := HSL.out; omega) (Nat.le_refl _)).mono ?_
  rintro e w3 ⟨p, rfl, hcode, hk3⟩
  obtain ⟨lo, hlo⟩ : ∃ lo, lo = w.heap.size := ⟨_, rfl⟩
  obtain ⟨hi, hhi⟩ : ∃ hi, hi = w3.heap.size := ⟨_, rfl⟩
  rw [← hlo, ← hhi] at hcode
  have HC := Lib.hid hcode
  have HHI := Lib.hid (show hi ≤ w3.heap.size by omega)
  have HK := Lib.hid hk3
  replace HT := Lib.hid (HT.out.kp0 hk3)
  replace HX := Lib.hid (HX.out.kp0 (hk3))
  replace HY := Lib.hid (HY.out.kp0 (hk3))
  clear hcode hlo hhi hk3
  go_wp2_with fail
  refine (rof_any A0 n c0 _ ss w3 HX.out HN.out hn1 (by have := HSL.out; omega) HK.out.size).mono ?_
  rintro e w4 ⟨p', rfl, hrc, hk4⟩
  obtain ⟨lo', hlo'⟩ : ∃ lo', lo' = w3.heap.size := ⟨_, rfl⟩
  obtain ⟨hi', hhi'⟩ : ∃ hi', hi' = w4.heap.size := ⟨_, rfl⟩
  rw [← hlo', ← hhi'] at hrc
  obtain ⟨T, hT⟩ : ∃ T, T = treeC (smO (symL ss)) (lensL (wtO (symL ss))) := ⟨_, rfl⟩
  obtain ⟨ls, hL⟩ : ∃ L, L = lensL (wtO (symL ss)) := ⟨_, rfl⟩
  obtain ⟨sg, hsg⟩ : ∃ sg, sg = (smO (symL ss)).map Int.toNat := ⟨_, rfl⟩
  rw [← hT, ← hsg, ← hL] at hrc HC
  have HRC := Lib.hid hrc
  have HHI' := Lib.hid (show hi' ≤ w4.heap.size by omega)
  replace HHI := Lib.hid (Nat.le_trans HHI.out hk4.size)
  replace HK := Lib.hid (HK.out.trans hk4)
  replace HT := Lib.hid (HT.out.kp0 hk4)
  replace HX := Lib.hid (HX.out.kp0 (hk4))
  replace HY := Lib.hid (HY.out.kp0 (hk4))
  replace HC := Lib.hid (HC.out.kp0 (hk4))
  clear hrc hlo' hhi' hk4 hT hsg hL
  go_wp2_with fail
  refine (bof_any B0 N cN _ L w4 HY.out HM.out (by omega)).mono ?_
  rintro e w5 ⟨S, q, rfl, hv5, hS5, hk5⟩
  have HV := Lib.hid hv5
  have HVN := Lib.hid hS5
  have H45 := Lib.hid hk5
  have HC5 := Lib.hid (HC.out.kp0 hk5)
  have HT5 := Lib.hid (HT.out.kp0 hk5)
  have HK5 := Lib.hid (HK.out.trans hk5)
  have HSA := Lib.hid (show ∀ g ∈ S, g < lo ∨ hi ≤ g from fun g hg => .inr (Nat.le_trans HHI.out (hS5 g hg)))
  clear hv5 hS5 hk5
  by_cases hkn : k < 0
  · go_wp2_with fail
    refine (fread_neg lo hi p q N k S false T sg ls L w5 HC5.out HV.out HM.out hkn HSA.out).mono ?_
    rintro e w6 ⟨rfl, hk6⟩
    have HK6 := Lib.hid (HK5.out.trans' hk6 (fun x hx => .inr (Nat.le_trans HK.out.size (HVN.out x hx))))
    have HT6 := Lib.hid (show Tab64 w6 from HT5.out.kp hk6 (fun hm => by have h1 := HVN.out _ hm; have h2 := HT.out.lt; omega))
    clear hk6
    go_wp2_with fail
    refine (rfread_neg p' N cN k B0 w6 hkn).mono ?_
    rintro e w7 ⟨rfl, rfl⟩
    go_wp2_with fail
    refine (awake_f w6 HT6.out).mono ?_
    rintro e w8 ⟨rfl, hk8⟩
    go_wp2_with fail
    go_ret
    exact ⟨rfl, HK6.out.trans hk8⟩
  · obtain ⟨m, rfl⟩ : ∃ m : Nat, k = (m : Int) := ⟨k.toNat, by omega⟩
    have hm9 : m ≤ 900 := by omega
    have HALL := Lib.hid (readB_small HC.out.1 (L := L) (by rw [HM.out]; omega) m)
    clear hkn hk9
    go_wp2_with fail
    refine (fread_any lo hi p q m N S false T sg ls L w5 HC5.out HV.out HM.out HALL.out (by omega) (Nat.le_trans HHI.out H45.out.size) HSA.out HT5.out (fun hm => by have h1 := HVN.out _ hm; have h2 := HT.out.lt; omega)).mono ?_
    rintro e w6 ⟨⟨V', c', hv', hg', hk6⟩, hcases⟩
    have HK6 := Lib.hid (HK5.out.trans' hk6 (fun x hx => .inr (Nat.le_trans HK.out.size (HVN.out x hx))))
    have H46 := Lib.hid (show Kp [] w4 w6 from H45.out.trans' hk6 (fun x hx => .inr (HVN.out x hx)))
    have HT6 := Lib.hid (show Tab64 w6 from HT.out.kp0 H46.out)
    have HHI6 := Lib.hid (show hi ≤ w6.heap.size from Nat.le_trans HHI.out H46.out.size)
    have HHJ6 := Lib.hid (show hi' ≤ w6.heap.size from Nat.le_trans HHI'.out H46.out.size)
    have HRR := Lib.hid (rfread_any lo' hi' p' m N cN B0 T sg ls L w6 (HRC.out.kp0 H46.out) ((HY.out.kp0 H46.out).bound (Nat.le_trans HK.out.size H46.out.size)) HM.out hcN (by omega) HALL.out (by omega) HHJ6.out)
    clear hv' hg'
    rcases hcases with ⟨hno, rfl⟩ | ⟨us, Sf, f, lo2, hi2, hyes, hue, hul, hn3, rfl, hfr, hl2, hh2⟩
    · have HNO := Lib.hid hno
      clear hno hk6
      go_wp2_with fail
      refine HRR.out.mono ?_
      rintro e w7 ⟨hk7, ⟨_, rfl⟩ | ⟨us, _, _, _, _, _, _, _, _, _, _, hyes, _⟩⟩
      · have HT7 := Lib.hid (show Tab64 w7 from HT6.out.kp0 hk7)
        have HK7 := Lib.hid (HK6.out.trans hk7)
        clear hk7
        go_wp2_with fail
        refine (awake_f w7 HT7.out).mono ?_
        rintro e w8 ⟨rfl, hk8⟩
        go_wp2_with fail
        go_ret
        exact ⟨rfl, HK7.out.trans hk8⟩
      · rw [HNO.out] at hyes
        cases hyes
    · have HYES := Lib.hid hyes
      have HFR := Lib.hid hfr
      have HUE := Lib.hid hue
      have HL2 := Lib.hid (show w5.heap.size ≤ lo2 ∧ hi2 ≤ w6.heap.size from ⟨hl2, hh2⟩)
      have hul9 : us.length ≤ 900 := by omega
      clear hyes hfr hue hl2 hh2 hk6
      go_wp2_with fail
      refine HRR.out.mono ?_
      rintro e w7 ⟨hk7, ⟨hno, _⟩ | ⟨us', r, At, Ab, As, ct, cb, cs, n', N', m', hyes', rfl, hrf⟩⟩
      · rw [HYES.out] at hno
        cases hno
      · rw [HYES.out] at hyes'
        injection hyes' with hyes'
        subst hyes'
        have HRI := Lib.hid (show riseT us = true from by
          have h1 := HYES.out
          unfold readT at h1
          cases h2 : readK T L m with
          | none => rw [h2] at h1; cases h1
          | some x =>
            rw [h2] at h1
            simp only [Option.bind_some] at h1
            split at h1
            · rename_i h3
              injection h1 with h1
              rw [← h1]
              exact h3.1
            · cases h1)
        have HFO := Lib.hid (show Fro w7 lo2 hi2 lo hi Sf f p T sg ls us from
          ⟨HFR.out.kp0 hk7, HC.out.kp0 (H46.out.trans hk7), fun g hg => .inr (by have h1 := HFR.out.low g hg; have h2 := HL2.out.1; have h3 := H45.out.size; have h4 := HHI.out; omega), HT6.out.kp0 hk7, fun hm => by have h1 := HFR.out.low _ hm; have h2 := HL2.out.1; have h3 := H45.out.size; have h4 := HT.out.lt; omega, ⟨Nat.le_trans HHI6.out hk7.size, Nat.le_trans HL2.out.2 hk7.size⟩, HUE.out⟩)
        have HRO := Lib.hid hrf
        have hn'9 : n' ≤ 1000000 := by rw [← hrf.nt]; omega
        have HSR := Lib.hid (show ∀ g ∈ Sf, g < w6.heap.size ∨ w7.heap.size ≤ g from fun g hg => .inl (HFR.out.lt g hg))
        have HLW := Lib.hid (show ∀ g ∈ Sf, w5.heap.size ≤ g from fun g hg => Nat.le_trans HL2.out.1 (HFR.out.low g hg))
        have HK7 := Lib.hid (HK6.out.trans hk7)
        clear hrf hk7 HRR HFR
        go_wp2_with fail
        refine (same12_any i s n' N' m' lo2 hi2 lo hi w6.heap.size w7.heap.size f r p ct cb cs At Ab As Sf T sg ls us w7 HFO.out HRO.out HRI.out hn'9 HSR.out (Nat.le_refl _)).mono ?_
        rintro e w11 ⟨rfl, hk11⟩
        have HK11 := Lib.hid (show Kp [] w w11 from HK7.out.trans' hk11 (fun x hx => .inr (Nat.le_trans HK5.out.size (HLW.out x hx))))
        have HT11 := Lib.hid (show Tab64 w11 from HFO.out.tab.kp hk11 HFO.out.tabS)
        clear hk11
        go_wp2_with fail
        refine (awake_f w11 HT11.out).mono ?_
        rintro e w12 ⟨rfl, hk12⟩
        go_wp2_with fail
        go_ret
        exact ⟨rfl, HK11.out.trans hk12⟩
end Go.Proofs.YtlaionhlejmjdaaGreatDoor
