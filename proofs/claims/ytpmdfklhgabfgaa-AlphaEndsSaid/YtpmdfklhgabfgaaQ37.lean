/-
  LAYER 6 (alpha): AlphaMakes, the walk.
  LAYER 6 (alpha): AlphaTexts, the walk.
  CONDITIONS: as each lemma says.
-/
import Derived.Test.YtpmdfklhgabfgaaQ36
import Derived.Test.YtpmdfklhgabfgaaQ32
import Derived.Test.YtpmdfklhgabfgaaQ28
import Derived.Test.YtpmdfklhgabfgaaQ14
import Derived.Test.YtpmdfklhgabfgaaQ33
import Derived.Test.YtpmdfklhgabfgaaQ34
namespace Go.Proofs.Ytpmdfklhgabfgaa
open Go.RowKit

open Classical in
set_option maxRecDepth 100000 in
set_option maxHeartbeats 4000000 in
theorem rmake_all (A A' : Option Addr) (n m c c' B B' : Nat) (sm lens : List Int) (w : World) (hx : Rd w B A (sm.map (.int .i64))) (hy : Rd w B' A' (lens.map (.int .i64))) (hn : sm.length = n) (hm : lens.length = m) (hb : n ≤ 1000000000) (hr : ∀ x ∈ lens, x ≤ 9223372036854775807) :
    Calls Try.prog 29 #[.slice A n c, .slice A' m c'] w (RMakeP w sm lens) := by
  by_cases hnm : n = m
  · subst hnm
    by_cases hf : okF lens
    · exact rmake_any A A' n c c' B B' sm lens w hx hy hn hm hb hr hf
    · refine (rmake_no2 A A' n c c' B' lens w hy hm hb hr hf).mono ?_
      rintro e w' ⟨rfl, hk⟩
      exact RMakeP.no (fun h => hf h.2.1) hk
  · refine (rmake_no1 A A' n m c c' w hnm).mono ?_
    rintro e w' ⟨rfl, hk⟩
    exact RMakeP.no (fun h => hnm (by rw [← hn, ← hm]; exact h.1)) hk
open Classical in
set_option maxRecDepth 100000 in
set_option maxHeartbeats 4000000 in
theorem amakes_any (A A' A4 : Option Addr) (n m c c' N cA B B' B4 : Nat) (sm ls : List Int) (s : ByteArray) (bs : List Bool) (w : World) (hx : Rd w B A (sm.map (.int .i64))) (hy : Rd w B' A' (ls.map (.int .i64))) (hz : Rd w B4 A4 (bs.map .bool)) (hn : sm.length = n) (hm : ls.length = m) (hn0 : bs.length = N) (hB4 : B4 ≤ w.heap.size) (hc : N ≤ cA) (hs : s.size ≤ 140737488351232) (hN47 : N ≤ 140737488351232) (hr : ∀ x ∈ ls, x ≤ 9223372036854775807) :
    Calls Try.prog 5 #[.slice A n c, .slice A' m c', .string s, .slice A4 N cA] w fun e w' => e = .returned (.bool true) ∧ Kp [] w w' := by
  have HX := Lib.hid hx; clear hx
  have HY := Lib.hid hy; clear hy
  have HZ := Lib.hid hz; clear hz
  have HN := Lib.hid hn; clear hn
  have HM := Lib.hid hm; clear hm
  have HN0 := Lib.hid hn0; clear hn0
  have HR := Lib.hid hr; clear hr
  go_enter Try.func5, Try.ntmps5
  by_cases h1 : 300 < n
  · have hd1 : decide ((300 : Int) < (n : Int)) = true := by simp; omega
    go_wp2_with fail
    refine (awake_a w).mono ?_
    rintro e w1 ⟨rfl, hk1⟩
    go_wp2_with fail
    go_ret
    exact ⟨rfl, hk1⟩
  by_cases h2 : 300 < m
  · have hd1 : decide ((300 : Int) < (n : Int)) = false := by simp; omega
    have hd2 : decide ((300 : Int) < (m : Int)) = true := by simp; omega
    go_wp2_with fail
    refine (awake_a w).mono ?_
    rintro e w1 ⟨rfl, hk1⟩
    go_wp2_with fail
    go_ret
    exact ⟨rfl, hk1⟩
  have hd1 : decide ((300 : Int) < (n : Int)) = false := by simp; omega
  have hd2 : decide ((300 : Int) < (m : Int)) = false := by simp; omega
  by_cases h3 : 600 < s.size + N
  · have hd3 : decide ((600 : Int) < (s.size : Int) + (N : Int)) = true := by simp; omega
    go_wp2_with fail
    refine (awake_a w).mono ?_
    rintro e w1 ⟨rfl, hk1⟩
    go_wp2_with fail
    go_ret
    exact ⟨rfl, hk1⟩
  have hd3 : decide ((600 : Int) < (s.size : Int) + (N : Int)) = false := by simp; omega
  go_wp2_with fail
  refine (lentI A n c _ sm w HX.out HN.out (by omega)).mono ?_
  rintro e w1 ⟨rfl, hk1, hb1⟩
  have HB1 := Lib.hid hb1
  have HK1 := Lib.hid hk1
  have HG1 := Lib.hid (show w.heap.size < w1.heap.size from hb1.lt)
  replace HX := Lib.hid (HX.out.kp0 (hk1))
  replace HY := Lib.hid (HY.out.kp0 (hk1))
  replace HZ := Lib.hid (HZ.out.kp0 (hk1))
  clear hb1 hk1
  go_wp2_with fail
  refine (lentI A' m c' _ ls w1 HY.out HM.out (by omega)).mono ?_
  rintro e w2 ⟨rfl, hk2, hb2⟩
  have HB2 := Lib.hid hb2
  have HK2 := Lib.hid (HK1.out.trans hk2)
  have HG2 := Lib.hid (show w1.heap.size < w2.heap.size from hb2.lt)
  replace HX := Lib.hid (HX.out.kp0 (hk2))
  replace HY := Lib.hid (HY.out.kp0 (hk2))
  replace HZ := Lib.hid (HZ.out.kp0 (hk2))
  replace HB1 := Lib.hid (HB1.out.kp0 (hk2))
  clear hb2 hk2 HK1
  go_wp2_with fail
  refine (amake_any (some ⟨w.heap.size, 0, none⟩) (some ⟨w1.heap.size, 0, none⟩) n m (n + 12) (m + 12) _ _ sm ls w2 (Rd.lent HB1.out) (Rd.lent HB2.out) HN.out HM.out (by omega) (by omega) (Nat.le_refl _) (Nat.le_refl _)).mono ?_
  rintro e w3 ⟨hyes, hno, hk3⟩
  have HK3 := Lib.hid (HK2.out.trans hk3)
  have HG3 := Lib.hid hk3.size
  replace HX := Lib.hid (HX.out.kp0 (hk3))
  replace HY := Lib.hid (HY.out.kp0 (hk3))
  replace HZ := Lib.hid (HZ.out.kp0 (hk3))
  replace HB1 := Lib.hid (HB1.out.kp0 (hk3))
  replace HB2 := Lib.hid (HB2.out.kp0 (hk3))
  clear hk3
  by_cases hok : okMake sm ls
  · obtain ⟨p, rfl, hcode⟩ := hyes hok
    obtain ⟨lo, hlo⟩ : ∃ lo, lo = w2.heap.size := ⟨_, rfl⟩
    obtain ⟨hi, hhi⟩ : ∃ hi, hi = w3.heap.size := ⟨_, rfl⟩
    rw [← hlo, ← hhi] at hcode
    have HC := Lib.hid hcode
    have HLO := Lib.hid (show w.heap.size < lo ∧ w1.heap.size < lo from ⟨by have := HG1.out; have := HG2.out; omega, by have := HG2.out; omega⟩)
    have HHI := Lib.hid (show hi ≤ w3.heap.size by omega)
    have HLI := Lib.hid (show lo ≤ w3.heap.size from by rw [hlo]; exact HG3.out)
    clear hyes hno hcode hlo hhi
    go_wp2_with fail
    refine (rmake_all A A' n m c c' _ _ sm ls w3 HX.out HY.out HN.out HM.out (by omega) HR.out).mono ?_
    rintro e w4 ⟨ryes, _, hk4⟩
    obtain ⟨p', rfl, hrc⟩ := ryes hok
    obtain ⟨lo', hlo'⟩ : ∃ lo', lo' = w3.heap.size := ⟨_, rfl⟩
    obtain ⟨hi', hhi'⟩ : ∃ hi', hi' = w4.heap.size := ⟨_, rfl⟩
    rw [← hlo', ← hhi'] at hrc
    have HRC := Lib.hid hrc
    have HLO' := Lib.hid (show w.heap.size < lo' ∧ w1.heap.size < lo' from ⟨by have := HLO.out.1; have := HLI.out; omega, by have := HLO.out.2; have := HLI.out; omega⟩)
    have HHI' := Lib.hid (show hi' ≤ w4.heap.size by omega)
    have HK34 := Lib.hid hk4
    clear ryes hrc hlo' hhi' hk4 hok
    go_wp2_with fail
    refine (keptI _ A n (n + 12) c _ _ sm w4 ((HB1.out.kp0 HK34.out).rd (HB1.out.kp0 HK34.out).lt) (HX.out.kp0 HK34.out) HN.out (by omega) (Nat.le_refl _)).mono ?_
    rintro e w5 ⟨rfl, hd5⟩
    have HK45 := Lib.hid (hd5.kp [])
    have HK35 := Lib.hid (HK34.out.trans HK45.out)
    clear hd5
    go_wp2_with fail
    refine (keptI _ A' m (m + 12) c' _ _ ls w5 ((HB2.out.kp0 HK35.out).rd (HB2.out.kp0 HK35.out).lt) (HY.out.kp0 HK35.out) HM.out (by omega) (Nat.le_refl _)).mono ?_
    rintro e w6 ⟨rfl, hd6⟩
    have HK46 := Lib.hid (HK45.out.trans (hd6.kp []))
    have HK36 := Lib.hid (HK34.out.trans HK46.out)
    clear hd6
    go_wp2_with fail
    refine (overI_some w.heap.size n (n + 12) _ w6 (HB1.out.kp0 HK36.out) (by rw [List.length_map, List.length_append, HN.out]; rfl) (by omega) (by omega) (by omega)).mono ?_
    rintro e w7 ⟨rfl, hk7⟩
    have HB27 := Lib.hid ((HB2.out.kp0 HK36.out).kp hk7 (fun hm => by simp only [List.mem_singleton] at hm; have := HG1.out; omega))
    have HS7 := Lib.hid hk7
    clear hk7
    go_wp2_with fail
    refine (overI_some w1.heap.size m (m + 12) _ w7 HB27.out (by rw [List.length_map, List.length_append, HM.out]; rfl) (by omega) (by omega) (by omega)).mono ?_
    rintro e w8 ⟨rfl, hk8⟩
    have HK48 := Lib.hid (show Kp [w.heap.size, w1.heap.size] w4 w8 from ((HK46.out.mono (by simp)).trans (HS7.out.mono (by simp))).trans (hk8.mono (by simp)))
    have HK38 := Lib.hid (show Kp [w.heap.size, w1.heap.size] w3 w8 from (HK34.out.mono (by simp)).trans HK48.out)
    have HK8 := Lib.hid (show Kp [] w w8 from HK3.out.trans' HK38.out (fun x hx => .inr (by simp only [List.mem_cons, List.not_mem_nil, or_false] at hx; have := HG1.out; omega)))
    clear hk8 HS7 HB27
    have hS : ∀ g ∈ [w.heap.size, w1.heap.size], g < lo ∨ hi ≤ g := fun g hg => by simp only [List.mem_cons, List.not_mem_nil, or_false] at hg; have := HLO.out; omega
    have hS' : ∀ g ∈ [w.heap.size, w1.heap.size], g < lo' ∨ hi' ≤ g := fun g hg => by simp only [List.mem_cons, List.not_mem_nil, or_false] at hg; have := HLO'.out; omega
    have HC8 := Lib.hid (HC.out.kp HK38.out hS)
    have HC8' := Lib.hid (HRC.out.kp HK48.out hS')
    have HX8 := Lib.hid (HZ.out.kp HK38.out (fun x hx => by simp only [List.mem_cons, List.not_mem_nil, or_false] at hx; have := HG1.out; omega))
    have HH1 := Lib.hid (show hi ≤ w8.heap.size from Nat.le_trans HHI.out HK38.out.size)
    have HH2 := Lib.hid (show hi' ≤ w8.heap.size from Nat.le_trans HHI'.out HK48.out.size)
    clear hS hS'
    go_wp2_with fail
    refine (same6_any lo hi p lo' hi' p' N cA B4 A4 s bs _ _ ls w8 HC8.out HC8'.out (by omega) HX8.out HN0.out hc (by omega) HH1.out HH2.out (Nat.le_trans hB4 HK8.out.size)).mono ?_
    rintro e w9 ⟨rfl, hk9⟩
    have HK9 := Lib.hid (HK8.out.trans hk9)
    clear hk9
    go_wp2_with fail
    refine (awake_a w9).mono ?_
    rintro e w10 ⟨rfl, hk10⟩
    have HK10 := Lib.hid (HK9.out.trans hk10)
    clear hk10
    go_wp2_with fail
    go_ret
    exact ⟨rfl, HK10.out⟩
  · rw [hno hok]
    clear hyes hno
    go_wp2_with fail
    refine (rmake_all A A' n m c c' _ _ sm ls w3 HX.out HY.out HN.out HM.out (by omega) HR.out).mono ?_
    rintro e w4 ⟨_, rno, hk4⟩
    rw [rno hok]
    have HK34 := Lib.hid hk4
    clear rno hk4 hok
    go_wp2_with fail
    refine (keptI _ A n (n + 12) c _ _ sm w4 ((HB1.out.kp0 HK34.out).rd (HB1.out.kp0 HK34.out).lt) (HX.out.kp0 HK34.out) HN.out (by omega) (Nat.le_refl _)).mono ?_
    rintro e w5 ⟨rfl, hd5⟩
    have HK45 := Lib.hid (hd5.kp [])
    have HK35 := Lib.hid (HK34.out.trans HK45.out)
    clear hd5
    go_wp2_with fail
    refine (keptI _ A' m (m + 12) c' _ _ ls w5 ((HB2.out.kp0 HK35.out).rd (HB2.out.kp0 HK35.out).lt) (HY.out.kp0 HK35.out) HM.out (by omega) (Nat.le_refl _)).mono ?_
    rintro e w6 ⟨rfl, hd6⟩
    have HK46 := Lib.hid (HK45.out.trans (hd6.kp []))
    have HK36 := Lib.hid (HK34.out.trans HK46.out)
    clear hd6
    go_wp2_with fail
    refine (overI_some w.heap.size n (n + 12) _ w6 (HB1.out.kp0 HK36.out) (by rw [List.length_map, List.length_append, HN.out]; rfl) (by omega) (by omega) (by omega)).mono ?_
    rintro e w7 ⟨rfl, hk7⟩
    have HB27 := Lib.hid ((HB2.out.kp0 HK36.out).kp hk7 (fun hm => by simp only [List.mem_singleton] at hm; have := HG1.out; omega))
    have HS7 := Lib.hid hk7
    clear hk7
    go_wp2_with fail
    refine (overI_some w1.heap.size m (m + 12) _ w7 HB27.out (by rw [List.length_map, List.length_append, HM.out]; rfl) (by omega) (by omega) (by omega)).mono ?_
    rintro e w8 ⟨rfl, hk8⟩
    have HK48 := Lib.hid (show Kp [w.heap.size, w1.heap.size] w4 w8 from ((HK46.out.mono (by simp)).trans (HS7.out.mono (by simp))).trans (hk8.mono (by simp)))
    have HK38 := Lib.hid (show Kp [w.heap.size, w1.heap.size] w3 w8 from (HK34.out.mono (by simp)).trans HK48.out)
    have HK8 := Lib.hid (show Kp [] w w8 from HK3.out.trans' HK38.out (fun x hx => .inr (by simp only [List.mem_cons, List.not_mem_nil, or_false] at hx; have := HG1.out; omega)))
    clear hk8 HS7 HB27
    go_wp2_with fail
    refine (awake_a w8).mono ?_
    rintro e w9 ⟨rfl, hk9⟩
    have HK9 := Lib.hid (HK8.out.trans hk9)
    clear hk9
    go_wp2_with fail
    go_ret
    exact ⟨rfl, HK9.out⟩
end Go.Proofs.Ytpmdfklhgabfgaa
namespace Go.Proofs.Ytpmdfklhgabfgaa
open Go.RowKit

theorem Rd.lentT {w : World} {g : Nat} {l more : List ByteArray} (h : Blk w g 9 ((l ++ more).map .string)) : Rd w w.heap.size (some ⟨g, 0, none⟩) (l.map .string) := by
  have := (h.rd h.lt).take (l.map Value.string).length
  rwa [List.map_append, List.take_left'] at this
  rfl
set_option maxRecDepth 100000 in
set_option maxHeartbeats 4000000 in
theorem atexts_any (A A4 : Option Addr) (n c N cA B B4 : Nat) (ss : List ByteArray) (s : ByteArray) (bs : List Bool) (w : World) (hx : Rd w B A (ss.map .string)) (hz : Rd w B4 A4 (bs.map .bool)) (hn : ss.length = n) (hn0 : bs.length = N) (hB : B ≤ w.heap.size) (hB4 : B4 ≤ w.heap.size) (hc : N ≤ cA) (hb : n ≤ 140737488351232) (hl : ∀ s ∈ ss, s.size ≤ 140737488351232) (hs : s.size ≤ 140737488351232) (hN47 : N ≤ 140737488351232) :
    Calls Try.prog 6 #[.slice A n c, .string s, .slice A4 N cA] w fun e w' => e = .returned (.bool true) ∧ Kp [] w w' := by
  have HX := Lib.hid hx; clear hx
  have HZ := Lib.hid hz; clear hz
  have HN := Lib.hid hn; clear hn
  have HN0 := Lib.hid hn0; clear hn0
  have HL := Lib.hid hl; clear hl
  go_enter Try.func6, Try.ntmps6
  go_wp2_with fail
  refine (asize_any A n c B ss w HX.out HN.out hb HL.out).mono ?_
  rintro e w1 ⟨⟨Z, rfl, hZ, hnZ, hZs⟩, rfl⟩
  by_cases h3 : 600 < Z + s.size + N
  · have hd3 : decide ((600 : Int) < (Z : Int) + (s.size : Int) + (N : Int)) = true := by simp; omega
    go_wp2_with fail
    refine (awake_a w).mono ?_
    rintro e w1 ⟨rfl, hk1⟩
    go_wp2_with fail
    go_ret
    exact ⟨rfl, hk1⟩
  have hd3 : decide ((600 : Int) < (Z : Int) + (s.size : Int) + (N : Int)) = false := by simp; omega
  have HSL := Lib.hid (show (symL ss).length ≤ 600 from Nat.le_trans (hZs (by omega)) (by omega))
  have hn6 : n ≤ 600 := by omega
  clear hZs
  go_wp2_with fail
  refine (lentT A n c _ ss w HX.out HN.out (by omega)).mono ?_
  rintro e w1 ⟨rfl, hk1, hb1⟩
  have HB1 := Lib.hid hb1
  have HK1 := Lib.hid hk1
  replace HX := Lib.hid (HX.out.kp0 (hk1))
  replace HZ := Lib.hid (HZ.out.kp0 (hk1))
  clear hb1 hk1
  by_cases hn0' : n = 0
  · subst hn0'
    go_wp2_with fail
    refine (aof_no (some ⟨w.heap.size, 0, none⟩) (0 + 12) w1).mono ?_
    rintro e w2 ⟨rfl, rfl⟩
    go_wp2_with fail
    refine (rof_no A c w1).mono ?_
    rintro e w2 ⟨rfl, rfl⟩
    go_wp2_with fail
    refine (keptT _ A 0 (0 + 12) c _ _ ss w1 (HB1.out.rd HB1.out.lt) HX.out HN.out (by omega) (Nat.le_refl _)).mono ?_
    rintro e w5 ⟨rfl, hk5⟩
    have HK5 := Lib.hid (HK1.out.trans hk5)
    clear hk5
    go_wp2_with fail
    refine (awake_a w5).mono ?_
    rintro e w9 ⟨rfl, hk9⟩
    have HK9 := Lib.hid (HK5.out.trans hk9)
    clear hk9
    go_wp2_with fail
    go_ret
    exact ⟨rfl, HK9.out⟩
  · have hn1 : 1 ≤ n := by omega
    go_wp2_with fail
    refine (aof_any (some ⟨w.heap.size, 0, none⟩) n (n + 12) _ ss w1 (Rd.lentT HB1.out) HN.out hn1 (by have := HSL.out; omega) (Nat.le_refl _)).mono ?_
    rintro e w3 ⟨p, rfl, hcode, hk3⟩
    obtain ⟨lo, hlo⟩ : ∃ lo, lo = w1.heap.size := ⟨_, rfl⟩
    obtain ⟨hi, hhi⟩ : ∃ hi, hi = w3.heap.size := ⟨_, rfl⟩
    rw [← hlo, ← hhi] at hcode
    have HC := Lib.hid hcode
    have HHI := Lib.hid (show hi ≤ w3.heap.size by omega)
    have HK3 := Lib.hid (HK1.out.trans hk3)
    replace HX := Lib.hid (HX.out.kp0 (hk3))
    replace HZ := Lib.hid (HZ.out.kp0 (hk3))
    replace HB1 := Lib.hid (HB1.out.kp0 (hk3))
    clear hcode hlo hhi hk3
    go_wp2_with fail
    refine (rof_any A n c B ss w3 HX.out HN.out hn1 (by have := HSL.out; omega) (Nat.le_trans hB HK3.out.size)).mono ?_
    rintro e w4 ⟨p', rfl, hrc, hk4⟩
    obtain ⟨lo', hlo'⟩ : ∃ lo', lo' = w3.heap.size := ⟨_, rfl⟩
    obtain ⟨hi', hhi'⟩ : ∃ hi', hi' = w4.heap.size := ⟨_, rfl⟩
    rw [← hlo', ← hhi'] at hrc
    have HRC := Lib.hid hrc
    have HHI' := Lib.hid (show hi' ≤ w4.heap.size by omega)
    have HK4 := Lib.hid (HK3.out.trans hk4)
    have HH34 := Lib.hid (show w3.heap.size ≤ w4.heap.size from hk4.size)
    replace HX := Lib.hid (HX.out.kp0 (hk4))
    replace HZ := Lib.hid (HZ.out.kp0 (hk4))
    replace HB1 := Lib.hid (HB1.out.kp0 (hk4))
    replace HC := Lib.hid (HC.out.kp0 (hk4))
    clear hrc hlo' hhi' hk4
    go_wp2_with fail
    refine (keptT _ A n (n + 12) c _ _ ss w4 (HB1.out.rd HB1.out.lt) HX.out HN.out (by omega) (Nat.le_refl _)).mono ?_
    rintro e w5 ⟨rfl, hk5⟩
    have HK5 := Lib.hid (HK4.out.trans hk5)
    have HH1 := Lib.hid (show hi ≤ w5.heap.size from Nat.le_trans HHI.out (Nat.le_trans (show w3.heap.size ≤ w4.heap.size from HH34.out) hk5.size))
    have HH2 := Lib.hid (show hi' ≤ w5.heap.size from Nat.le_trans HHI'.out hk5.size)
    replace HZ := Lib.hid (HZ.out.kp0 (hk5))
    replace HC := Lib.hid (HC.out.kp0 (hk5))
    replace HRC := Lib.hid (HRC.out.kp0 (hk5))
    clear hk5
    go_wp2_with fail
    refine (same6_any lo hi p lo' hi' p' N cA B4 A4 s bs _ _ _ w5 HC.out HRC.out (by omega) HZ.out HN0.out hc (by omega) HH1.out HH2.out (Nat.le_trans hB4 HK5.out.size)).mono ?_
    rintro e w9 ⟨rfl, hk9⟩
    have HK9 := Lib.hid (HK5.out.trans hk9)
    clear hk9
    go_wp2_with fail
    refine (awake_a w9).mono ?_
    rintro e w10 ⟨rfl, hk10⟩
    have HK10 := Lib.hid (HK9.out.trans hk10)
    clear hk10
    go_wp2_with fail
    go_ret
    exact ⟨rfl, HK10.out⟩
end Go.Proofs.Ytpmdfklhgabfgaa
