/-
  LAYER 6 (alpha): AlphaTexts, the walk.
  CONDITIONS: texts, a text, bits in memory.
-/
import Derived.Test.YtpmdfklhgabfgaaQ36
import Derived.Test.YtpmdfklhgabfgaaQ33
import Derived.Test.YtpmdfklhgabfgaaQ34
import Derived.Test.YtpmdfklhgabfgaaQ35
namespace Go.Proofs.Ytpmdfklhgabfgaa
open Go.RowKit

theorem Rd.lentT {w : World} {g : Nat} {l more : List ByteArray} (h : Blk w g 9 ((l ++ more).map .string)) : Rd w w.heap.size (some ⟨g, 0, none⟩) (l.map .string) := by
  have := (h.rd h.lt).take (l.map Value.string).length
  rwa [List.map_append, List.take_left'] at this
  rfl
set_option maxRecDepth 100000 in
set_option maxHeartbeats 4000000 in
theorem atexts_any (A A4 : Option Addr) (n c N cA B B4 : Nat) (ss : List ByteArray) (s : ByteArray) (bs : List Bool) (w : World) (hx : Rd w B A (ss.map .string)) (hz : Rd w B4 A4 (bs.map .bool)) (hn : ss.length = n) (hn0 : bs.length = N) (hB : B ≤ w.heap.size) (hB4 : B4 ≤ w.heap.size) (hc : N ≤ cA) (hb : n ≤ 140737488351232) (hl : ∀ s ∈ ss, s.size ≤ 140737488351232) (hs : s.size ≤ 140737488351232) (hN47 : N ≤ 140737488351232) :
    Calls Try.prog 6 #[.slice A n c, .string s, .slice A4 N cA] w fun e w' => e = .returned (.bool true) ∧ Kp [] w w' := by
  have HX := Lib.hid hx; clear hx
  have HZ := Lib.hid hz; clear hz
  have HN := Lib.hid hn; clear hn
  have HN0 := Lib.hid hn0; clear hn0
  have HL := Lib.hid hl; clear hl
  go_enter Try.func6, Try.ntmps6
  go_wp2_with fail
  refine (asize_any A n c B ss w HX.out HN.out hb HL.out).mono ?_
  rintro e w1 ⟨⟨Z, rfl, hZ, hnZ, hZs⟩, rfl⟩
  by_cases h3 : 600 < Z + s.size + N
  · have hd3 : decide ((600 : Int) < (Z : Int) + (s.size : Int) + (N : Int)) = true := by simp; omega
    go_wp2_with fail
    refine (awake_a w).mono ?_
    rintro e w1 ⟨rfl, hk1⟩
    go_wp2_with fail
    go_ret
    exact ⟨rfl, hk1⟩
  have hd3 : decide ((600 : Int) < (Z : Int) + (s.size : Int) + (N : Int)) = false := by simp; omega
  have HSL := Lib.hid (show (symL ss).length ≤ 600 from Nat.le_trans (hZs (by omega)) (by omega))
  have hn6 : n ≤ 600 := by omega
  clear hZs
  go_wp2_with fail
  refine (lentT A n c _ ss w HX.out HN.out (by omega)).mono ?_
  rintro e w1 ⟨rfl, hk1, hb1⟩
  have HB1 := Lib.hid hb1
  have HK1 := Lib.hid hk1
  replace HX := Lib.hid (HX.out.kp0 (hk1))
  replace HZ := Lib.hid (HZ.out.kp0 (hk1))
  clear hb1 hk1
  by_cases hn0' : n = 0
  · subst hn0'
    go_wp2_with fail
    refine (aof_no (some ⟨w.heap.size, 0, none⟩) (0 + 12) w1).mono ?_
    rintro e w2 ⟨rfl, rfl⟩
    go_wp2_with fail
    refine (rof_no A c w1).mono ?_
    rintro e w2 ⟨rfl, rfl⟩
    go_wp2_with fail
    refine (keptT _ A 0 (0 + 12) c _ _ ss w1 (HB1.out.rd HB1.out.lt) HX.out HN.out (by omega) (Nat.le_refl _)).mono ?_
    rintro e w5 ⟨rfl, hk5⟩
    have HK5 := Lib.hid (HK1.out.trans hk5)
    clear hk5
    go_wp2_with fail
    refine (awake_a w5).mono ?_
    rintro e w9 ⟨rfl, hk9⟩
    have HK9 := Lib.hid (HK5.out.trans hk9)
    clear hk9
    go_wp2_with fail
    go_ret
    exact ⟨rfl, HK9.out⟩
  · have hn1 : 1 ≤ n := by omega
    go_wp2_with fail
    refine (aof_any (some ⟨w.heap.size, 0, none⟩) n (n + 12) _ ss w1 (Rd.lentT HB1.out) HN.out hn1 (by have := HSL.out; omega) (Nat.le_refl _)).mono ?_
    rintro e w3 ⟨p, rfl, hcode, hk3⟩
    obtain ⟨lo, hlo⟩ : ∃ lo, lo = w1.heap.size := ⟨_, rfl⟩
    obtain ⟨hi, hhi⟩ : ∃ hi, hi = w3.heap.size := ⟨_, rfl⟩
    rw [← hlo, ← hhi] at hcode
    have HC := Lib.hid hcode
    have HHI := Lib.hid (show hi ≤ w3.heap.size by omega)
    have HK3 := Lib.hid (HK1.out.trans hk3)
    replace HX := Lib.hid (HX.out.kp0 (hk3))
    replace HZ := Lib.hid (HZ.out.kp0 (hk3))
    replace HB1 := Lib.hid (HB1.out.kp0 (hk3))
    clear hcode hlo hhi hk3
    go_wp2_with fail
    refine (rof_any A n c B ss w3 HX.out HN.out hn1 (by have := HSL.out; omega) (Nat.le_trans hB HK3.out.size)).mono ?_
    rintro e w4 ⟨p', rfl, hrc, hk4⟩
    obtain ⟨lo', hlo'⟩ : ∃ lo', lo' = w3.heap.size := ⟨_, rfl⟩
    obtain ⟨hi', hhi'⟩ : ∃ hi', hi' = w4.heap.size := ⟨_, rfl⟩
    rw [← hlo', ← hhi'] at hrc
    have HRC := Lib.hid hrc
    have HHI' := Lib.hid (show hi' ≤ w4.heap.size by omega)
    have HK4 := Lib.hid (HK3.out.trans hk4)
    have HH34 := Lib.hid (show w3.heap.size ≤ w4.heap.size from hk4.size)
    replace HX := Lib.hid (HX.out.kp0 (hk4))
    replace HZ := Lib.hid (HZ.out.kp0 (hk4))
    replace HB1 := Lib.hid (HB1.out.kp0 (hk4))
    replace HC := Lib.hid (HC.out.kp0 (hk4))
    clear hrc hlo' hhi' hk4
    go_wp2_with fail
    refine (keptT _ A n (n + 12) c _ _ ss w4 (HB1.out.rd HB1.out.lt) HX.out HN.out (by omega) (Nat.le_refl _)).mono ?_
    rintro e w5 ⟨rfl, hk5⟩
    have HK5 := Lib.hid (HK4.out.trans hk5)
    have HH1 := Lib.hid (show hi ≤ w5.heap.size from Nat.le_trans HHI.out (Nat.le_trans (show w3.heap.size ≤ w4.heap.size from HH34.out) hk5.size))
    have HH2 := Lib.hid (show hi' ≤ w5.heap.size from Nat.le_trans HHI'.out hk5.size)
    replace HZ := Lib.hid (HZ.out.kp0 (hk5))
    replace HC := Lib.hid (HC.out.kp0 (hk5))
    replace HRC := Lib.hid (HRC.out.kp0 (hk5))
    clear hk5
    go_wp2_with fail
    refine (same6_any lo hi p lo' hi' p' N cA B4 A4 s bs _ _ _ w5 HC.out HRC.out (by omega) HZ.out HN0.out hc (by omega) HH1.out HH2.out (Nat.le_trans hB4 HK5.out.size)).mono ?_
    rintro e w9 ⟨rfl, hk9⟩
    have HK9 := Lib.hid (HK5.out.trans hk9)
    clear hk9
    go_wp2_with fail
    refine (awake_a w9).mono ?_
    rintro e w10 ⟨rfl, hk10⟩
    have HK10 := Lib.hid (HK9.out.trans hk10)
    clear hk10
    go_wp2_with fail
    go_ret
    exact ⟨rfl, HK10.out⟩
end Go.Proofs.Ytpmdfklhgabfgaa
