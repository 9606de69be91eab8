/-
  LAYER 12 (front): FrontOf, the walk.
  CONDITIONS: texts in memory; the table of math/bits.
-/
import Derived.Test.YtlaionhlejmjdaaGreatDoorQ38
import Derived.Test.YtlaionhlejmjdaaGreatDoorQ40
import Derived.Test.YtlaionhlejmjdaaGreatDoorQ34
import Derived.Test.YtlaionhlejmjdaaGreatDoorQ35
import Derived.Test.YtlaionhlejmjdaaGreatDoorQ36
namespace Go.Proofs.YtlaionhlejmjdaaGreatDoor
open Go.RowKit

theorem Rd.lentT {w : World} {g : Nat} {l more : List ByteArray} (h : Blk w g 9 ((l ++ more).map .string)) : Rd w w.heap.size (some ⟨g, 0, none⟩) (l.map .string) := by
  have := (h.rd h.lt).take (l.map Value.string).length
  rwa [List.map_append, List.take_left'] at this
  rfl
set_option maxRecDepth 100000 in
set_option maxHeartbeats 4000000 in
theorem fof_none (v : Value) (A : Option Addr) (n c : Nat) (w : World) (h : NoCode w v) :
    Calls Tryz.prog 10 #[v, .slice A n c] w fun e w' => e = .returned (.tuple #[.pointer none, .int .i64 1]) ∧ w = w' := by
  have H := Lib.hid h
  clear h
  go_enter Tryz.func10, Tryz.ntmps10
  go_wp2_with fail
  refine (nsigns_any v w H.out).mono ?_
  rintro e w1 ⟨rfl, rfl⟩
  go_wp2_with fail
  go_ret2
  exact ⟨rfl, rfl⟩
set_option maxRecDepth 100000 in
set_option maxHeartbeats 4000000 in
theorem frontof_any (A0 B0 : Option Addr) (n c0 m d0 : Nat) (ss ms : List ByteArray) (i : Int) (s : ByteArray) (w : World) (h0 : Rd w w.heap.size A0 (ss.map .string)) (hm0 : Rd w w.heap.size B0 (ms.map .string)) (hn : ss.length = n) (hm : ms.length = m) (hb : n ≤ 140737488351232) (hb' : m ≤ 140737488351232) (hl : ∀ s ∈ ss, s.size ≤ 140737488351232) (hl' : ∀ s ∈ ms, s.size ≤ 140737488351232) (hs : s.size ≤ 140737488351232) (ht : Tab64 w) :
    Calls Tryz.prog 3 #[.slice A0 n c0, .slice B0 m d0, .int .i64 i, .string s] w fun e w' => e = .returned (.bool true) ∧ Kp [] w w' := by
  have HX := Lib.hid h0
  have HY := Lib.hid hm0
  clear h0 hm0
  have HN := Lib.hid hn; clear hn
  have HM := Lib.hid hm; clear hm
  have HL := Lib.hid hl; clear hl
  have HL' := Lib.hid hl'; clear hl'
  have HT := Lib.hid ht; clear ht
  go_enter Tryz.func3, Tryz.ntmps3
  go_wp2_with fail
  refine (fsize12_any A0 n c0 _ ss w HX.out HN.out hb HL.out).mono ?_
  rintro e w1 ⟨⟨Z, rfl, hZ, hnZ, hZs⟩, rfl⟩
  have HZS := Lib.hid hZs
  clear hZs
  go_wp2_with fail
  refine (fsize12_any B0 m d0 _ ms w HY.out HM.out hb' HL'.out).mono ?_
  rintro e w1 ⟨⟨Y, rfl, hY, hmY, hYs⟩, rfl⟩
  have HYS := Lib.hid hYs
  clear hYs
  by_cases hZ6 : 900 < Z + Y + s.size
  · have hzd : decide ((900 : Int) < (Z : Int) + (Y : Int) + (s.size : Int)) = true := by simp; omega
    go_wp2_with fail
    refine (awake_f w HT.out).mono ?_
    rintro e w1 ⟨rfl, hk1⟩
    go_wp2_with fail
    go_ret
    exact ⟨rfl, hk1⟩
  have HSL := Lib.hid (show (symL ss).length ≤ 900 from Nat.le_trans (HZS.out (by omega)) (by omega))
  have HML := Lib.hid (show (symL ms).length ≤ 900 from Nat.le_trans (HYS.out (by omega)) (by omega))
  have hzd : decide ((900 : Int) < (Z : Int) + (Y : Int) + (s.size : Int)) = false := by simp; omega
  have hn9 : n ≤ 900 := by omega
  have hm9 : m ≤ 900 := by omega
  have hs9 : s.size ≤ 900 := by omega
  clear hb hb'
  by_cases hn0 : n = 0
  · subst hn0
    go_wp2_with fail
    refine (aof_no A0 c0 w).mono ?_
    rintro e w2 ⟨rfl, rfl⟩
    go_wp2_with fail
    refine (rof_no A0 c0 w).mono ?_
    rintro e w2 ⟨rfl, rfl⟩
    go_wp2_with fail
    refine (fof_none (.pointer none) B0 m d0 w (.inl rfl)).mono ?_
    rintro e w2 ⟨rfl, rfl⟩
    go_wp2_with fail
    refine (awake_f w HT.out).mono ?_
    rintro e w1 ⟨rfl, hk1⟩
    go_wp2_with fail
    go_ret
    exact ⟨rfl, hk1⟩
  have hn1 : 1 ≤ n := by omega
  go_wp2_with fail
  clear hzd hZ6 hZ hY hnZ hmY
  refine (aof_any A0 n c0 _ ss w HX.out HN.out hn1 (by have := HSL.out; omega) (Nat.le_refl _)).mono ?_
  rintro e w3 ⟨p, rfl, hcode, hk3⟩
  obtain ⟨lo, hlo⟩ : ∃ lo, lo = w.heap.size := ⟨_, rfl⟩
  obtain ⟨hi, hhi⟩ : ∃ hi, hi = w3.heap.size := ⟨_, rfl⟩
  rw [← hlo, ← hhi] at hcode
  have HC := Lib.hid hcode
  have HHI := Lib.hid (show hi ≤ w3.heap.size by omega)
  have HK := Lib.hid hk3
  replace HT := Lib.hid (HT.out.kp0 hk3)
  replace HX := Lib.hid (HX.out.kp0 (hk3))
  replace HY := Lib.hid (HY.out.kp0 (hk3))
  clear hcode hlo hhi hk3
  go_wp2_with fail
  refine (rof_any A0 n c0 _ ss w3 HX.out HN.out hn1 (by have := HSL.out; omega) HK.out.size).mono ?_
  rintro e w4 ⟨p', rfl, hrc, hk4⟩
  obtain ⟨lo', hlo'⟩ : ∃ lo', lo' = w3.heap.size := ⟨_, rfl⟩
  obtain ⟨hi', hhi'⟩ : ∃ hi', hi' = w4.heap.size := ⟨_, rfl⟩
  rw [← hlo', ← hhi'] at hrc
  obtain ⟨T, hT⟩ : ∃ T, T = treeC (smO (symL ss)) (lensL (wtO (symL ss))) := ⟨_, rfl⟩
  obtain ⟨L, hL⟩ : ∃ L, L = lensL (wtO (symL ss)) := ⟨_, rfl⟩
  obtain ⟨sg, hsg⟩ : ∃ sg, sg = (smO (symL ss)).map Int.toNat := ⟨_, rfl⟩
  rw [← hT, ← hsg, ← hL] at hrc HC
  have HRC := Lib.hid hrc
  replace HHI := Lib.hid (Nat.le_trans HHI.out hk4.size)
  replace HK := Lib.hid (HK.out.trans hk4)
  replace HT := Lib.hid (HT.out.kp0 hk4)
  replace HX := Lib.hid (HX.out.kp0 (hk4))
  replace HY := Lib.hid (HY.out.kp0 (hk4))
  replace HC := Lib.hid (HC.out.kp0 (hk4))
  clear hrc hlo' hhi' hk4 hT hsg hL
  go_wp2_with fail
  refine (lentT B0 m d0 _ ms w4 HY.out HM.out (by omega)).mono ?_
  rintro e w5 ⟨rfl, hk5, hb5⟩
  have HB5 := Lib.hid hb5
  replace HHI := Lib.hid (Nat.le_trans HHI.out hk5.size)
  replace HK := Lib.hid (HK.out.trans hk5)
  replace HT := Lib.hid (HT.out.kp0 hk5)
  replace HX := Lib.hid (HX.out.kp0 (hk5))
  replace HY := Lib.hid (HY.out.kp0 (hk5))
  replace HC := Lib.hid (HC.out.kp0 (hk5))
  replace HRC := Lib.hid (HRC.out.kp0 (hk5))
  obtain ⟨b5, hb5e⟩ : ∃ b5, w4.heap.size = b5 := ⟨_, rfl⟩
  rw [hb5e] at HB5 ⊢
  clear hb5 hk5 hb5e
  go_wp2_with fail
  refine (fof_any lo hi p m (m + 12) _ (some ⟨b5, 0, none⟩) ms T sg L w5 HC.out (Rd.lentT HB5.out) HM.out (by have := HML.out; omega) HHI.out (Nat.le_refl _)).mono ?_
  have HSZ := Lib.hid (show ∀ s ∈ ms, s.size ≤ 900 from fun s hs => by
    have h1 : (symT s).length ≤ (symL ms).length := by
      obtain ⟨l1, l2, e⟩ := List.append_of_mem hs
      rw [e]
      unfold symL
      rw [List.flatMap_append, List.flatMap_cons, List.length_append, List.length_append]
      omega
    rw [symT_len] at h1
    have := HML.out
    omega)
  have HBL := Lib.hid (show ∀ j, (frontB T (ms.take j)).length ≤ 9000000 from fun j => by
    have h1 := frontB_len HC.out.1 ms (fun s hs => by have := HSZ.out s hs; omega) j
    have h2 := symL_take ms j
    have := HML.out
    omega)
  obtain ⟨t0, ad0, ht0, rfl, _, _⟩ := HX.out.str (k := 0) (by rw [HN.out]; omega)
  have ht0z : t0.size ≤ 900 := by
    have h1 : (symT t0).length ≤ (symL ss).length := by
      obtain ⟨l1, l2, e⟩ := List.append_of_mem (List.mem_of_getElem? ht0)
      rw [e]
      unfold symL
      rw [List.flatMap_append, List.flatMap_cons, List.length_append, List.length_append]
      omega
    rw [symT_len] at h1
    have := HSL.out
    omega
  have HT0 := Lib.hid ht0
  clear ht0
  rintro e w6 ⟨hk6, ⟨hr, rfl⟩ | ⟨hr, hno, rfl⟩ | ⟨hr, hall, S, f, rfl, hfr⟩⟩
  · have HK6 := Lib.hid hk6
    have HRI := Lib.hid hr
    clear hr hk6
    have HRP := Lib.hid (rfof_any lo' hi' p' m d0 _ B0 ms T sg L w6 (HRC.out.kp0 HK6.out) (HY.out.kp0 HK6.out) HM.out (by omega) (fun s hs => by have := HSZ.out s hs; omega) HBL.out)
    go_wp2_with fail
    refine HRP.out.mono ?_
    rintro e w7 ⟨hk7, ⟨hr, rfl⟩ | ⟨hr, _, rfl⟩ | ⟨hr, _⟩⟩
    · have HK7 := Lib.hid (HK6.out.trans hk7)
      clear hk7 hr
      obtain ⟨t', ad', ht', e', _, hct⟩ := (HX.out.kp0 HK7.out).str (k := 0) (by rw [HN.out]; omega)
      injection e' with e'
      subst e'
      rw [HT0.out] at ht'
      injection ht' with ht'
      subst ht'
      rw [show ad0.add 0 = ad0 from by simp [Addr.add]] at hct
      have hn0i : (0 : Int) < (n : Int) := by omega
      have hn0n : 0 < n := hn1
      go_wp2_with fail
      go_region_held3 (fun w' => w'.cell? ad0 = some (.string t0)) (go_keep)
        (first
          | (go_at_call 13
             refine (keptT _ B0 m (m + 12) d0 _ _ ms _ ((HB5.out.kp0 (HK7.out.drew)).rd (HB5.out.kp0 (HK7.out.drew)).lt) (HY.out.kp0 (HK7.out.drew)) HM.out (by omega) (Nat.le_refl _)).mono ?_
             rintro e w8 ⟨rfl, hk8⟩
             have HK8 := Lib.hid (HK7.out.drew.trans hk8)
             have HZ8 := Lib.hid (((Kp.refl [] w7).drew).trans hk8)
             have hct8 := hk8.cell (show (World.drew _).cell? ad0 = some (.string t0) from hct) (by simp)
             clear hk8 hct)
          | (go_at_call 14
             refine (falike_any s t0 w8 (by omega) (by omega)).mono ?_
             rintro e w9 ⟨rfl, hd9⟩
             have HK9 := Lib.hid (HK8.out.trans (hd9.kp []))
             have HZ9 := Lib.hid (HZ8.out.trans (hd9.kp []))
             have hct9 := (hd9.kp []).cell hct8 (by simp)
             clear hd9 hct8)
          | (go_at_call 15
             refine (ralike_any s t0 w9 (by omega) (by omega)).mono ?_
             rintro e w10 ⟨rfl, hd10⟩
             have HK10 := Lib.hid (HK9.out.trans (hd10.kp []))
             have HZ10 := Lib.hid (HZ9.out.trans (hd10.kp []))
             have hct10 := (hd10.kp []).cell hct9 (by simp)
             clear hd10 hct9))
      clear hct10
      go_wp2_with fail
      refine (awake_f w10 (HT.out.kp0 HK10.out)).mono ?_
      rintro e w11 ⟨rfl, hk11⟩
      go_wp2_with fail
      go_ret
      exact ⟨rfl, HK.out.trans (HK10.out.trans hk11)⟩
    · rw [HRI.out] at hr; cases hr
    · rw [HRI.out] at hr; cases hr
  · have HK6 := Lib.hid hk6
    have HRI := Lib.hid hr
    have HNO := Lib.hid hno
    clear hr hk6 hno
    have HRP := Lib.hid (rfof_any lo' hi' p' m d0 _ B0 ms T sg L w6 (HRC.out.kp0 HK6.out) (HY.out.kp0 HK6.out) HM.out (by omega) (fun s hs => by have := HSZ.out s hs; omega) HBL.out)
    go_wp2_with fail
    refine HRP.out.mono ?_
    rintro e w7 ⟨hk7, ⟨hr, rfl⟩ | ⟨hr, _, rfl⟩ | ⟨hr, hal, _⟩⟩
    · rw [HRI.out] at hr; cases hr
    · have HK7 := Lib.hid (HK6.out.trans hk7)
      clear hk7 hr
      obtain ⟨t', ad', ht', e', _, hct⟩ := (HX.out.kp0 HK7.out).str (k := 0) (by rw [HN.out]; omega)
      injection e' with e'
      subst e'
      rw [HT0.out] at ht'
      injection ht' with ht'
      subst ht'
      rw [show ad0.add 0 = ad0 from by simp [Addr.add]] at hct
      have hn0i : (0 : Int) < (n : Int) := by omega
      have hn0n : 0 < n := hn1
      go_wp2_with fail
      go_region_held3 (fun w' => w'.cell? ad0 = some (.string t0)) (go_keep)
        (first
          | (go_at_call 13
             refine (keptT _ B0 m (m + 12) d0 _ _ ms _ ((HB5.out.kp0 (HK7.out.drew)).rd (HB5.out.kp0 (HK7.out.drew)).lt) (HY.out.kp0 (HK7.out.drew)) HM.out (by omega) (Nat.le_refl _)).mono ?_
             rintro e w8 ⟨rfl, hk8⟩
             have HK8 := Lib.hid (HK7.out.drew.trans hk8)
             have HZ8 := Lib.hid (((Kp.refl [] w7).drew).trans hk8)
             have hct8 := hk8.cell (show (World.drew _).cell? ad0 = some (.string t0) from hct) (by simp)
             clear hk8 hct)
          | (go_at_call 14
             refine (falike_any s t0 w8 (by omega) (by omega)).mono ?_
             rintro e w9 ⟨rfl, hd9⟩
             have HK9 := Lib.hid (HK8.out.trans (hd9.kp []))
             have HZ9 := Lib.hid (HZ8.out.trans (hd9.kp []))
             have hct9 := (hd9.kp []).cell hct8 (by simp)
             clear hd9 hct8)
          | (go_at_call 15
             refine (ralike_any s t0 w9 (by omega) (by omega)).mono ?_
             rintro e w10 ⟨rfl, hd10⟩
             have HK10 := Lib.hid (HK9.out.trans (hd10.kp []))
             have HZ10 := Lib.hid (HZ9.out.trans (hd10.kp []))
             have hct10 := (hd10.kp []).cell hct9 (by simp)
             clear hd10 hct9))
      clear hct10
      go_wp2_with fail
      refine (awake_f w10 (HT.out.kp0 HK10.out)).mono ?_
      rintro e w11 ⟨rfl, hk11⟩
      go_wp2_with fail
      go_ret
      exact ⟨rfl, HK.out.trans (HK10.out.trans hk11)⟩
    · obtain ⟨x, hx, hxn⟩ := HNO.out
      obtain ⟨r, hr2⟩ := hal x hx
      rw [hxn] at hr2
      cases hr2
  · have HK6 := Lib.hid hk6
    have HRI := Lib.hid hr
    have HAL := Lib.hid hall
    have HFR := Lib.hid hfr
    clear hr hk6 hall hfr
    have HRP := Lib.hid (rfof_any lo' hi' p' m d0 _ B0 ms T sg L w6 (HRC.out.kp0 HK6.out) (HY.out.kp0 HK6.out) HM.out (by omega) (fun s hs => by have := HSZ.out s hs; omega) HBL.out)
    go_wp2_with fail
    refine HRP.out.mono ?_
    rintro e w7 ⟨hk7, ⟨hr, rfl⟩ | ⟨hr, ⟨x, hx, hxn⟩, rfl⟩ | ⟨hr, hal, r, At, Ab, As, ct, cb, cs, n', N, m', rfl, hrf⟩⟩
    · rw [HRI.out] at hr; cases hr
    · obtain ⟨r, hr2⟩ := HAL.out x hx
      rw [hxn] at hr2
      cases hr2
    · obtain ⟨rlo, hrlo⟩ : ∃ rlo, rlo = w6.heap.size := ⟨_, rfl⟩
      obtain ⟨rhi, hrhi⟩ : ∃ rhi, rhi = w7.heap.size := ⟨_, rfl⟩
      rw [← hrlo, ← hrhi] at hrf
      have HRF := Lib.hid hrf
      have HK7 := Lib.hid (HK6.out.trans hk7)
      have H67 := Lib.hid hk7
      have HRL := Lib.hid (show (∀ g ∈ S, g < rlo) ∧ rhi ≤ w7.heap.size from ⟨fun g hg => by rw [hrlo]; exact (by obtain ⟨_, _, _, _, _, _, _, hv, _⟩ := HFR.out; exact hv.lt g hg), by omega⟩)
      have HW67 := Lib.hid (show w6.heap.size ≤ w7.heap.size from hk7.size)
      clear hk7 hr hal hrf hrlo hrhi
      obtain ⟨t', ad', ht', e', _, hct⟩ := (HX.out.kp0 HK7.out).str (k := 0) (by rw [HN.out]; omega)
      injection e' with e'
      subst e'
      rw [HT0.out] at ht'
      injection ht' with ht'
      subst ht'
      rw [show ad0.add 0 = ad0 from by simp [Addr.add]] at hct
      have hn0i : (0 : Int) < (n : Int) := by omega
      have hn0n : 0 < n := hn1
      go_wp2_with fail
      go_region_held3 (fun w' => w'.cell? ad0 = some (.string t0)) (go_keep)
        (first
          | (go_at_call 13
             refine (keptT _ B0 m (m + 12) d0 _ _ ms _ ((HB5.out.kp0 (HK7.out.drew)).rd (HB5.out.kp0 (HK7.out.drew)).lt) (HY.out.kp0 (HK7.out.drew)) HM.out (by omega) (Nat.le_refl _)).mono ?_
             rintro e w8 ⟨rfl, hk8⟩
             have HK8 := Lib.hid (HK7.out.drew.trans hk8)
             have HZ8 := Lib.hid (((Kp.refl [] w7).drew).trans hk8)
             have hct8 := hk8.cell (show (World.drew _).cell? ad0 = some (.string t0) from hct) (by simp)
             clear hk8 hct)
          | (go_at_call 14
             refine (falike_any s t0 w8 (by omega) (by omega)).mono ?_
             rintro e w9 ⟨rfl, hd9⟩
             have HK9 := Lib.hid (HK8.out.trans (hd9.kp []))
             have HZ9 := Lib.hid (HZ8.out.trans (hd9.kp []))
             have hct9 := (hd9.kp []).cell hct8 (by simp)
             clear hd9 hct8)
          | (go_at_call 15
             refine (ralike_any s t0 w9 (by omega) (by omega)).mono ?_
             rintro e w10 ⟨rfl, hd10⟩
             have HK10 := Lib.hid (HK9.out.trans (hd10.kp []))
             have HZ10 := Lib.hid (HZ9.out.trans (hd10.kp []))
             have hct10 := (hd10.kp []).cell hct9 (by simp)
             clear hd10 hct9))
      clear hct10
      have HFO := Lib.hid (show Fro w10 w5.heap.size w6.heap.size lo hi S f p T sg L ms from
        ⟨HFR.out.kp0 (H67.out.trans HZ10.out), HC.out.kp0 HK10.out, fun g hg => .inr (Nat.le_trans HHI.out (HFR.out.low g hg)), HT.out.kp0 HK10.out, fun hm => by have h1 := HFR.out.low _ hm; have h2 := HT.out.lt; omega, ⟨Nat.le_trans HHI.out HK10.out.size, Nat.le_trans HW67.out HZ10.out.size⟩, fun x hx => ⟨HAL.out x hx, by have := HSZ.out x hx; omega⟩⟩)
      have HRO := Lib.hid (HRF.out.kp0 HZ10.out)
      have hn'9 : n' ≤ 1000000 := by rw [← HRF.out.nt, HM.out]; omega
      have HSR := Lib.hid (show ∀ g ∈ S, g < rlo ∨ rhi ≤ g from fun g hg => .inl (HRL.out.1 g hg))
      have HLW := Lib.hid (show ∀ g ∈ S, w5.heap.size ≤ g from HFR.out.low)
      clear HRP HRF HFR H67 HW67
      go_wp2_with fail
      refine (same12_any i s n' N m' w5.heap.size w6.heap.size lo hi rlo rhi f r p ct cb cs At Ab As S T sg L ms w10 HFO.out HRO.out HRI.out hn'9 HSR.out (Nat.le_trans HRL.out.2 HZ10.out.size)).mono ?_
      rintro e w11 ⟨rfl, hk11⟩
      have HK11 := Lib.hid (show Kp [] w w11 from (HK.out.trans HK10.out).trans' hk11 (fun x hx => .inr (Nat.le_trans HK.out.size (HLW.out x hx))))
      have HT11 := Lib.hid (show Tab64 w11 from HFO.out.tab.kp hk11 HFO.out.tabS)
      clear hk11
      go_wp2_with fail
      refine (awake_f w11 HT11.out).mono ?_
      rintro e w12 ⟨rfl, hk12⟩
      go_wp2_with fail
      go_ret
      exact ⟨rfl, HK11.out.trans hk12⟩
end Go.Proofs.YtlaionhlejmjdaaGreatDoor
