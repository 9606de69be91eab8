/-
  LAYER 12 (front): FrontOf, the walk.
  LAYER 12 (front): FrontReads, the walk.
  LAYER 12 (front): no code, no vector, no front: the law's none.
  CONDITIONS: as each lemma says.
-/
import Derived.Test.YtlaionhlejmjdaaGreatDoorQ40
import Derived.Test.YtlaionhlejmjdaaGreatDoorQ42
import Derived.Test.YtlaionhlejmjdaaGreatDoorQ35
import Derived.Test.YtlaionhlejmjdaaGreatDoorQ36
import Derived.Test.YtlaionhlejmjdaaGreatDoorQ37
import Derived.Test.YtlaionhlejmjdaaGreatDoorQ43
import Derived.Test.YtlaionhlejmjdaaGreatDoorQ19
namespace Go.Proofs.YtlaionhlejmjdaaGreatDoor
open Go.RowKit

theorem Rd.lentT {w : World} {g : Nat} {l more : List ByteArray} (h : Blk w g 9 ((l ++ more).map .string)) : Rd w w.heap.size (some ⟨g, 0, none⟩) (l.map .string) := by
  have := (h.rd h.lt).take (l.map Value.string).length
  rwa [List.map_append, List.take_left'] at this
  rfl
set_option maxRecDepth 100000 in
set_option maxHeartbeats 4000000 in
theorem fof_none (v : Value) (A : Option Addr) (n c : Nat) (w : World) (h : NoCode w v) :
    Calls Tryz.prog 10 #[v, .slice A n c] w fun e w' => e = .returned (.tuple #[.pointer none, .int .i64 1]) ∧ w = w' := by
  have H := Lib.hid h
  clear h
  go_enter Tryz.func10, Tryz.ntmps10
  go_wp2_with fail
  refine (nsigns_any v w H.out).mono ?_
  rintro e w1 ⟨rfl, rfl⟩
  go_wp2_with fail
  go_ret2
  exact ⟨rfl, rfl⟩
set_option maxRecDepth 100000 in
set_option maxHeartbeats 4000000 in
theorem frontof_any (A0 B0 : Option Addr) (n c0 m d0 : Nat) (ss ms : List ByteArray) (i : Int) (s : ByteArray) (w : World) (h0 : Rd w w.heap.size A0 (ss.map .string)) (hm0 : Rd w w.heap.size B0 (ms.map .string)) (hn : ss.length = n) (hm : ms.length = m) (hb : n ≤ 140737488351232) (hb' : m ≤ 140737488351232) (hl : ∀ s ∈ ss, s.size ≤ 140737488351232) (hl' : ∀ s ∈ ms, s.size ≤ 140737488351232) (hs : s.size ≤ 140737488351232) (ht : Tab64 w) :
    Calls Tryz.prog 3 #[.slice A0 n c0, .slice B0 m d0, .int .i64 i, .string s] w fun e w' => e = .returned (.bool true) ∧ Kp [] w w' := by
  have HX := Lib.hid h0
  have HY := Lib.hid hm0
  clear h0 hm0
  have HN := Lib.hid hn; clear hn
  have HM := Lib.hid hm; clear hm
  have HL := Lib.hid hl; clear hl
  have HL' := Lib.hid hl'; clear hl'
  have HT := Lib.hid ht; clear ht
  go_enter Tryz.func3, Tryz.ntmps3
  go_wp2_with fail
  refine (fsize12_any A0 n c0 _ ss w HX.out HN.out hb HL.out).mono ?_
  rintro e w1 ⟨⟨Z, rfl, hZ, hnZ, hZs⟩, rfl⟩
  have HZS := Lib.hid hZs
  clear hZs
  go_wp2_with fail
  refine (fsize12_any B0 m d0 _ ms w HY.out HM.out hb' HL'.out).mono ?_
  rintro e w1 ⟨⟨Y, rfl, hY, hmY, hYs⟩, rfl⟩
  have HYS := Lib.hid hYs
  clear hYs
  by_cases hZ6 : 900 < Z + Y + s.size
  · have hzd : decide ((900 : Int) < (Z : Int) + (Y : Int) + (s.size : Int)) = true := by simp; omega
    go_wp2_with fail
    refine (awake_f w HT.out).mono ?_
    rintro e w1 ⟨rfl, hk1⟩
    go_wp2_with fail
    go_ret
    exact ⟨rfl, hk1⟩
  have HSL := Lib.hid (show (symL ss).length ≤ 900 from Nat.le_trans (HZS.out (by omega)) (by omega))
  have HML := Lib.hid (show (symL ms).length ≤ 900 from Nat.le_trans (HYS.out (by omega)) (by omega))
  have hzd : decide ((900 : Int) < (Z : Int) + (Y : Int) + (s.size : Int)) = false := by simp; omega
  have hn9 : n ≤ 900 := by omega
  have hm9 : m ≤ 900 := by omega
  have hs9 : s.size ≤ 900 := by omega
  clear hb hb'
  by_cases hn0 : n = 0
  · subst hn0
    go_wp2_with fail
    refine (aof_no A0 c0 w).mono ?_
    rintro e w2 ⟨rfl, rfl⟩
    go_wp2_with fail
    refine (rof_no A0 c0 w).mono ?_
    rintro e w2 ⟨rfl, rfl⟩
    go_wp2_with fail
    refine (fof_none (.pointer none) B0 m d0 w (.inl rfl)).mono ?_
    rintro e w2 ⟨rfl, rfl⟩
    go_wp2_with fail
    refine (awake_f w HT.out).mono ?_
    rintro e w1 ⟨rfl, hk1⟩
    go_wp2_with fail
    go_ret
    exact ⟨rfl, hk1⟩
  have hn1 : 1 ≤ n := by omega
  go_wp2_with fail
  clear hzd hZ6 hZ hY hnZ hmY
  refine (aof_any A0 n c0 _ ss w HX.out HN.out hn1 (by have := HSL.out; omega) (Nat.le_refl _)).mono ?_
  rintro e w3 ⟨p, rfl, hcode, hk3⟩
  obtain ⟨lo, hlo⟩ : ∃ lo, lo = w.heap.size := ⟨_, rfl⟩
  obtain ⟨hi, hhi⟩ : ∃ hi, hi = w3.heap.size := ⟨_, rfl⟩
  rw [← hlo, ← hhi] at hcode
  have HC := Lib.hid hcode
  have HHI := Lib.hid (show hi ≤ w3.heap.size by omega)
  have HK := Lib.hid hk3
  replace HT := Lib.hid (HT.out.kp0 hk3)
  replace HX := Lib.hid (HX.out.kp0 (hk3))
  replace HY := Lib.hid (HY.out.kp0 (hk3))
  clear hcode hlo hhi hk3
  go_wp2_with fail
  refine (rof_any A0 n c0 _ ss w3 HX.out HN.out hn1 (by have := HSL.out; omega) HK.out.size).mono ?_
  rintro e w4 ⟨p', rfl, hrc, hk4⟩
  obtain ⟨lo', hlo'⟩ : ∃ lo', lo' = w3.heap.size := ⟨_, rfl⟩
  obtain ⟨hi', hhi'⟩ : ∃ hi', hi' = w4.heap.size := ⟨_, rfl⟩
  rw [← hlo', ← hhi'] at hrc
  obtain ⟨T, hT⟩ : ∃ T, T = treeC (smO (symL ss)) (lensL (wtO (symL ss))) := ⟨_, rfl⟩
  obtain ⟨L, hL⟩ : ∃ L, L = lensL (wtO (symL ss)) := ⟨_, rfl⟩
  obtain ⟨sg, hsg⟩ : ∃ sg, sg = (smO (symL ss)).map Int.toNat := ⟨_, rfl⟩
  rw [← hT, ← hsg, ← hL] at hrc HC
  have HRC := Lib.hid hrc
  replace HHI := Lib.hid (Nat.le_trans HHI.out hk4.size)
  replace HK := Lib.hid (HK.out.trans hk4)
  replace HT := Lib.hid (HT.out.kp0 hk4)
  replace HX := Lib.hid (HX.out.kp0 (hk4))
  replace HY := Lib.hid (HY.out.kp0 (hk4))
  replace HC := Lib.hid (HC.out.kp0 (hk4))
  clear hrc hlo' hhi' hk4 hT hsg hL
  go_wp2_with fail
  refine (lentT B0 m d0 _ ms w4 HY.out HM.out (by omega)).mono ?_
  rintro e w5 ⟨rfl, hk5, hb5⟩
  have HB5 := Lib.hid hb5
  replace HHI := Lib.hid (Nat.le_trans HHI.out hk5.size)
  replace HK := Lib.hid (HK.out.trans hk5)
  replace HT := Lib.hid (HT.out.kp0 hk5)
  replace HX := Lib.hid (HX.out.kp0 (hk5))
  replace HY := Lib.hid (HY.out.kp0 (hk5))
  replace HC := Lib.hid (HC.out.kp0 (hk5))
  replace HRC := Lib.hid (HRC.out.kp0 (hk5))
  obtain ⟨b5, hb5e⟩ : ∃ b5, w4.heap.size = b5 := ⟨_, rfl⟩
  rw [hb5e] at HB5 ⊢
  clear hb5 hk5 hb5e
  go_wp2_with fail
  refine (fof_any lo hi p m (m + 12) _ (some ⟨b5, 0, none⟩) ms T sg L w5 HC.out (Rd.lentT HB5.out) HM.out (by have := HML.out; omega) HHI.out (Nat.le_refl _)).mono ?_
  have HSZ := Lib.hid (show ∀ s ∈ ms, s.size ≤ 900 from fun s hs => by
    have h1 : (symT s).length ≤ (symL ms).length := by
      obtain ⟨l1, l2, e⟩ := List.append_of_mem hs
      rw [e]
      unfold symL
      rw [List.flatMap_append, List.flatMap_cons, List.length_append, List.length_append]
      omega
    rw [symT_len] at h1
    have := HML.out
    omega)
  have HBL := Lib.hid (show ∀ j, (frontB T (ms.take j)).length ≤ 9000000 from fun j => by
    have h1 := frontB_len HC.out.1 ms (fun s hs => by have := HSZ.out s hs; omega) j
    have h2 := symL_take ms j
    have := HML.out
    omega)
  obtain ⟨t0, ad0, ht0, rfl, _, _⟩ := HX.out.str (k := 0) (by rw [HN.out]; omega)
  have ht0z : t0.size ≤ 900 := by
    have h1 : (symT t0).length ≤ (symL ss).length := by
      obtain ⟨l1, l2, e⟩ := List.append_of_mem (List.mem_of_getElem? ht0)
      rw [e]
      unfold symL
      rw [List.flatMap_append, List.flatMap_cons, List.length_append, List.length_append]
      omega
    rw [symT_len] at h1
    have := HSL.out
    omega
  have HT0 := Lib.hid ht0
  clear ht0
  rintro e w6 ⟨hk6, ⟨hr, rfl⟩ | ⟨hr, hno, rfl⟩ | ⟨hr, hall, S, f, rfl, hfr⟩⟩
  · have HK6 := Lib.hid hk6
    have HRI := Lib.hid hr
    clear hr hk6
    have HRP := Lib.hid (rfof_any lo' hi' p' m d0 _ B0 ms T sg L w6 (HRC.out.kp0 HK6.out) (HY.out.kp0 HK6.out) HM.out (by omega) (fun s hs => by have := HSZ.out s hs; omega) HBL.out)
    go_wp2_with fail
    refine HRP.out.mono ?_
    rintro e w7 ⟨hk7, ⟨hr, rfl⟩ | ⟨hr, _, rfl⟩ | ⟨hr, _⟩⟩
    · have HK7 := Lib.hid (HK6.out.trans hk7)
      clear hk7 hr
      obtain ⟨t', ad', ht', e', _, hct⟩ := (HX.out.kp0 HK7.out).str (k := 0) (by rw [HN.out]; omega)
      injection e' with e'
      subst e'
      rw [HT0.out] at ht'
      injection ht' with ht'
      subst ht'
      rw [show ad0.add 0 = ad0 from by simp [Addr.add]] at hct
      have hn0i : (0 : Int) < (n : Int) := by omega
      have hn0n : 0 < n := hn1
      go_wp2_with fail
      go_region_held3 (fun w' => w'.cell? ad0 = some (.string t0)) (go_keep)
        (first
          | (go_at_call 13
             refine (keptT _ B0 m (m + 12) d0 _ _ ms _ ((HB5.out.kp0 (HK7.out.drew)).rd (HB5.out.kp0 (HK7.out.drew)).lt) (HY.out.kp0 (HK7.out.drew)) HM.out (by omega) (Nat.le_refl _)).mono ?_
             rintro e w8 ⟨rfl, hk8⟩
             have HK8 := Lib.hid (HK7.out.drew.trans hk8)
             have HZ8 := Lib.hid (((Kp.refl [] w7).drew).trans hk8)
             have hct8 := hk8.cell (show (World.drew _).cell? ad0 = some (.string t0) from hct) (by simp)
             clear hk8 hct)
          | (go_at_call 14
             refine (falike_any s t0 w8 (by omega) (by omega)).mono ?_
             rintro e w9 ⟨rfl, hd9⟩
             have HK9 := Lib.hid (HK8.out.trans (hd9.kp []))
             have HZ9 := Lib.hid (HZ8.out.trans (hd9.kp []))
             have hct9 := (hd9.kp []).cell hct8 (by simp)
             clear hd9 hct8)
          | (go_at_call 15
             refine (ralike_any s t0 w9 (by omega) (by omega)).mono ?_
             rintro e w10 ⟨rfl, hd10⟩
             have HK10 := Lib.hid (HK9.out.trans (hd10.kp []))
             have HZ10 := Lib.hid (HZ9.out.trans (hd10.kp []))
             have hct10 := (hd10.kp []).cell hct9 (by simp)
             clear hd10 hct9))
      clear hct10
      go_wp2_with fail
      refine (awake_f w10 (HT.out.kp0 HK10.out)).mono ?_
      rintro e w11 ⟨rfl, hk11⟩
      go_wp2_with fail
      go_ret
      exact ⟨rfl, HK.out.trans (HK10.out.trans hk11)⟩
    · rw [HRI.out] at hr; cases hr
    · rw [HRI.out] at hr; cases hr
  · have HK6 := Lib.hid hk6
    have HRI := Lib.hid hr
    have HNO := Lib.hid hno
    clear hr hk6 hno
    have HRP := Lib.hid (rfof_any lo' hi' p' m d0 _ B0 ms T sg L w6 (HRC.out.kp0 HK6.out) (HY.out.kp0 HK6.out) HM.out (by omega) (fun s hs => by have := HSZ.out s hs; omega) HBL.out)
    go_wp2_with fail
    refine HRP.out.mono ?_
    rintro e w7 ⟨hk7, ⟨hr, rfl⟩ | ⟨hr, _, rfl⟩ | ⟨hr, hal, _⟩⟩
    · rw [HRI.out] at hr; cases hr
    · have HK7 := Lib.hid (HK6.out.trans hk7)
      clear hk7 hr
      obtain ⟨t', ad', ht', e', _, hct⟩ := (HX.out.kp0 HK7.out).str (k := 0) (by rw [HN.out]; omega)
      injection e' with e'
      subst e'
      rw [HT0.out] at ht'
      injection ht' with ht'
      subst ht'
      rw [show ad0.add 0 = ad0 from by simp [Addr.add]] at hct
      have hn0i : (0 : Int) < (n : Int) := by omega
      have hn0n : 0 < n := hn1
      go_wp2_with fail
      go_region_held3 (fun w' => w'.cell? ad0 = some (.string t0)) (go_keep)
        (first
          | (go_at_call 13
             refine (keptT _ B0 m (m + 12) d0 _ _ ms _ ((HB5.out.kp0 (HK7.out.drew)).rd (HB5.out.kp0 (HK7.out.drew)).lt) (HY.out.kp0 (HK7.out.drew)) HM.out (by omega) (Nat.le_refl _)).mono ?_
             rintro e w8 ⟨rfl, hk8⟩
             have HK8 := Lib.hid (HK7.out.drew.trans hk8)
             have HZ8 := Lib.hid (((Kp.refl [] w7).drew).trans hk8)
             have hct8 := hk8.cell (show (World.drew _).cell? ad0 = some (.string t0) from hct) (by simp)
             clear hk8 hct)
          | (go_at_call 14
             refine (falike_any s t0 w8 (by omega) (by omega)).mono ?_
             rintro e w9 ⟨rfl, hd9⟩
             have HK9 := Lib.hid (HK8.out.trans (hd9.kp []))
             have HZ9 := Lib.hid (HZ8.out.trans (hd9.kp []))
             have hct9 := (hd9.kp []).cell hct8 (by simp)
             clear hd9 hct8)
          | (go_at_call 15
             refine (ralike_any s t0 w9 (by omega) (by omega)).mono ?_
             rintro e w10 ⟨rfl, hd10⟩
             have HK10 := Lib.hid (HK9.out.trans (hd10.kp []))
             have HZ10 := Lib.hid (HZ9.out.trans (hd10.kp []))
             have hct10 := (hd10.kp []).cell hct9 (by simp)
             clear hd10 hct9))
      clear hct10
      go_wp2_with fail
      refine (awake_f w10 (HT.out.kp0 HK10.out)).mono ?_
      rintro e w11 ⟨rfl, hk11⟩
      go_wp2_with fail
      go_ret
      exact ⟨rfl, HK.out.trans (HK10.out.trans hk11)⟩
    · obtain ⟨x, hx, hxn⟩ := HNO.out
      obtain ⟨r, hr2⟩ := hal x hx
      rw [hxn] at hr2
      cases hr2
  · have HK6 := Lib.hid hk6
    have HRI := Lib.hid hr
    have HAL := Lib.hid hall
    have HFR := Lib.hid hfr
    clear hr hk6 hall hfr
    have HRP := Lib.hid (rfof_any lo' hi' p' m d0 _ B0 ms T sg L w6 (HRC.out.kp0 HK6.out) (HY.out.kp0 HK6.out) HM.out (by omega) (fun s hs => by have := HSZ.out s hs; omega) HBL.out)
    go_wp2_with fail
    refine HRP.out.mono ?_
    rintro e w7 ⟨hk7, ⟨hr, rfl⟩ | ⟨hr, ⟨x, hx, hxn⟩, rfl⟩ | ⟨hr, hal, r, At, Ab, As, ct, cb, cs, n', N, m', rfl, hrf⟩⟩
    · rw [HRI.out] at hr; cases hr
    · obtain ⟨r, hr2⟩ := HAL.out x hx
      rw [hxn] at hr2
      cases hr2
    · obtain ⟨rlo, hrlo⟩ : ∃ rlo, rlo = w6.heap.size := ⟨_, rfl⟩
      obtain ⟨rhi, hrhi⟩ : ∃ rhi, rhi = w7.heap.size := ⟨_, rfl⟩
      rw [← hrlo, ← hrhi] at hrf
      have HRF := Lib.hid hrf
      have HK7 := Lib.hid (HK6.out.trans hk7)
      have H67 := Lib.hid hk7
      have HRL := Lib.hid (show (∀ g ∈ S, g < rlo) ∧ rhi ≤ w7.heap.size from ⟨fun g hg => by rw [hrlo]; exact (by obtain ⟨_, _, _, _, _, _, _, hv, _⟩ := HFR.out; exact hv.lt g hg), by omega⟩)
      have HW67 := Lib.hid (show w6.heap.size ≤ w7.heap.size from hk7.size)
      clear hk7 hr hal hrf hrlo hrhi
      obtain ⟨t', ad', ht', e', _, hct⟩ := (HX.out.kp0 HK7.out).str (k := 0) (by rw [HN.out]; omega)
      injection e' with e'
      subst e'
      rw [HT0.out] at ht'
      injection ht' with ht'
      subst ht'
      rw [show ad0.add 0 = ad0 from by simp [Addr.add]] at hct
      have hn0i : (0 : Int) < (n : Int) := by omega
      have hn0n : 0 < n := hn1
      go_wp2_with fail
      go_region_held3 (fun w' => w'.cell? ad0 = some (.string t0)) (go_keep)
        (first
          | (go_at_call 13
             refine (keptT _ B0 m (m + 12) d0 _ _ ms _ ((HB5.out.kp0 (HK7.out.drew)).rd (HB5.out.kp0 (HK7.out.drew)).lt) (HY.out.kp0 (HK7.out.drew)) HM.out (by omega) (Nat.le_refl _)).mono ?_
             rintro e w8 ⟨rfl, hk8⟩
             have HK8 := Lib.hid (HK7.out.drew.trans hk8)
             have HZ8 := Lib.hid (((Kp.refl [] w7).drew).trans hk8)
             have hct8 := hk8.cell (show (World.drew _).cell? ad0 = some (.string t0) from hct) (by simp)
             clear hk8 hct)
          | (go_at_call 14
             refine (falike_any s t0 w8 (by omega) (by omega)).mono ?_
             rintro e w9 ⟨rfl, hd9⟩
             have HK9 := Lib.hid (HK8.out.trans (hd9.kp []))
             have HZ9 := Lib.hid (HZ8.out.trans (hd9.kp []))
             have hct9 := (hd9.kp []).cell hct8 (by simp)
             clear hd9 hct8)
          | (go_at_call 15
             refine (ralike_any s t0 w9 (by omega) (by omega)).mono ?_
             rintro e w10 ⟨rfl, hd10⟩
             have HK10 := Lib.hid (HK9.out.trans (hd10.kp []))
             have HZ10 := Lib.hid (HZ9.out.trans (hd10.kp []))
             have hct10 := (hd10.kp []).cell hct9 (by simp)
             clear hd10 hct9))
      clear hct10
      have HFO := Lib.hid (show Fro w10 w5.heap.size w6.heap.size lo hi S f p T sg L ms from
        ⟨HFR.out.kp0 (H67.out.trans HZ10.out), HC.out.kp0 HK10.out, fun g hg => .inr (Nat.le_trans HHI.out (HFR.out.low g hg)), HT.out.kp0 HK10.out, fun hm => by have h1 := HFR.out.low _ hm; have h2 := HT.out.lt; omega, ⟨Nat.le_trans HHI.out HK10.out.size, Nat.le_trans HW67.out HZ10.out.size⟩, fun x hx => ⟨HAL.out x hx, by have := HSZ.out x hx; omega⟩⟩)
      have HRO := Lib.hid (HRF.out.kp0 HZ10.out)
      have hn'9 : n' ≤ 1000000 := by rw [← HRF.out.nt, HM.out]; omega
      have HSR := Lib.hid (show ∀ g ∈ S, g < rlo ∨ rhi ≤ g from fun g hg => .inl (HRL.out.1 g hg))
      have HLW := Lib.hid (show ∀ g ∈ S, w5.heap.size ≤ g from HFR.out.low)
      clear HRP HRF HFR H67 HW67
      go_wp2_with fail
      refine (same12_any i s n' N m' w5.heap.size w6.heap.size lo hi rlo rhi f r p ct cb cs At Ab As S T sg L ms w10 HFO.out HRO.out HRI.out hn'9 HSR.out (Nat.le_trans HRL.out.2 HZ10.out.size)).mono ?_
      rintro e w11 ⟨rfl, hk11⟩
      have HK11 := Lib.hid (show Kp [] w w11 from (HK.out.trans HK10.out).trans' hk11 (fun x hx => .inr (Nat.le_trans HK.out.size (HLW.out x hx))))
      have HT11 := Lib.hid (show Tab64 w11 from HFO.out.tab.kp hk11 HFO.out.tabS)
      clear hk11
      go_wp2_with fail
      refine (awake_f w11 HT11.out).mono ?_
      rintro e w12 ⟨rfl, hk12⟩
      go_wp2_with fail
      go_ret
      exact ⟨rfl, HK11.out.trans hk12⟩
end Go.Proofs.YtlaionhlejmjdaaGreatDoor
namespace Go.Proofs.YtlaionhlejmjdaaGreatDoor
open Go.RowKit

set_option maxRecDepth 100000 in
set_option maxHeartbeats 4000000 in
theorem fread_neg (lo hi p q N : Nat) (n : Int) (S : List Nat) (cc : Bool) (T : CT) (sg : List Nat) (ls : List Int) (L : List Bool) (w : World) (h : CodeM w lo hi p T sg ls) (hv : VecM w S q L cc) (hN : L.length = N) (hn : n < 0) (hS : ∀ g ∈ S, g < lo ∨ hi ≤ g) :
    Calls Tryz.prog 18 #[.pointer (some ⟨p, 0, none⟩), .int .i64 n, .pointer (some ⟨q, 0, none⟩)] w fun e w' => e = .returned (.tuple #[.pointer none, .int .i64 2]) ∧ Kp S w w' := by
  have H := Lib.hid h; clear h
  have HV := Lib.hid hv; clear hv
  have HN := Lib.hid hN; clear hN
  have HS := Lib.hid hS; clear hS
  have hnd : decide (n < 0) = true := by simpa using hn
  go_enter Tryz.func18, Tryz.ntmps18
  go_wp2_with fail
  refine (rnew_yes S q N 0 L cc w HV.out HN.out (by omega)).mono ?_
  rintro e w1 ⟨rp, rfl, hr1, hv1, hrp, hrpS, hk1⟩
  have HK := Lib.hid hk1
  have HC1 := Lib.hid (H.out.kp hk1 HS.out)
  clear hr1 hv1 hrp hrpS hk1
  go_wp2_with fail
  refine (csigns_any lo hi p T sg ls w1 HC1.out).mono ?_
  rintro e w2 ⟨As, ns, cs, hns, rfl, hown2, hk2⟩
  have hn1 : 1 ≤ ns := by rw [hns]; exact H.out.1.2.2.2.2.1
  have hnz : ((ns : Int) == 0) = false := by simp; omega
  replace HK := Lib.hid (HK.out.trans (hk2.mono (by simp)))
  clear hns hown2 hk2
  go_wp2_with fail
  go_ret2
  exact ⟨rfl, HK.out⟩
set_option maxRecDepth 100000 in
set_option maxHeartbeats 4000000 in
theorem rfread_neg (p N cA : Nat) (n : Int) (A0 : Option Addr) (w : World) (hn : n < 0) :
    Calls Tryz.prog 19 #[.pointer (some ⟨p, 0, none⟩), .int .i64 n, .slice A0 N cA] w fun e w' => e = .returned (.tuple #[.pointer none, .int .i64 2]) ∧ w = w' := by
  have hnd : decide (n < 0) = true := by simpa using hn
  go_enter Tryz.func19, Tryz.ntmps19
  go_wp2_with fail
  go_ret2
  exact ⟨rfl, rfl⟩
set_option maxRecDepth 100000 in
set_option maxHeartbeats 4000000 in
theorem frontreads_any (A0 B0 : Option Addr) (n c0 N cN : Nat) (ss : List ByteArray) (L : List Bool) (k i : Int) (s : ByteArray) (w : World) (h0 : Rd w w.heap.size A0 (ss.map .string)) (hm0 : Rd w w.heap.size B0 (L.map .bool)) (hn : ss.length = n) (hm : L.length = N) (hcN : N ≤ cN) (hb : n ≤ 140737488351232) (hb' : N ≤ 140737488351232) (hl : ∀ s ∈ ss, s.size ≤ 140737488351232) (hs : s.size ≤ 140737488351232) (ht : Tab64 w) :
    Calls Tryz.prog 4 #[.slice A0 n c0, .int .i64 k, .slice B0 N cN, .int .i64 i, .string s] w fun e w' => e = .returned (.bool true) ∧ Kp [] w w' := by
  have HX := Lib.hid h0
  have HY := Lib.hid hm0
  clear h0 hm0
  have HN := Lib.hid hn; clear hn
  have HM := Lib.hid hm; clear hm
  have HL := Lib.hid hl; clear hl
  have HT := Lib.hid ht; clear ht
  go_enter Tryz.func4, Tryz.ntmps4
  go_wp2_with fail
  refine (fsize12_any A0 n c0 _ ss w HX.out HN.out hb HL.out).mono ?_
  rintro e w1 ⟨⟨Z, rfl, hZ, hnZ, hZs⟩, rfl⟩
  have HZS := Lib.hid hZs
  clear hZs
  by_cases hZ6 : 900 < Z + N + s.size
  · have hzd : decide ((900 : Int) < (Z : Int) + (N : Int) + (s.size : Int)) = true := by simp; omega
    go_wp2_with fail
    refine (awake_f w HT.out).mono ?_
    rintro e w1 ⟨rfl, hk1⟩
    go_wp2_with fail
    go_ret
    exact ⟨rfl, hk1⟩
  have HSL := Lib.hid (show (symL ss).length ≤ 900 from Nat.le_trans (HZS.out (by omega)) (by omega))
  have hzd : decide ((900 : Int) < (Z : Int) + (N : Int) + (s.size : Int)) = false := by simp; omega
  have hn9 : n ≤ 900 := by omega
  have hN9 : N ≤ 900 := by omega
  have hs9 : s.size ≤ 900 := by omega
  clear hb hb'
  by_cases hn0 : n = 0
  · subst hn0
    go_wp2_with fail
    refine (awake_f w HT.out).mono ?_
    rintro e w1 ⟨rfl, hk1⟩
    go_wp2_with fail
    go_ret
    exact ⟨rfl, hk1⟩
  have hn0' : ((n : Int) == 0) = false := by simp; omega
  have hn1 : 1 ≤ n := by omega
  by_cases hk9 : 900 < k
  · have hkd : decide ((900 : Int) < k) = true := by simpa using hk9
    go_wp2_with fail
    refine (awake_f w HT.out).mono ?_
    rintro e w1 ⟨rfl, hk1⟩
    go_wp2_with fail
    go_ret
    exact ⟨rfl, hk1⟩
  have hkd : decide ((900 : Int) < k) = false := by simpa using hk9
  go_wp2_with fail
  clear hzd hZ6 hZ hnZ hn0' hkd
  refine (aof_any A0 n c0 _ ss w HX.out HN.out hn1 (by have := HSL.out; omega) (Nat.le_refl _)).mono ?_
  rintro e w3 ⟨p, rfl, hcode, hk3⟩
  obtain ⟨lo, hlo⟩ : ∃ lo, lo = w.heap.size := ⟨_, rfl⟩
  obtain ⟨hi, hhi⟩ : ∃ hi, hi = w3.heap.size := ⟨_, rfl⟩
  rw [← hlo, ← hhi] at hcode
  have HC := Lib.hid hcode
  have HHI := Lib.hid (show hi ≤ w3.heap.size by omega)
  have HK := Lib.hid hk3
  replace HT := Lib.hid (HT.out.kp0 hk3)
  replace HX := Lib.hid (HX.out.kp0 (hk3))
  replace HY := Lib.hid (HY.out.kp0 (hk3))
  clear hcode hlo hhi hk3
  go_wp2_with fail
  refine (rof_any A0 n c0 _ ss w3 HX.out HN.out hn1 (by have := HSL.out; omega) HK.out.size).mono ?_
  rintro e w4 ⟨p', rfl, hrc, hk4⟩
  obtain ⟨lo', hlo'⟩ : ∃ lo', lo' = w3.heap.size := ⟨_, rfl⟩
  obtain ⟨hi', hhi'⟩ : ∃ hi', hi' = w4.heap.size := ⟨_, rfl⟩
  rw [← hlo', ← hhi'] at hrc
  obtain ⟨T, hT⟩ : ∃ T, T = treeC (smO (symL ss)) (lensL (wtO (symL ss))) := ⟨_, rfl⟩
  obtain ⟨ls, hL⟩ : ∃ L, L = lensL (wtO (symL ss)) := ⟨_, rfl⟩
  obtain ⟨sg, hsg⟩ : ∃ sg, sg = (smO (symL ss)).map Int.toNat := ⟨_, rfl⟩
  rw [← hT, ← hsg, ← hL] at hrc HC
  have HRC := Lib.hid hrc
  have HHI' := Lib.hid (show hi' ≤ w4.heap.size by omega)
  replace HHI := Lib.hid (Nat.le_trans HHI.out hk4.size)
  replace HK := Lib.hid (HK.out.trans hk4)
  replace HT := Lib.hid (HT.out.kp0 hk4)
  replace HX := Lib.hid (HX.out.kp0 (hk4))
  replace HY := Lib.hid (HY.out.kp0 (hk4))
  replace HC := Lib.hid (HC.out.kp0 (hk4))
  clear hrc hlo' hhi' hk4 hT hsg hL
  go_wp2_with fail
  refine (bof_any B0 N cN _ L w4 HY.out HM.out (by omega)).mono ?_
  rintro e w5 ⟨S, q, rfl, hv5, hS5, hk5⟩
  have HV := Lib.hid hv5
  have HVN := Lib.hid hS5
  have H45 := Lib.hid hk5
  have HC5 := Lib.hid (HC.out.kp0 hk5)
  have HT5 := Lib.hid (HT.out.kp0 hk5)
  have HK5 := Lib.hid (HK.out.trans hk5)
  have HSA := Lib.hid (show ∀ g ∈ S, g < lo ∨ hi ≤ g from fun g hg => .inr (Nat.le_trans HHI.out (hS5 g hg)))
  clear hv5 hS5 hk5
  by_cases hkn : k < 0
  · go_wp2_with fail
    refine (fread_neg lo hi p q N k S false T sg ls L w5 HC5.out HV.out HM.out hkn HSA.out).mono ?_
    rintro e w6 ⟨rfl, hk6⟩
    have HK6 := Lib.hid (HK5.out.trans' hk6 (fun x hx => .inr (Nat.le_trans HK.out.size (HVN.out x hx))))
    have HT6 := Lib.hid (show Tab64 w6 from HT5.out.kp hk6 (fun hm => by have h1 := HVN.out _ hm; have h2 := HT.out.lt; omega))
    clear hk6
    go_wp2_with fail
    refine (rfread_neg p' N cN k B0 w6 hkn).mono ?_
    rintro e w7 ⟨rfl, rfl⟩
    go_wp2_with fail
    refine (awake_f w6 HT6.out).mono ?_
    rintro e w8 ⟨rfl, hk8⟩
    go_wp2_with fail
    go_ret
    exact ⟨rfl, HK6.out.trans hk8⟩
  · obtain ⟨m, rfl⟩ : ∃ m : Nat, k = (m : Int) := ⟨k.toNat, by omega⟩
    have hm9 : m ≤ 900 := by omega
    have HALL := Lib.hid (readB_small HC.out.1 (L := L) (by rw [HM.out]; omega) m)
    clear hkn hk9
    go_wp2_with fail
    refine (fread_any lo hi p q m N S false T sg ls L w5 HC5.out HV.out HM.out HALL.out (by omega) (Nat.le_trans HHI.out H45.out.size) HSA.out HT5.out (fun hm => by have h1 := HVN.out _ hm; have h2 := HT.out.lt; omega)).mono ?_
    rintro e w6 ⟨⟨V', c', hv', hg', hk6⟩, hcases⟩
    have HK6 := Lib.hid (HK5.out.trans' hk6 (fun x hx => .inr (Nat.le_trans HK.out.size (HVN.out x hx))))
    have H46 := Lib.hid (show Kp [] w4 w6 from H45.out.trans' hk6 (fun x hx => .inr (HVN.out x hx)))
    have HT6 := Lib.hid (show Tab64 w6 from HT.out.kp0 H46.out)
    have HHI6 := Lib.hid (show hi ≤ w6.heap.size from Nat.le_trans HHI.out H46.out.size)
    have HHJ6 := Lib.hid (show hi' ≤ w6.heap.size from Nat.le_trans HHI'.out H46.out.size)
    have HRR := Lib.hid (rfread_any lo' hi' p' m N cN B0 T sg ls L w6 (HRC.out.kp0 H46.out) ((HY.out.kp0 H46.out).bound (Nat.le_trans HK.out.size H46.out.size)) HM.out hcN (by omega) HALL.out (by omega) HHJ6.out)
    clear hv' hg'
    rcases hcases with ⟨hno, rfl⟩ | ⟨us, Sf, f, lo2, hi2, hyes, hue, hul, hn3, rfl, hfr, hl2, hh2⟩
    · have HNO := Lib.hid hno
      clear hno hk6
      go_wp2_with fail
      refine HRR.out.mono ?_
      rintro e w7 ⟨hk7, ⟨_, rfl⟩ | ⟨us, _, _, _, _, _, _, _, _, _, _, hyes, _⟩⟩
      · have HT7 := Lib.hid (show Tab64 w7 from HT6.out.kp0 hk7)
        have HK7 := Lib.hid (HK6.out.trans hk7)
        clear hk7
        go_wp2_with fail
        refine (awake_f w7 HT7.out).mono ?_
        rintro e w8 ⟨rfl, hk8⟩
        go_wp2_with fail
        go_ret
        exact ⟨rfl, HK7.out.trans hk8⟩
      · rw [HNO.out] at hyes
        cases hyes
    · have HYES := Lib.hid hyes
      have HFR := Lib.hid hfr
      have HUE := Lib.hid hue
      have HL2 := Lib.hid (show w5.heap.size ≤ lo2 ∧ hi2 ≤ w6.heap.size from ⟨hl2, hh2⟩)
      have hul9 : us.length ≤ 900 := by omega
      clear hyes hfr hue hl2 hh2 hk6
      go_wp2_with fail
      refine HRR.out.mono ?_
      rintro e w7 ⟨hk7, ⟨hno, _⟩ | ⟨us', r, At, Ab, As, ct, cb, cs, n', N', m', hyes', rfl, hrf⟩⟩
      · rw [HYES.out] at hno
        cases hno
      · rw [HYES.out] at hyes'
        injection hyes' with hyes'
        subst hyes'
        have HRI := Lib.hid (show riseT us = true from by
          have h1 := HYES.out
          unfold readT at h1
          cases h2 : readK T L m with
          | none => rw [h2] at h1; cases h1
          | some x =>
            rw [h2] at h1
            simp only [Option.bind_some] at h1
            split at h1
            · rename_i h3
              injection h1 with h1
              rw [← h1]
              exact h3.1
            · cases h1)
        have HFO := Lib.hid (show Fro w7 lo2 hi2 lo hi Sf f p T sg ls us from
          ⟨HFR.out.kp0 hk7, HC.out.kp0 (H46.out.trans hk7), fun g hg => .inr (by have h1 := HFR.out.low g hg; have h2 := HL2.out.1; have h3 := H45.out.size; have h4 := HHI.out; omega), HT6.out.kp0 hk7, fun hm => by have h1 := HFR.out.low _ hm; have h2 := HL2.out.1; have h3 := H45.out.size; have h4 := HT.out.lt; omega, ⟨Nat.le_trans HHI6.out hk7.size, Nat.le_trans HL2.out.2 hk7.size⟩, HUE.out⟩)
        have HRO := Lib.hid hrf
        have hn'9 : n' ≤ 1000000 := by rw [← hrf.nt]; omega
        have HSR := Lib.hid (show ∀ g ∈ Sf, g < w6.heap.size ∨ w7.heap.size ≤ g from fun g hg => .inl (HFR.out.lt g hg))
        have HLW := Lib.hid (show ∀ g ∈ Sf, w5.heap.size ≤ g from fun g hg => Nat.le_trans HL2.out.1 (HFR.out.low g hg))
        have HK7 := Lib.hid (HK6.out.trans hk7)
        clear hrf hk7 HRR HFR
        go_wp2_with fail
        refine (same12_any i s n' N' m' lo2 hi2 lo hi w6.heap.size w7.heap.size f r p ct cb cs At Ab As Sf T sg ls us w7 HFO.out HRO.out HRI.out hn'9 HSR.out (Nat.le_refl _)).mono ?_
        rintro e w11 ⟨rfl, hk11⟩
        have HK11 := Lib.hid (show Kp [] w w11 from HK7.out.trans' hk11 (fun x hx => .inr (Nat.le_trans HK5.out.size (HLW.out x hx))))
        have HT11 := Lib.hid (show Tab64 w11 from HFO.out.tab.kp hk11 HFO.out.tabS)
        clear hk11
        go_wp2_with fail
        refine (awake_f w11 HT11.out).mono ?_
        rintro e w12 ⟨rfl, hk12⟩
        go_wp2_with fail
        go_ret
        exact ⟨rfl, HK11.out.trans hk12⟩
end Go.Proofs.YtlaionhlejmjdaaGreatDoor
namespace Go.Proofs.YtlaionhlejmjdaaGreatDoor
open Go.RowKit

/-- No front: nil, or one that was not made. -/
def NoFr (w : World) (v : Value) : Prop := v = .pointer none ∨ ∃ p, v = .pointer (some ⟨p, 0, none⟩) ∧ w.cell? ⟨p, 1, none⟩ = some (.pointer none)
theorem NoFr.kp0 {w w' : World} {v : Value} (h : NoFr w v) (hk : Kp [] w w') : NoFr w' v := by
  rcases h with h | ⟨p, h1, h2⟩
  · exact .inl h
  · exact .inr ⟨p, h1, hk.cell h2 (by simp)⟩
set_option maxRecDepth 100000 in
set_option maxHeartbeats 4000000 in
theorem nfthere_any (v : Value) (w : World) (h : NoFr w v) : Calls Tryz.prog 56 #[v] w fun e w' => e = .returned (.bool false) ∧ w = w' := by
  rcases h with rfl | ⟨p, rfl, hc⟩
  all_goals
    go_enter Tryz.func56, Tryz.ntmps56
    go_wp2_with fail
    go_ret
    exact ⟨rfl, rfl⟩
set_option maxRecDepth 100000 in
set_option maxHeartbeats 4000000 in
theorem nflen_any (v : Value) (w : World) (h : NoFr w v) : Calls Tryz.prog 21 #[v] w fun e w' => e = .returned (.int .i64 0) ∧ w = w' := by
  have H := Lib.hid h
  clear h
  go_enter Tryz.func21, Tryz.ntmps21
  go_wp2_with fail
  refine (nfthere_any v w H.out).mono ?_
  rintro e w1 ⟨rfl, rfl⟩
  go_wp2_with fail
  go_ret
  exact ⟨rfl, rfl⟩
set_option maxRecDepth 100000 in
set_option maxHeartbeats 4000000 in
theorem nfstarts_any (v : Value) (w : World) (h : NoFr w v) : Calls Tryz.prog 46 #[v] w fun e w' => e = .returned (.slice none 0 0) ∧ w = w' := by
  have H := Lib.hid h
  clear h
  go_enter Tryz.func46, Tryz.ntmps46
  go_wp2_with fail
  refine (nfthere_any v w H.out).mono ?_
  rintro e w1 ⟨rfl, rfl⟩
  go_wp2_with fail
  go_ret
  exact ⟨rfl, rfl⟩
set_option maxRecDepth 100000 in
set_option maxHeartbeats 4000000 in
theorem nfbits_any (v : Value) (w : World) (h : NoFr w v) : Calls Tryz.prog 22 #[v] w fun e w' => e = .returned (.pointer none) ∧ w = w' := by
  have H := Lib.hid h
  clear h
  go_enter Tryz.func22, Tryz.ntmps22
  go_wp2_with fail
  refine (nfthere_any v w H.out).mono ?_
  rintro e w1 ⟨rfl, rfl⟩
  go_wp2_with fail
  go_ret
  exact ⟨rfl, rfl⟩
set_option maxRecDepth 100000 in
set_option maxHeartbeats 4000000 in
theorem nffind_nil (s : ByteArray) (w : World) : Calls Tryz.prog 25 #[.pointer none, .string s] w fun e w' => e = .returned (.tuple #[.int .i64 0, .bool false]) ∧ Kp [] w w' := by
  obtain ⟨a, ha⟩ : ∃ a, a = w.heap.size := ⟨_, rfl⟩
  obtain ⟨w0, hw0⟩ : ∃ w0, w0 = (((w.alloc (.cells #[.pointer none] 32)).alloc (.cells #[.string s] 9)).alloc (.cells #[.int .i64 0] 3)).alloc (.cells #[.bool false] 4) := ⟨_, rfl⟩
  have hk0 : Kp [] w w0 := by rw [hw0]; exact ((((Kp.refl [] w).alloc _).alloc _).alloc _).alloc _
  have hb1 : Blk w0 a 32 [.pointer none] := by
    rw [hw0, ha]
    exact (Blk.new w 32 [.pointer none]).kp0 ((((Kp.refl [] _).alloc _).alloc _).alloc _)
  have hx3 : Blk w0 (a + 1 + 1) 3 [.int .i64 0] := by
    rw [hw0, ha]
    have := (Blk.new ((w.alloc (.cells #[.pointer none] 32)).alloc (.cells #[.string s] 9)) 3 [.int .i64 0]).kp0 ((Kp.refl [] _).alloc (.cells #[.bool false] 4))
    simpa using this
  have hx4 : Blk w0 (a + 1 + 1 + 1) 4 [.bool false] := by
    rw [hw0, ha]
    have := Blk.new (((w.alloc (.cells #[.pointer none] 32)).alloc (.cells #[.string s] 9)).alloc (.cells #[.int .i64 0] 3)) 4 [.bool false]
    simpa using this
  have hc1 : w0.cell? ⟨a, 0, none⟩ = some (.pointer none) := by rw [hb1.cell]; rfl
  have hc3 : w0.cell? ⟨a + 1 + 1, 0, none⟩ = some (.int .i64 0) := by rw [hx3.cell]; rfl
  have hf3 := hx3.free 0
  have hx41 := hx4.far (p := ⟨a + 1 + 1, 0, none⟩) (by simp) (.int .i64 0)
  have hc4 : (w0.setCell ⟨a + 1 + 1, 0, none⟩ (.int .i64 0)).cell? ⟨a + 1 + 1 + 1, 0, none⟩ = some (.bool false) := by rw [hx41.cell]; rfl
  have hf4 := hx41.free 0
  obtain ⟨w3, hw3⟩ : ∃ w3, w3 = (w0.setCell ⟨a + 1 + 1, 0, none⟩ (.int .i64 0)).setCell ⟨a + 1 + 1 + 1, 0, none⟩ (.bool false) := ⟨_, rfl⟩
  have hb3 : Blk w3 (a + 1 + 1) 3 [.int .i64 0] := by rw [hw3]; exact (hx3.set_ 0 (.int .i64 0)).far (p := ⟨a + 1 + 1 + 1, 0, none⟩) (by simp) _
  have hb4 : Blk w3 (a + 1 + 1 + 1) 4 [.bool false] := by rw [hw3]; exact hx41.set_ 0 (.bool false)
  have hks : Kp [a + 1 + 1, a + 1 + 1 + 1] w0 w3 := by rw [hw3]; exact ((Kp.refl [a + 1 + 1, a + 1 + 1 + 1] w0).setCell (.inl (by simp)) _).setCell (.inl (by simp)) _
  have HK3 := Lib.hid (show Kp [] w w3 from hk0.trans' hks (fun x hx => by
    simp only [List.mem_cons, List.not_mem_nil, or_false] at hx
    exact .inr (by omega)))
  have HQ3 := Lib.hid (show w3.cell? ⟨a + 1 + 1, 0, none⟩ = some (.int .i64 0) from by rw [hb3.cell]; rfl)
  have HQ4 := Lib.hid (show w3.cell? ⟨a + 1 + 1 + 1, 0, none⟩ = some (.bool false) from by rw [hb4.cell]; rfl)
  have HW3 := Lib.hid hw3
  have HW0 := Lib.hid hw0
  have HA := Lib.hid ha
  clear ha hw0 hk0 hb1 hx3 hx4 hx41 hw3 hb3 hb4 hks
  go_enter Tryz.func25, Tryz.ntmps25
  go_wp2_with fail
  rw [← HW0.out, ← HA.out]
  refine (nfthere_any (.pointer none) w0 (.inl rfl)).mono ?_
  rintro e w1 ⟨rfl, rfl⟩
  go_wp2_with fail
  (try simp only [Exit.inBlock, Exit.then])
  rw [← HW3.out]
  exact bodyPost_ret (v := .tuple #[.int .i64 0, .bool false]) (results_cell2 rfl _ _ ⟨a + 1 + 1, 0, none⟩ ⟨a + 1 + 1 + 1, 0, none⟩ _ _ rfl rfl HQ3.out HQ4.out (agg_int _) (agg_bool _)) rfl ⟨rfl, HK3.out⟩
set_option maxRecDepth 100000 in
set_option maxHeartbeats 4000000 in
theorem nftext_any (v : Value) (w : World) (h : NoFr w v) :
    Calls Tryz.prog 24 #[v, .int .i64 0] w fun e w' => e = .returned (.tuple #[.string ⟨#[]⟩, .bool false]) ∧ Kp [] w w' := by
  obtain ⟨w0, hw0⟩ : ∃ w0, w0 = (w.alloc (.cells #[.int .i64 0] 3)).alloc (.cells #[.string ⟨#[]⟩] 9) := ⟨_, rfl⟩
  obtain ⟨ii, hii⟩ : ∃ ii, ii = w.heap.size := ⟨_, rfl⟩
  have hk0 : Kp [] w w0 := by rw [hw0]; exact ((Kp.refl [] w).alloc _).alloc _
  have hbi : Blk w0 ii 3 [.int .i64 0] := by
    rw [hw0, hii]
    exact (Blk.new w 3 [.int .i64 0]).kp0 ((Kp.refl [] _).alloc _)
  have hbo : Blk w0 (ii + 1) 9 [.string ⟨#[]⟩] := by
    rw [hw0, hii]
    have := Blk.new (w.alloc (.cells #[.int .i64 0] 3)) 9 [.string ⟨#[]⟩]
    simpa using this
  have hci : w0.cell? ⟨ii, 0, none⟩ = some (.int .i64 0) := by rw [hbi.cell]; rfl
  have HF := Lib.hid h
  have HBO := Lib.hid hbo
  have HK0 := Lib.hid hk0
  have HII := Lib.hid hii
  have HW0 := Lib.hid hw0
  have hsz := Lib.hid (show w.heap.size ≤ ii + 1 by omega)
  clear h hw0 hii hk0 hbi hbo
  go_enter Tryz.func24, Tryz.ntmps24
  go_wp2_with fail
  rw [← HW0.out, ← HII.out]
  go_region_held3 (fun w' => w'.cell? ⟨ii, 0, none⟩ = some (.int .i64 0)) (go_keep)
    (first
      | (go_at_call 21
         refine (nflen_any v _ (HF.out.kp0 (HK0.out.drew))).mono ?_
         rintro e w1 ⟨rfl, rfl⟩))
  obtain ⟨w1, hw1⟩ : ∃ w1, w1 = w0.drew := ⟨_, rfl⟩
  rw [← hw1]
  have HK1 := Lib.hid (show Kp [] w w1 from by rw [hw1]; exact HK0.out.drew)
  have HB1 := Lib.hid (show Blk w1 (ii + 1) 9 [.string ⟨#[]⟩] from by rw [hw1]; exact HBO.out.drew)
  clear hw1
  have HEND := Lib.hid (show Kp [] w (w1.setCell ⟨ii + 1, 0, none⟩ (.string ⟨#[]⟩)) from by
    have hks : Kp [ii + 1] w1 (w1.setCell ⟨ii + 1, 0, none⟩ (.string ⟨#[]⟩)) := (Kp.refl _ _).setCell (.inl (by simp)) _
    exact HK1.out.trans' hks (fun x hx => .inr (by rw [List.mem_singleton.1 hx]; exact hsz.out)))
  have hcc : w1.cell? ⟨ii + 1, 0, none⟩ = some (.string ⟨#[]⟩) := by rw [HB1.out.cell]; rfl
  have hff := HB1.out.free 0
  have hcd : (w1.setCell ⟨ii + 1, 0, none⟩ (.string ⟨#[]⟩)).cell? ⟨ii + 1, 0, none⟩ = some (.string ⟨#[]⟩) := by rw [(HB1.out.set_ 0 (.string ⟨#[]⟩)).cell]; rfl
  go_wp2_with fail
  (try simp only [Exit.inBlock, Exit.then])
  exact bodyPost_ret (v := .tuple #[.string ⟨#[]⟩, .bool false]) (results_cell_t rfl _ _ ⟨ii + 1, 0, none⟩ _ _ rfl rfl hcd (agg_str _)) rfl ⟨rfl, HEND.out⟩
set_option maxRecDepth 100000 in
set_option maxHeartbeats 4000000 in
theorem nvthere_nil (w : World) : Calls Tryz.prog 58 #[.pointer none] w fun e w' => e = .returned (.bool false) ∧ w = w' := by
  go_enter Tryz.func58, Tryz.ntmps58
  go_wp2_with fail
  go_ret
  exact ⟨rfl, rfl⟩
set_option maxRecDepth 100000 in
set_option maxHeartbeats 4000000 in
theorem nvset_nil (w : World) : Calls Tryz.prog 88 #[.pointer none, .bool false, .slice none 0 0] w fun e w' => e = .returned (.int .i64 1) ∧ Kp [] w w' := by
  go_enter Tryz.func88, Tryz.ntmps88
  go_wp2_with fail
  refine (nvthere_nil _).mono ?_
  rintro e w1 ⟨rfl, rfl⟩
  go_wp2_with fail
  go_ret
  exact ⟨rfl, (Kp.refl [] w).alloc _⟩
set_option maxRecDepth 100000 in
set_option maxHeartbeats 4000000 in
theorem nnew_nil (w : World) : Calls Tryz.prog 49 #[.pointer none, .int .i64 0] w fun e w' => e = .returned (.tuple #[.pointer none, .int .i64 1]) ∧ Kp [] w w' := by
  go_enter Tryz.func49, Tryz.ntmps49
  go_wp2_with fail
  refine (nvset_nil w).mono ?_
  rintro e w1 ⟨rfl, hk⟩
  go_wp2_with fail
  go_ret2
  exact ⟨rfl, hk⟩
set_option maxRecDepth 100000 in
set_option maxHeartbeats 4000000 in
theorem fread_nov (lo hi p : Nat) (k : Int) (T : CT) (sg : List Nat) (ls : List Int) (w : World) (h : CodeM w lo hi p T sg ls) :
    Calls Tryz.prog 18 #[.pointer (some ⟨p, 0, none⟩), .int .i64 k, .pointer none] w fun e w' => e = .returned (.tuple #[.pointer none, .int .i64 1]) ∧ Kp [] w w' := by
  have H := Lib.hid h
  clear h
  go_enter Tryz.func18, Tryz.ntmps18
  go_wp2_with fail
  refine (nnew_nil w).mono ?_
  rintro e w1 ⟨rfl, hk1⟩
  have HK := Lib.hid hk1
  have HC1 := Lib.hid (H.out.kp0 hk1)
  clear hk1
  go_wp2_with fail
  refine (csigns_any lo hi p T sg ls w1 HC1.out).mono ?_
  rintro e w2 ⟨As, ns, cs, hns, rfl, hown2, hk2⟩
  have hn1 : 1 ≤ ns := by rw [hns]; exact H.out.1.2.2.2.2.1
  have hnz : ((ns : Int) == 0) = false := by simp; omega
  replace HK := Lib.hid (HK.out.trans hk2)
  clear hns hown2 hk2
  go_wp2_with fail
  go_ret2
  exact ⟨rfl, HK.out⟩
set_option maxRecDepth 100000 in
set_option maxHeartbeats 4000000 in
theorem fread_noc (q N : Nat) (k : Int) (S : List Nat) (cc : Bool) (L : List Bool) (w : World) (hv : VecM w S q L cc) (hN : L.length = N) :
    Calls Tryz.prog 18 #[.pointer none, .int .i64 k, .pointer (some ⟨q, 0, none⟩)] w fun e w' => e = .returned (.tuple #[.pointer none, .int .i64 1]) ∧ Kp S w w' := by
  have HV := Lib.hid hv; clear hv
  have HN := Lib.hid hN; clear hN
  go_enter Tryz.func18, Tryz.ntmps18
  go_wp2_with fail
  refine (rnew_yes S q N 0 L cc w HV.out HN.out (by omega)).mono ?_
  rintro e w1 ⟨rp, rfl, hr1, hv1, hrp, hrpS, hk1⟩
  have HK := Lib.hid hk1
  clear hr1 hv1 hrp hrpS hk1
  go_wp2_with fail
  refine (nsigns_any (.pointer none) w1 (.inl rfl)).mono ?_
  rintro e w2 ⟨rfl, rfl⟩
  go_wp2_with fail
  go_ret2
  exact ⟨rfl, HK.out⟩
set_option maxRecDepth 100000 in
set_option maxHeartbeats 4000000 in
theorem none12_any (w : World) : Calls Tryz.prog 20 #[] w fun e w' => e = .returned (.bool true) ∧ Kp [] w w' := by
  go_enter Tryz.func20, Tryz.ntmps20
  go_wp2_with fail
  obtain ⟨z, hz⟩ : ∃ z, z = w.heap.size := ⟨_, rfl⟩
  obtain ⟨w1, hw1⟩ : ∃ w1, w1 = w.alloc (.cells #[.pointer none, .pointer none, .slice none 0 0, .int .i64 0] 74) := ⟨_, rfl⟩
  obtain ⟨w2, hw2⟩ : ∃ w2, w2 = w1.alloc (.cells #[.string ⟨#[97]⟩] 9) := ⟨_, rfl⟩
  rw [← hw1, ← hw2, ← hz]
  have h1s : w1.heap.size = z + 1 := by rw [hw1, hz]; simp
  have hk1 : Kp [] w w1 := by rw [hw1]; exact (Kp.refl [] w).alloc _
  have hk2 : Kp [] w1 w2 := by rw [hw2]; exact (Kp.refl [] w1).alloc _
  have HZ := Lib.hid (show NoFr w1 (.pointer (some ⟨z, 0, none⟩)) from .inr ⟨z, rfl, by
    have h9 : Blk w1 z 74 [.pointer none, .pointer none, .slice none 0 0, .int .i64 0] := by rw [hw1, hz]; exact Blk.new w 74 [.pointer none, .pointer none, .slice none 0 0, .int .i64 0]
    rw [h9.cell]; rfl⟩)
  have HX := Lib.hid (show Rd w2 (z + 2) (some ⟨z + 1, 0, none⟩) (([⟨#[97]⟩] : List ByteArray).map .string) from by
    have h9 := Rd.new w1 #[.string ⟨#[97]⟩] 9 (0, 0)
    rw [← hw2, h1s] at h9
    exact h9)
  have HSZ := Lib.hid (show w2.heap.size = z + 2 from by rw [hw2]; simp [h1s])
  have HK := Lib.hid (hk1.trans hk2)
  replace HZ := Lib.hid (HZ.out.kp0 hk2)
  clear hw1 hw2 hz h1s hk1 hk2
  refine (aof_any (some ⟨z + 1, 0, none⟩) 1 1 (z + 2) [⟨#[97]⟩] w2 HX.out rfl (by omega) (by decide) (by rw [HSZ.out]; exact Nat.le_refl _)).mono ?_
  rintro e w3 ⟨p, rfl, hcode, hk3⟩
  have HC := Lib.hid hcode
  replace HK := Lib.hid (HK.out.trans hk3)
  replace HZ := Lib.hid (HZ.out.kp0 hk3)
  have HW3 := Lib.hid (show z + 2 ≤ w3.heap.size from by rw [← HSZ.out]; exact hk3.size)
  clear hcode hk3 HX HSZ
  go_wp2_with fail
  refine (bof_any none 0 0 0 [] w3 (Rd.nil _ _ _) rfl (by omega)).mono ?_
  rintro e w4 ⟨S, q, rfl, hv4, hS4, hk4⟩
  have HV := Lib.hid hv4
  have HV3 := Lib.hid hS4
  have HVN := Lib.hid (show ∀ x ∈ S, w.heap.size ≤ x from fun x hx => Nat.le_trans HK.out.size (hS4 x hx))
  replace HK := Lib.hid (HK.out.trans hk4)
  replace HZ := Lib.hid (HZ.out.kp0 hk4)
  replace HC := Lib.hid (HC.out.kp0 hk4)
  clear hv4 hS4 hk4
  go_wp2_with fail
  refine (fof_none (.pointer none) _ 1 1 _ (.inl rfl)).mono ?_
  rintro e w5 ⟨rfl, rfl⟩
  go_wp2_with fail
  obtain ⟨w5, hw5⟩ : ∃ w5, w5 = w4.alloc (.cells #[.string ⟨#[97]⟩] 9) := ⟨_, rfl⟩
  obtain ⟨w6, hw6⟩ : ∃ w6, w6 = w5.alloc (.cells Tryz.zeroCells116 116) := ⟨_, rfl⟩
  obtain ⟨y, hy⟩ : ∃ y, y = w4.heap.size + 1 := ⟨_, rfl⟩
  rw [← hw5, ← hw6, ← hy]
  have hys : w5.heap.size = y := by rw [hw5, hy]; simp
  have hk5 : Kp [] w4 w5 := by rw [hw5]; exact (Kp.refl [] w4).alloc _
  have hk6 : Kp [] w5 w6 := by rw [hw6]; exact (Kp.refl [] w5).alloc _
  have HNC := Lib.hid (show NoCode w6 (.pointer (some ⟨y, 0, none⟩)) from .inr ⟨_, rfl, by rw [hw6, ← hys]; exact zero_code w5 _ rfl⟩)
  replace HK := Lib.hid (HK.out.trans (hk5.trans hk6))
  replace HZ := Lib.hid (HZ.out.kp0 (hk5.trans hk6))
  replace HC := Lib.hid (HC.out.kp0 (hk5.trans hk6))
  replace HV := Lib.hid (HV.out.kp0 (hk5.trans hk6))
  clear hw5 hw6 hys hk5 hk6 hy
  refine (fof_none _ none 0 0 w6 HNC.out).mono ?_
  rintro e w7 ⟨rfl, rfl⟩
  go_wp2_with fail
  refine (fread_noc q 0 0 S false [] w6 HV.out rfl).mono ?_
  rintro e w7 ⟨rfl, hk7⟩
  have HK7 := Lib.hid (HK.out.trans' hk7 (fun x hx => .inr (HVN.out x hx)))
  have HC7 := Lib.hid (HC.out.kp hk7 (fun g hg => .inr (HV3.out g hg)))
  have HZ7 := Lib.hid (show NoFr w7 (.pointer (some ⟨z, 0, none⟩)) from by
    rcases HZ.out with h | ⟨x, h1, h2⟩
    · cases h
    · refine .inr ⟨x, h1, hk7.cell h2 (fun hm => ?_)⟩
      injection h1 with h1
      injection h1 with h1
      injection h1 with h1
      have h3 := HV3.out _ hm
      have h4 := HW3.out
      simp only at h3
      omega)
  clear hk7 HV HNC HK HZ HC HVN
  go_wp2_with fail
  refine (fread_nov _ _ p (-1) _ _ _ w7 HC7.out).mono ?_
  rintro e w8 ⟨rfl, hk8⟩
  replace HZ7 := Lib.hid (HZ7.out.kp0 hk8)
  replace HK7 := Lib.hid (HK7.out.trans hk8)
  clear hk8
  go_wp2_with fail
  refine (nffind_nil ⟨#[]⟩ w8).mono ?_
  rintro e w9 ⟨rfl, hk9⟩
  replace HZ7 := Lib.hid (HZ7.out.kp0 hk9)
  replace HK7 := Lib.hid (HK7.out.trans hk9)
  clear hk9
  go_wp2_with fail
  refine (nftext_any _ w9 HZ7.out).mono ?_
  rintro e w10 ⟨rfl, hk10⟩
  replace HZ7 := Lib.hid (HZ7.out.kp0 hk10)
  replace HK7 := Lib.hid (HK7.out.trans hk10)
  clear hk10
  go_wp2_with fail
  refine (nflen_any (.pointer none) w10 (.inl rfl)).mono ?_
  rintro e w11 ⟨rfl, rfl⟩
  go_wp2_with fail
  refine (nflen_any _ w10 HZ7.out).mono ?_
  rintro e w11 ⟨rfl, rfl⟩
  go_wp2_with fail
  refine (nfstarts_any (.pointer none) w10 (.inl rfl)).mono ?_
  rintro e w11 ⟨rfl, rfl⟩
  go_wp2_with fail
  refine (nfstarts_any _ w10 HZ7.out).mono ?_
  rintro e w11 ⟨rfl, rfl⟩
  go_wp2_with fail
  refine (nfbits_any (.pointer none) w10 (.inl rfl)).mono ?_
  rintro e w11 ⟨rfl, rfl⟩
  go_wp2_with fail
  refine (nfbits_any _ w10 HZ7.out).mono ?_
  rintro e w11 ⟨rfl, rfl⟩
  go_wp2_with fail
  go_ret
  exact ⟨rfl, HK7.out⟩
end Go.Proofs.YtlaionhlejmjdaaGreatDoor
