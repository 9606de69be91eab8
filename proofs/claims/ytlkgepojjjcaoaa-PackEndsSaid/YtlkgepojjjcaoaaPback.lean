/-
  THE STATEMENT PackBack OF LAYER 2, its walk: the call returns true and writes to nothing that was there.
  CONDITIONS: numbers of 64 bits; bytes.
-/
import Derived.Test.YtlkgepojjjcaoaaPreads
import Derived.Test.YtlkgepojjjcaoaaPputs
import Derived.Test.YtlkgepojjjcaoaaPick
import Derived.Deep.DeepCutAuto
namespace Go.Proofs.Ytlkgepojjjcaoaa
open Go.RowKit

theorem bytesN_readL (N m : Nat) : bytesN N m = intsN (readL 8 m N) := by
  simp only [bytesN, intsN, readL, List.map_map]
  rfl
theorem bytesN_pack {bs : List Nat} (h : ∀ y ∈ bs, y < 2 ^ 8) : bytesN (packN 8 bs) bs.length = intsN bs := by rw [bytesN_readL, readL_of_pack h]

set_option maxRecDepth 100000 in
set_option maxHeartbeats 4000000 in
theorem back_any (more wd k : Int) (A A' : Option Addr) (n c m c' B B' : Nat) (l : List Int) (bs : List Nat) (w : World) (hx : Rd w B A (l.map (.int .i64))) (hn : l.length = n) (hs : Small l) (hy : Rd w B' A' ((intsN bs).map (.int .u8))) (hm : bs.length = m) (hsb : ∀ y ∈ bs, y < 2 ^ 8) (hnb : n ≤ 1000000000000000) (hmb : m ≤ 1000000000000000) :
    Calls Try.prog 6 #[.slice A n c, .int .i64 more, .int .i64 wd, .int .i64 k, .slice A' m c'] w fun e w' => e = .returned (.bool true) ∧ Kp [] w w' := by
  have HX := Lib.hid hx.here; clear hx
  have HY := Lib.hid hy.here; clear hy
  have HN := Lib.hid hn; clear hn
  have HS := Lib.hid hs; clear hs
  have HM := Lib.hid hm; clear hm
  have HSB := Lib.hid hsb; clear hsb
  go_enter Try.func6, Try.ntmps6
  go_wp2_with fail
  refine (pawake_any _).mono ?_
  rintro e w1 ⟨rfl, hk1⟩
  have HK1 := Lib.hid hk1; clear hk1
  have hwnm : IntKind.i64.wrap ((n : Int) + (m : Int)) = ((n + m : Nat) : Int) := by rw [IntKind.wrap_i64]; omega
  obtain ⟨bad, hbad⟩ : ∃ bad : Bool, bad = decide (2000 < n + m ∨ (1 ≤ wd ∧ wd ≤ 60 ∧ 16000 / wd < k)) := ⟨_, rfl⟩
  have HBAD := Lib.hid hbad; clear hbad
  go_upto_region 3 with fail
  go_cut [44] (fun b wx => b = .bool bad ∧ w1 = wx)
  case first =>
    by_cases hbig : 2000 < n + m
    · go_wp2_with fail
      go_meet
      exact ⟨congrArg Value.bool (by rw [HBAD.out]; exact (decide_eq_true (.inl hbig)).symm), rfl⟩
    by_cases h1 : wd < 1
    · go_wp2_with fail
      go_meet
      exact ⟨congrArg Value.bool (by rw [HBAD.out]; rw [decide_eq_decide]; omega), rfl⟩
    by_cases h2 : 60 < wd
    · go_wp2_with fail
      go_meet
      exact ⟨congrArg Value.bool (by rw [HBAD.out]; rw [decide_eq_decide]; omega), rfl⟩
    obtain ⟨q1, hq1⟩ : ∃ q1, q1 = 16000 / wd := ⟨_, rfl⟩
    have hqb1 : 0 ≤ q1 ∧ q1 ≤ 16000 := by
      rw [hq1]
      exact ⟨Int.ediv_nonneg (by omega) (by omega), Int.ediv_le_self _ (by omega)⟩
    have hdv1 : Int.tdiv 16000 wd = q1 := by rw [Int.tdiv_eq_ediv_of_nonneg (by omega), hq1]
    have hwq1 : IntKind.i64.wrap q1 = q1 := by rw [IntKind.wrap_i64]; omega
    have hwz : wd ≠ 0 := by omega
    have HQ := Lib.hid hq1; clear hq1
    by_cases h3 : q1 < k
    · go_wp2_with fail
      go_meet
      exact ⟨congrArg Value.bool (by rw [HBAD.out, ← HQ.out]; exact (decide_eq_true (.inr ⟨by omega, by omega, h3⟩)).symm), rfl⟩
    · go_wp2_with fail
      go_meet
      exact ⟨congrArg Value.bool (by rw [HBAD.out, ← HQ.out]; rw [decide_eq_decide]; omega), rfl⟩
  case rest =>
    obtain ⟨rfl, rfl⟩ := hcut
    clear hwnm
    cases hb : bad with
    | true =>
      clear hb
      go_wp2_with fail
      go_ret
      exact ⟨rfl, HK1.out⟩
    | false =>
    have hnm : n + m ≤ 2000 := by
      have h := HBAD.out
      rw [hb] at h
      have := of_decide_eq_false h.symm
      omega
    clear hb HBAD
    have HB9 := Lib.hid (show n ≤ 1000000000 ∧ m ≤ 1000000000 by omega)
    obtain ⟨E, hE⟩ : ∃ E, E = readE wd k bs := ⟨_, rfl⟩
    have HE := Lib.hid hE; clear hE
    go_upto_region 5 with fail
    go_cut [11, 12] (fun a b wx => Hid (Kp [] w wx) ∧ ((E ≠ 0 ∧ a = .pointer none ∧ b = .int .i64 E) ∨ (E = 0 ∧ ∃ p, a = .pointer (some ⟨p, 0, none⟩) ∧ b = .int .i64 0 ∧ 0 ≤ wd ∧ 0 ≤ k ∧ Hid (bs.length = (wd.toNat * k.toNat + 7) / 8) ∧ Hid (packN 8 bs < 2 ^ (wd.toNat * k.toNat)) ∧ Hid (RowM wx w1.heap.size p wd.toNat (readL wd.toNat k.toNat (packN 8 bs))))))
    case first =>
      go_wp2_with fail
      refine (read_any wd k A' m c' _ bs w1 (HY.out.kp0 HK1.out) HM.out HB9.out.2 HSB.out).mono ?_
      rw [← HE.out]
      rintro e w2 ⟨hk2, ⟨hne, rfl⟩ | ⟨hz, her, hlen, hnum, p, rfl, hrow⟩⟩
      · have HNE := Lib.hid hne; clear hne
        have HK2 := Lib.hid (HK1.out.trans hk2); clear hk2
        go_wp2_with fail
        go_meet
        exact ⟨HK2, .inl ⟨HNE.out, rfl, rfl⟩⟩
      · have HZ := Lib.hid hz; clear hz
        have HER := Lib.hid her; clear her
        have HLEN := Lib.hid hlen; clear hlen
        have HNUM := Lib.hid hnum; clear hnum
        have HROW := Lib.hid hrow; clear hrow
        have HK2 := Lib.hid (HK1.out.trans hk2); clear hk2
        go_wp2_with fail
        go_meet
        have hpos : 0 ≤ wd ∧ 0 ≤ k := by
          have h := HER.out
          unfold errRow at h
          by_cases h1 : wd < 1 ∨ 60 < wd ∨ k < 0
          · rw [if_pos h1] at h; cases h
          · omega
        exact ⟨HK2, .inr ⟨HZ.out, p, rfl, rfl, hpos.1, hpos.2, HLEN, HNUM, HROW⟩⟩
    case rest =>
      obtain ⟨HK2, hor⟩ := hcut
      go_upto_region 6 with fail
      go_cut [72] (fun b wx => b = .bool false ∧ Hid (Kp [] w wx))
      case first =>
        rcases hor with ⟨hne, rfl, rfl⟩ | ⟨hz, p, rfl, rfl, hwd, hk, HLEN, HNUM, HROW⟩
        · have hE2 : (E == 0) = false := by simpa using hne
          clear hne
          go_wp2_with fail
          go_meet
          exact ⟨rfl, HK2⟩
        · clear hz
          obtain ⟨D, rfl⟩ : ∃ D : Nat, wd = (D : Int) := ⟨wd.toNat, by omega⟩
          obtain ⟨K, rfl⟩ : ∃ K : Nat, k = (K : Int) := ⟨k.toNat, by omega⟩
          rw [Int.toNat_natCast, Int.toNat_natCast] at HLEN HNUM HROW
          go_wp2_with fail
          refine (rbytes_any _ p D _ wc HROW.out).mono ?_
          rintro e w3 ⟨A3, m3, c3, hm3, rfl, hown3, hk3⟩
          have hm3' : m3 = m := by rw [hm3, readL_len, ← HLEN.out, HM.out]
          subst hm3'
          rw [readL_pack HNUM.out, ← HM.out, bytesN_pack HSB.out, HM.out] at hown3
          have HROW3 := Lib.hid (HROW.out.kp0 hk3)
          have HK3 := Lib.hid (HK2.out.trans hk3)
          have HO3 := Lib.hid (own_rd hown3)
          clear hown3 hk3 hm3
          go_wp2_with fail
          refine (sameB A3 A' m3 m3 c3 c' _ _ (intsN bs) (intsN bs) w3 HO3.out (HY.out.kp0 HK3.out) (by rw [intsN, List.length_map, HM.out]) (by rw [intsN, List.length_map, HM.out]) HB9.out.2 HB9.out.2).mono ?_
          rintro e w4 ⟨rfl, hd4⟩
          rw [show decide (intsN bs = intsN bs) = true from by simp]
          have HROW4 := Lib.hid (HROW3.out.kp0 (hd4.kp []))
          have HK4 := Lib.hid (HK3.out.trans (hd4.kp [])); clear hd4
          go_wp2_with fail
          refine (rlen_any _ p D K _ w4 HROW4.out (readL_len _ _ _)).mono ?_
          rintro e w5 ⟨rfl, rfl⟩
          go_wp2_with fail
          refine (rwide_any _ p D _ w4 HROW4.out).mono ?_
          rintro e w5 ⟨rfl, rfl⟩
          go_wp2_with fail
          go_meet
          exact ⟨rfl, HK4⟩
      case rest =>
        obtain ⟨rfl, HK3⟩ := hcut
        clear hor HK2
        go_wp2_with fail
        refine (width_any A n c _ l _ (HX.out.kp0 HK3.out) HN.out HB9.out.1 HS.out).mono ?_
        rintro e w4 ⟨rfl, rfl⟩
        by_cases hok : okN l
        rotate_left
        · rw [wideL_no hok, wideE_no hok]
          clear hok
          go_wp2_with fail
          go_ret
          exact ⟨rfl, HK3.out⟩
        rw [wideL_ok hok, wideE_ok hok]
        obtain ⟨W, hW⟩ : ∃ W, W = wideF 1 l := ⟨_, rfl⟩
        have hWb := wideF_le hok
        rw [← hW] at hWb ⊢
        have HW := Lib.hid hW; clear hW
        have HOK := Lib.hid hok; clear hok
        obtain ⟨pv, hpv⟩ : ∃ pv, pv = pickI more 5 := ⟨_, rfl⟩
        have hpb : 0 ≤ pv ∧ pv < 5 := by rw [hpv]; exact pickI_bound (by omega)
        obtain ⟨V, hV⟩ : ∃ V : Nat, (V : Int) = min ((W : Int) + pv) 60 := ⟨(min ((W : Int) + pv) 60).toNat, by omega⟩
        have hV1 : W ≤ V ∧ V ≤ 60 := by omega
        have hmin : min ((W : Int) + pv) 60 = (V : Int) := hV.symm
        have hww : IntKind.i64.wrap ((W : Int) + pv) = (W : Int) + pv := by rw [IntKind.wrap_i64]; omega
        have HPV := Lib.hid hpv; clear hpv hV
        have HEV := Lib.hid (show errRow (V : Int) (n : Int) = 0 from errRow_few (by omega) hV1.2 (by omega))
        have HNE := Lib.hid (show newE (V : Int) l = 0 by
          unfold newE
          rw [if_pos ⟨HOK.out, by rw [← HW.out]; omega⟩, HN.out]
          exact HEV.out)
        go_wp2_with fail
        refine (pick_any more 5 _ (by omega)).mono ?_
        rintro e w5 ⟨rfl, rfl⟩
        rw [← HPV.out]
        go_wp2_with fail
        refine (new_any V A n c _ l _ (HX.out.kp0 HK3.out) HN.out HB9.out.1 HS.out).mono ?_
        rintro e w5 ⟨hk5, ⟨hne, _⟩ | ⟨_, hfit, p, rfl, hrow⟩⟩
        · exact absurd HNE.out hne
        rw [Int.toNat_natCast] at hrow
        obtain ⟨b0, hb0⟩ : ∃ b0, RowM w5 b0 p V (l.map Int.toNat) := ⟨_, hrow⟩
        have HROW := Lib.hid hb0; clear hrow hb0
        have HFIT := Lib.hid hfit; clear hfit
        have HK5 := Lib.hid (HK3.out.trans hk5); clear hk5
        obtain ⟨ls, hls⟩ : ∃ ls, ls = l.map Int.toNat := ⟨_, rfl⟩
        rw [← hls] at HROW
        have HLS := Lib.hid (show intsN ls = l by rw [hls]; exact intsN_toNat HOK.out)
        have HLN := Lib.hid (show ls.length = n by rw [hls, List.length_map, HN.out])
        clear hls
        obtain ⟨T, hT⟩ : ∃ T, T = V * n := ⟨_, rfl⟩
        have hT2 : T ≤ 60 * n := by rw [hT]; exact Nat.mul_le_mul_right _ hV1.2
        have hmul : (V : Int) * (n : Int) = (T : Int) := by rw [hT]; exact (Int.natCast_mul V n).symm
        have hwm : IntKind.i64.wrap ((V : Int) * (n : Int)) = (T : Int) := by rw [hmul, IntKind.wrap_i64]; omega
        have hw7 : IntKind.i64.wrap ((T : Int) + 7) = ((T + 7 : Nat) : Int) := by rw [IntKind.wrap_i64]; omega
        obtain ⟨s, hs⟩ : ∃ s, s = (T + 7) / 8 := ⟨_, rfl⟩
        have hw3 : Int.tdiv ((T : Int) + 7) 8 = (s : Int) := by rw [Int.tdiv_eq_ediv_of_nonneg (by omega)]; omega
        have hws : IntKind.i64.wrap (s : Int) = (s : Int) := by rw [IntKind.wrap_i64]; omega
        have HSV := Lib.hid (show s = (V * n + 7) / 8 by rw [hs, hT])
        have HS9 := Lib.hid (show s ≤ 1000000000 by omega)
        have HTS := Lib.hid (show V * n ≤ 8 * s by rw [hs, ← hT]; omega)
        clear hT hT2 hmul hs
        go_wp2_with fail
        refine (rlen_any _ p V n ls _ HROW.out HLN.out).mono ?_
        rintro e w6 ⟨rfl, rfl⟩
        go_wp2_with fail
        refine (rbytes_any _ p V ls w5 HROW.out).mono ?_
        rintro e w6 ⟨A6, m6, c6, hm6, rfl, _, hk6⟩
        obtain rfl : m6 = s := by rw [hm6, HLN.out]; exact HSV.out.symm
        have HROW6 := Lib.hid (HROW.out.kp0 hk6)
        have HK6 := Lib.hid (HK5.out.trans hk6)
        clear hm6 hk6
        go_wp2_with fail
        go_loopw [18] (fun x wr => ∃ i : Nat, x = .int .i64 (i : Int) ∧ i ≤ n ∧ Hid (RowM wr b0 p V ls) ∧ Hid (Kp [] w wr)) (fun x _ => n - (intOf x).toNat)
        case atStart => exact ⟨0, rfl, by omega, HROW6, HK6⟩
        case round =>
          clear HROW6 HK6
          obtain ⟨i, rfl, hi, HR, HK⟩ := hrel
          by_cases hlt : i < n
          · obtain ⟨x, hx⟩ : ∃ x, ls[i]? = some x := ⟨_, List.getElem?_eq_getElem (by rw [HLN.out]; exact hlt)⟩
            have HXI := Lib.hid hx
            have hlx : l[i]? = some (x : Int) := by rw [← HLS.out]; simp [intsN, hx]
            have HLX := Lib.hid hlx
            clear hx hlx
            go_wp2_with fail
            refine (rAt_any b0 p V i x ls wr HR.out HXI.out).mono ?_
            rintro e w7 ⟨rfl, hd7⟩
            have HR7 := Lib.hid (HR.out.kp0 (hd7.kp []))
            have HK7 := Lib.hid (HK.out.trans (hd7.kp []))
            clear hd7
            obtain ⟨ad, rfl, _, cx⟩ := (HX.out.kp0 HK7.out).at_ (i := i) (u := .int .i64 (x : Int)) (by simp [HLX.out])
            go_wp2_with fail
            exact ⟨⟨i + 1, by go_num, by omega, HR7, HK7⟩, by simp [intOf]; omega⟩
          · obtain rfl : n = i := by omega
            go_wp2_with fail
            refine (rbytes_any _ p V ls wr HR.out).mono ?_
            rintro e w7 ⟨A7, m7, c7, hm7, rfl, hown7, hk7⟩
            obtain rfl : m7 = m6 := by rw [hm7, HLN.out]; exact HSV.out.symm
            have HR7 := Lib.hid (HR.out.kp0 hk7)
            have HK7 := Lib.hid (HK.out.trans hk7)
            rw [bytesN_readL] at hown7
            obtain ⟨b7, hb7⟩ : ∃ b7, b7 = readL 8 m7 (packN V ls) := ⟨_, rfl⟩
            rw [← hb7] at hown7
            have HO7 := Lib.hid (own_rd hown7)
            have HB7 := Lib.hid (show b7.length = m7 by rw [hb7, readL_len])
            have HT7 := Lib.hid (show ∀ y ∈ b7, y < 2 ^ 8 by rw [hb7]; exact readL_lt _ _ _)
            have hlsb : ∀ x ∈ ls, x < 2 ^ V := by
              obtain ⟨_, _, _, _, _, _, _, h6, _⟩ := HR7.out
              exact h6
            have hPN : packN V ls < 2 ^ (V * n) := by
              have := packN_lt hlsb
              rwa [HLN.out] at this
            have hP8 : packN 8 b7 = packN V ls := by
              rw [hb7]
              exact readL_pack (Nat.lt_of_lt_of_le hPN (Nat.pow_le_pow_right (by omega) HTS.out))
            have HRE := Lib.hid (readE_ok (bs := b7) HEV.out (by rw [HB7.out]; exact HSV.out) (by rw [hP8]; exact hPN))
            have HRL := Lib.hid (show readL V n (packN 8 b7) = ls by
              rw [hP8, ← HLN.out]
              exact readL_of_pack hlsb)
            clear hm7 hk7 hown7 hb7 hlsb hPN hP8
            go_wp2_with fail
            refine (read_any V n A7 m7 c7 _ b7 w7 HO7.out HB7.out HS9.out HT7.out).mono ?_
            rw [Int.toNat_natCast, Int.toNat_natCast, HRL.out]
            rintro e w8 ⟨hk8, ⟨hne, _⟩ | ⟨_, _, _, _, p8, rfl, hrow8⟩⟩
            · exact absurd HRE.out hne
            have HR8 := Lib.hid hrow8; clear hrow8
            have HK8 := Lib.hid (HK7.out.trans hk8); clear hk8
            go_wp2_with fail
            refine (rall_any _ p8 V ls w8 HR8.out).mono ?_
            rintro e w9 ⟨A9, m9, c9, hm9, rfl, hown9, hk9⟩
            obtain rfl : m9 = n := by rw [hm9, HLN.out]
            rw [HLS.out] at hown9
            have HO9 := Lib.hid (own_rd hown9)
            have HK9 := Lib.hid (HK8.out.trans hk9)
            clear hm9 hown9 hk9
            go_wp2_with fail
            refine (sameI A9 A m9 m9 c9 c _ _ l l w9 HO9.out (HX.out.kp0 HK9.out) HN.out HN.out HB9.out.1 HB9.out.1).mono ?_
            rintro e w10 ⟨rfl, hd10⟩
            rw [show decide (l = l) = true from by simp]
            have HK10 := Lib.hid (HK9.out.trans (hd10.kp [])); clear hd10
            go_wp2_with fail
            go_ret
            exact ⟨rfl, HK10.out⟩
end Go.Proofs.Ytlkgepojjjcaoaa
