/-
  FlowLess: the law of digits and gammas; the walk.
  CONDITIONS: what an int is.
-/
import Derived.Test.YtddmioaeehgkbaaDoorFless1
namespace Go.Proofs.YtddmioaeehgkbaaDoor
open Go.RowKit

theorem lessL_dig : ∀ (m a b : Nat), lessL (digL m a) (digL m b) = decide (a % 2 ^ m < b % 2 ^ m)
  | 0, a, b => by simp [digL, lessL, Nat.mod_one]
  | m + 1, a, b => by
    have ha := Nat.mod_pow_succ (x := a) (b := 2) (k := m)
    have hb := Nat.mod_pow_succ (x := b) (b := 2) (k := m)
    have la := Nat.mod_lt a (Nat.two_pow_pos m)
    have lb := Nat.mod_lt b (Nat.two_pow_pos m)
    have ih := lessL_dig m a b
    show (if (a / 2 ^ m % 2 == 1) = (b / 2 ^ m % 2 == 1) then lessL (digL m a) (digL m b) else (b / 2 ^ m % 2 == 1)) = _
    rw [ha, hb, ih]
    rcases (show a / 2 ^ m % 2 = 0 ∨ a / 2 ^ m % 2 = 1 by omega) with h1 | h1 <;> rcases (show b / 2 ^ m % 2 = 0 ∨ b / 2 ^ m % 2 = 1 by omega) with h2 | h2 <;> rw [h1, h2] <;> simp <;> omega
theorem madeR_num {wd a : Int} (h : (madeR 1 wd a).2 = 0) : 0 ≤ a ∧ a.toNat < 2 ^ wd.toNat ∧ (madeR 1 wd a).1 = digL wd.toNat a.toNat ∨ 9223372036854775807 < a := by
  by_cases hx : 9223372036854775807 < a
  · exact .inr hx
  refine .inl ?_
  have e : madeR 1 wd a = wNum ([], 0) wd [a] := by
    unfold madeR fputR
    rw [show pickI 1 3 = 1 by decide, if_neg (by decide), if_pos rfl]
  rw [e] at h ⊢
  unfold wNum at h ⊢
  rw [if_neg (by simp)] at h ⊢
  by_cases hw : wd < 0 ∨ 60 < wd
  · rw [if_pos hw] at h; simp at h
  rw [if_neg hw] at h ⊢
  by_cases ho : ([a].all (okD wd)) = true
  · rw [if_pos ho] at h ⊢
    have hok : okD wd a = true := by simpa using ho
    unfold okD at hok
    rw [Bool.and_eq_true, decide_eq_true_iff, decide_eq_true_iff] at hok
    refine ⟨hok.1, (bl_le_iff (by omega) (by omega)).1 (by omega), ?_⟩
    unfold wPut
    rw [if_neg (by simp), if_neg (by rw [numL_len]; simp; omega)]
    simp [numL]
  · rw [if_neg ho] at h; simp at h
theorem madeR_less {wd a b : Int} (ha : a ≤ 9223372036854775807) (hb : b ≤ 9223372036854775807) (h1 : (madeR 1 wd a).2 = 0) (h2 : (madeR 1 wd b).2 = 0) : lessL (madeR 1 wd a).1 (madeR 1 wd b).1 = decide (a < b) ∧ (madeR 1 wd a).1.length = (madeR 1 wd b).1.length := by
  obtain ⟨a0, a1, a2⟩ := (madeR_num h1).resolve_right (by omega)
  obtain ⟨b0, b1, b2⟩ := (madeR_num h2).resolve_right (by omega)
  rw [a2, b2, lessL_dig, Nat.mod_eq_of_lt a1, Nat.mod_eq_of_lt b1, digL_len, digL_len]
  refine ⟨?_, rfl⟩
  by_cases h : a < b
  · rw [decide_eq_true h, decide_eq_true (by omega)]
  · rw [decide_eq_false h, decide_eq_false (by omega)]
theorem madeR_gam {a : Int} (h : (madeR 2 0 a).2 = 0) : okG a = true ∧ (madeR 2 0 a).1 = gamL a.toNat := by
  have e : madeR 2 0 a = wGam ([], 0) [a] := by
    unfold madeR fputR
    rw [show pickI 2 3 = 2 by decide, if_neg (by decide), if_neg (by decide)]
  rw [e] at h ⊢
  unfold wGam at h ⊢
  rw [if_neg (by simp)] at h ⊢
  by_cases ho : ([a].all okG) = true
  · rw [if_pos ho] at h ⊢
    refine ⟨by simpa using ho, ?_⟩
    have := gamsL_len_le [a] (fun x hx => by rw [List.mem_singleton] at hx; subst hx; simpa using ho)
    simp only [List.length_cons, List.length_nil] at this
    unfold wPut
    rw [if_neg (by simp), if_neg (by simp only [List.length_nil]; omega)]
    simp [gamsL]
  · rw [if_neg ho] at h; simp at h
theorem gam_free {x y : Nat} {r : List Bool} (hx : x < 2 ^ 60) (hy : y < 2 ^ 60) (x0 : x ≠ 0) (y0 : y ≠ 0) (h : gamL y = gamL x ++ r) : x = y := by
  have h1 := rGam_back (L := gamL y) (a := 0) (x := x) (r := r) (by simpa using h) hx x0
  have h2 := rGam_back (L := gamL y) (a := 0) (x := y) (r := []) (by simp) hy y0
  rw [h1] at h2
  exact (Prod.mk.inj h2).1
theorem madeR_free {a b : Int} (ha : a ≤ 9223372036854775807) (hb : b ≤ 9223372036854775807) (h1 : (madeR 2 0 a).2 = 0) (h2 : (madeR 2 0 b).2 = 0) (hab : a ≠ b) : ¬ (madeR 2 0 a).1.take (min (madeR 2 0 a).1.length (madeR 2 0 b).1.length) = (madeR 2 0 b).1.take (min (madeR 2 0 a).1.length (madeR 2 0 b).1.length) := by
  obtain ⟨a1, a2⟩ := madeR_gam h1
  obtain ⟨b1, b2⟩ := madeR_gam h2
  obtain ⟨x, rfl, x0, xb⟩ := okG_nat a1
  obtain ⟨y, rfl, y0, yb⟩ := okG_nat b1
  rw [a2, b2, Int.toNat_natCast, Int.toNat_natCast]
  have xl : x < 2 ^ 60 := by
    unfold okG at a1
    rw [Bool.and_eq_true, decide_eq_true_iff, decide_eq_true_iff, Int.toNat_natCast] at a1
    have h64 : x < 2 ^ 64 := by omega
    exact (bl_le_iff h64 (by omega)).1 (by omega)
  have yl : y < 2 ^ 60 := by
    unfold okG at b1
    rw [Bool.and_eq_true, decide_eq_true_iff, decide_eq_true_iff, Int.toNat_natCast] at b1
    have h64 : y < 2 ^ 64 := by omega
    exact (bl_le_iff h64 (by omega)).1 (by omega)
  intro h
  apply hab
  rcases Nat.le_total (gamL x).length (gamL y).length with hle | hle
  · rw [Nat.min_eq_left hle, List.take_of_length_le (Nat.le_refl _)] at h
    have hq : gamL y = gamL x ++ (gamL y).drop (gamL x).length := by
      have := (List.take_append_drop (gamL x).length (gamL y)).symm
      rwa [← h] at this
    exact congrArg Int.ofNat (gam_free xl yl x0 y0 hq)
  · rw [Nat.min_eq_right hle, List.take_of_length_le (Nat.le_refl (gamL y).length)] at h
    have hq : gamL x = gamL y ++ (gamL x).drop (gamL y).length := by
      have := (List.take_append_drop (gamL y).length (gamL x)).symm
      rwa [h] at this
    exact congrArg Int.ofNat (gam_free yl xl y0 x0 hq).symm
set_option maxRecDepth 100000 in
set_option maxHeartbeats 4000000 in
theorem flowless_any (a b wd : Int) (w : World) (ha : -9223372036854775808 ≤ a ∧ a ≤ 9223372036854775807) (hb : -9223372036854775808 ≤ b ∧ b ≤ 9223372036854775807) (_hwd : -9223372036854775808 ≤ wd ∧ wd ≤ 9223372036854775807) (ht : Tab64 w) :
    Calls Tryd.prog 4 #[.int .i64 a, .int .i64 b, .int .i64 wd] w fun e w' => e = .returned (.bool true) ∧ Kp [] w w' := by
  obtain ⟨ha0, ha1⟩ := ha
  obtain ⟨hb0, hb1⟩ := hb
  obtain ⟨RX, hRX⟩ : ∃ RX, RX = madeR 1 wd a := ⟨_, rfl⟩
  obtain ⟨RY, hRY⟩ : ∃ RY, RY = madeR 1 wd b := ⟨_, rfl⟩
  obtain ⟨RP, hRP⟩ : ∃ RP, RP = madeR 2 0 a := ⟨_, rfl⟩
  obtain ⟨RQ, hRQ⟩ : ∃ RQ, RQ = madeR 2 0 b := ⟨_, rfl⟩
  have HMX := Lib.hid (show ∀ w, Calls Tryd.prog 20 #[.int .i64 1, .int .i64 wd, .int .i64 a] w (MadeP RX w) from fun w => by rw [hRX]; exact made_any 1 wd a w ha1)
  have HMY := Lib.hid (show ∀ w, Calls Tryd.prog 20 #[.int .i64 1, .int .i64 wd, .int .i64 b] w (MadeP RY w) from fun w => by rw [hRY]; exact made_any 1 wd b w hb1)
  have HMP := Lib.hid (show ∀ w, Calls Tryd.prog 20 #[.int .i64 2, .int .i64 0, .int .i64 a] w (MadeP RP w) from fun w => by rw [hRP]; exact made_any 2 0 a w ha1)
  have HMQ := Lib.hid (show ∀ w, Calls Tryd.prog 20 #[.int .i64 2, .int .i64 0, .int .i64 b] w (MadeP RQ w) from fun w => by rw [hRQ]; exact made_any 2 0 b w hb1)
  have HXY := Lib.hid (show RX.2 = 0 → RY.2 = 0 → lessL RX.1 RY.1 = decide (a < b) ∧ RX.1.length = RY.1.length from by rw [hRX, hRY]; exact madeR_less ha1 hb1)
  have HPF := Lib.hid (show RP.2 = 0 → RQ.2 = 0 → a ≠ b → ¬ RP.1.take (min RP.1.length RQ.1.length) = RQ.1.take (min RP.1.length RQ.1.length) from by rw [hRP, hRQ]; exact madeR_free ha1 hb1)
  clear hRX hRY hRP hRQ
  obtain ⟨X, E⟩ := RX
  obtain ⟨Y, F⟩ := RY
  obtain ⟨P, G⟩ := RP
  obtain ⟨Q, H⟩ := RQ
  go_enter Tryd.func4, Tryd.ntmps4
  go_wp2_with fail
  refine (fawake_any w ht).mono ?_
  rintro e w1 ⟨rfl, hk⟩
  have HK := Lib.hid hk
  clear hk ht
  go_wp2_with fail
  refine (HMX.out _).mono ?_
  rintro e w2 ⟨hk2, A2, n2, c2, rfl, h2⟩
  replace HK := Lib.hid (HK.out.trans hk2)
  have H2 := Lib.hid h2
  clear hk2 h2
  go_wp2_with fail
  refine (HMY.out _).mono ?_
  rintro e w3 ⟨hk3, A3, n3, c3, rfl, h3⟩
  replace HK := Lib.hid (HK.out.trans hk3)
  have H3 := Lib.hid h3
  have HK23 := Lib.hid hk3
  clear hk3 h3
  by_cases hE : E = 0
  · by_cases hF : F = 0
    · obtain ⟨hn2, hb2, hr2⟩ := H2.out hE
      obtain ⟨hn3, hb3, hr3⟩ := H3.out hF
      obtain ⟨hl1, hl2⟩ := HXY.out hE hF
      have hn2' : X.length = n2 := hn2
      have hn3' : Y.length = n3 := hn3
      obtain rfl : n2 = n3 := by rw [← hn2', ← hn3']; exact hl2
      have HR2 := Lib.hid (hr2.kp0 HK23.out)
      have HR3 := Lib.hid hr3
      have HL1 := Lib.hid (show lessL X Y = decide (a < b) from hl1)
      have HN2' := Lib.hid hn2'; clear hn2'
      have HN3' := Lib.hid hn3'; clear hn3'
      subst hE; subst hF
      clear hn2 hn3 hl1 hl2 hr2 hr3 H2 H3 HXY HK23
      go_wp2_with fail
      refine (fless_any A2 A3 n2 n2 c2 c3 _ _ X Y w3 HR2.out HN2'.out HR3.out HN3'.out (by omega) (by omega)).mono ?_
      rw [HL1.out]
      rintro e w4 ⟨rfl, hk4⟩
      replace HK := Lib.hid (HK.out.trans hk4)
      clear hk4 HL1 HR2 HR3
      go_wp2_with fail
      refine (HMP.out _).mono ?_
      rintro e w5 ⟨hk5, A5, n5, c5, rfl, h5⟩
      replace HK := Lib.hid (HK.out.trans hk5)
      have H5 := Lib.hid h5
      clear hk5 h5
      go_wp2_with fail
      refine (HMQ.out _).mono ?_
      rintro e w6 ⟨hk6, A6, n6, c6, rfl, h6⟩
      replace HK := Lib.hid (HK.out.trans hk6)
      have H6 := Lib.hid h6
      have HK56 := Lib.hid hk6
      clear hk6 h6
      by_cases hG : G = 0
      · by_cases hH : H = 0
        · by_cases hab : a = b
          · subst hG; subst hH; subst hab
            go_wp2_with fail
            go_ret
            exact ⟨rfl, HK.out⟩
          · obtain ⟨hn5, hb5, hr5⟩ := H5.out hG
            obtain ⟨hn6, hb6, hr6⟩ := H6.out hH
            have HR5 := Lib.hid (hr5.kp0 HK56.out)
            have HR6 := Lib.hid hr6
            have HNE := Lib.hid (HPF.out hG hH hab)
            have habf : (a == b) = false := by simpa using hab
            have hn5' : P.length = n5 := hn5
            have hn6' : Q.length = n6 := hn6
            have HN5' := Lib.hid hn5'; clear hn5'
            have HN6' := Lib.hid hn6'; clear hn6'
            subst hG; subst hH
            clear hn5 hn6 hr5 hr6 H5 H6
            obtain ⟨N, hN⟩ : ∃ N, N = min n5 n6 := ⟨_, rfl⟩
            have hmin : min (n5 : Int) (n6 : Int) = (N : Int) := by omega
            have hN5 : N ≤ n5 := by omega
            have hN6 : N ≤ n6 := by omega
            have HN := Lib.hid hN
            clear hN hab
            go_wp2_with fail
            go_loopw [16] (fun x wr => ∃ k : Nat, x = .int .i64 (k : Int) ∧ k ≤ N ∧ Hid (P.take k = Q.take k) ∧ Hid (Kp [] w6 wr)) (fun x _ => N - (intOf x).toNat)
            case atStart => exact ⟨0, rfl, by omega, Lib.hid rfl, Lib.hid (Kp.refl _ _)⟩
            case round =>
              obtain ⟨k, rfl, hkN, HT, HKR⟩ := hrel
              by_cases hlt : k < N
              · obtain ⟨u, ad, hu, rfl, _, hcu⟩ := (HR5.out.kp0 HKR.out).ixB (i := k) (by rw [HN5'.out]; omega)
                obtain ⟨v, ad', hv, rfl, _, hcv⟩ := (HR6.out.kp0 HKR.out).ixB (i := k) (by rw [HN6'.out]; omega)
                by_cases huv : u = v
                · subst huv
                  have HT2 := Lib.hid (show P.take (k + 1) = Q.take (k + 1) by rw [take_succ_of hu, take_succ_of hv, HT.out])
                  clear hu hv
                  go_wp2_with fail
                  go_quiet (fail)
                  go_wp2_with fail
                  exact ⟨⟨k + 1, by go_num, by omega, HT2, Lib.hid (HKR.out.drewN _)⟩, by simp [intOf]; omega⟩
                · obtain rfl : v = !u := by cases u <;> cases v <;> simp_all
                  clear hu hv
                  go_wp2_with fail
                  go_quiet (fail)
                  go_wp2_with fail
                  go_ret
                  exact ⟨rfl, (HK.out.trans HKR.out).drewN _⟩
              · obtain rfl : k = N := by omega
                exact absurd HT.out (by rw [HN.out, ← HN5'.out, ← HN6'.out]; exact HNE.out)
        · have hHb : (H == 0) = false := by simpa using hH
          subst hG
          go_wp2_with fail
          go_ret
          exact ⟨rfl, HK.out⟩
      · have hGb : (G == 0) = false := by simpa using hG
        go_wp2_with fail
        go_ret
        exact ⟨rfl, HK.out⟩
    · have hFb : (F == 0) = false := by simpa using hF
      subst hE
      go_wp2_with fail
      refine (HMP.out _).mono ?_
      rintro e w5 ⟨hk5, A5, n5, c5, rfl, h5⟩
      replace HK := Lib.hid (HK.out.trans hk5)
      have H5 := Lib.hid h5
      clear hk5 h5
      go_wp2_with fail
      refine (HMQ.out _).mono ?_
      rintro e w6 ⟨hk6, A6, n6, c6, rfl, h6⟩
      replace HK := Lib.hid (HK.out.trans hk6)
      have H6 := Lib.hid h6
      have HK56 := Lib.hid hk6
      clear hk6 h6
      by_cases hG : G = 0
      · by_cases hH : H = 0
        · by_cases hab : a = b
          · subst hG; subst hH; subst hab
            go_wp2_with fail
            go_ret
            exact ⟨rfl, HK.out⟩
          · obtain ⟨hn5, hb5, hr5⟩ := H5.out hG
            obtain ⟨hn6, hb6, hr6⟩ := H6.out hH
            have HR5 := Lib.hid (hr5.kp0 HK56.out)
            have HR6 := Lib.hid hr6
            have HNE := Lib.hid (HPF.out hG hH hab)
            have habf : (a == b) = false := by simpa using hab
            have hn5' : P.length = n5 := hn5
            have hn6' : Q.length = n6 := hn6
            have HN5' := Lib.hid hn5'; clear hn5'
            have HN6' := Lib.hid hn6'; clear hn6'
            subst hG; subst hH
            clear hn5 hn6 hr5 hr6 H5 H6
            obtain ⟨N, hN⟩ : ∃ N, N = min n5 n6 := ⟨_, rfl⟩
            have hmin : min (n5 : Int) (n6 : Int) = (N : Int) := by omega
            have hN5 : N ≤ n5 := by omega
            have hN6 : N ≤ n6 := by omega
            have HN := Lib.hid hN
            clear hN hab
            go_wp2_with fail
            go_loopw [16] (fun x wr => ∃ k : Nat, x = .int .i64 (k : Int) ∧ k ≤ N ∧ Hid (P.take k = Q.take k) ∧ Hid (Kp [] w6 wr)) (fun x _ => N - (intOf x).toNat)
            case atStart => exact ⟨0, rfl, by omega, Lib.hid rfl, Lib.hid (Kp.refl _ _)⟩
            case round =>
              obtain ⟨k, rfl, hkN, HT, HKR⟩ := hrel
              by_cases hlt : k < N
              · obtain ⟨u, ad, hu, rfl, _, hcu⟩ := (HR5.out.kp0 HKR.out).ixB (i := k) (by rw [HN5'.out]; omega)
                obtain ⟨v, ad', hv, rfl, _, hcv⟩ := (HR6.out.kp0 HKR.out).ixB (i := k) (by rw [HN6'.out]; omega)
                by_cases huv : u = v
                · subst huv
                  have HT2 := Lib.hid (show P.take (k + 1) = Q.take (k + 1) by rw [take_succ_of hu, take_succ_of hv, HT.out])
                  clear hu hv
                  go_wp2_with fail
                  go_quiet (fail)
                  go_wp2_with fail
                  exact ⟨⟨k + 1, by go_num, by omega, HT2, Lib.hid (HKR.out.drewN _)⟩, by simp [intOf]; omega⟩
                · obtain rfl : v = !u := by cases u <;> cases v <;> simp_all
                  clear hu hv
                  go_wp2_with fail
                  go_quiet (fail)
                  go_wp2_with fail
                  go_ret
                  exact ⟨rfl, (HK.out.trans HKR.out).drewN _⟩
              · obtain rfl : k = N := by omega
                exact absurd HT.out (by rw [HN.out, ← HN5'.out, ← HN6'.out]; exact HNE.out)
        · have hHb : (H == 0) = false := by simpa using hH
          subst hG
          go_wp2_with fail
          go_ret
          exact ⟨rfl, HK.out⟩
      · have hGb : (G == 0) = false := by simpa using hG
        go_wp2_with fail
        go_ret
        exact ⟨rfl, HK.out⟩
  · have hEb : (E == 0) = false := by simpa using hE
    go_wp2_with fail
    refine (HMP.out _).mono ?_
    rintro e w5 ⟨hk5, A5, n5, c5, rfl, h5⟩
    replace HK := Lib.hid (HK.out.trans hk5)
    have H5 := Lib.hid h5
    clear hk5 h5
    go_wp2_with fail
    refine (HMQ.out _).mono ?_
    rintro e w6 ⟨hk6, A6, n6, c6, rfl, h6⟩
    replace HK := Lib.hid (HK.out.trans hk6)
    have H6 := Lib.hid h6
    have HK56 := Lib.hid hk6
    clear hk6 h6
    by_cases hG : G = 0
    · by_cases hH : H = 0
      · by_cases hab : a = b
        · subst hG; subst hH; subst hab
          go_wp2_with fail
          go_ret
          exact ⟨rfl, HK.out⟩
        · obtain ⟨hn5, hb5, hr5⟩ := H5.out hG
          obtain ⟨hn6, hb6, hr6⟩ := H6.out hH
          have HR5 := Lib.hid (hr5.kp0 HK56.out)
          have HR6 := Lib.hid hr6
          have HNE := Lib.hid (HPF.out hG hH hab)
          have habf : (a == b) = false := by simpa using hab
          have hn5' : P.length = n5 := hn5
          have hn6' : Q.length = n6 := hn6
          have HN5' := Lib.hid hn5'; clear hn5'
          have HN6' := Lib.hid hn6'; clear hn6'
          subst hG; subst hH
          clear hn5 hn6 hr5 hr6 H5 H6
          obtain ⟨N, hN⟩ : ∃ N, N = min n5 n6 := ⟨_, rfl⟩
          have hmin : min (n5 : Int) (n6 : Int) = (N : Int) := by omega
          have hN5 : N ≤ n5 := by omega
          have hN6 : N ≤ n6 := by omega
          have HN := Lib.hid hN
          clear hN hab
          go_wp2_with fail
          go_loopw [16] (fun x wr => ∃ k : Nat, x = .int .i64 (k : Int) ∧ k ≤ N ∧ Hid (P.take k = Q.take k) ∧ Hid (Kp [] w6 wr)) (fun x _ => N - (intOf x).toNat)
          case atStart => exact ⟨0, rfl, by omega, Lib.hid rfl, Lib.hid (Kp.refl _ _)⟩
          case round =>
            obtain ⟨k, rfl, hkN, HT, HKR⟩ := hrel
            by_cases hlt : k < N
            · obtain ⟨u, ad, hu, rfl, _, hcu⟩ := (HR5.out.kp0 HKR.out).ixB (i := k) (by rw [HN5'.out]; omega)
              obtain ⟨v, ad', hv, rfl, _, hcv⟩ := (HR6.out.kp0 HKR.out).ixB (i := k) (by rw [HN6'.out]; omega)
              by_cases huv : u = v
              · subst huv
                have HT2 := Lib.hid (show P.take (k + 1) = Q.take (k + 1) by rw [take_succ_of hu, take_succ_of hv, HT.out])
                clear hu hv
                go_wp2_with fail
                go_quiet (fail)
                go_wp2_with fail
                exact ⟨⟨k + 1, by go_num, by omega, HT2, Lib.hid (HKR.out.drewN _)⟩, by simp [intOf]; omega⟩
              · obtain rfl : v = !u := by cases u <;> cases v <;> simp_all
                clear hu hv
                go_wp2_with fail
                go_quiet (fail)
                go_wp2_with fail
                go_ret
                exact ⟨rfl, (HK.out.trans HKR.out).drewN _⟩
            · obtain rfl : k = N := by omega
              exact absurd HT.out (by rw [HN.out, ← HN5'.out, ← HN6'.out]; exact HNE.out)
      · have hHb : (H == 0) = false := by simpa using hH
        subst hG
        go_wp2_with fail
        go_ret
        exact ⟨rfl, HK.out⟩
    · have hGb : (G == 0) = false := by simpa using hG
      go_wp2_with fail
      go_ret
      exact ⟨rfl, HK.out⟩
end Go.Proofs.YtddmioaeehgkbaaDoor
