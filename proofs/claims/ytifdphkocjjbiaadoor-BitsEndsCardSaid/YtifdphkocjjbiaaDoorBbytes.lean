/-
  BitsBytes: the walk.
  CONDITIONS: bytes; the bounds that a row's reach gives.
-/
import Derived.Test.YtifdphkocjjbiaaDoorBset3
import Derived.Test.YtifdphkocjjbiaaDoorBread
import Derived.Test.YtifdphkocjjbiaaDoorPick
namespace Go.Proofs.YtifdphkocjjbiaaDoor
open Go.RowKit

theorem Kp.kp0 {S : List Nat} {a b c : World} (h : Kp S a b) (k : Kp [] b c) : Kp S a c := h.trans (k.mono (by simp))
theorem count_set {l : List Bool} {k : Nat} {b : Bool} (h : l[k]? = some b) : ((((l.set k (!b)).count true : Nat)) : Int) = ((l.count true : Nat) : Int) + (if b then -1 else 1) := by
  induction l generalizing k with
  | nil => simp at h
  | cons x l ih =>
    cases k with
    | zero =>
      simp at h
      subst h
      cases x <;> simp <;> omega
    | succ k =>
      simp at h
      have := ih h
      simp only [List.set_cons_succ, List.count_cons]
      cases b <;> simp at this ⊢ <;> omega
theorem Grow.far {w : World} {S T U : List Nat} (hg : Grow w S T) (hd : ∀ x ∈ U, x ∉ S) (hl : ∀ x ∈ U, x < w.heap.size) : ∀ x ∈ U, x ∉ T := fun x hx hm => by
  rcases hg x hm with h | h
  · exact hd x hx h
  · have := hl x hx; omega
theorem Grow.ge {w : World} {S T : List Nat} {B : Nat} (hg : Grow w S T) (h : ∀ x ∈ S, B ≤ x) (hB : B ≤ w.heap.size) : ∀ x ∈ T, B ≤ x := fun x hx => by
  rcases hg x hx with h1 | h1
  · exact h x h1
  · omega
theorem getB_nat {bs : List Bool} {k : Nat} {b : Bool} (h : bs[k]? = some b) : getB bs (k : Int) = b := by
  unfold getB
  rw [if_neg (by omega), Int.toNat_natCast, List.getD_eq_getElem?_getD, h]
  rfl

set_option maxRecDepth 100000 in
set_option maxHeartbeats 4000000 in
theorem bb_any (n at_ : Int) (A0 A1 : Option Addr) (L0 c0 L1 c1 : Nat) (ones : List Bool) (raw : List Nat) (w : World) (h0 : Rd w w.heap.size A0 (ones.map .bool)) (hn0 : ones.length = L0) (hb0 : L0 ≤ 140737488351232)
    (h1 : Rd w w.heap.size A1 ((intsN raw).map (.int .u8))) (hn1 : raw.length = L1) (hb1 : L1 ≤ 140737488351232) (hs : ∀ y ∈ raw, y < 2 ^ 8) (ht : Tab64 w) :
    Calls Tryd.prog 7 #[.slice A0 L0 c0, .slice A1 L1 c1, .int .i64 n, .int .i64 at_] w fun e w' => e = .returned (.bool true) ∧ Kp [] w w' := by
  have hn2 : (intsN raw).length = L1 := by rw [← hn1]; simp [intsN]
  have H0 := Lib.hid h0; clear h0
  have HN0 := Lib.hid hn0; clear hn0
  have H1 := Lib.hid h1; clear h1
  have HN1 := Lib.hid hn1; clear hn1
  have HN2 := Lib.hid hn2; clear hn2
  have HS := Lib.hid hs; clear hs
  have HT := Lib.hid ht; clear ht
  by_cases hbig : 3000 < L0 + L1
  · go_enter Tryd.func7, Tryd.ntmps7
    go_wp2_with fail
    refine (bawake_any w HT.out).mono ?_
    rintro e w0 ⟨rfl, hk0⟩
    have HK0 := Lib.hid hk0; clear hk0
    go_wp2_with fail
    go_ret
    exact ⟨rfl, HK0.out⟩
  have hb9 : L1 ≤ 1000000000 := by omega
  by_cases hbn : 24000 < n
  · go_enter Tryd.func7, Tryd.ntmps7
    go_wp2_with fail
    refine (bawake_any w HT.out).mono ?_
    rintro e w0 ⟨rfl, hk0⟩
    have HK0 := Lib.hid hk0; clear hk0
    go_wp2_with fail
    go_ret
    exact ⟨rfl, HK0.out⟩
  go_enter Tryd.func7, Tryd.ntmps7
  go_wp2_with fail
  refine (bawake_any w HT.out).mono ?_
  rintro e w0 ⟨rfl, hk⟩
  have HK := Lib.hid hk
  replace H0 := Lib.hid (H0.out.kp0 hk)
  replace H1 := Lib.hid (H1.out.kp0 hk)
  clear hk
  go_wp2_with fail
  refine (vread_any n A1 L1 c1 _ raw w0 H1.out HN1.out hb9 HS.out).mono ?_
  rintro e w1 ⟨hk, hor⟩
  obtain ⟨E, hE⟩ : ∃ E, E = readE n raw := ⟨_, rfl⟩
  rcases hor with ⟨hne, rfl⟩ | ⟨hz, hlz, hrl, hrp, S, p, rfl, hv, hS⟩
  rw [← hE] at hne ⊢
  replace H0 := Lib.hid (H0.out.kp0 hk)
  replace H1 := Lib.hid (H1.out.kp0 hk)
  replace HK := Lib.hid (HK.out.kp0 hk)
  clear hk
  have hE1 : (E == 0) = false := by simpa using hne
  clear hne hE
  obtain ⟨w3, rfl⟩ : ∃ w3, w3 = w1 := ⟨_, rfl⟩
  go_wp2_with fail
  rotate_left
  have hle := lenE_ok hlz
  obtain ⟨N, rfl⟩ : ∃ N : Nat, n = (N : Int) := ⟨n.toNat, by omega⟩
  rw [Int.toNat_natCast] at hrl hrp hv
  replace H0 := Lib.hid (H0.out.kp0 hk)
  replace H1 := Lib.hid (H1.out.kp0 hk)
  replace HK := Lib.hid (HK.out.kp0 hk)
  clear hk
  have hxl : (bitsOf N (packN 8 raw)).length = N := bitsOf_len _ _
  have hby : bytesN (bitN (bitsOf N (packN 8 raw))) ((N + 7) / 8) = intsN raw := by
    rw [bitsOf_eq hrp, ← hrl, bytesN_pack HS.out]
  have HRL := Lib.hid hrl; clear hrl
  have HRP := Lib.hid hrp; clear hrp
  have HV := Lib.hid hv; clear hv
  have HS := Lib.hid hS; clear hS
  have HXL := Lib.hid hxl; clear hxl
  have HBY := Lib.hid hby; clear hby
  clear hE hz hlz hle
  go_wp2_with fail
  refine (vbytes_any S p _ false w1 HV.out).mono ?_
  rintro e w2 ⟨A2, m2, c2, hm2, rfl, hown, hk⟩
  rw [HXL.out] at hm2
  subst hm2
  rw [HBY.out] at hown
  have hrd := own_rd hown
  replace H0 := Lib.hid (H0.out.kp0 hk)
  replace H1 := Lib.hid (H1.out.kp0 hk)
  replace HK := Lib.hid (HK.out.kp0 hk)
  replace HV := Lib.hid (HV.out.kp0 hk)
  clear hk
  clear hown
  rw [← HRL.out, HN1.out]
  have HRD := Lib.hid hrd; clear hrd
  go_wp2_with fail
  refine (sameB A2 A1 L1 L1 c2 c1 _ _ (intsN raw) (intsN raw) w2 HRD.out H1.out HN2.out HN2.out hb9 hb9).mono ?_
  rintro e w3 ⟨rfl, hd⟩
  rw [show decide (intsN raw = intsN raw) = true from by simp]
  have hk := hd.kp []
  replace H0 := Lib.hid (H0.out.kp0 hk)
  replace H1 := Lib.hid (H1.out.kp0 hk)
  replace HK := Lib.hid (HK.out.kp0 hk)
  replace HV := Lib.hid (HV.out.kp0 hk)
  clear hk
  clear hd
  go_wp2_with fail
  refine (vlen_any S p N _ false w3 HV.out HXL.out).mono ?_
  rintro e w4 ⟨rfl, rfl⟩
  go_wp2_with fail
  all_goals
    refine (bof_any A0 L0 c0 _ ones w3 H0.out HN0.out (by omega)).mono ?_
    rintro e w5 ⟨S5, p5, rfl, hv5, hS5, hk⟩
    have HS5 := Lib.hid (show ∀ x ∈ S5, w.heap.size ≤ x from fun x hx => Nat.le_trans HK.out.size (hS5 x hx))
    replace H0 := Lib.hid (H0.out.kp0 hk)
    replace HK := Lib.hid (HK.out.kp0 hk)
    clear hk
    have HV5 := Lib.hid hv5; clear hv5
    clear hS5
    go_wp2_with fail
    refine (vbytes_any S5 p5 ones false w5 HV5.out).mono ?_
    rintro e w6 ⟨A6, m6, c6, hm6, rfl, hown6, hk⟩
    have HRD6 := Lib.hid (own_rd hown6)
    have HL6 := Lib.hid (show (bytesN (bitN ones) m6).length = m6 from bytesN_len _ _)
    have HM6 := Lib.hid (show m6 = (L0 + 7) / 8 by rw [hm6, HN0.out])
    have hm9 : m6 ≤ 1000000 := by rw [HM6.out]; omega
    replace H0 := Lib.hid (H0.out.kp0 hk)
    replace HK := Lib.hid (HK.out.kp0 hk)
    replace HV5 := Lib.hid (HV5.out.kp0 hk)
    clear hk
    clear hown6 hm6
    obtain ⟨R6, hR6⟩ : ∃ R6, R6 = (bytesN (bitN ones) m6).map Int.toNat := ⟨_, rfl⟩
    have HI6 := Lib.hid (show intsN R6 = bytesN (bitN ones) m6 by rw [hR6]; exact intsN_bytes (bytesN_val _ _))
    have HRL6 := Lib.hid (show R6.length = m6 by rw [hR6, List.length_map, bytesN_len])
    have HRS6 := Lib.hid (show ∀ y ∈ R6, y < 2 ^ 8 from fun y hy => by
      rw [hR6] at hy
      obtain ⟨x, hx, rfl⟩ := List.mem_map.1 hy
      have := bytesN_val _ _ x hx
      omega)
    have HRP6 := Lib.hid (show packN 8 R6 = bitN ones by
      rw [hR6, packN_bytesN, Nat.mod_eq_of_lt]
      refine Nat.lt_of_lt_of_le (bitN_lt ones) (Nat.pow_le_pow_right (by omega) ?_)
      rw [HN0.out, HM6.out]
      omega)
    clear hR6
    have HRE6 := Lib.hid (show readE ((L0 : Nat) : Int) R6 = 0 from readE_ok (lenE_nat (by omega)) (by rw [HRL6.out, HM6.out]) (by rw [HRP6.out, ← HN0.out]; exact bitN_lt ones))
    go_wp2_with fail
    refine (vread_any (L0 : Int) A6 m6 c6 _ R6 w6 (by rw [HI6.out]; exact HRD6.out) HRL6.out (by omega) HRS6.out).mono ?_
    rintro e w7 ⟨hk, ⟨hne, _⟩ | ⟨_, _, _, _, S7, p7, rfl, hv7, hS7⟩⟩
    · exact absurd HRE6.out hne
    rw [Int.toNat_natCast, HRP6.out, ← HN0.out, bitsOf_bitN] at hv7
    have HS7 := Lib.hid (show ∀ x ∈ S7, w.heap.size ≤ x from fun x hx => Nat.le_trans HK.out.size (hS7 x hx))
    have HD57 := Lib.hid (show ∀ x ∈ S5, x ∉ S7 from fun x hx hm => by have h1 := HV5.out.lt x hx; have h2 := hS7 x hm; omega)
    replace H0 := Lib.hid (H0.out.kp0 hk)
    replace HK := Lib.hid (HK.out.kp0 hk)
    replace HV5 := Lib.hid (HV5.out.kp0 hk)
    clear hk
    have HV7 := Lib.hid hv7; clear hv7
    clear hS7
    go_wp2_with fail
    refine (vbytes_any S7 p7 ones false w7 HV7.out).mono ?_
    rintro e w8 ⟨A8, m8, c8, hm8, rfl, hown8, hk⟩
    have HRD8 := Lib.hid (own_rd hown8)
    obtain rfl : m6 = m8 := by rw [hm8, HM6.out, HN0.out]
    replace H0 := Lib.hid (H0.out.kp0 hk)
    replace HK := Lib.hid (HK.out.kp0 hk)
    replace HV5 := Lib.hid (HV5.out.kp0 hk)
    replace HV7 := Lib.hid (HV7.out.kp0 hk)
    clear hk
    clear hown8 hm8
    go_wp2_with fail
    refine (vbytes_any S5 p5 ones false w8 HV5.out).mono ?_
    rintro e w9 ⟨A9, m9, c9, hm9', rfl, hown9, hk⟩
    have HRD9 := Lib.hid (own_rd hown9)
    obtain rfl : m6 = m9 := by rw [hm9', HM6.out, HN0.out]
    replace H0 := Lib.hid (H0.out.kp0 hk)
    replace HK := Lib.hid (HK.out.kp0 hk)
    replace HV5 := Lib.hid (HV5.out.kp0 hk)
    replace HV7 := Lib.hid (HV7.out.kp0 hk)
    replace HRD8 := Lib.hid (HRD8.out.kp0 hk)
    clear hk
    clear hown9 hm9'
    go_wp2_with fail
    refine (sameB A8 A9 m6 m6 c8 c9 _ _ (bytesN (bitN ones) m6) (bytesN (bitN ones) m6) w9 HRD8.out HRD9.out HL6.out HL6.out (by omega) (by omega)).mono ?_
    rintro e w10 ⟨rfl, hd⟩
    rw [show decide (bytesN (bitN ones) m6 = bytesN (bitN ones) m6) = true from by simp]
    have hk := hd.kp []
    replace H0 := Lib.hid (H0.out.kp0 hk)
    replace HK := Lib.hid (HK.out.kp0 hk)
    replace HV5 := Lib.hid (HV5.out.kp0 hk)
    replace HV7 := Lib.hid (HV7.out.kp0 hk)
    clear hk
    clear hd HRD6 HRD8 HRD9 HL6 HI6 HRL6 HRS6 HRP6 HRE6
    go_wp2_with fail
    refine (vones_any S7 p7 ones false w10 HV7.out).mono ?_
    rintro e w11 ⟨rfl, hp⟩
    obtain ⟨T7, hv7, hk7, hg7, _⟩ := hp
    have HT7 := Lib.hid (hg7.ge HS7.out HK.out.size)
    have HD := Lib.hid (hg7.far HD57.out HV5.out.lt)
    replace HV5 := Lib.hid (HV5.out.kp hk7 HD57.out)
    replace H0 := Lib.hid (H0.out.kp hk7 HS7.out)
    replace HK := Lib.hid (HK.out.trans' hk7 (fun g hg => .inr (HS7.out g hg)))
    clear HV7 hk7 hg7 HD57 HS7
    have HV7 := Lib.hid hv7; clear hv7
    go_wp2_with fail
    refine (vones_any S5 p5 ones false w11 HV5.out).mono ?_
    rintro e w12 ⟨rfl, hp⟩
    obtain ⟨T5, hv5, hk5, hg5, _⟩ := hp
    have HD2 := Lib.hid (show ∀ x ∈ T7, x ∉ T5 from hg5.far (fun x hx hm => HD.out x hm hx) HV7.out.lt)
    have HT5 := Lib.hid (hg5.ge HS5.out HK.out.size)
    replace HV7 := Lib.hid (HV7.out.kp hk5 (fun x hx hm => HD.out x hm hx))
    replace H0 := Lib.hid (H0.out.kp hk5 HS5.out)
    replace HK := Lib.hid (HK.out.trans' hk5 (fun g hg => .inr (HS5.out g hg)))
    clear HV5 hk5 hg5 HD HS5
    have HV5 := Lib.hid hv5; clear hv5
    obtain ⟨q, hq⟩ : ∃ q, q = ones.count true := ⟨_, rfl⟩
    rw [← hq]
    have hq9 : q ≤ 16777216 := by rw [hq]; have := List.count_le_length (a := true) (l := ones); have := HN0.out; omega
    have HQ := Lib.hid hq; clear hq
    by_cases hL0 : L0 = 0
    · have HL0 := Lib.hid hL0
      subst hL0
      go_wp2_with fail
      go_ret
      exact ⟨rfl, HK.out⟩
    have hL1 : 1 ≤ L0 := by omega
    clear hL0
    obtain ⟨k, hk⟩ : ∃ k : Nat, pickI at_ (L0 : Int) = (k : Int) := ⟨(pickI at_ (L0 : Int)).toNat, by have := pickI_bound (x := at_) (n := (L0 : Int)) (by omega); omega⟩
    have hkL : k < L0 := by have := pickI_bound (x := at_) (n := (L0 : Int)) (by omega); omega
    have HKP := Lib.hid hk; clear hk
    go_wp2_with fail
    refine (pick_any at_ (L0 : Int) w12 (by omega)).mono ?_
    rw [HKP.out]
    rintro e w13 ⟨rfl, rfl⟩
    obtain ⟨b, hb⟩ : ∃ b, ones[k]? = some b := ⟨_, List.getElem?_eq_getElem (by rw [HN0.out]; exact hkL)⟩
    obtain ⟨ad, rfl, _, hcx⟩ := H0.out.at_ (i := k) (u := .bool b) (by simp [hb])
    obtain ⟨q2, hq2⟩ : ∃ q2, q2 = (ones.set k (!b)).count true := ⟨_, rfl⟩
    have hcs := count_set hb
    rw [← hq2, ← HQ.out] at hcs
    have hq29 : q2 ≤ 16777216 := by rw [hq2]; have := List.count_le_length (a := true) (l := ones.set k (!b)); rw [List.length_set, HN0.out] at this; omega
    have hkk : (k : Int) < (L0 : Int) := by omega
    have HQ2 := Lib.hid hq2; clear hq2
    have HB := Lib.hid hb; clear hb
    have HCS := Lib.hid hcs; clear hcs
    cases b
    all_goals
      go_wp2_with fail
      refine (vset_any T7 p7 L0 1 1 _ _ (some ⟨w12.heap.size, 0, none⟩) [(k : Int)] ones true _ (HV7.out.kp0 ((Kp.refl [] _).alloc _)) HN0.out (Rd.new w12 #[.int .i64 (k : Int)] 3 (0, 0)) rfl (by omega) (fun ad h hm => by injection h with h; subst h; exact Nat.lt_irrefl _ (HV7.out.lt _ hm))).mono ?_
      rintro e w13 (⟨hbad, _⟩ | ⟨_, rfl, hv, hks⟩)
      · exfalso
        simp [badL] at hbad
        omega
      have e1 : ∀ o, setL ones o [(k : Int)] = ones.set k o := fun o => rfl
      rw [e1] at hv
      have hks2 : Kp T7 w12 w13 := ((Kp.refl T7 w12).alloc _).trans hks
      have HD3 := Lib.hid (show ∀ x ∈ T5, x ∉ T7 from fun x hx hm => HD2.out x hm hx)
      replace HV5 := Lib.hid (HV5.out.kp hks2 HD3.out)
      replace HK := Lib.hid (HK.out.trans' hks2 (fun g hg => .inr (HT7.out g hg)))
      clear HV7 hks2 hks HD2 e1 H0 hcx
      have HV := Lib.hid hv; clear hv
      go_wp2_with fail
      refine (vones_any T7 p7 _ false w13 HV.out).mono ?_
      simp only [Bool.not_true, Bool.not_false] at HQ2
      rw [← HQ2.out]
      rintro e w14 ⟨rfl, T9, hv9, hk9, hg9, _⟩
      have HD9 := Lib.hid (hg9.far HD3.out HV5.out.lt)
      replace HV5 := Lib.hid (HV5.out.kp hk9 HD3.out)
      replace HK := Lib.hid (HK.out.trans' hk9 (fun g hg => .inr (HT7.out g hg)))
      clear HV hk9 hg9 HD3 HT7
      have HV9 := Lib.hid hv9; clear hv9
      go_wp2_with fail
      refine (qones HV5.out HQ.out.symm).mono ?_
      rintro e w15 ⟨rfl, hk⟩
      replace HV5 := Lib.hid (HV5.out.kp0 hk)
      replace HV9 := Lib.hid (HV9.out.kp0 hk)
      replace HK := Lib.hid (HK.out.kp0 hk)
      clear hk
      have HCT := HCS.out
      first | rw [if_pos trivial] at HCT | rw [if_neg id] at HCT | rw [if_neg (by decide)] at HCT | rw [if_pos rfl] at HCT
      have hs := HCT.symm
      clear HCT
      go_wp2_with fail
      clear hs
      go_loop [17] (fun x => ∃ i : Nat, x = .int .i64 (i : Int) ∧ i ≤ L0) (fun x => L0 - (intOf x).toNat)
      case atStart => exact ⟨0, rfl, by omega⟩
      case round =>
        obtain ⟨i, rfl, hi⟩ := hrel
        by_cases hlt : i < L0
        · by_cases hik : i = k
          · subst hik
            go_wp2_with fail
            refine (vget_any T9 p7 (i : Int) _ true w15 HV9.out).mono ?_
            rw [getB_nat (List.getElem?_set_self (by rw [HN0.out]; exact hlt))]
            rintro e w16 ⟨rfl, rfl⟩
            go_wp2_with fail
            refine (vget_any T5 p5 (i : Int) _ true w15 HV5.out).mono ?_
            rw [getB_nat HB.out]
            rintro e w16 ⟨rfl, rfl⟩
            go_wp2_with fail
            go_round
            case rel => exact ⟨i + 1, by go_num, by omega⟩
            case measure => simp [intOf]; omega
          · obtain ⟨c, hc⟩ : ∃ c, ones[i]? = some c := ⟨_, List.getElem?_eq_getElem (by rw [HN0.out]; exact hlt)⟩
            have hdk : decide (i = k) = false := by simpa using hik
            have HC := Lib.hid hc; clear hc
            go_wp2_with fail
            refine (vget_any T9 p7 (i : Int) _ true w15 HV9.out).mono ?_
            rw [getB_nat (b := c) (by rw [List.getElem?_set_ne (fun h => hik h.symm)]; exact HC.out)]
            rintro e w16 ⟨rfl, rfl⟩
            go_wp2_with fail
            refine (vget_any T5 p5 (i : Int) _ true w15 HV5.out).mono ?_
            rw [getB_nat HC.out]
            rintro e w16 ⟨rfl, rfl⟩
            cases c
            all_goals
              go_wp2_with fail
              go_round
              case rel => exact ⟨i + 1, by go_num, by omega⟩
              case measure => simp [intOf]; omega
        · obtain rfl : L0 = i := by omega
          go_wp2_with fail
          go_ret
          exact ⟨rfl, HK.out⟩
theorem bitsbytes_any (n at_ : Int) (A0 A1 : Option Addr) (L0 c0 L1 c1 : Nat) (ones : List Bool) (b : List Int) (w : World) (h0 : Rd w w.heap.size A0 (ones.map .bool)) (hn0 : ones.length = L0) (hb0 : L0 ≤ 140737488351232)
    (h1 : Rd w w.heap.size A1 (b.map (.int .u8))) (hn1 : b.length = L1) (hb1 : L1 * 1 ≤ 140737488351232) (hb : ∀ x ∈ b, 0 ≤ x ∧ x ≤ 255) (ht : Tab64 w) :
    Calls Tryd.prog 7 #[.slice A0 L0 c0, .slice A1 L1 c1, .int .i64 n, .int .i64 at_] w fun e w' => e = .returned (.bool true) ∧ Kp [] w w' := by
  refine bb_any n at_ A0 A1 L0 c0 L1 c1 ones (b.map Int.toNat) w h0 hn0 hb0 (by rw [intsN_bytes hb]; exact h1) (by rw [List.length_map]; exact hn1) (by omega) (fun y hy => ?_) ht
  obtain ⟨x, hx, rfl⟩ := List.mem_map.1 hy
  have := hb x hx
  omega
end Go.Proofs.YtifdphkocjjbiaaDoor
