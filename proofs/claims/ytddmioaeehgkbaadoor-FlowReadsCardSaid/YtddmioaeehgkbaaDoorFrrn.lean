/-
  LAYER 3: the document's reader: Number, Next, Gamma.
  CONDITIONS: as each says.
-/
import Derived.Test.YtddmioaeehgkbaaDoorFrref
namespace Go.Proofs.YtddmioaeehgkbaaDoor
open Go.RowKit

set_option maxRecDepth 100000 in
set_option maxHeartbeats 4000000 in
theorem rrnum_any (p N c a B : Nat) (A : Option Addr) (bad : Bool) (m : Int) (bs : List Bool) (w : World) (h : RrM w p A N c a bad) (hx : Rd w B A (bs.map .bool)) (hN : bs.length = N) (hc : N ≤ c) (ha : a ≤ N) (hN16 : N ≤ 16777216) (hB : B ≤ p) :
    Calls Tryd.prog 15 #[.pointer (some ⟨p, 0, none⟩), .int .i64 m] w fun e w' => e = .returned (.int .i64 (((rNum bs a bad m).1 : Nat) : Int)) ∧ RrM w' p A N c (rNum bs a bad m).2.1 (rNum bs a bad m).2.2 ∧ Kp [p] w w' := by
  cases hz : hasB N a bad m with
  | true =>
    rw [rNum_bad hN hz]
    have HC := Lib.hid (rtake_no p N c a A bad m w h ha hN16 hz)
    clear h hx hN hz
    go_enter Tryd.func15, Tryd.ntmps15
    go_wp2_with fail
    refine HC.out.mono ?_
    rintro e w1 ⟨rfl, hr, hk⟩
    have HR := Lib.hid hr; clear hr
    have HK := Lib.hid hk; clear hk
    go_wp2_with fail
    go_loop [7, 8] (fun s y => s = .int .i64 0 ∧ y = .int .i64 0) (fun _ _ => 0)
    case atStart => exact ⟨rfl, rfl⟩
    case round =>
      obtain ⟨rfl, rfl⟩ := hrel
      go_wp2_with fail
      go_ret
      exact ⟨rfl, HR.out, HK.out⟩
  | false =>
    obtain ⟨rfl, hm0, hm60, hmN, hR⟩ := rNum_ok hN hz
    obtain ⟨M, rfl⟩ : ∃ M : Nat, m = (M : Int) := ⟨m.toNat, by omega⟩
    rw [Int.toNat_natCast] at hR
    rw [hR]
    have HC := Lib.hid (rtake_yes p N c a M B A bs w h hx hN hc (by omega) hN16 (by omega) hB)
    obtain ⟨l, hl⟩ : ∃ l, l = (bs.drop a).take M := ⟨_, rfl⟩
    have HLL := Lib.hid (show l.length = M by rw [hl, List.length_take, List.length_drop, hN]; omega)
    have hM60 : M ≤ 60 := by omega
    rw [← hl] at HC ⊢
    clear h hx hN hz hR hl hm0 hm60 hmN
    go_enter Tryd.func15, Tryd.ntmps15
    go_wp2_with fail
    refine HC.out.mono ?_
    rintro e w1 ⟨A', c', rfl, hrd, hr, hk⟩
    have HRD := Lib.hid hrd; clear hrd
    have HR := Lib.hid hr; clear hr
    have HK := Lib.hid hk; clear hk
    go_wp2_with fail
    go_loop [7, 8] (fun s y => ∃ (k X : Nat), y = .int .i64 (k : Int) ∧ s = .int .i64 (X : Int) ∧ k ≤ M ∧ Hid (X = valL (l.take k))) (fun _ y => M - (intOf y).toNat)
    case atStart => exact ⟨0, 0, rfl, rfl, by omega, Lib.hid rfl⟩
    case round =>
      obtain ⟨k, X, rfl, rfl, hk, HX⟩ := hrel
      by_cases hlt : k < M
      · obtain ⟨b, hb⟩ : ∃ b, l[k]? = some b := ⟨_, List.getElem?_eq_getElem (by rw [HLL.out]; exact hlt)⟩
        obtain ⟨ad, rfl, _, hcx⟩ := HRD.out.at_ (i := k) (u := .bool b) (by simp [hb])
        have HX1 := Lib.hid (show 2 * X + b.toNat = valL (l.take (k + 1)) by rw [take_succ_of hb, valL_snoc, ← HX.out])
        have hXb : X < 1152921504606846976 := by
          have h1 := valL_lt (l.take k)
          rw [← HX.out, List.length_take] at h1
          exact Nat.lt_of_lt_of_le h1 (Nat.pow_le_pow_right (n := 2) (by omega) (show min k l.length ≤ 60 by omega))
        clear hb
        cases b with
        | true =>
          go_wp2_with fail
          exact ⟨⟨k + 1, 2 * X + 1, by go_num, by rw [show (((2 * X + 1 : Nat)) : Int) = 2 * (X : Int) + 1 by omega], by omega, HX1⟩, by simp [intOf]; omega⟩
        | false =>
          go_wp2_with fail
          exact ⟨⟨k + 1, 2 * X, by go_num, by rw [show (((2 * X : Nat)) : Int) = 2 * (X : Int) by omega], by omega, HX1⟩, by simp [intOf]; omega⟩
      · obtain rfl : M = k := by omega
        have HXF := Lib.hid (show X = valL l by rw [HX.out, List.take_of_length_le (by rw [HLL.out]; exact Nat.le_refl _)])
        go_wp2_with fail
        go_ret
        exact ⟨by rw [← HXF.out]; rfl, HR.out, HK.out⟩
theorem rNum_one {bs : List Bool} {a : Nat} {b : Bool} (hb : bs[a]? = some b) : rNum bs a false 1 = (b.toNat, a + 1, false) := by
  have ha : a < bs.length := (List.getElem?_eq_some_iff.1 hb).1
  unfold rNum
  rw [if_neg (by simp; omega)]
  have : (bs.drop a).take (1 : Int).toNat = [b] := by
    rw [show (1 : Int).toNat = 0 + 1 from rfl, take_succ_of (by rw [List.getElem?_drop]; exact hb)]
    rfl
  rw [this]
  cases b <;> rfl
set_option maxRecDepth 100000 in
set_option maxHeartbeats 4000000 in
theorem rrnext_any (p N c a B : Nat) (A : Option Addr) (bad : Bool) (bs : List Bool) (w : World) (h : RrM w p A N c a bad) (hx : Rd w B A (bs.map .bool)) (hN : bs.length = N) (hc : N ≤ c) (ha : a ≤ N) (hN16 : N ≤ 16777216) (hB : B ≤ p) :
    Calls Tryd.prog 13 #[.pointer (some ⟨p, 0, none⟩)] w fun e w' => e = .returned (.bool ((rNum bs a bad 1).1 == 1)) ∧ RrM w' p A N c (rNum bs a bad 1).2.1 (rNum bs a bad 1).2.2 ∧ Kp [p] w w' := by
  cases hz : hasB N a bad 1 with
  | true =>
    rw [rNum_bad hN hz]
    have HC := Lib.hid (rtake_no p N c a A bad 1 w h ha hN16 hz)
    clear h hx hN hz
    go_enter Tryd.func13, Tryd.ntmps13
    go_wp2_with fail
    refine HC.out.mono ?_
    rintro e w1 ⟨rfl, hr, hk⟩
    have HR := Lib.hid hr; clear hr
    have HK := Lib.hid hk; clear hk
    go_wp2_with fail
    go_ret
    exact ⟨rfl, HR.out, HK.out⟩
  | false =>
    obtain ⟨rfl, hm0, hm60, hmN, hR⟩ := rNum_ok hN hz
    have HC := Lib.hid (rtake_yes p N c a 1 B A bs w h hx hN hc (by omega) hN16 (by omega) hB)
    obtain ⟨b, hb⟩ : ∃ b, bs[a]? = some b := ⟨_, List.getElem?_eq_getElem (by rw [hN]; omega)⟩
    rw [rNum_one hb]
    have hl : (bs.drop a).take 1 = [b] := by
      rw [show 1 = 0 + 1 from rfl, take_succ_of (by rw [List.getElem?_drop]; exact hb)]
      rfl
    rw [hl] at HC
    clear h hx hN hz hR hl hm0 hm60 hmN hb
    go_enter Tryd.func13, Tryd.ntmps13
    go_wp2_with fail
    refine HC.out.mono ?_
    rintro e w1 ⟨A', c', rfl, hrd, hr, hk⟩
    obtain ⟨ad, rfl, _, hcx⟩ := hrd.at_ (i := 0) (u := .bool b) rfl
    have hcx0 := hcx
    rw [addr_add_zero] at hcx0
    clear hrd
    have HR := Lib.hid hr; clear hr
    have HK := Lib.hid hk; clear hk
    go_wp2_with fail
    go_ret
    exact ⟨by cases b <;> rfl, HR.out, HK.out⟩
end Go.Proofs.YtddmioaeehgkbaaDoor
