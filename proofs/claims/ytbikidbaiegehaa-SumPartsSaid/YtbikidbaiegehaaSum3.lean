/-
  THE CONTRACTS OF sum.Open AND OF THE REFERENCE's Of, Join, Seal, Open.
  CONDITIONS: bytes in all at most 10^9.
-/
import Derived.Test.YtbikidbaiegehaaSum2
namespace Go.Proofs.Ytbikidbaiegehaa
open Go.RowKit

/-- What opening tells: the error's number, the bytes. -/
def openE (b : List Int) : Int := if b.length < 4 then 4 else if sealed (b.take (b.length - 4)) = b then 0 else 7
def openL (b : List Int) : List Int := if openE b = 0 then b.take (b.length - 4) else []

set_option maxHeartbeats 1000000 in
theorem open_any (A : Option Addr) (n c B : Nat) (b : List Int) (w : World) (hx : Rd w B A (b.map (.int .u8))) (hn : b.length = n) (hc : n ≤ c) (hb : n ≤ 1000000000) (hby : Byt b) :
    Calls Try.prog 17 #[.slice A n c] w fun e w' => ∃ A' c', e = .returned (.tuple #[.slice A' (openL b).length c', .int .i64 (openE b)]) ∧ w'.ownsRow w.heap.size 5 1 (.slice A' (openL b).length c') (openL b).length ((openL b).map (.int .u8)) ∧ Kp [] w w' := by
  have HN := Lib.hid hn; clear hn
  have HX := Lib.hid hx; clear hx
  have HBY := Lib.hid hby; clear hby
  by_cases h4 : n < 4
  · have he : openE b = 4 := by unfold openE; rw [if_pos (by have := HN.out; omega)]
    have hl : openL b = [] := by unfold openL; rw [if_neg (by rw [he]; decide)]
    have HE := Lib.hid he; clear he
    have HL := Lib.hid hl; clear hl
    go_enter Try.func17, Try.ntmps17
    go_wp2
    go_ret2
    refine ⟨none, 0, by rw [HE.out, HL.out]; rfl, ?_, Kp.refl _ w⟩
    rw [HL.out]
    exact World.ownsRow_nil w _ _ _
  · obtain ⟨m, hm⟩ : ∃ m, n = m + 4 := ⟨n - 4, by omega⟩
    subst hm
    have hlen : (b.take m).length = m := by rw [List.length_take, HN.out]; omega
    have HLEN := Lib.hid hlen; clear hlen
    go_enter Try.func17, Try.ntmps17
    go_wp2_with fail
    have hr : Rd w B A ((b.take m).map (.int .u8)) := by rw [List.map_take]; exact HX.out.take m
    refine (cloneB A _ c B (b.take m) _ hr HLEN.out (by omega)).mono ?_
    rintro e w1 ⟨A1, c1, rfl, hown1, hk1⟩
    have HO1 := Lib.hid hown1; clear hown1
    have HK1 := Lib.hid hk1; clear hk1 hr
    go_wp2_with fail
    obtain ⟨_, _, hv, hc1, _⟩ := own_form HO1.out
    have hc1 : m ≤ c1 := by injection hv with _ _ hv; omega
    clear hv
    have hrd1 : Rd (w1.alloc (.cells #[.slice A1 m c1] 23)) w1.heap.size A1 ((b.take m).map (.int .u8)) := (own_rd HO1.out).kp0 ((Kp.refl [] w1).alloc _)
    have hrows : RdRows (w1.alloc (.cells #[.slice A1 m c1] 23)) (w1.heap.size + 1) .u8 (some ⟨w1.heap.size, 0, none⟩) [b.take m] :=
      RdRows.one (g := w1.heap.size) (ci := c1) (t := 23) (by rw [HLEN.out]; exact heap_alloc_new w1 _) (Nat.lt_succ_self _) (by rw [HLEN.out]; exact hc1) (hrd1.bound (Nat.le_succ _))
    refine (seal_any _ 1 _ (w1.heap.size + 1) [b.take m] _ hrows (by simp) rfl (by omega) (by simp [HLEN.out]; omega) (by intro xs hxs; simp at hxs; subst hxs; exact HBY.out.take m)).mono ?_
    rintro e w2 ⟨A2, c2, rfl, hown2, hk2⟩
    have HO2 := Lib.hid hown2; clear hown2
    have hk3 : Kp [] w w2 := HK1.out.trans (((Kp.refl [] w1).alloc _).trans hk2)
    have hk12 : Kp [] w1 w2 := ((Kp.refl [] w1).alloc _).trans hk2
    have HK3 := Lib.hid hk3; clear hk3 hk2 hrows hrd1
    have HK12 := Lib.hid hk12; clear hk12
    have hfl : [b.take m].flatten = b.take m := by simp
    rw [hfl] at HO2 ⊢
    clear hfl
    rw [HLEN.out] at HO2 ⊢
    go_wp2_with fail
    refine (equalB _ _ (m + 4) (m + 4) _ _ w2.heap.size B (sealed (b.take m)) b _ (own_rd HO2.out) (HX.out.kp0 HK3.out) (by rw [sealed_length, HLEN.out]) HN.out (by omega) (by omega)).mono ?_
    rintro e w3 ⟨rfl, hd3⟩
    have HD3 := Lib.hid hd3; clear hd3
    by_cases hs : sealed (b.take m) = b
    · have he : openE b = 0 := by
        unfold openE
        rw [if_neg (by have := HN.out; omega), if_pos (by rw [HN.out]; exact hs)]
      have hl : openL b = b.take m := by unfold openL; rw [if_pos he, HN.out]; rfl
      have HE := Lib.hid he; clear he
      have HL := Lib.hid hl; clear hl
      have hdt : decide (sealed (b.take m) = b) = true := by simpa using hs
      rw [hdt]
      clear hdt hs
      go_wp2
      go_ret2
      refine ⟨A1, c1, by rw [HE.out, HL.out, HLEN.out]; rfl, ?_, HK3.out.trans (HD3.out.kp [])⟩
      rw [HL.out, HLEN.out]
      exact own_base (own_kp0 HO1.out (HK12.out.trans (HD3.out.kp []))) (Nat.le_refl _)
    · have he : openE b = 7 := by
        unfold openE
        rw [if_neg (by have := HN.out; omega), if_neg (by rw [HN.out]; exact hs)]
      have hl : openL b = [] := by unfold openL; rw [if_neg (by rw [he]; decide)]
      have HE := Lib.hid he; clear he
      have HL := Lib.hid hl; clear hl
      have hdt : decide (sealed (b.take m) = b) = false := by simpa using hs
      rw [hdt]
      clear hdt hs
      go_wp2
      go_ret2
      refine ⟨none, 0, by rw [HE.out, HL.out]; rfl, ?_, HK3.out.trans (HD3.out.kp [])⟩
      rw [HL.out]
      exact World.ownsRow_nil _ _ _ _
theorem ref_bit (s bit : Nat) (hb : bit < 2) : stp (s ^^^ bit) = (s / 2) ^^^ (if s % 2 ≠ bit then poly else 0) := by
  unfold stp
  rw [xor_div2, xor_mod2, show bit / 2 = 0 from by omega, Nat.xor_zero]
  congr 1
  have : bit = 0 ∨ bit = 1 := by omega
  rcases this with rfl | rfl <;> rcases Nat.mod_two_eq_zero_or_one s with h | h <;> simp [h]
theorem ref_step (r c k : Nat) : stpN (k + 1) (r ^^^ c % 2 ^ (k + 1)) = stp (stpN k (r ^^^ c % 2 ^ k) ^^^ (c / 2 ^ k % 2)) := by
  have h1 : c % 2 ^ (k + 1) = c % 2 ^ k ^^^ 2 ^ k * (c / 2 ^ k % 2) := by
    have h := low_high (c % 2 ^ (k + 1)) k
    rw [Nat.mod_mod_of_dvd _ (Nat.pow_dvd_pow 2 (Nat.le_succ k))] at h
    rw [h]
    congr 2
    rw [Nat.pow_succ, Nat.mod_mul_right_div_self]
  rw [stpN_succ', h1, ← Nat.xor_assoc, stpN_xor, stpN_shift]

theorem ref_bit_int (y j : Nat) : ((y : Int) / 2 ^ j).tmod 2 % 4294967296 = ((y / 2 ^ j % 2 : Nat) : Int) := by
  have h1 : ((y : Int) / 2 ^ j) = ((y / 2 ^ j : Nat) : Int) := by
    rw [show ((2 : Int) ^ j) = ((2 ^ j : Nat) : Int) from by simp]
    exact (Int.natCast_ediv _ _).symm
  rw [h1]
  generalize y / 2 ^ j = z
  rw [Int.tmod_eq_emod_of_nonneg (by omega)]
  omega
theorem ref_ne {p z : Nat} (h : ((p : Int) % 2 != ((z % 2 : Nat) : Int)) = true) : p % 2 ≠ z % 2 := by
  have := bne_iff_ne.1 h
  omega
theorem ref_eq {p z : Nat} (h : ((p : Int) % 2 != ((z % 2 : Nat) : Int)) = false) : ¬ p % 2 ≠ z % 2 := by
  have := bne_eq_false_iff_eq.1 h
  omega

set_option maxHeartbeats 1000000 in
theorem rof_any (A : Option Addr) (n c B : Nat) (b : List Int) (w : World) (hx : Rd w B A (b.map (.int .u8))) (hn : b.length = n) (hb : n ≤ 1000000000) (hby : Byt b) :
    Calls Try.prog 20 #[.slice A n c] w fun e w' => e = .returned (.int .u32 ((crc b : Nat) : Int)) ∧ w = w' := by
  have HN := Lib.hid hn; clear hn
  have HX := Lib.hid hx; clear hx
  have HBY := Lib.hid hby; clear hby
  go_enter Try.func20, Try.ntmps20
  go_wp2
  go_loop [3, 4] (fun r i => ∃ k : Nat, k ≤ n ∧ i = .int .i64 k ∧ r = .int .u32 ((crcFrom 4294967295 (b.take k) : Nat) : Int)) (fun _ i => n - (intOf i).toNat)
  case atStart => exact ⟨0, by omega, rfl, by simp [crcFrom]⟩
  case round =>
    obtain ⟨k, hk, rfl, rfl⟩ := hrel
    have hlt0 : crcFrom 4294967295 (b.take k) < 4294967296 := crcFrom_lt (by omega) (HBY.out.take k)
    by_cases hlt : k < n
    · obtain ⟨x, ad, hxk, rfl, _, hcx⟩ := HX.out.ix (i := k) (by have := HN.out; omega)
      have hx0 := HBY.out.at_ hxk
      have hs1 := crc_take_succ 4294967295 hxk
      generalize hq : crcFrom 4294967295 (b.take k) = q at *
      obtain ⟨y, rfl⟩ : ∃ y : Nat, x = y := ⟨x.toNat, by omega⟩
      rw [Int.toNat_natCast] at hs1
      have HQ := Lib.hid hq; clear hq
      have HS1 := Lib.hid hs1; clear hs1
      have HXK := Lib.hid hxk; clear hxk
      go_wp2
      go_loop [3, 5] (fun r i => ∃ j : Nat, j ≤ 8 ∧ i = .int .i64 j ∧ r = .int .u32 ((stpN j (q ^^^ y % 2 ^ j) : Nat) : Int)) (fun _ i => 8 - (intOf i).toNat)
      case atStart => exact ⟨0, by omega, rfl, by simp [stpN, Nat.mod_one]⟩
      case round =>
        obtain ⟨j, hj, rfl, rfl⟩ := hrel
        by_cases hj8 : j < 8
        · have hy : y < 256 := by omega
          have hpq : stpN j (q ^^^ y % 2 ^ j) < 4294967296 := stpN_lt j (Nat.xor_lt_two_pow (n := 32) hlt0 (by have := Nat.mod_le y (2 ^ j); omega))
          have hst := ref_step q y j
          rw [ref_bit _ _ (Nat.mod_lt _ (by omega))] at hst
          generalize hp : stpN j (q ^^^ y % 2 ^ j) = p at *
          have HP := Lib.hid hp; clear hp
          have HST := Lib.hid hst; clear hst
          have hbit := ref_bit_int y j
          have hxor : bits .xor .u32 ((p : Int) / 2) 3988292384 = ((p / 2 ^^^ poly : Nat) : Int) := by
            rw [show ((p : Int) / 2) = ((p / 2 : Nat) : Int) from by omega]
            exact u32_xor_nat _ 3988292384 (by omega) (by omega)
          have HB := Lib.hid hbit; clear hbit
          generalize hpx : p / 2 ^^^ poly = px at *
          have HPX := Lib.hid hpx; clear hpx
          go_wp2
          · have ht : ((p : Int) % 2 != ((y : Int) / 2 ^ j).tmod 2 % 4294967296) = true := by assumption
            rw [HB.out] at ht
            have ht' : p % 2 ≠ y / 2 ^ j % 2 := ref_ne ht
            have hst := HST.out
            rw [if_pos ht', HPX.out] at hst
            go_round
            case rel => exact ⟨j + 1, by omega, by go_num, by rw [hst]⟩
            case measure => simp [intOf]; omega
          · have ht : ((p : Int) % 2 != ((y : Int) / 2 ^ j).tmod 2 % 4294967296) = false := by assumption
            rw [HB.out] at ht
            have ht' : ¬ p % 2 ≠ y / 2 ^ j % 2 := ref_eq ht
            have hst := HST.out
            rw [if_neg ht', Nat.xor_zero] at hst
            go_round
            case rel => exact ⟨j + 1, by omega, by go_num, by rw [hst]; go_num⟩
            case measure => simp [intOf]; omega
        · have hj' : j = 8 := by omega
          subst hj'
          have hb8 : stpN 8 (q ^^^ y % 2 ^ 8) = bstp q y := by rw [Nat.mod_eq_of_lt (by omega)]; rfl
          generalize hp : stpN 8 (q ^^^ y % 2 ^ 8) = p at *
          have HP := Lib.hid hp; clear hp
          have HB8 := Lib.hid hb8; clear hb8
          go_wp2
          go_round
          case rel => exact ⟨k + 1, by omega, by go_num, by rw [HS1.out, ← HB8.out]⟩
          case measure => simp [intOf]; omega
    · have hk' : k = n := by omega
      subst hk'
      have hq : crc b = crcFrom 4294967295 (b.take k) ^^^ 4294967295 := by
        rw [List.take_of_length_le (by have := HN.out; omega)]; rfl
      generalize crcFrom 4294967295 (b.take k) = q at *
      have hxor : bits .xor .u32 (q : Int) 4294967295 = ((crc b : Nat) : Int) := by
        rw [hq]
        exact u32_xor_nat q 4294967295 hlt0 (by omega)
      have HQ := Lib.hid hq; clear hq
      go_wp2
      go_ret
      exact ⟨rfl, rfl⟩

set_option maxHeartbeats 1000000 in
/-- The reference's Join. -/
theorem rjoin_any (A : Option Addr) (n c B : Nat) (xss : List (List Int)) (w : World) (hx : RdRows w B .u8 A xss) (hn : xss.length = n) (hb : n ≤ 1000000000) (hf : xss.flatten.length ≤ 1000000000) :
    Calls Try.prog 15 #[.slice A n c] w fun e w' => ∃ A' c', e = .returned (.slice A' xss.flatten.length c') ∧ w'.ownsRow w.heap.size 5 1 (.slice A' xss.flatten.length c') xss.flatten.length (xss.flatten.map (.int .u8)) ∧ Kp [] w w' := by
  obtain ⟨i0, hi, hz0, hz1, hz2⟩ := info_parts Try.info_u8
  have HN := Lib.hid hn; clear hn
  have HX := Lib.hid hx; clear hx
  go_enter Try.func15, Try.ntmps15
  go_wp2
  go_loopw [3, 4] (fun s i wr => ∃ j : Nat, j ≤ n ∧ i = .int .i64 j ∧ wr.ownsRow w.heap.size 5 1 s (xss.take j).flatten.length ((xss.take j).flatten.map (.int .u8)) ∧ Kp [] w wr) (fun _ i _ => n - (intOf i).toNat)
  case atStart => exact ⟨0, by omega, rfl, World.ownsRow_made w #[] 0 (Nat.le_refl _) (Nat.zero_le _) rfl, (Kp.refl [] w).alloc _⟩
  case round =>
    obtain ⟨j, hj, rfl, hown, hkp⟩ := hrel
    by_cases hlt : j < n
    · obtain ⟨xs, ad, Ai, ci, hxk, rfl, _, hcell, _, hrd⟩ := (HX.out.kp0 hkp).ix (i := j) (by have := HN.out; omega)
      have hfl := flat_take_succ hxk
      have hle := flat_take_le xss (j + 1)
      have hl1 : (xss.take j).flatten.length + xs.length ≤ 1000000000 := by rw [hfl, List.length_append] at hle; omega
      have HXK := Lib.hid hxk; clear hxk
      have HFL := Lib.hid hfl; clear hfl
      have HR := Lib.hid hrd; clear hrd
      have HO := Lib.hid hown; clear hown
      have HKP := Lib.hid hkp; clear hkp
      clear hle
      go_wp2_with (at_builtin; refine wpList_append_rd rfl (.tmp 12) (.tmp 16) 23 rfl w.heap.size 5 i0 (.int .u8 0) 1 1 Try.underlying23 hi hz0 hz1 hz2 rfl (by decide) _ (xss.take j).flatten.length _ rfl HO.out B Ai xs.length ci (xs.map (.int .u8)) rfl (by simp) HR.out (by simp [Value.oneCell']) (by unfold maxLen; omega) (by omega) HKP.out.size ?_; intro v' w2 hown2 hgrow2 hat2)
      go_roundw
      case rel => exact ⟨j + 1, by omega, by go_num, by rw [HFL.out, List.map_append, List.length_append]; exact hown2, HKP.out.grown hgrow2 (fun g hg => .inr (own_ge HO.out hg).1)⟩
      case measure => simp [intOf]; omega
    · have hj' : j = n := by omega
      subst hj'
      have HO := Lib.hid hown; clear hown
      go_wp2
      go_ret
      have ho := HO.out
      rw [List.take_of_length_le (by have := HN.out; omega)] at ho
      obtain ⟨A', c', rfl, _⟩ := own_form ho
      exact ⟨A', c', rfl, ho, hkp⟩
end Go.Proofs.Ytbikidbaiegehaa
