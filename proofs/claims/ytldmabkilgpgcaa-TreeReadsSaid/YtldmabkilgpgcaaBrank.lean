/-
  LAYER 1: how many ones stand below a place.
  CONDITIONS: as each says.
-/
import Derived.Test.YtldmabkilgpgcaaBvec
namespace Go.Proofs.Ytldmabkilgpgcaa
open Go.RowKit

def wordsOf (n : Nat) : Nat := (n + 63) / 64
/-- The 64 bits of a word. -/
def wordL (bs : List Bool) (k : Nat) : List Bool := (bs.drop (64 * k)).take 64
theorem wordL_len (bs : List Bool) (k : Nat) : (wordL bs k).length ≤ 64 := by unfold wordL; rw [List.length_take]; omega
theorem bitN_wordL_lt (bs : List Bool) (k : Nat) : bitN (wordL bs k) < 2 ^ 64 := Nat.lt_of_lt_of_le (bitN_lt _) (Nat.pow_le_pow_right (by omega) (wordL_len bs k))
theorem wordL_pop (bs : List Bool) (k : Nat) : cntI bs (64 * (k + 1)) = cntI bs (64 * k) + popN 64 (bitN (wordL bs k)) := by
  rw [show 64 * (k + 1) = 64 * k + 64 by omega, cntI_add, popN_bitN 64 _ (wordL_len bs k)]
  rfl
theorem wordL_low (bs : List Bool) (k r : Nat) (hr : r ≤ 64) : cntI bs (64 * k + r) = cntI bs (64 * k) + popN 64 (bitN (wordL bs k) % 2 ^ r) := by
  rw [cntI_add, bitN_mod, popN_bitN 64 _ (by rw [List.length_take]; omega)]
  unfold wordL
  rw [List.take_take, Nat.min_eq_left hr]
/-- What the cells of a vector hold. -/
theorem VecM.words {w : World} {S : List Nat} {p : Nat} {bs : List Bool} {c : Bool} (h : VecM w S p bs c) :
    ∃ g, w.cell? ⟨p, 0, none⟩ = some (.slice (some ⟨g, 0, none⟩) (wordsOf bs.length) (wordsOf bs.length)) ∧ (∀ k, k < wordsOf bs.length → w.cell? ⟨g, k, none⟩ = some (.int .u64 ((bitN (wordL bs k) : Nat) : Int))) := by
  obtain ⟨g, ws, A, na, ca, av, h1, h2, h3, h4, h5, _⟩ := h
  refine ⟨g, by rw [h1.cell]; unfold wordsOf; rw [← h4]; rfl, fun k hk => ?_⟩
  obtain ⟨x, hx⟩ : ∃ x, ws[k]? = some x := ⟨_, List.getElem?_eq_getElem (by rw [h4]; exact hk)⟩
  rw [h2.cell, wordsV_get hx, word_bits h3 h5 hx]
  rfl
theorem VecM.tail {w : World} {S : List Nat} {p : Nat} {bs : List Bool} {c : Bool} (h : VecM w S p bs c) : w.cell? ⟨p, 2, none⟩ = some (.bool c) ∧ w.cell? ⟨p, 3, none⟩ = some (.int .i64 (bs.length : Int)) ∧ w.cell? ⟨p, 4, none⟩ = some (.bool true) ∧ bs.length ≤ 16777216 := by
  obtain ⟨g, ws, A, na, ca, av, h1, _, _, _, _, h6, _⟩ := h
  exact ⟨by rw [h1.cell]; rfl, by rw [h1.cell]; rfl, by rw [h1.cell]; rfl, h6⟩
theorem VecM.ahead {w : World} {S : List Nat} {p : Nat} {bs : List Bool} (h : VecM w S p bs true) :
    ∃ ga ca, w.cell? ⟨p, 1, none⟩ = some (.slice (some ⟨ga, 0, none⟩) (rowsOf bs.length) ca) ∧ ∀ i, i < rowsOf bs.length → w.cell? ⟨ga, i, none⟩ = some (.int .i64 ((cntI bs (512 * i) : Nat) : Int)) := by
  obtain ⟨g, ws, A, na, ca, av, h1, _, _, _, _, _, h7, h8, _⟩ := h
  have hav := h8 rfl
  subst hav
  have hna : na = rowsOf bs.length := by
    have := h7.1
    rw [List.length_map, aheadK_len, Nat.mul_one] at this
    exact this.symm
  subst hna
  obtain ⟨ga, rfl, _, _⟩ := own_blk h7 |>.elim (fun h => absurd h.2.1 (by unfold rowsOf; omega)) (fun ⟨g', cap, rest, hv, _⟩ => ⟨g', by injection hv, trivial, trivial⟩ : _ → ∃ ga, A = some ⟨ga, 0, none⟩ ∧ True ∧ True)
  refine ⟨ga, ca, by rw [h1.cell]; rfl, fun i hi => ?_⟩
  obtain ⟨ad, had, _, hc⟩ := (own_rd h7).at_ (i := i) (u := .int .i64 ((cntI bs (512 * i) : Nat) : Int)) (by rw [List.getElem?_map, aheadK_get hi]; rfl)
  injection had with had
  subst had
  rwa [addr_lit_add, Nat.zero_add] at hc

set_option maxRecDepth 100000 in
set_option maxHeartbeats 2000000 in
theorem within_any (S : List Nat) (p k : Nat) (bs : List Bool) (c : Bool) (w : World) (h : VecM w S p bs c) (hk : k < wordsOf bs.length) :
    Calls Try.prog 69 #[.pointer (some ⟨p, 0, none⟩), .int .i64 k] w fun e w' => e = .returned (.int .i64 ((cntI bs (64 * k) - cntI bs (512 * (k / 8)) : Nat) : Int)) ∧ w = w' := by
  obtain ⟨g, c0, hcw⟩ := h.words
  obtain ⟨_, _, _, hnb⟩ := h.tail
  obtain ⟨m, hm⟩ : ∃ m, m = wordsOf bs.length := ⟨_, rfl⟩
  rw [← hm] at c0 hcw hk
  have hmb : m ≤ 262144 := by unfold wordsOf at hm; omega
  have HCW := Lib.hid hcw
  have HNB := Lib.hid hnb
  clear hcw h hnb hm
  obtain ⟨q, hq⟩ : ∃ q, q = k / 8 := ⟨_, rfl⟩
  obtain ⟨a, ha⟩ : ∃ a, a = q * 8 := ⟨_, rfl⟩
  rw [← hq, show 512 * q = 64 * a by omega]
  have hdiv : (k : Int).tdiv 8 = (q : Int) := by rw [Int.tdiv_eq_ediv_of_nonneg (by omega)]; omega
  have hwq : IntKind.i64.wrap (q : Int) = (q : Int) := by rw [IntKind.wrap_i64]; omega
  have hwa : IntKind.i64.wrap ((q : Int) * 8) = (a : Int) := by rw [IntKind.wrap_i64]; omega
  have hak : a ≤ k := by omega
  have hkm : k ≤ m := by omega
  have hma : m ≠ a := by omega
  obtain ⟨d, hd⟩ : ∃ d, k - a = d := ⟨_, rfl⟩
  have HD := Lib.hid (show k = a + d by omega)
  have hd9 : d ≤ 8 := by omega
  clear hq ha
  have HRES := Lib.hid (show cntI bs (64 * k) - cntI bs (64 * a) = cntI bs (64 * (a + d)) - cntI bs (64 * a) by rw [HD.out])
  go_enter Try.func69, Try.ntmps69
  go_wp2_with fail
  go_loopw [4, 17] (fun y x wr => ∃ i : Nat, x = .int .i64 (i : Int) ∧ y = .int .i64 ((cntI bs (64 * (a + i)) - cntI bs (64 * a) : Nat) : Int) ∧ i ≤ d ∧ w = wr) (fun _ x _ => d - (intOf x).toNat)
  case atStart => exact ⟨0, rfl, by rw [Nat.add_zero, Nat.sub_self]; rfl, by omega, rfl⟩
  case round =>
    obtain ⟨i, rfl, rfl, hi, rfl⟩ := hrel
    obtain ⟨s, hs⟩ : ∃ s, s = cntI bs (64 * (a + i)) - cntI bs (64 * a) := ⟨_, rfl⟩
    rw [← hs]
    have HS := Lib.hid hs
    have hs9 : s ≤ 16777216 := by have := cntI_le bs (64 * (a + i)); have := HNB.out; omega
    clear hs
    by_cases hlt : i < d
    · have cx := HCW.out (a + i) (by have := HD.out; omega)
      have hpop := wordL_pop bs (a + i)
      obtain ⟨x, hx⟩ : ∃ x, x = bitN (wordL bs (a + i)) := ⟨_, rfl⟩
      have HXB := Lib.hid (show x < 2 ^ 64 by rw [hx]; exact bitN_wordL_lt _ _)
      rw [← hx] at cx hpop
      obtain ⟨pp, hpp⟩ : ∃ pp, pp = popN 64 x := ⟨_, rfl⟩
      rw [← hpp] at hpop
      obtain ⟨s2, hs2⟩ : ∃ s2, s2 = cntI bs (64 * (a + (i + 1))) - cntI bs (64 * a) := ⟨_, rfl⟩
      have hss : s2 = s + pp := by
        have h1 := cntI_mono bs (show 64 * a ≤ 64 * (a + i) by omega)
        have h2 := HS.out
        rw [show a + (i + 1) = a + i + 1 by omega] at hs2
        omega
      have hs29 : s2 ≤ 16777216 := by have := cntI_le bs (64 * (a + (i + 1))); have := HNB.out; omega
      have hwp : IntKind.i64.wrap ((s : Int) + (pp : Int)) = (s2 : Int) := by rw [IntKind.wrap_i64]; omega
      have HS2 := Lib.hid hs2
      have HPP := Lib.hid hpp
      clear hx hpop hpp hs2 hss
      go_wp2_with fail
      refine (ones_any x w HXB.out).mono ?_
      rintro e w3 ⟨rfl, rfl⟩
      rw [← HPP.out]
      go_wp2_with fail
      exact ⟨⟨i + 1, by go_num, by rw [HS2.out], by omega, trivial⟩, by simp [intOf]; omega⟩
    · obtain rfl : d = i := by omega
      go_wp2_with fail
      go_ret
      exact ⟨by rw [HRES.out, ← HS.out]; rfl, rfl⟩

theorem low_mask (x r : Nat) : x &&& (2 ^ r - 1) = x % 2 ^ r := Nat.and_two_pow_sub_one_eq_mod x r

set_option maxRecDepth 100000 in
set_option maxHeartbeats 4000000 in
theorem below_any (S : List Nat) (p i : Nat) (bs : List Bool) (c : Bool) (w : World) (h : VecM w S p bs c) (hi : i ≤ bs.length) :
    Calls Try.prog 67 #[.pointer (some ⟨p, 0, none⟩), .int .i64 i] w fun e w' => e = .returned (.int .i64 ((cntI bs i : Nat) : Int)) ∧ ∃ S', VecM w' S' p bs true ∧ Kp S w w' ∧ Grow w S S' ∧ (c = true → Kp [] w w' ∧ S = S') := by
  have HH := Lib.hid h; clear h
  have HIL := Lib.hid hi; clear hi
  obtain ⟨N, hN⟩ : ∃ N, N = cntI bs i := ⟨_, rfl⟩
  rw [← hN]
  have HNC := Lib.hid hN; clear hN
  go_enter Try.func67, Try.ntmps67
  go_wp2_with fail
  refine (count_any S p bs c w HH.out).mono ?_
  rintro e w1 ⟨rfl, S', hv1, hk1, hg1, hc1⟩
  have HV := Lib.hid hv1
  have HK := Lib.hid hk1
  have HG := Lib.hid hg1
  have HC := Lib.hid (show c = true → Kp [] w w1 ∧ S = S' from fun hc => by obtain ⟨rfl, rfl⟩ := hc1 hc; exact ⟨Kp.refl _ _, rfl⟩)
  clear hv1 hk1 hg1 hc1
  obtain ⟨g, c0, hcw⟩ := HV.out.words
  obtain ⟨ga, ca, c1, hca⟩ := HV.out.ahead
  obtain ⟨_, _, _, hnb⟩ := HV.out.tail
  obtain ⟨n, hn⟩ : ∃ n, n = bs.length := ⟨_, rfl⟩
  have HNN := Lib.hid hn
  have hin : i ≤ n := by rw [hn]; exact HIL.out
  rw [← hn] at c0 hcw c1 hca hnb
  obtain ⟨m, hm⟩ : ∃ m, m = wordsOf n := ⟨_, rfl⟩
  obtain ⟨R, hR⟩ : ∃ R, R = rowsOf n := ⟨_, rfl⟩
  rw [← hm] at c0 hcw
  rw [← hR] at c1 hca
  have hmb : m ≤ 262144 := by unfold wordsOf at hm; omega
  have hRb : 1 ≤ R ∧ R ≤ 40000 := by unfold rowsOf at hR; omega
  have HCW := Lib.hid hcw
  have HCA := Lib.hid hca
  have HM := Lib.hid hm
  have HR := Lib.hid hR
  clear hcw hca hn hm hR
  obtain ⟨q, hq⟩ : ∃ q, q = i / 64 := ⟨_, rfl⟩
  obtain ⟨r, hr⟩ : ∃ r, r = i % 64 := ⟨_, rfl⟩
  have hdiv : (i : Int).tdiv 64 = (q : Int) := by rw [Int.tdiv_eq_ediv_of_nonneg (by omega)]; omega
  have hmod : (i : Int).tmod 64 = (r : Int) := by rw [Int.tmod_eq_emod_of_nonneg (by omega)]; omega
  have hwq : IntKind.i64.wrap (q : Int) = (q : Int) := by rw [IntKind.wrap_i64]; omega
  have hwr : IntKind.i64.wrap (r : Int) = (r : Int) := by rw [IntKind.wrap_i64]; omega
  have hqm : q ≤ m := by have := HM.out; unfold wordsOf at this; omega
  by_cases hqe : q = m
  · have hin2 : i = n := by have := HM.out; unfold wordsOf at this; omega
    obtain ⟨R1, hR1⟩ : ∃ R1, R = R1 + 1 := ⟨R - 1, by omega⟩
    have cl := HCA.out R1 (by omega)
    have hNl : cntI bs (512 * R1) = N := by
      have h1 := HR.out
      have h2 := HNN.out
      unfold rowsOf at h1
      rw [HNC.out, cntI_all (by omega), cntI_all (by omega)]
    rw [hNl] at cl
    have hwR : IntKind.i64.wrap ((R : Int) - 1) = (R1 : Int) := by rw [IntKind.wrap_i64]; omega
    have hRR : (R1 : Int) < (R : Int) := by omega
    subst hqe
    clear hNl hR1 hin2 hq hr
    go_wp2_with fail
    go_quiet (fail)
    go_wp2_with fail
    go_ret
    exact ⟨rfl, S', HV.out.kp0 (Kp.of_drewN _ _), HK.out.drewN _, HG.out, fun hc => ⟨(HC.out hc).1.drewN _, (HC.out hc).2⟩⟩
  · have hqb : q < m := by omega
    have hqe1 : (q == m) = false := by simpa using hqe
    have hqe2 : ((q : Int) == (m : Int)) = false := by simp; omega
    have cx := HCW.out q hqb
    obtain ⟨x, hx⟩ : ∃ x, x = bitN (wordL bs q) := ⟨_, rfl⟩
    have hxb : x < 2 ^ 64 := by rw [hx]; exact bitN_wordL_lt _ _
    rw [← hx] at cx
    obtain ⟨P, hP⟩ : ∃ P, P = 2 ^ r := ⟨_, rfl⟩
    have hr64 : r < 64 := by omega
    have hPb : 1 ≤ P ∧ P ≤ 9223372036854775808 := by
      rw [hP]
      exact ⟨Nat.two_pow_pos _, Nat.le_trans (Nat.pow_le_pow_right (by omega) (show r ≤ 63 by omega)) (by decide)⟩
    have hsh : IntKind.u64.wrap (2 ^ r) = (P : Int) := by
      rw [show ((2 : Int) ^ r) = (P : Int) by rw [hP]; simp]
      exact u64_wrap_small (by omega)
    have hsh2 : IntKind.u64.wrap (2 ^ min r 64) = (P : Int) := by rw [show min r 64 = r by omega]; exact hsh
    have hwP : IntKind.u64.wrap ((P : Int) - 1) = ((P - 1 : Nat) : Int) := by
      rw [show (P : Int) - 1 = ((P - 1 : Nat) : Int) by omega]
      exact u64_wrap_small (by omega)
    obtain ⟨P1, hP1⟩ : ∃ P1, P - 1 = P1 := ⟨_, rfl⟩
    rw [hP1] at hwP
    obtain ⟨lo, hlo⟩ : ∃ lo, lo = x % 2 ^ r := ⟨_, rfl⟩
    have hand : bits .and .u64 (x : Int) (P1 : Int) = (lo : Int) := by
      rw [u64_and_nat x P1 (by omega) (by omega), ← hP1, hP, low_mask, ← hlo]
    have hlob : lo < 2 ^ 64 := by rw [hlo]; exact Nat.lt_of_le_of_lt (Nat.mod_le _ _) hxb
    obtain ⟨q8, hq8⟩ : ∃ q8, q8 = q / 8 := ⟨_, rfl⟩
    have hdiv8 : (q : Int).tdiv 8 = (q8 : Int) := by rw [Int.tdiv_eq_ediv_of_nonneg (by omega)]; omega
    have hwq8 : IntKind.i64.wrap (q8 : Int) = (q8 : Int) := by rw [IntKind.wrap_i64]; omega
    have hq8R : q8 < R := by have := HM.out; have := HR.out; unfold wordsOf rowsOf at *; omega
    have ca8 := HCA.out q8 hq8R
    obtain ⟨N8, hN8⟩ : ∃ N8, N8 = cntI bs (512 * q8) := ⟨_, rfl⟩
    rw [← hN8] at ca8
    obtain ⟨D8, hD8⟩ : ∃ D8, D8 = cntI bs (64 * q) - cntI bs (512 * q8) := ⟨_, rfl⟩
    obtain ⟨L8, hL8⟩ : ∃ L8, L8 = popN 64 lo := ⟨_, rfl⟩
    have hsum : N = N8 + D8 + L8 := by
      have h1 := wordL_low bs q r (by omega)
      have h2 := cntI_mono bs (show 512 * q8 ≤ 64 * q by omega)
      rw [← hx, ← hlo, ← hL8, show 64 * q + r = i by omega, ← HNC.out] at h1
      omega
    have hNb : N ≤ n := by rw [HNC.out, HNN.out]; exact cntI_le bs i
    have hwa : IntKind.i64.wrap ((N8 : Int) + (D8 : Int)) = ((N8 + D8 : Nat) : Int) := by rw [IntKind.wrap_i64]; omega
    have hwb : IntKind.i64.wrap (((N8 + D8 : Nat) : Int) + (L8 : Int)) = (N : Int) := by rw [IntKind.wrap_i64]; omega
    have hwb' : IntKind.i64.wrap ((N8 : Int) + (D8 : Int) + (L8 : Int)) = (N : Int) := by rw [IntKind.wrap_i64]; omega
    have HLO := Lib.hid hlob
    have HL8 := Lib.hid hL8
    have HWI := Lib.hid (show ∀ w' : World, Kp [] w1 w' → Calls Try.prog 69 #[.pointer (some ⟨p, 0, none⟩), .int .i64 q] w' fun e w'' => e = .returned (.int .i64 (D8 : Int)) ∧ w' = w'' from fun w' hd => by
      have := within_any S' p q bs true w' (HV.out.kp0 hd) (by rw [← HNN.out, ← HM.out]; exact hqb)
      rw [← hq8, ← hD8] at this
      exact this)
    have HON := Lib.hid (show ∀ w' : World, Calls Try.prog 70 #[.int .u64 lo] w' fun e w'' => e = .returned (.int .i64 (L8 : Int)) ∧ w' = w'' from fun w' => by
      have := ones_any lo w' hlob
      rw [← hL8] at this
      exact this)
    have hq8i : (q8 : Int) < (R : Int) := by omega
    have hqmi : (q : Int) < (m : Int) := by omega
    clear hqe hx hxb hP hPb hP1 hlo hlob hq8 hN8 hD8 hL8 hsum hNb hq hr
    go_wp2_with fail
    go_quiet (fail)
    go_upto_region 5 with fail
    refine wp_region_facts (by kernel_rfl) 58 [4, 41, 42, 43, 44, 45, 46, 47, 48, 49, 50, 51, 52, 53, 54, 55, 56, 57] [[], [41], [42], [43], [], [45], [46], [44, 47], [48], [], [], [51], [50, 52], [49, 53], [], [55], [54, 56], [57]] (by kernel_rfl) (by kernel_rfl) rfl (factOf [(41, .eq (.pointer (some ⟨p, 0, none⟩))), (42, .eq (.pointer (some ⟨p, 0, none⟩))), (43, .eq (.pointer (some ⟨p, 1, none⟩))), (44, .eq (.slice (some ⟨ga, 0, none⟩) R ca)), (45, .eq (.int .i64 (i : Int))), (46, .eq (.int .i64 (q : Int))), (47, .eq (.int .i64 (q8 : Int))), (48, .eq (.pointer (some ⟨ga, q8, none⟩))), (49, .eq (.int .i64 (N8 : Int))), (50, .eq (.pointer (some ⟨p, 0, none⟩))), (51, .eq (.int .i64 (i : Int))), (52, .eq (.int .i64 (q : Int))), (53, .eq (.int .i64 (D8 : Int))), (54, .eq (.int .i64 ((N8 + D8 : Nat) : Int))), (55, .eq (.int .u64 (lo : Int))), (56, .eq (.int .i64 (L8 : Int))), (57, .eq (.int .i64 (N : Int))), (4, .eq (.int .i64 (N : Int)))]) (factOf_stable _) _ (fun x => by simp only [fillL, Nat.reduceAdd, Nat.reduceEqDiff, ↓reduceIte]; rfl) ?_ ?_
    · refine ⟨?_, ?_, ?_, ?_, ?_, ?_, ?_, ?_, ?_, ?_, ?_, ?_, ?_, ?_, ?_, ?_, ?_, ?_, trivial⟩
      · intro fx w' fa hk hd ev  -- 41 = Op.move (Operand.tmp 0)
        have e0 : fa.tmps[0]?.getD undef = .pointer (some ⟨p, 0, none⟩) := ev.old 0 rfl
        refine stepF_un rfl (fun K hK => ?_)
        exact stepF_val _ hK (run_move rfl e0 _) rfl
      · intro fx w' fa hk hd ev  -- 42 = Op.nilCheck (Operand.tmp 41)
        have h41 : fx 41 = .pointer (some ⟨p, 0, none⟩) := hd.1
        have e41 : fa.tmps[41]?.getD undef = .pointer (some ⟨p, 0, none⟩) := (ev.new 41 rfl).trans h41
        refine stepF_un rfl (fun K hK => ?_)
        go_simp
        exact hK _ _ rfl (Kp.refl _ _)
      · intro fx w' fa hk hd ev  -- 43 = Op.fieldAddr 63 (Operand.tmp 42) 1
        have h42 : fx 42 = .pointer (some ⟨p, 0, none⟩) := hd.1
        have e42 : fa.tmps[42]?.getD undef = .pointer (some ⟨p, 0, none⟩) := (ev.new 42 rfl).trans h42
        refine stepF_un rfl (fun K hK => ?_)
        go_simp
        exact hK _ _ rfl (Kp.refl _ _)
      · intro fx w' fa hk hd ev  -- 44 = Op.load 47 (Operand.tmp 43)
        have h43 : fx 43 = .pointer (some ⟨p, 1, none⟩) := hd.1
        have e43 : fa.tmps[43]?.getD undef = .pointer (some ⟨p, 1, none⟩) := (ev.new 43 rfl).trans h43
        refine stepF_un rfl (fun K hK => ?_)
        have cx := hk.cell (p := ⟨p, 1, none⟩) c1 (by simp)
        go_simp
        exact hK _ _ rfl (Kp.refl _ _)
      · intro fx w' fa hk hd ev  -- 45 = Op.move (Operand.tmp 1)
        have e1 : fa.tmps[1]?.getD undef = .int .i64 (i : Int) := ev.old 1 rfl
        refine stepF_un rfl (fun K hK => ?_)
        exact stepF_val _ hK (run_move rfl e1 _) rfl
      · intro fx w' fa hk hd ev  -- 46 = Op.binOp BinOp.quo 3 (Operand.tmp 45) (Operand.const (Value.
        have h45 : fx 45 = .int .i64 (i : Int) := hd.1
        have e45 : fa.tmps[45]?.getD undef = .int .i64 (i : Int) := (ev.new 45 rfl).trans h45
        refine stepF_un rfl (fun K hK => ?_)
        go_simp
        exact hK _ _ rfl (Kp.refl _ _)
      · intro fx w' fa hk hd ev  -- 47 = Op.binOp BinOp.quo 3 (Operand.tmp 46) (Operand.const (Value.
        have h46 : fx 46 = .int .i64 (q : Int) := hd.1
        have e46 : fa.tmps[46]?.getD undef = .int .i64 (q : Int) := (ev.new 46 rfl).trans h46
        refine stepF_un rfl (fun K hK => ?_)
        go_simp
        exact hK _ _ rfl (Kp.refl _ _)
      · intro fx w' fa hk hd ev  -- 48 = Op.indexAddr 47 (Operand.tmp 44) (Operand.tmp 47)
        have h44 : fx 44 = .slice (some ⟨ga, 0, none⟩) R ca := hd.1
        have e44 : fa.tmps[44]?.getD undef = .slice (some ⟨ga, 0, none⟩) R ca := (ev.new 44 rfl).trans h44
        have h47 : fx 47 = .int .i64 (q8 : Int) := hd.2.1
        have e47 : fa.tmps[47]?.getD undef = .int .i64 (q8 : Int) := (ev.new 47 rfl).trans h47
        refine stepF_un rfl (fun K hK => ?_)
        have hz0 : (0 : Int) ≤ (q8 : Int) := by omega
        go_simp
        exact hK _ _ rfl (Kp.refl _ _)
      · intro fx w' fa hk hd ev  -- 49 = Op.load 3 (Operand.tmp 48)
        have h48 : fx 48 = .pointer (some ⟨ga, q8, none⟩) := hd.1
        have e48 : fa.tmps[48]?.getD undef = .pointer (some ⟨ga, q8, none⟩) := (ev.new 48 rfl).trans h48
        refine stepF_un rfl (fun K hK => ?_)
        have cx := hk.cell (p := ⟨ga, q8, none⟩) ca8 (by simp)
        go_simp
        exact hK _ _ rfl (Kp.refl _ _)
      · intro fx w' fa hk hd ev  -- 50 = Op.move (Operand.tmp 0)
        have e0 : fa.tmps[0]?.getD undef = .pointer (some ⟨p, 0, none⟩) := ev.old 0 rfl
        refine stepF_un rfl (fun K hK => ?_)
        exact stepF_val _ hK (run_move rfl e0 _) rfl
      · intro fx w' fa hk hd ev  -- 51 = Op.move (Operand.tmp 1)
        have e1 : fa.tmps[1]?.getD undef = .int .i64 (i : Int) := ev.old 1 rfl
        refine stepF_un rfl (fun K hK => ?_)
        exact stepF_val _ hK (run_move rfl e1 _) rfl
      · intro fx w' fa hk hd ev  -- 52 = Op.binOp BinOp.quo 3 (Operand.tmp 51) (Operand.const (Value.
        have h51 : fx 51 = .int .i64 (i : Int) := hd.1
        have e51 : fa.tmps[51]?.getD undef = .int .i64 (i : Int) := (ev.new 51 rfl).trans h51
        refine stepF_un rfl (fun K hK => ?_)
        go_simp
        exact hK _ _ rfl (Kp.refl _ _)
      · intro fx w' fa hk hd ev  -- 53 = Op.call { callee := Callee.value (Operand.func 47), args := 
        have h50 : fx 50 = .pointer (some ⟨p, 0, none⟩) := hd.1
        have e50 : fa.tmps[50]?.getD undef = .pointer (some ⟨p, 0, none⟩) := (ev.new 50 rfl).trans h50
        have h52 : fx 52 = .int .i64 (q : Int) := hd.2.1
        have e52 : fa.tmps[52]?.getD undef = .int .i64 (q : Int) := (ev.new 52 rfl).trans h52
        refine stepF_un rfl (fun K hK => ?_)
        go_simp
        refine (HWI.out _ ((Kp.of_drewN w1 _).trans hk)).mono ?_
        rintro e w1 ⟨rfl, rfl⟩
        exact hK _ _ rfl (Kp.refl _ _)
      · intro fx w' fa hk hd ev  -- 54 = Op.binOp BinOp.add 3 (Operand.tmp 49) (Operand.tmp 53) 3
        have h49 : fx 49 = .int .i64 (N8 : Int) := hd.1
        have e49 : fa.tmps[49]?.getD undef = .int .i64 (N8 : Int) := (ev.new 49 rfl).trans h49
        have h53 : fx 53 = .int .i64 (D8 : Int) := hd.2.1
        have e53 : fa.tmps[53]?.getD undef = .int .i64 (D8 : Int) := (ev.new 53 rfl).trans h53
        refine stepF_un rfl (fun K hK => ?_)
        go_simp
        exact hK _ _ rfl (Kp.refl _ _)
      · intro fx w' fa hk hd ev  -- 55 = Op.move (Operand.tmp 5)
        have e5 : fa.tmps[5]?.getD undef = .int .u64 (lo : Int) := ev.old 5 rfl
        refine stepF_un rfl (fun K hK => ?_)
        exact stepF_val _ hK (run_move rfl e5 _) rfl
      · intro fx w' fa hk hd ev  -- 56 = Op.call { callee := Callee.value (Operand.func 48), args := 
        have h55 : fx 55 = .int .u64 (lo : Int) := hd.1
        have e55 : fa.tmps[55]?.getD undef = .int .u64 (lo : Int) := (ev.new 55 rfl).trans h55
        refine stepF_un rfl (fun K hK => ?_)
        go_simp
        refine (HON.out _).mono ?_
        rintro e w1 ⟨rfl, rfl⟩
        exact hK _ _ rfl (Kp.refl _ _)
      · intro fx w' fa hk hd ev  -- 57 = Op.binOp BinOp.add 3 (Operand.tmp 54) (Operand.tmp 56) 3
        have h54 : fx 54 = .int .i64 ((N8 + D8 : Nat) : Int) := hd.1
        have e54 : fa.tmps[54]?.getD undef = .int .i64 ((N8 + D8 : Nat) : Int) := (ev.new 54 rfl).trans h54
        have h56 : fx 56 = .int .i64 (L8 : Int) := hd.2.1
        have e56 : fa.tmps[56]?.getD undef = .int .i64 (L8 : Int) := (ev.new 56 rfl).trans h56
        refine stepF_un rfl (fun K hK => ?_)
        go_simp
        exact hK _ _ rfl (Kp.refl _ _)
      · intro fx w' fa hk hd ev  -- 4 = Op.assign (Operand.tmp 57)
        have h57 : fx 57 = .int .i64 (N : Int) := hd.1
        have e57 : fa.tmps[57]?.getD undef = .int .i64 (N : Int) := (ev.new 57 rfl).trans h57
        refine stepF_un rfl (fun K hK => ?_)
        exact stepF_val _ hK (run_assign rfl e57 _) rfl
    · intro fx w' hk hd
      have h4 : fx 4 = .int .i64 (N : Int) := hd.1
      have h41 : fx 41 = .pointer (some ⟨p, 0, none⟩) := hd.2.1
      have h42 : fx 42 = .pointer (some ⟨p, 0, none⟩) := hd.2.2.1
      have h43 : fx 43 = .pointer (some ⟨p, 1, none⟩) := hd.2.2.2.1
      have h44 : fx 44 = .slice (some ⟨ga, 0, none⟩) R ca := hd.2.2.2.2.1
      have h45 : fx 45 = .int .i64 (i : Int) := hd.2.2.2.2.2.1
      have h46 : fx 46 = .int .i64 (q : Int) := hd.2.2.2.2.2.2.1
      have h47 : fx 47 = .int .i64 (q8 : Int) := hd.2.2.2.2.2.2.2.1
      have h48 : fx 48 = .pointer (some ⟨ga, q8, none⟩) := hd.2.2.2.2.2.2.2.2.1
      have h49 : fx 49 = .int .i64 (N8 : Int) := hd.2.2.2.2.2.2.2.2.2.1
      have h50 : fx 50 = .pointer (some ⟨p, 0, none⟩) := hd.2.2.2.2.2.2.2.2.2.2.1
      have h51 : fx 51 = .int .i64 (i : Int) := hd.2.2.2.2.2.2.2.2.2.2.2.1
      have h52 : fx 52 = .int .i64 (q : Int) := hd.2.2.2.2.2.2.2.2.2.2.2.2.1
      have h53 : fx 53 = .int .i64 (D8 : Int) := hd.2.2.2.2.2.2.2.2.2.2.2.2.2.1
      have h54 : fx 54 = .int .i64 ((N8 + D8 : Nat) : Int) := hd.2.2.2.2.2.2.2.2.2.2.2.2.2.2.1
      have h55 : fx 55 = .int .u64 (lo : Int) := hd.2.2.2.2.2.2.2.2.2.2.2.2.2.2.2.1
      have h56 : fx 56 = .int .i64 (L8 : Int) := hd.2.2.2.2.2.2.2.2.2.2.2.2.2.2.2.2.1
      have h57 : fx 57 = .int .i64 (N : Int) := hd.2.2.2.2.2.2.2.2.2.2.2.2.2.2.2.2.2.1
      have HK5 := Lib.hid ((Kp.of_drewN w1 _).trans hk)
      rw [h4]
      clear hk hd
      go_wp2_with fail
      go_ret
      exact ⟨rfl, S', HV.out.kp0 HK5.out, HK.out.trans (HK5.out.mono (by simp)), HG.out, fun hc => ⟨(HC.out hc).1.trans HK5.out, (HC.out hc).2⟩⟩
end Go.Proofs.Ytldmabkilgpgcaa
