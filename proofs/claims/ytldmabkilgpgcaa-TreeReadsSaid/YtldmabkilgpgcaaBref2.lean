/-
  LAYER 1's REFERENCE: Select, Bytes.
  CONDITIONS: as each says.
-/
import Derived.Test.YtldmabkilgpgcaaBref1
namespace Go.Proofs.Ytldmabkilgpgcaa
open Go.RowKit

theorem selO_of_none {bs : List Bool} {k : Int} (h : ∀ j : Nat, bs[j]? = some true → ((cntI bs j : Nat) : Int) ≠ k) : selO bs k = none := by
  unfold selO
  by_cases h0 : k < 0
  · rw [if_pos h0]
  · rw [if_neg h0, List.find?_eq_none]
    intro i hi hc
    simp only [Bool.and_eq_true, beq_iff_eq] at hc
    exact h i hc.1 (by omega)
theorem cntI_next {bs : List Bool} {k : Nat} {b : Bool} (h : bs[k]? = some b) : cntI bs (k + 1) = cntI bs k + b.toNat := by
  unfold cntI
  rw [take_succ_of h, List.count_append]
  cases b <;> rfl

set_option maxRecDepth 100000 in
set_option maxHeartbeats 2000000 in
theorem rbbytes_any (S : List Nat) (p : Nat) (bs : List Bool) (w : World) (h : RefV w S p bs) (hl : bs.length ≤ 16777216) :
    Calls Try.prog 54 #[.pointer (some ⟨p, 0, none⟩)] w fun e w' => ∃ g m, m = (bs.length + 7) / 8 ∧ e = .returned (.slice (some ⟨g, 0, none⟩) m m) ∧ Blk w' g 5 ((bytesN (bitN bs) m).map (.int .u8)) ∧ w.heap.size ≤ g ∧ Kp [] w w' := by
  obtain ⟨i0, hi, hz0, hz1, hz2⟩ := info_parts Try.info_u8
  have HV := Lib.hid h
  obtain ⟨A, c, c0, hr⟩ := h.open
  obtain ⟨n, hn⟩ : ∃ n, n = bs.length := ⟨_, rfl⟩
  rw [← hn] at c0 hl
  have hw2 : IntKind.i64.wrap ((n : Int) + 7) = ((n + 7 : Nat) : Int) := by rw [IntKind.wrap_i64]; omega
  obtain ⟨m, hm⟩ : ∃ m, m = (n + 7) / 8 := ⟨_, rfl⟩
  have hw3 : Int.tdiv ((n : Int) + 7) 8 = (m : Int) := by rw [Int.tdiv_eq_ediv_of_nonneg (by omega)]; omega
  have hwm : IntKind.i64.wrap (m : Int) = (m : Int) := by rw [IntKind.wrap_i64]; omega
  have hmb : m ≤ 3000000 := by omega
  have hmk := run_make_list (P := Try.prog) 38 5 i0 (.int .u8 0) Try.underlying38 hi hz0 hz1 rfl .i64 .i64 m (by rw [hz2]; omega) (by omega)
  have HC := Lib.hid c0
  have HX := Lib.hid hr
  have HM := Lib.hid (show m = (bs.length + 7) / 8 by rw [hm, hn])
  have HN := Lib.hid hn
  have hnm : n ≤ 8 * m := by omega
  clear hm hn hr h hi hz0 hz1 hz2
  go_enter Try.func54, Try.ntmps54
  go_wp2_with fail
  have HG0 := Lib.hid (show Blk (w.alloc (.cells (Array.replicate m (.int .u8 0)) 5)) w.heap.size 5 ((bytesN (bitN bs % 2 ^ 0) m).map (.int .u8)) by
    rw [Nat.pow_zero, Nat.mod_one, bytesN_zero]
    have h2 : Blk (w.alloc (.cells (Array.replicate m (.int .u8 0)) 5)) w.heap.size 5 ((List.replicate m (0 : Int)).map (.int .u8)) := by simpa using Blk.new w 5 (List.replicate m (.int .u8 0))
    exact h2)
  go_loopw [4] (fun x wr => ∃ i : Nat, x = .int .i64 (i : Int) ∧ i ≤ n ∧ Hid (Blk wr w.heap.size 5 ((bytesN (bitN bs % 2 ^ i) m).map (.int .u8))) ∧ Hid (Kp [] w wr)) (fun x _ => n - (intOf x).toNat)
  case atStart => exact ⟨0, rfl, by omega, HG0, Lib.hid ((Kp.refl [] w).alloc _)⟩
  case round =>
    clear HG0 c0
    obtain ⟨i, rfl, hin, HB, HK⟩ := hrel
    have c0 : wr.cell? ⟨p, 0, none⟩ = some (.slice A n c) := HK.out.cell HC.out (by simp)
    by_cases hlt : i < n
    · obtain ⟨b, hb⟩ : ∃ b, bs[i]? = some b := ⟨_, List.getElem?_eq_getElem (by rw [← HN.out]; exact hlt)⟩
      obtain ⟨ad, rfl, _, hcx⟩ := (HX.out.kp0 HK.out).at_ (i := i) (u := .bool b) (by simp [hb])
      have hbit := bitN_bit hb
      have hstep := bytesN_step (N := bitN bs) (a := i) (m := m) (by omega)
      obtain ⟨q, hq⟩ : ∃ q, q = i / 8 := ⟨_, rfl⟩
      obtain ⟨r, hr⟩ : ∃ r, r = i % 8 := ⟨_, rfl⟩
      obtain ⟨N, hN⟩ : ∃ N, N = bitN bs := ⟨_, rfl⟩
      rw [← hN] at HB hbit hstep
      obtain ⟨old, hold⟩ : ∃ old, old = N % 2 ^ i / 2 ^ (8 * q) % 256 := ⟨_, rfl⟩
      rw [hbit, ← hq, ← hr, ← hold] at hstep
      have hqm : q < m := by omega
      have cq : wr.cell? ⟨w.heap.size, q, none⟩ = some (.int .u8 (old : Int)) := by
        rw [HB.out.cell, List.getElem?_map, bytesN_get _ hqm, ← hold]; rfl
      have cf := HB.out.free q
      have hob : old < 2 ^ r := by
        have h1 : N % 2 ^ i / 2 ^ (8 * q) < 2 ^ r := by
          rw [Nat.div_lt_iff_lt_mul (Nat.two_pow_pos _), ← Nat.pow_add, show r + 8 * q = i from by omega]
          exact Nat.mod_lt _ (Nat.two_pow_pos _)
        have h2 : old ≤ N % 2 ^ i / 2 ^ (8 * q) := by rw [hold]; exact Nat.mod_le _ _
        omega
      cases b with
      | false =>
        have e : (bytesN (N % 2 ^ i) m).set q ((old : Nat) : Int) = bytesN (N % 2 ^ i) m := by
          rw [hold]
          apply List.ext_getElem?
          intro j
          rw [List.getElem?_set]
          by_cases hj : q = j
          · subst hj
            rw [if_pos rfl, if_pos (by rw [bytesN_len]; exact hqm), bytesN_get _ hqm]
          · rw [if_neg hj]
        have hs2 : (bytesN (N % 2 ^ i) m).set q ((old + false.toNat * 2 ^ r : Nat) : Int) = bytesN (N % 2 ^ (i + 1)) m := hstep
        rw [show old + false.toNat * 2 ^ r = old by simp, e] at hs2
        have HB2 := Lib.hid (show Blk wr w.heap.size 5 ((bytesN (bitN bs % 2 ^ (i + 1)) m).map (.int .u8)) by rw [← hN, ← hs2]; exact HB.out)
        clear hb hbit hstep hq hr hN hold hqm cq cf hob e hs2 HB
        go_wp2_with fail
        exact ⟨⟨i + 1, by go_num, by omega, HB2, HK⟩, by simp [intOf]; omega⟩
      | true =>
        have hdiv : (i : Int).tdiv 8 = (q : Int) := by rw [Int.tdiv_eq_ediv_of_nonneg (by omega)]; omega
        have hmod : (i : Int).tmod 8 = (r : Int) := by rw [Int.tmod_eq_emod_of_nonneg (by omega)]; omega
        have hwq : IntKind.i64.wrap (q : Int) = (q : Int) := by rw [IntKind.wrap_i64]; omega
        have hwr : IntKind.i64.wrap (r : Int) = (r : Int) := by rw [IntKind.wrap_i64]; omega
        have hr8 : r < 8 := by omega
        have hu8 : ∀ z : Nat, z < 256 → IntKind.u8.wrap (z : Int) = (z : Int) := fun z hz => by
          have : IntKind.u8.wrap (z : Int) = (z : Int) % 256 := by simp [IntKind.wrap, IntKind.signed, IntKind.bits]
          rw [this]; omega
        obtain ⟨sh, hsh⟩ : ∃ sh, sh = 2 ^ r := ⟨_, rfl⟩
        have hp7 : 2 ^ r ≤ 2 ^ 7 := Nat.pow_le_pow_right (by omega) (by omega)
        have hws2 : IntKind.u8.wrap (2 ^ r) = (sh : Int) := by
          rw [show ((2 : Int) ^ r) = ((2 ^ r : Nat) : Int) from by simp, ← hsh]
          exact hu8 sh (by omega)
        have hws : IntKind.u8.wrap (1 * 2 ^ r) = (sh : Int) := by rw [Int.one_mul]; exact hws2
        have hws' : IntKind.u8.wrap (1 * 2 ^ min r 8) = (sh : Int) := by rw [show min r 8 = r from by omega]; exact hws
        have hws3 : IntKind.u8.wrap (2 ^ min r 8) = (sh : Int) := by rw [show min r 8 = r from by omega]; exact hws2
        have hwn : IntKind.u8.wrap ((old : Int) + (sh : Int)) = ((old + sh : Nat) : Int) := hu8 (old + sh) (by omega)
        have hs2 : (bytesN (N % 2 ^ i) m).set q ((old + sh : Nat) : Int) = bytesN (N % 2 ^ (i + 1)) m := by
          rw [← hstep, hsh]
          show _ = (bytesN (N % 2 ^ i) m).set q ((old + 1 * 2 ^ r : Nat) : Int)
          rw [Nat.one_mul]
        have HST := Lib.hid hs2
        have HNN := Lib.hid hN
        clear hb hbit hstep hq hr hN hold hob hu8 hsh hp7 hs2
        go_wp2_with fail
        go_region
        go_wp2_with fail
        have h := (HB.out.set_ q (.int .u8 ((old + sh : Nat) : Int))).drew
        rw [← List.map_set, HST.out, HNN.out, Int.natCast_add] at h
        exact ⟨⟨i + 1, by go_num, by omega, Lib.hid h, Lib.hid ((HK.out.setCell (.inr (Nat.le_refl _)) _).drew)⟩, by simp [intOf]; omega⟩
    · obtain rfl : n = i := by omega
      have hN : bitN bs % 2 ^ n = bitN bs := Nat.mod_eq_of_lt (by rw [HN.out]; exact bitN_lt bs)
      have HB2 := Lib.hid (show Blk wr w.heap.size 5 ((bytesN (bitN bs) m).map (.int .u8)) by have := HB.out; rwa [hN] at this)
      clear hN
      go_wp2_with fail
      go_ret
      exact ⟨w.heap.size, m, HM.out, rfl, HB2.out, Nat.le_refl _, HK.out⟩
end Go.Proofs.Ytldmabkilgpgcaa
