/-
  THE CONTRACTS OF LAYER 2's REFERENCE, fourth part: Bytes, bit by bit.
  CONDITIONS: as each says.
-/
import Derived.Test.YtlkgepojjjcaoaaPrbytes
namespace Go.Proofs.Ytlkgepojjjcaoaa
open Go.RowKit

theorem bytesN_len (N m : Nat) : (bytesN N m).length = m := by simp [bytesN]
theorem bytesN_get (N : Nat) {m j : Nat} (h : j < m) : (bytesN N m)[j]? = some ((N / 2 ^ (8 * j) % 256 : Nat) : Int) := by simp [bytesN, h]
theorem bytesN_zero (m : Nat) : bytesN 0 m = List.replicate m 0 := by
  refine List.eq_replicate_iff.2 ⟨bytesN_len _ _, fun v hv => ?_⟩
  obtain ⟨k, _, rfl⟩ := List.mem_map.1 hv
  simp
theorem bytesN_step {N a m : Nat} (h : a / 8 < m) : (bytesN (N % 2 ^ a) m).set (a / 8) (((N % 2 ^ a / 2 ^ (8 * (a / 8)) % 256 + (N / 2 ^ a % 2) * 2 ^ (a % 8) : Nat)) : Int) = bytesN (N % 2 ^ (a + 1)) m := by
  apply List.ext_getElem?
  intro j
  rw [List.getElem?_set, bytesN_len]
  have hM : N % 2 ^ a < 2 ^ a := Nat.mod_lt _ (Nat.two_pow_pos _)
  have hb : N / 2 ^ a % 2 ≤ 1 := by omega
  by_cases hj : a / 8 = j
  · rw [if_pos hj, if_pos h, ← hj, bytesN_get _ h, mod_step, byte_step hM hb, if_pos rfl]
  · rw [if_neg hj]
    by_cases hjm : j < m
    · rw [bytesN_get _ hjm, bytesN_get _ hjm, mod_step, byte_step hM hb, if_neg (fun e => hj e.symm), Nat.add_zero]
    · rw [List.getElem?_eq_none (by rw [bytesN_len]; omega), List.getElem?_eq_none (by rw [bytesN_len]; omega)]
theorem bit_at {wd i k x : Nat} {ls : List Nat} (hl : ∀ x ∈ ls, x < 2 ^ wd) (hx : ls[i]? = some x) (hk : k < wd) : packN wd ls / 2 ^ (wd * i + k) % 2 = x / 2 ^ k % 2 := by
  have h := packN_get hl hx
  have e := Nat.div_add_mod (packN wd ls / 2 ^ (wd * i)) (2 ^ wd)
  rw [h] at e
  rw [Nat.pow_add, ← Nat.div_div_eq_div_mul, ← e]
  generalize packN wd ls / 2 ^ (wd * i) / 2 ^ wd = q
  have e2 : 2 ^ wd * q = 2 ^ k * (2 * (2 ^ (wd - k - 1) * q)) := by
    rw [← Nat.mul_assoc 2, ← Nat.mul_assoc]
    congr 1
    rw [show (2 : Nat) * 2 ^ (wd - k - 1) = 2 ^ (wd - k - 1 + 1) from by rw [Nat.pow_succ, Nat.mul_comm], ← Nat.pow_add]
    exact congrArg (2 ^ ·) (by omega)
  rw [e2, Nat.add_comm, Nat.add_mul_div_left _ _ (Nat.two_pow_pos _), Nat.add_mul_mod_self_left]

set_option maxRecDepth 100000 in
set_option maxHeartbeats 2000000 in
theorem refbytes_any (b p wd : Nat) (ls : List Nat) (w : World) (h : RowR w b p wd (intsN ls)) (hl : ∀ x ∈ ls, x < 2 ^ wd) (he : errRow wd ls.length = 0) :
    Calls Try.prog 35 #[.pointer (some ⟨p, 0, none⟩)] w fun e w' => ∃ g m, m = (wd * ls.length + 7) / 8 ∧ e = .returned (.slice (some ⟨g, 0, none⟩) m m) ∧ Blk w' g 5 ((bytesN (packN wd ls) m).map (.int .u8)) ∧ w.heap.size ≤ g ∧ Kp [] w w' := by
  obtain ⟨i0, hi, hz0, hz1, hz2⟩ := info_parts Try.info_u8
  obtain ⟨A, c, h1, h2, _, _⟩ := h
  obtain ⟨d1, d2, d3⟩ := errRow_ok he
  obtain ⟨n, hn⟩ : ∃ n, n = ls.length := ⟨_, rfl⟩
  have hil : (intsN ls).length = n := by rw [hn]; simp [intsN]
  rw [hil] at h1
  rw [← hn] at d3
  obtain ⟨P, hP⟩ : ∃ P, P = wd * n := ⟨_, rfl⟩
  rw [← hP] at d3
  have hmul : (wd : Int) * (n : Int) = (P : Int) := by rw [hP]; exact (Int.natCast_mul wd n).symm
  have hw1 : IntKind.i64.wrap ((wd : Int) * (n : Int)) = (P : Int) := by rw [hmul, IntKind.wrap_i64]; omega
  have hw2 : IntKind.i64.wrap ((P : Int) + 7) = ((P + 7 : Nat) : Int) := by rw [IntKind.wrap_i64]; omega
  obtain ⟨m, hm⟩ : ∃ m, m = (P + 7) / 8 := ⟨_, rfl⟩
  have hw3 : Int.tdiv ((P : Int) + 7) 8 = (m : Int) := by rw [Int.tdiv_eq_ediv_of_nonneg (by omega)]; omega
  have hwm : IntKind.i64.wrap (m : Int) = (m : Int) := by rw [IntKind.wrap_i64]; omega
  have hmb : m ≤ 3000000 := by omega
  have hmk := run_make_list (P := Try.prog) 43 5 i0 (.int .u8 0) Try.underlying43 hi hz0 hz1 rfl .i64 .i64 m (by rw [hz2]; omega) (by omega)
  have hnb : n ≤ 16777216 := Nat.le_trans (Nat.le_mul_of_pos_left _ d1) (by rw [← hP]; exact d3)
  have c0 : w.cell? ⟨p, 0, none⟩ = some (.int .i64 (wd : Int)) := by rw [h1.cell]; rfl
  have c1 : w.cell? ⟨p, 1, none⟩ = some (.slice A n c) := by rw [h1.cell]; rfl
  have HR := Lib.hid h1; clear h1
  have HX := Lib.hid h2; clear h2
  have HL := Lib.hid hl; clear hl
  have HM := Lib.hid (show m = (wd * ls.length + 7) / 8 by rw [hm, hP, hn])
  have HPM := Lib.hid (show P ≤ 8 * m ∧ P = wd * n by exact ⟨by omega, hP⟩)
  have HN := Lib.hid hn
  clear hmul hm hP hn hil hi hz0 hz1 hz2 he
  go_enter Try.func35, Try.ntmps35
  go_wp2_with fail
  have HG0 := Lib.hid (show Blk ((w.alloc (.cells (Array.replicate m (.int .u8 0)) 5)).drew) w.heap.size 5 ((bytesN (packN wd ls % 2 ^ (wd * 0)) m).map (.int .u8)) by
    rw [Nat.mul_zero, Nat.pow_zero, Nat.mod_one, bytesN_zero]
    have h2 : Blk (w.alloc (.cells (Array.replicate m (.int .u8 0)) 5)) w.heap.size 5 ((List.replicate m (0 : Int)).map (.int .u8)) := by simpa using Blk.new w 5 (List.replicate m (.int .u8 0))
    exact h2.drew)
  go_region
  go_wp2_with fail
  go_loopw [4] (fun x wr => ∃ i : Nat, x = .int .i64 (i : Int) ∧ i ≤ n ∧ Hid (Blk wr w.heap.size 5 ((bytesN (packN wd ls % 2 ^ (wd * i)) m).map (.int .u8))) ∧ Hid (Kp [] w wr)) (fun x _ => n - (intOf x).toNat)
  case atStart => exact ⟨0, rfl, by omega, HG0, Lib.hid (((Kp.refl [] w).alloc _).drew)⟩
  case round =>
    clear HG0 c0 c1
    obtain ⟨i, rfl, hin, HB, HK⟩ := hrel
    have c0 : wr.cell? ⟨p, 0, none⟩ = some (.int .i64 (wd : Int)) := by rw [(HR.out.kp0 HK.out).cell]; rfl
    have c1 : wr.cell? ⟨p, 1, none⟩ = some (.slice A n c) := by rw [(HR.out.kp0 HK.out).cell]; rfl
    by_cases hlt : i < n
    · obtain ⟨x, hx⟩ : ∃ x, ls[i]? = some x := ⟨_, List.getElem?_eq_getElem (by rw [← HN.out]; exact hlt)⟩
      obtain ⟨ad, rfl, _, cx⟩ := (HX.out.kp0 HK.out).at_ (i := i) (u := .int .i64 (x : Int)) (by simp [intsN, hx])
      have hxb : x < 2 ^ 60 := Nat.lt_of_lt_of_le (HL.out x (List.mem_of_getElem? hx)) (Nat.pow_le_pow_right (by omega) d2)
      have HXK := Lib.hid hx; clear hx
      go_wp2_with fail
      go_loopw [5, 6] (fun y z wr => ∃ k v : Nat, z = .int .i64 (k : Int) ∧ y = .int .i64 (v : Int) ∧ k ≤ wd ∧ v < 2 ^ 60 ∧ Hid (v = x / 2 ^ k) ∧ Hid (Blk wr w.heap.size 5 ((bytesN (packN wd ls % 2 ^ (wd * i + k)) m).map (.int .u8))) ∧ Hid (Kp [] w wr)) (fun _ z _ => wd - (intOf z).toNat)
      case atStart => exact ⟨0, x, rfl, rfl, by omega, hxb, Lib.hid (by simp), HB, HK⟩
      case round =>
        clear HB HK c0 c1 cx
        obtain ⟨k, v, rfl, rfl, hkw, hvb, HV, HB, HK⟩ := hrel
        have c0 : wr.cell? ⟨p, 0, none⟩ = some (.int .i64 (wd : Int)) := by rw [(HR.out.kp0 HK.out).cell]; rfl
        by_cases hkl : k < wd
        · obtain ⟨T, hT⟩ : ∃ T, T = wd * i := ⟨_, rfl⟩
          have hiw : wd * (i + 1) ≤ wd * n := Nat.mul_le_mul_left _ hlt
          rw [Nat.mul_add, Nat.mul_one, ← hT, ← HPM.out.2] at hiw
          have hmul : (wd : Int) * (i : Int) = (T : Int) := by rw [hT]; exact (Int.natCast_mul wd i).symm
          have hwT : IntKind.i64.wrap ((wd : Int) * (i : Int)) = (T : Int) := by rw [hmul, IntKind.wrap_i64]; omega
          obtain ⟨a, ha⟩ : ∃ a, a = T + k := ⟨_, rfl⟩
          have hwa : IntKind.i64.wrap ((T : Int) + (k : Int)) = (a : Int) := by rw [IntKind.wrap_i64]; omega
          obtain ⟨q, hq⟩ : ∃ q, q = a / 8 := ⟨_, rfl⟩
          obtain ⟨r, hr⟩ : ∃ r, r = a % 8 := ⟨_, rfl⟩
          have hqm : q < m := by have := HPM.out.1; omega
          have hdiv : (a : Int).tdiv 8 = (q : Int) := by rw [Int.tdiv_eq_ediv_of_nonneg (by omega)]; omega
          have hmod : (a : Int).tmod 8 = (r : Int) := by rw [Int.tmod_eq_emod_of_nonneg (by omega)]; omega
          have hwq : IntKind.i64.wrap (q : Int) = (q : Int) := by rw [IntKind.wrap_i64]; omega
          have hwr : IntKind.i64.wrap (r : Int) = (r : Int) := by rw [IntKind.wrap_i64]; omega
          have hr8 : r < 8 := by omega
          obtain ⟨bt, hbt⟩ : ∃ bt, bt = v % 2 := ⟨_, rfl⟩
          have hbm : (v : Int).tmod 2 = (bt : Int) := by rw [Int.tmod_eq_emod_of_nonneg (by omega)]; omega
          have hu8 : ∀ z : Nat, z < 256 → IntKind.u8.wrap (z : Int) = (z : Int) := fun z hz => by
            have : IntKind.u8.wrap (z : Int) = (z : Int) % 256 := by simp [IntKind.wrap, IntKind.signed, IntKind.bits]
            rw [this]; omega
          have hwb : IntKind.u8.wrap (bt : Int) = (bt : Int) := hu8 bt (by omega)
          have hwb2 : IntKind.i64.wrap (bt : Int) = (bt : Int) := by rw [IntKind.wrap_i64]; omega
          obtain ⟨sh, hsh⟩ : ∃ sh, sh = bt * 2 ^ r := ⟨_, rfl⟩
          have hp7 : 2 ^ r ≤ 2 ^ 7 := Nat.pow_le_pow_right (by omega) (by omega)
          have hb1 : bt * 2 ^ r ≤ 1 * 2 ^ r := Nat.mul_le_mul_right _ (by omega)
          have hws : IntKind.u8.wrap ((bt : Int) * 2 ^ r) = (sh : Int) := by
            rw [show (bt : Int) * 2 ^ r = ((bt * 2 ^ r : Nat) : Int) from by simp, ← hsh]
            exact hu8 sh (by omega)
          have hws' : IntKind.u8.wrap ((bt : Int) * 2 ^ min r 8) = (sh : Int) := by rw [show min r 8 = r from by omega]; exact hws
          obtain ⟨N, hN⟩ : ∃ N, N = packN wd ls := ⟨_, rfl⟩
          rw [← hN, ← hT, ← ha] at HB
          obtain ⟨old, hold⟩ : ∃ old, old = N % 2 ^ a / 2 ^ (8 * q) % 256 := ⟨_, rfl⟩
          have cq : wr.cell? ⟨w.heap.size, q, none⟩ = some (.int .u8 (old : Int)) := by
            rw [HB.out.cell, List.getElem?_map, bytesN_get _ hqm, ← hold]; rfl
          have cf := HB.out.free q
          have hbit : N / 2 ^ a % 2 = bt := by rw [hbt, HV.out, hN, ha, hT]; exact bit_at HL.out HXK.out hkl
          have hstep := bytesN_step (N := N) (a := a) (m := m) (by rw [← hq]; exact hqm)
          rw [← hq, ← hr, ← hold, hbit, ← hsh] at hstep
          have hnew : old + sh < 256 := by
            have h1 : N % 2 ^ a / 2 ^ (8 * q) < 2 ^ r := by
              rw [Nat.div_lt_iff_lt_mul (Nat.two_pow_pos _), ← Nat.pow_add, show r + 8 * q = a from by omega]
              exact Nat.mod_lt _ (Nat.two_pow_pos _)
            have h2 : old ≤ N % 2 ^ a / 2 ^ (8 * q) := by rw [hold]; exact Nat.mod_le _ _
            omega
          have hwn : IntKind.u8.wrap ((old : Int) + (sh : Int)) = ((old + sh : Nat) : Int) := hu8 (old + sh) hnew
          obtain ⟨v2, hv2⟩ : ∃ v2, v2 = v / 2 := ⟨_, rfl⟩
          have hdv : (v : Int).tdiv 2 = (v2 : Int) := by rw [Int.tdiv_eq_ediv_of_nonneg (by omega)]; omega
          have hwv : IntKind.i64.wrap (v2 : Int) = (v2 : Int) := by rw [IntKind.wrap_i64]; omega
          have HV2 := Lib.hid (show v2 = x / 2 ^ (k + 1) by rw [hv2, HV.out, Nat.div_div_eq_div_mul, ← Nat.pow_succ])
          have hv2b : v2 < 2 ^ 60 := by omega
          have HST := Lib.hid hstep
          have HAK := Lib.hid (show a + 1 = wd * i + (k + 1) by omega)
          have HNN := Lib.hid hN
          clear hT hiw hmul ha hq hr hbt hu8 hsh hp7 hb1 hN hold hbit hstep hnew hv2
          go_wp2_with fail
          go_region
          go_wp2_with fail
          have h := (HB.out.set_ q (.int .u8 ((old + sh : Nat) : Int))).drew
          rw [← List.map_set, HST.out, HAK.out, HNN.out, Int.natCast_add] at h
          exact ⟨⟨k + 1, v2, by go_num, rfl, by omega, hv2b, HV2, Lib.hid h, Lib.hid ((HK.out.setCell (.inr (Nat.le_refl _)) _).drew)⟩, by simp [intOf]; omega⟩
        · obtain rfl : wd = k := by omega
          have HB2 := Lib.hid (show Blk wr w.heap.size 5 ((bytesN (packN wd ls % 2 ^ (wd * (i + 1))) m).map (.int .u8)) by rw [Nat.mul_add, Nat.mul_one]; exact HB.out)
          go_wp2_with fail
          exact ⟨⟨i + 1, by go_num, by omega, HB2, HK⟩, by simp [intOf]; omega⟩
    · obtain rfl : n = i := by omega
      have hN : packN wd ls % 2 ^ (wd * n) = packN wd ls := Nat.mod_eq_of_lt (by rw [HN.out]; exact packN_lt HL.out)
      have HB2 := Lib.hid (show Blk wr w.heap.size 5 ((bytesN (packN wd ls) m).map (.int .u8)) by have := HB.out; rwa [hN] at this)
      clear hN
      go_wp2_with fail
      go_ret
      exact ⟨w.heap.size, m, HM.out, rfl, HB2.out, Nat.le_refl _, HK.out⟩
end Go.Proofs.Ytlkgepojjjcaoaa
