/-
  LAYER 1's REFERENCE: New, Read.
  CONDITIONS: as each says.
-/
import Derived.Test.YtldmabkilgpgcaaBref2
namespace Go.Proofs.Ytldmabkilgpgcaa
open Go.RowKit

theorem Try.info_bool_ : (Try.prog.info? 4).map (fun i => (i.zero, i.size, i.bytes)) = some (some (.bool false), 1, 1) := by kernel_rfl
theorem rbnew_no (n : Int) (w : World) (h : lenE n ≠ 0) : Calls Try.prog 65 #[.int .i64 n] w fun e w' => e = .returned (.tuple #[.pointer none, .int .i64 (lenE n)]) ∧ w = w' := by
  by_cases h0 : n < 0
  · have HE := Lib.hid (show lenE n = 2 by unfold lenE; rw [if_pos h0])
    rw [HE.out]
    clear h
    go_enter Try.func65, Try.ntmps65
    go_wp2_with fail
    go_ret2
    exact ⟨rfl, rfl⟩
  · by_cases h1 : 16777216 < n
    · have HE := Lib.hid (show lenE n = 3 by unfold lenE; rw [if_neg h0, if_pos h1])
      rw [HE.out]
      clear h
      go_enter Try.func65, Try.ntmps65
      go_wp2_with fail
      go_ret2
      exact ⟨rfl, rfl⟩
    · exact absurd (show lenE n = 0 by unfold lenE; rw [if_neg h0, if_neg h1]) h

set_option maxRecDepth 100000 in
set_option maxHeartbeats 2000000 in
theorem rbnew_raw (n : Nat) (w : World) (h : n ≤ 16777216) : Calls Try.prog 65 #[.int .i64 n] w fun e w' =>
    ∃ g p, e = .returned (.tuple #[.pointer (some ⟨p, 0, none⟩), .int .i64 0]) ∧ w.heap.size ≤ g ∧ w.heap.size ≤ p ∧ g ≠ p ∧ Blk w' g 4 ((List.replicate n false).map .bool) ∧ Blk w' p 92 [.slice (some ⟨g, 0, none⟩) n n] ∧ Kp [] w w' := by
  obtain ⟨i0, hi, hz0, hz1, hz2⟩ := info_parts Try.info_bool_
  have hmk := run_make_list (P := Try.prog) 67 4 i0 (.bool false) Try.underlying67 hi hz0 hz1 rfl .i64 .i64 n (by rw [hz2]; omega) (by omega)
  clear hi hz0 hz1 hz2
  go_enter Try.func65, Try.ntmps65
  go_wp2_with fail
  go_ret2
  have b1 := Blk.new w 4 (List.replicate n (.bool false))
  have b2 := Blk.new (w.alloc (.cells (List.replicate n (.bool false)).toArray 4)) 92 [.slice (some ⟨w.heap.size, 0, none⟩) n n]
  have e : (w.alloc (.cells (List.replicate n (.bool false)).toArray 4)).heap.size = w.heap.size + 1 := by simp
  rw [e] at b2
  refine ⟨w.heap.size, w.heap.size + 1, rfl, Nat.le_refl _, Nat.le_succ _, by omega, ?_, ?_, ((Kp.refl [] w).alloc _).alloc _⟩
  · have := b1.alloc (.cells [.slice (some ⟨w.heap.size, 0, none⟩) n n].toArray 92)
    simpa using this
  · simpa using b2
theorem RefV.of_blk {w : World} {g p n : Nat} {bs : List Bool} (hn : bs.length = n) (hm : n ≤ maxLen) (hg : Blk w g 4 (bs.map .bool)) (hp : Blk w p 92 [.slice (some ⟨g, 0, none⟩) n n]) : RefV w [p, g] p bs := by
  subst hn
  refine ⟨some ⟨g, 0, none⟩, bs.length, hp, ?_, rfl⟩
  exact own_of_blk (xs := bs.map .bool) (rest := []) (by rw [List.append_nil]; exact hg) (Nat.zero_le _) (Nat.le_refl _) hm (by simp) (by simp)

theorem top_zero {N n : Nat} : ∀ {j : Nat}, n ≤ j → N < 2 ^ j → (∀ i, n ≤ i → i < j → N / 2 ^ i % 2 = 0) → N < 2 ^ n
  | 0, hj, h, _ => by
    obtain rfl : n = 0 := by omega
    exact h
  | j + 1, hj, h, hb => by
    by_cases hnj : n = j + 1
    · rw [hnj]; exact h
    · refine top_zero (j := j) (by omega) ?_ (fun i h1 h2 => hb i h1 (by omega))
      have h1 := hb j (by omega) (by omega)
      have h2 : N / 2 ^ j < 2 := by rw [Nat.div_lt_iff_lt_mul (Nat.two_pow_pos _), Nat.mul_comm, ← Nat.pow_succ]; exact h
      have h3 : N / 2 ^ j = 0 := by
        obtain ⟨z, hz⟩ : ∃ z, z = N / 2 ^ j := ⟨_, rfl⟩
        rw [← hz] at h1 h2 ⊢
        omega
      rw [Nat.div_eq_zero_iff] at h3
      have := Nat.two_pow_pos j
      omega

set_option maxRecDepth 100000 in
set_option maxHeartbeats 4000000 in
theorem rbread_any (n : Int) (A : Option Addr) (L c B : Nat) (bs : List Nat) (w : World) (hx : Rd w B A ((intsN bs).map (.int .u8))) (hn : bs.length = L) (hb : L ≤ 1000000000) (hs : ∀ y ∈ bs, y < 2 ^ 8) :
    Calls Try.prog 51 #[.int .i64 n, .slice A L c] w fun e w' => Kp [] w w' ∧ ((readE n bs ≠ 0 ∧ e = .returned (.tuple #[.pointer none, .int .i64 (readE n bs)])) ∨
      (readE n bs = 0 ∧ ∃ S p, e = .returned (.tuple #[.pointer (some ⟨p, 0, none⟩), .int .i64 0]) ∧ RefV w' S p (bitsOf n.toNat (packN 8 bs)) ∧ (∀ x ∈ S, w.heap.size ≤ x))) := by
  have HX := Lib.hid hx; clear hx
  have HN := Lib.hid hn; clear hn
  have HS := Lib.hid hs; clear hs
  by_cases he : lenE n ≠ 0
  · have HE := Lib.hid he
    have HR := Lib.hid (readE_err (bs := bs) he)
    have hE1 : (lenE n != 0) = true := by simpa using he
    obtain ⟨E, hE⟩ : ∃ E, E = lenE n := ⟨_, rfl⟩
    rw [← hE] at hE1
    have HEE := Lib.hid hE; clear hE he
    go_enter Try.func51, Try.ntmps51
    go_wp2_with fail
    refine (rbnew_no n w HE.out).mono ?_
    rintro e w2 ⟨rfl, rfl⟩
    rw [← HEE.out]
    go_wp2_with fail
    go_ret2
    exact ⟨Kp.refl [] w, .inl ⟨by rw [HR.out]; exact HE.out, by rw [HR.out, HEE.out]; rfl⟩⟩
  have he0 : lenE n = 0 := by omega
  have hwn := lenE_ok he0
  obtain ⟨T, rfl⟩ : ∃ T : Nat, n = (T : Int) := ⟨n.toNat, by omega⟩
  have hDK : T ≤ 16777216 := by omega
  have HE := Lib.hid he0
  clear he he0
  rw [Int.toNat_natCast]
  have hw2 : IntKind.i64.wrap ((T : Int) + 7) = ((T + 7 : Nat) : Int) := by rw [IntKind.wrap_i64]; omega
  obtain ⟨s, hs⟩ : ∃ s, s = (T + 7) / 8 := ⟨_, rfl⟩
  have hw3 : Int.tdiv ((T : Int) + 7) 8 = (s : Int) := by rw [Int.tdiv_eq_ediv_of_nonneg (by omega)]; omega
  have hws : IntKind.i64.wrap (s : Int) = (s : Int) := by rw [IntKind.wrap_i64]; omega
  have HSS := Lib.hid hs; clear hs
  have HDK := Lib.hid hDK
  go_enter Try.func51, Try.ntmps51
  go_wp2_with fail
  refine (rbnew_raw T w HDK.out).mono ?_
  rintro e w2 ⟨g, p, rfl, hg, hp, hgp, hbg, hbp, hk2⟩
  by_cases hls : L ≠ s
  · have hls1 : ((L : Int) != (s : Int)) = true := by simpa using (fun h : (L : Int) = (s : Int) => hls (by omega))
    have HRE := Lib.hid (readE_no (bs := bs) HE.out (fun h => hls (by rw [← HN.out, HSS.out]; exact h.1)))
    clear hls
    go_wp2_with fail
    go_ret2
    exact ⟨hk2, .inl ⟨by rw [HRE.out]; decide, by rw [HRE.out]; rfl⟩⟩
  obtain rfl : L = s := by omega
  clear hls
  have hw8 : IntKind.i64.wrap (8 * (L : Int)) = ((8 * L : Nat) : Int) := by rw [IntKind.wrap_i64]; omega
  have hw8' : 8 * (L : Int) = ((8 * L : Nat) : Int) := by omega
  obtain ⟨M, hM⟩ : ∃ M, M = 8 * L := ⟨_, rfl⟩
  rw [← hM] at hw8
  have hw8c := hw8
  obtain ⟨N, hN⟩ : ∃ N, N = packN 8 bs := ⟨_, rfl⟩
  have HNB := Lib.hid (show N < 2 ^ M by
    have h1 := packN_lt (wd := 8) (l := bs) HS.out
    rw [HN.out, ← hM, ← hN] at h1
    exact h1)
  have HNN := Lib.hid hN
  have HM := Lib.hid hM
  have hTM : T ≤ M := by have := HSS.out; omega
  have hMb : M ≤ 16777230 := by have := HSS.out; omega
  have HGP := Lib.hid (show g ≠ p ∧ w.heap.size ≤ g ∧ w.heap.size ≤ p from ⟨hgp, hg, hp⟩)
  have HB0 := Lib.hid (show Blk w2 g 4 ((ofL (bitsOf T N) (min 0 T)).map .bool) by
    rw [Nat.zero_min]
    unfold ofL
    rw [bitsOf_len, List.take_zero, List.nil_append]
    exact hbg)
  have HP0 := Lib.hid hbp
  have HK0 := Lib.hid hk2
  clear hN hM hw8' hg hp hgp hbg hbp hk2
  go_wp2_with fail
  go_loopw [8] (fun x wr => ∃ (k : Nat), x = .int .i64 (k : Int) ∧ k ≤ M ∧ Hid (Blk wr g 4 ((ofL (bitsOf T N) (min k T)).map .bool)) ∧ Hid (Blk wr p 92 [.slice (some ⟨g, 0, none⟩) T T]) ∧ Hid (Kp [] w wr) ∧ Hid (∀ i, T ≤ i → i < k → N / 2 ^ i % 2 = 0)) (fun x _ => M - (intOf x).toNat)
  case atStart => exact ⟨0, rfl, by omega, HB0, HP0, HK0, Lib.hid (fun i _ h => by omega)⟩
  case round =>
    clear HB0 HP0 HK0
    obtain ⟨k, rfl, hk, HB, HP, HK, HZ⟩ := hrel
    by_cases hlt : k < M
    · obtain ⟨q, hq⟩ : ∃ q, q = k / 8 := ⟨_, rfl⟩
      obtain ⟨r, hr⟩ : ∃ r, r = k % 8 := ⟨_, rfl⟩
      have hqL : q < L := by have := HM.out; omega
      obtain ⟨y, hy⟩ : ∃ y, bs[q]? = some y := ⟨_, List.getElem?_eq_getElem (by rw [HN.out]; exact hqL)⟩
      obtain ⟨ad, rfl, _, cy⟩ := (HX.out.kp0 HK.out).at_ (i := q) (u := .int .u8 (y : Int)) (by simp [intsN, hy])
      have hyb := HS.out y (List.mem_of_getElem? hy)
      have hdiv : (k : Int).tdiv 8 = (q : Int) := by rw [Int.tdiv_eq_ediv_of_nonneg (by omega)]; omega
      have hmod : (k : Int).tmod 8 = (r : Int) := by rw [Int.tmod_eq_emod_of_nonneg (by omega)]; omega
      have hwq : IntKind.i64.wrap (q : Int) = (q : Int) := by rw [IntKind.wrap_i64]; omega
      have hwr : IntKind.i64.wrap (r : Int) = (r : Int) := by rw [IntKind.wrap_i64]; omega
      have hr8 : r < 8 := by omega
      obtain ⟨X, hX⟩ : ∃ X, X = y / 2 ^ r := ⟨_, rfl⟩
      have hXb : X ≤ y := by rw [hX]; exact Nat.div_le_self _ _
      have hdx : (y : Int) / 2 ^ r = (X : Int) := by rw [hX]; simp
      have hdx' : (y : Int) / 2 ^ min r 8 = (X : Int) := by rw [show min r 8 = r from by omega]; exact hdx
      obtain ⟨t, ht⟩ : ∃ t, t = X % 2 := ⟨_, rfl⟩
      have hbt : N / 2 ^ k % 2 = t := by
        have := bit_at (wd := 8) HS.out hy hr8
        rw [HNN.out, ht, hX, show k = 8 * q + r by omega]
        exact this
      have hmt : (X : Int).tmod 2 = (t : Int) := by rw [Int.tmod_eq_emod_of_nonneg (by omega)]; omega
      have hu8 : ∀ z : Nat, z < 256 → IntKind.u8.wrap (z : Int) = (z : Int) := fun z hz => by
        have : IntKind.u8.wrap (z : Int) = (z : Int) % 256 := by simp [IntKind.wrap, IntKind.signed, IntKind.bits]
        rw [this]; omega
      have hwt : IntKind.u8.wrap (t : Int) = (t : Int) := hu8 t (by omega)
      have hwX : IntKind.u8.wrap (X : Int) = (X : Int) := hu8 X (by omega)
      have c0 := HP.out.cell 0
      simp only [List.getElem?_cons_zero] at c0
      by_cases hkT : k < T
      · have hbk : (bitsOf T N)[k]? = some (t == 1) := by rw [bitsOf_get hkT, hbt]
        have HST := Lib.hid (show ofL (bitsOf T N) (min (k + 1) T) = (ofL (bitsOf T N) (min k T)).set k (t == 1) by
          rw [show min (k + 1) T = k + 1 by omega, show min k T = k by omega]
          exact ofL_succ hbk)
        have HZ2 := Lib.hid (show ∀ i, T ≤ i → i < k + 1 → N / 2 ^ i % 2 = 0 from fun i h1 h2 => by omega)
        have cf := HB.out.free k
        have cg : ∃ u, wr.cell? ⟨g, k, none⟩ = some u := by
          rw [HB.out.cell, List.getElem?_map]
          exact ⟨_, by rw [List.getElem?_eq_getElem (by rw [ofL_len (by rw [bitsOf_len]; omega), bitsOf_len]; exact hkT)]; rfl⟩
        obtain ⟨u, cu⟩ := cg
        rcases (show t = 0 ∨ t = 1 by omega) with ht0 | ht1
        · subst ht0
          clear hy hyb hq hr hX hXb ht hbt hu8 hbk
          have HB2 := Lib.hid (HB.out.set_ k (.bool false))
          rw [← List.map_set, show (ofL (bitsOf T N) (min k T)).set k false = ofL (bitsOf T N) (min (k + 1) T) from HST.out.symm] at HB2
          have HP2 := Lib.hid (HP.out.far (p := ⟨g, k, none⟩) (Ne.symm HGP.out.1) (.bool false))
          have HK2 := Lib.hid (HK.out.setCell (p := ⟨g, k, none⟩) (.inr HGP.out.2.1) (.bool false))
          go_wp2_with fail
          exact ⟨⟨k + 1, by go_num, by omega, HB2, HP2, HK2, HZ2⟩, by simp [intOf]; omega⟩
        · subst ht1
          clear hy hyb hq hr hX hXb ht hbt hu8 hbk
          have HB2 := Lib.hid (HB.out.set_ k (.bool true))
          rw [← List.map_set, show (ofL (bitsOf T N) (min k T)).set k true = ofL (bitsOf T N) (min (k + 1) T) from HST.out.symm] at HB2
          have HP2 := Lib.hid (HP.out.far (p := ⟨g, k, none⟩) (Ne.symm HGP.out.1) (.bool true))
          have HK2 := Lib.hid (HK.out.setCell (p := ⟨g, k, none⟩) (.inr HGP.out.2.1) (.bool true))
          go_wp2_with fail
          exact ⟨⟨k + 1, by go_num, by omega, HB2, HP2, HK2, HZ2⟩, by simp [intOf]; omega⟩
      · have hTk : T ≤ k := by omega
        rcases (show t = 0 ∨ t = 1 by omega) with ht0 | ht1
        · subst ht0
          have HZ2 := Lib.hid (show ∀ i, T ≤ i → i < k + 1 → N / 2 ^ i % 2 = 0 from fun i h1 h2 => by
            rcases Nat.lt_or_ge i k with h | h
            · exact HZ.out i h1 h
            · obtain rfl : i = k := by omega
              exact hbt)
          have HB2 := Lib.hid (show Blk wr g 4 ((ofL (bitsOf T N) (min (k + 1) T)).map .bool) by rw [show min (k + 1) T = min k T by omega]; exact HB.out)
          clear hy hyb hq hr hX hXb ht hbt hu8
          go_wp2_with fail
          exact ⟨⟨k + 1, by go_num, by omega, HB2, HP, HK, HZ2⟩, by simp [intOf]; omega⟩
        · subst ht1
          have HRE := Lib.hid (readE_no (bs := bs) HE.out (fun h => by
            have h2 := h.2
            rw [← HNN.out] at h2
            have h3 : N / 2 ^ k = 0 := Nat.div_eq_of_lt (Nat.lt_of_lt_of_le h2 (Nat.pow_le_pow_right (by omega) hTk))
            rw [h3] at hbt
            omega))
          clear hy hyb hq hr hX hXb ht hbt hu8
          go_wp2_with fail
          go_ret2
          exact ⟨HK.out, .inl ⟨by rw [HRE.out]; decide, by rw [HRE.out]; rfl⟩⟩
    · obtain rfl : M = k := by omega
      have hlow := top_zero hTM HNB.out HZ.out
      have HRE := Lib.hid (readE_ok (bs := bs) HE.out (by rw [HN.out, HSS.out]) (by rw [← HNN.out]; exact hlow))
      have HRV := Lib.hid (show RefV wr [p, g] p (bitsOf T N) from RefV.of_blk (bitsOf_len _ _) (by unfold maxLen; omega) (by
        have h := HB.out
        have e := ofL_all (bitsOf T N)
        rw [bitsOf_len] at e
        rw [show min M T = T by omega, e] at h
        exact h) HP.out)
      have HSB := Lib.hid (show ∀ x ∈ [p, g], w.heap.size ≤ x from by
        intro x hx
        simp only [List.mem_cons, List.not_mem_nil, or_false] at hx
        rcases hx with rfl | rfl
        · exact HGP.out.2.2
        · exact HGP.out.2.1)
      clear hlow
      go_wp2_with fail
      go_ret2
      exact ⟨HK.out, .inr ⟨HRE.out, [p, g], p, rfl, by rw [← HNN.out]; exact HRV.out, HSB.out⟩⟩
end Go.Proofs.Ytldmabkilgpgcaa
