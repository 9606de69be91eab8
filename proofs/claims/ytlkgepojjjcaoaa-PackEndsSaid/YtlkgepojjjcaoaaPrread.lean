/-
  THE CONTRACTS OF LAYER 2's REFERENCE, fifth part: Read, bit by bit.
  CONDITIONS: bytes; at most 10^9 of them.
-/
import Derived.Test.YtlkgepojjjcaoaaPread
namespace Go.Proofs.Ytlkgepojjjcaoaa
open Go.RowKit

/-- How many numbers are begun by so many bits. -/
def cntN (D a : Nat) : Nat := if a % D = 0 then a / D else a / D + 1
theorem cntN_zero {D a : Nat} (h : a % D = 0) : cntN D a = a / D := by unfold cntN; rw [if_pos h]
theorem cntN_pos {D a : Nat} (h : a % D ≠ 0) : cntN D a = a / D + 1 := by unfold cntN; rw [if_neg h]
theorem cntN_succ {D : Nat} (hD : 1 ≤ D) (a : Nat) : cntN D (a + 1) = a / D + 1 := by
  have h1 := Nat.div_add_mod a D
  have h2 := Nat.mod_lt a (show 0 < D by omega)
  by_cases h : a % D + 1 < D
  · have e : a + 1 = a % D + 1 + D * (a / D) := by omega
    have e1 : (a + 1) / D = a / D := by rw [e, Nat.add_mul_div_left _ _ (by omega), Nat.div_eq_of_lt h, Nat.zero_add]
    have e2 : (a + 1) % D = a % D + 1 := by rw [e, Nat.add_mul_mod_self_left, Nat.mod_eq_of_lt h]
    rw [cntN_pos (by omega), e1]
  · have e : a + 1 = D * (a / D + 1) := by rw [Nat.mul_add, Nat.mul_one]; omega
    have e2 : (a + 1) % D = 0 := by rw [e, Nat.mul_mod_right]
    rw [cntN_zero e2, e, Nat.mul_div_cancel_left _ (by omega)]
theorem cntN_mul {D : Nat} (hD : 1 ≤ D) (K : Nat) : cntN D (D * K) = K := by rw [cntN_zero (Nat.mul_mod_right _ _), Nat.mul_div_cancel_left _ (by omega)]
theorem cntN_le {D : Nat} (hD : 1 ≤ D) (a : Nat) : cntN D a ≤ a := by
  have h1 := Nat.div_le_self a D
  by_cases h : a % D = 0
  · rw [cntN_zero h]; exact h1
  · rw [cntN_pos h]
    have h0 : 0 < a := by
      rcases Nat.eq_zero_or_pos a with h0 | h0
      · rw [h0, Nat.zero_mod] at h; exact absurd rfl h
      · exact h0
    have h2 : 1 < D := by
      rcases (show D = 1 ∨ 1 < D by omega) with h2 | h2
      · rw [h2, Nat.mod_one] at h; exact absurd rfl h
      · exact h2
    exact Nat.div_lt_self h0 h2
/-- A cell of a row of the call's own set. -/
theorem own_set {w : World} {base : Nat} {e : TypeId} {g n c : Nat} {xs : List Value} (h : w.ownsRow base e 1 (.slice (some ⟨g, 0, none⟩) n c) n xs) (j : Nat) (hj : j < n) (u : Value) : (w.setCell ⟨g, j, none⟩ u).ownsRow base e 1 (.slice (some ⟨g, 0, none⟩) n c) n (xs.set j u) := by
  rcases own_blk h with ⟨hv, _⟩ | ⟨g', c', rest, hv, hb, hB, h1, h2, h3, h4⟩
  · cases hv
  · injection hv with hv _ hc
    injection hv with hv
    injection hv with hv
    subst hv hc
    have hB2 := hB.set_ j u
    rw [List.set_append_left _ _ (by omega)] at hB2
    exact own_of_blk hB2 hb h1 h2 (by rw [List.length_set]; exact h3) (by rw [List.length_append, List.length_set, ← List.length_append]; exact h4)
theorem own_some {w : World} {base : Nat} {e : TypeId} {n c : Nat} {A : Option Addr} {xs : List Value} (h : w.ownsRow base e 1 (.slice A n c) n xs) (hn : 0 < n) : ∃ g, A = some ⟨g, 0, none⟩ ∧ base ≤ g ∧ ∃ l, Blk w g e l := by
  rcases own_blk h with ⟨hv, h0, _⟩ | ⟨g', c', rest, hv, hb, hB, _⟩
  · omega
  · injection hv with hv
    exact ⟨g', hv, hb, _, hB⟩

set_option maxRecDepth 100000 in
set_option maxHeartbeats 4000000 in
theorem rread_any (wd n : Int) (A : Option Addr) (L c B : Nat) (bs : List Nat) (w : World) (hx : Rd w B A ((intsN bs).map (.int .u8))) (hn : bs.length = L) (hb : L ≤ 1000000000) (hs : ∀ y ∈ bs, y < 2 ^ 8) :
    Calls Try.prog 23 #[.int .i64 wd, .int .i64 n, .slice A L c] w fun e w' => Kp [] w w' ∧ ((readE wd n bs ≠ 0 ∧ e = .returned (.tuple #[.pointer none, .int .i64 (readE wd n bs)])) ∨
      (readE wd n bs = 0 ∧ ∃ p, e = .returned (.tuple #[.pointer (some ⟨p, 0, none⟩), .int .i64 0]) ∧ RowR w' w.heap.size p wd (intsN (readL wd.toNat n.toNat (packN 8 bs))))) := by
  obtain ⟨i0, hi, hz0, hz1, hz2⟩ := info_parts Try.info_int
  have HX := Lib.hid hx; clear hx
  have HN := Lib.hid hn; clear hn
  have HS := Lib.hid hs; clear hs
  by_cases h1 : wd < 1
  · have HE := Lib.hid (show readE wd n bs = 2 by
      have h : errRow wd n = 2 := by unfold errRow; rw [if_pos (.inl h1)]
      rw [readE_err (by rw [h]; decide), h])
    go_enter Try.func23, Try.ntmps23
    go_wp2_with fail
    go_ret2
    exact ⟨Kp.refl [] w, .inl ⟨by rw [HE.out]; decide, by rw [HE.out]; rfl⟩⟩
  by_cases h2 : 60 < wd
  · have HE := Lib.hid (show readE wd n bs = 2 by
      have h : errRow wd n = 2 := by unfold errRow; rw [if_pos (.inr (.inl h2))]
      rw [readE_err (by rw [h]; decide), h])
    go_enter Try.func23, Try.ntmps23
    go_wp2_with fail
    go_ret2
    exact ⟨Kp.refl [] w, .inl ⟨by rw [HE.out]; decide, by rw [HE.out]; rfl⟩⟩
  by_cases h3 : n < 0
  · have HE := Lib.hid (show readE wd n bs = 2 by
      have h : errRow wd n = 2 := by unfold errRow; rw [if_pos (.inr (.inr h3))]
      rw [readE_err (by rw [h]; decide), h])
    go_enter Try.func23, Try.ntmps23
    go_wp2_with fail
    go_ret2
    exact ⟨Kp.refl [] w, .inl ⟨by rw [HE.out]; decide, by rw [HE.out]; rfl⟩⟩
  obtain ⟨D, rfl⟩ : ∃ D : Nat, wd = (D : Int) := ⟨wd.toNat, by omega⟩
  obtain ⟨K, rfl⟩ : ∃ K : Nat, n = (K : Int) := ⟨n.toNat, by omega⟩
  rw [Int.toNat_natCast, Int.toNat_natCast]
  obtain ⟨q0, hq0⟩ : ∃ q0, q0 = 16777216 / D := ⟨_, rfl⟩
  have hqi : (16777216 : Int) / (D : Int) = (q0 : Int) := by rw [hq0]; simp
  have hqb : q0 ≤ 16777216 := by rw [hq0]; exact Nat.div_le_self _ _
  have hdv : Int.tdiv 16777216 (D : Int) = (q0 : Int) := by rw [Int.tdiv_eq_ediv_of_nonneg (by omega), hqi]
  have hwq : IntKind.i64.wrap (q0 : Int) = (q0 : Int) := by rw [IntKind.wrap_i64]; omega
  have hwz : ¬ D = 0 := by omega
  have hee : errRow (D : Int) (K : Int) = if (q0 : Int) < (K : Int) then 3 else 0 := by
    unfold errRow
    rw [if_neg (by omega), hqi]
  clear hq0 hqi
  by_cases h4 : q0 < K
  · have HE := Lib.hid (show readE (D : Int) (K : Int) bs = 3 by
      rw [if_pos (by omega)] at hee
      rw [readE_err (by rw [hee]; decide), hee])
    clear hee
    go_enter Try.func23, Try.ntmps23
    go_wp2_with fail
    go_ret2
    exact ⟨Kp.refl [] w, .inl ⟨by rw [HE.out]; decide, by rw [HE.out]; rfl⟩⟩
  rw [if_neg (by omega)] at hee
  have hD60 : D ≤ 60 := by omega
  have hD1 : 1 ≤ D := by omega
  obtain ⟨_, _, hDK⟩ := errRow_ok hee
  have HE := Lib.hid hee; clear hee
  obtain ⟨T, hT⟩ : ∃ T, T = D * K := ⟨_, rfl⟩
  rw [← hT] at hDK
  have hmul : (D : Int) * (K : Int) = (T : Int) := by rw [hT]; exact (Int.natCast_mul D K).symm
  have hw1 : IntKind.i64.wrap ((D : Int) * (K : Int)) = (T : Int) := by rw [hmul, IntKind.wrap_i64]; omega
  have hw2 : IntKind.i64.wrap ((T : Int) + 7) = ((T + 7 : Nat) : Int) := by rw [IntKind.wrap_i64]; omega
  obtain ⟨s, hs⟩ : ∃ s, s = (T + 7) / 8 := ⟨_, rfl⟩
  have hw3 : Int.tdiv ((T : Int) + 7) 8 = (s : Int) := by rw [Int.tdiv_eq_ediv_of_nonneg (by omega)]; omega
  have hws : IntKind.i64.wrap (s : Int) = (s : Int) := by rw [IntKind.wrap_i64]; omega
  have HT := Lib.hid hT; clear hT hmul
  have HSS := Lib.hid hs
  go_enter Try.func23, Try.ntmps23
  by_cases hls : L ≠ s
  · have hls1 : ((L : Int) != (s : Int)) = true := by simpa using (fun h : (L : Int) = (s : Int) => hls (by omega))
    have HRE := Lib.hid (readE_no (bs := bs) HE.out (fun h => hls (by rw [← HN.out, HSS.out, HT.out]; exact h.1)))
    clear hls hs
    go_wp2_with fail
    go_ret2
    exact ⟨Kp.refl [] w, .inl ⟨by rw [HRE.out]; decide, by rw [HRE.out]; rfl⟩⟩
  obtain rfl : L = s := by omega
  have hL3 : L ≤ 3000000 := by omega
  have hTL : T ≤ 8 * L := by omega
  clear hls hs
  obtain ⟨N, hN⟩ : ∃ N, N = packN 8 bs := ⟨_, rfl⟩
  have HNN := Lib.hid hN
  rw [← hN]
  clear hN
  have hw8 : IntKind.i64.wrap (8 * (L : Int)) = ((8 * L : Nat) : Int) := by rw [IntKind.wrap_i64]; omega
  go_wp2_with fail
  go_loopw [9] (fun x wr => ∃ (i c1 : Nat) (A1 : Option Addr), x = .int .i64 (i : Int) ∧ i ≤ 8 * L ∧ Hid (Blk wr w.heap.size 66 [.int .i64 (D : Int), .slice A1 (cntN D (min i T)) c1]) ∧ Hid (wr.ownsRow (w.heap.size + 1) 3 1 (.slice A1 (cntN D (min i T)) c1) (cntN D (min i T)) ((intsN (readL D (cntN D (min i T)) (N % 2 ^ min i T))).map (.int .i64))) ∧ Hid (N % 2 ^ i < 2 ^ T) ∧ Hid (Kp [] w wr)) (fun x _ => 8 * L - (intOf x).toNat)
  case atStart =>
    have hc0 : cntN D (min 0 T) = 0 := by rw [Nat.zero_min]; simp [cntN]
    refine ⟨0, 0, none, rfl, by omega, ?_, ?_, Lib.hid (by rw [Nat.pow_zero, Nat.mod_one]; exact Nat.two_pow_pos _), ?_⟩
    · rw [hc0]; exact Lib.hid (Blk.new w 66 [.int .i64 (D : Int), .slice none 0 0])
    · rw [hc0]; exact Lib.hid ⟨rfl, .inl ⟨rfl, rfl⟩⟩
    · exact Lib.hid ((Kp.refl [] w).alloc _)
  case round =>
    obtain ⟨i, c1, A1, rfl, hi8, HP, HO, HG, HK⟩ := hrel
    by_cases hlt : i < 8 * L
    · obtain ⟨q, hq⟩ : ∃ q, q = i / 8 := ⟨_, rfl⟩
      obtain ⟨r, hr⟩ : ∃ r, r = i % 8 := ⟨_, rfl⟩
      have hqL : q < L := by omega
      obtain ⟨y, hy⟩ : ∃ y, bs[q]? = some y := ⟨_, List.getElem?_eq_getElem (by rw [HN.out]; exact hqL)⟩
      obtain ⟨ad, rfl, _, cy⟩ := (HX.out.kp0 HK.out).at_ (i := q) (u := .int .u8 (y : Int)) (by simp [intsN, hy])
      have hyb := HS.out y (List.mem_of_getElem? hy)
      have hdiv : (i : Int).tdiv 8 = (q : Int) := by rw [Int.tdiv_eq_ediv_of_nonneg (by omega)]; omega
      have hmod : (i : Int).tmod 8 = (r : Int) := by rw [Int.tmod_eq_emod_of_nonneg (by omega)]; omega
      have hwq1 : IntKind.i64.wrap (q : Int) = (q : Int) := by rw [IntKind.wrap_i64]; omega
      have hwr1 : IntKind.i64.wrap (r : Int) = (r : Int) := by rw [IntKind.wrap_i64]; omega
      have hr8 : r < 8 := by omega
      obtain ⟨X, hX⟩ : ∃ X, X = y / 2 ^ r := ⟨_, rfl⟩
      have hXb : X < 256 := by rw [hX]; exact Nat.lt_of_le_of_lt (Nat.div_le_self _ _) hyb
      have hdx : (y : Int) / 2 ^ r = (X : Int) := by rw [hX]; simp
      have hdx' : (y : Int) / 2 ^ min r 8 = (X : Int) := by rw [show min r 8 = r from by omega]; exact hdx
      obtain ⟨bt, hbt⟩ : ∃ bt, bt = X % 2 := ⟨_, rfl⟩
      have hbm : (X : Int).tmod 2 = (bt : Int) := by rw [Int.tmod_eq_emod_of_nonneg (by omega)]; omega
      have hbt2 : bt = 0 ∨ bt = 1 := by omega
      have hwb : IntKind.u8.wrap (bt : Int) = (bt : Int) := by
        have : IntKind.u8.wrap (bt : Int) = (bt : Int) % 256 := by simp [IntKind.wrap, IntKind.signed, IntKind.bits]
        rw [this]; omega
      have hwb2 : IntKind.i64.wrap (bt : Int) = (bt : Int) := by rw [IntKind.wrap_i64]; omega
      have HBIT := Lib.hid (show N / 2 ^ i % 2 = bt by
        rw [hbt, hX, HNN.out, show i = 8 * q + r from by omega]
        exact bit_at HS.out hy hr8)
      clear hq hr hy hyb hX hXb hbt
      by_cases hiT : i < T
      · have hm1 : min i T = i := by omega
        have hm2 : min (i + 1) T = i + 1 := by omega
        rw [hm1] at HP HO
        obtain ⟨d, hd⟩ : ∃ d, d = i / D := ⟨_, rfl⟩
        obtain ⟨e, he⟩ : ∃ e, e = i % D := ⟨_, rfl⟩
        have hdd : (i : Int).tdiv (D : Int) = (d : Int) := by rw [Int.tdiv_eq_ediv_of_nonneg (by omega), hd]; simp
        have hme : (i : Int).tmod (D : Int) = (e : Int) := by rw [Int.tmod_eq_emod_of_nonneg (by omega), he]; simp
        have hde : d ≤ i := by rw [hd]; exact Nat.div_le_self _ _
        have heD : e < D := by rw [he]; exact Nat.mod_lt _ (by omega)
        have hwd : IntKind.i64.wrap (d : Int) = (d : Int) := by rw [IntKind.wrap_i64]; omega
        have hwe : IntKind.i64.wrap (e : Int) = (e : Int) := by rw [IntKind.wrap_i64]; omega
        have HSU := Lib.hid (show cntN D (min (i + 1) T) = d + 1 by rw [hm2, cntN_succ hD1, hd])
        have HGI := Lib.hid (show N % 2 ^ (i + 1) < 2 ^ T from Nat.lt_of_lt_of_le (Nat.mod_lt _ (Nat.two_pow_pos _)) (Nat.pow_le_pow_right (by omega) (by omega)))
        have HM2 := Lib.hid hm2
        by_cases he0 : e = 0
        · subst he0
          have hcz : cntN D i = d := by rw [hd]; exact cntN_zero he.symm
          rw [hcz] at HP HO
          have HNEW := Lib.hid (show readL D d (N % 2 ^ i) ++ [bt] = readL D (d + 1) (N % 2 ^ (i + 1)) by
            have := readL_new (N := N) hD1 he.symm
            rw [← hd, HBIT.out] at this
            exact this)
          have cp0 : wr.cell? ⟨w.heap.size, 1, none⟩ = some (.slice A1 d c1) := by rw [HP.out.cell]; rfl
          have HRX := Lib.hid (show Rd (wr.alloc (.cells #[.int .i64 (bt : Int)] 3)) (wr.heap.size + 1) (some ⟨wr.heap.size, 0, none⟩) [.int .i64 (bt : Int)] from Rd.new wr #[.int .i64 (bt : Int)] 3 (0, 0))
          have hme0 : (i : Int).tmod (D : Int) = 0 := hme
          clear hd he hcz hm1 hm2 hbt2 hme hw2 hw3 hws
          go_wp2_with (at_builtin; go_loud (refine wpList_append_rd rfl (.tmp 79) (.tmp 81) 22 rfl (w.heap.size + 1) 3 i0 (.int .i64 0) 1 8 Try.underlying22 hi hz0 hz1 hz2 rfl (by decide) _ d _ rfl (own_kp0 HO.out ((Kp.refl [] _).alloc _)) _ _ 1 1 [.int .i64 (bt : Int)] rfl rfl HRX.out (by simp [Value.oneCell']) (by unfold maxLen; omega) (by omega) (by have := HP.out.lt; simp; omega) ?_); intro v2 w2 hown2 hgrow2 hat2
                       obtain ⟨A2, c2, rfl, _⟩ := own_form hown2
                       have HK2 := Lib.hid ((HK.out.alloc (.cells #[.int .i64 (bt : Int)] 3)).grown hgrow2 (fun g hg => .inr (Nat.le_trans (Nat.le_succ _) (own_ge HO.out hg).1)))
                       have HP2 := Lib.hid (HP.out.kp (((Kp.refl _ _).alloc (.cells #[.int .i64 (bt : Int)] 3)).grown hgrow2 (S := ownL (.slice A1 d c1)) (fun g hg => .inl (mem_ownL.2 hg))) (fun hm => by have := (own_ge HO.out (mem_ownL.1 hm)).1; omega))
                       have HO2 := Lib.hid hown2
                       have cf2 := HP2.out.free 1
                       have cp2 : w2.cell? ⟨w.heap.size, 1, none⟩ = some (.slice A1 d c1) := by rw [HP2.out.cell]; rfl
                       clear hown2 hgrow2 hat2)
          have hb3 := HP2.out.set_ 1 (.slice A2 (d + 1) c2)
          refine ⟨⟨i + 1, c2, A2, by go_num, by omega, ?_, ?_, HGI, Lib.hid (HK2.out.setCell (.inr (Nat.le_refl _)) _)⟩, by simp [intOf]; omega⟩
          · rw [HSU.out]; exact Lib.hid hb3
          · rw [HSU.out, HM2.out, ← HNEW.out, intsN_snoc, List.map_append]
            exact Lib.hid (own_kp HO2.out ((Kp.refl [w.heap.size] w2).setCell (.inl (by simp)) _) (fun g hg hm => by
              simp only [List.mem_singleton] at hm
              have := (own_ge HO2.out hg).1
              omega))
        · have hcz : cntN D i = d + 1 := by rw [hd]; exact cntN_pos (by rw [← he]; exact he0)
          rw [hcz] at HP HO
          obtain ⟨x, hx⟩ : ∃ x, (readL D (d + 1) (N % 2 ^ i))[d]? = some x := ⟨_, readL_get (by omega)⟩
          have HOLD := Lib.hid (show (readL D (d + 1) (N % 2 ^ i)).set d (x + bt * 2 ^ e) = readL D (d + 1) (N % 2 ^ (i + 1)) by
            have := readL_old (N := N) (a := i) (x := x) hD1 (by rw [← hd]; exact hx)
            rw [← hd, ← he, HBIT.out] at this
            exact this)
          have hxb : x < 2 ^ e := by
            have := readL_old_lt (N := N) (a := i) (x := x) (wd := D) (by rw [← hd]; exact hx)
            rw [← he] at this
            exact this
          obtain ⟨g, rfl, hgp, lb, hgb⟩ := own_some HO.out (Nat.succ_pos d)
          have cp0 : wr.cell? ⟨w.heap.size, 1, none⟩ = some (.slice (some ⟨g, 0, none⟩) (d + 1) c1) := by rw [HP.out.cell]; rfl
          obtain ⟨ad2, had2, _, cx⟩ := (own_rd HO.out).at_ (i := d) (u := .int .i64 (x : Int)) (by simp [intsN, hx])
          injection had2 with had2
          subst had2
          rw [addr_lit_add, Nat.zero_add] at cx
          have cf := hgb.free d
          obtain ⟨sh, hsh⟩ : ∃ sh, sh = bt * 2 ^ e := ⟨_, rfl⟩
          have hp60 : 2 ^ e ≤ 2 ^ 59 := Nat.pow_le_pow_right (by omega) (by omega)
          have hb1 : bt * 2 ^ e ≤ 1 * 2 ^ e := Nat.mul_le_mul_right _ (by omega)
          have hws1 : IntKind.i64.wrap ((bt : Int) * 2 ^ e) = (sh : Int) := by
            rw [show (bt : Int) * 2 ^ e = ((bt * 2 ^ e : Nat) : Int) from by simp, ← hsh, IntKind.wrap_i64]; omega
          have hws2 : IntKind.i64.wrap ((bt : Int) * 2 ^ min e 64) = (sh : Int) := by rw [show min e 64 = e from by omega]; exact hws1
          have hwx : IntKind.i64.wrap ((x : Int) + (sh : Int)) = ((x + sh : Nat) : Int) := by rw [IntKind.wrap_i64]; omega
          have HPE := Lib.hid (show w.heap.size + 1 ≤ g ∧ x + bt * 2 ^ e = x + sh from ⟨hgp, by rw [hsh]⟩)
          have hene : (e : Int) ≠ 0 := by omega
          clear hd he hcz hm1 hm2 hbt2 hx hxb hgp hgb hsh hp60 hb1 hw2 hw3 hws
          go_wp2_with fail
          go_region
          go_wp2_with fail
          have hb3 := ((HP.out.far (p := ⟨g, d, none⟩) (by have := HPE.out.1; intro h; simp at h; omega) (.int .i64 ((x + sh : Nat) : Int))).drew)
          have ho3 := own_kp0 (own_set HO.out d (Nat.lt_succ_self d) (.int .i64 ((x + sh : Nat) : Int))) ((Kp.refl [] _).drew)
          rw [Int.natCast_add] at hb3 ho3
          refine ⟨⟨i + 1, c1, some ⟨g, 0, none⟩, by go_num, by omega, ?_, ?_, HGI, Lib.hid ((HK.out.setCell (.inr (by have := HPE.out.1; show w.heap.size ≤ g; omega)) _).drew)⟩, by simp [intOf]; omega⟩
          · rw [HSU.out]; exact Lib.hid hb3
          · rw [HSU.out, HM2.out, ← HOLD.out, HPE.out.2]
            rw [← Int.natCast_add, ← List.map_set] at ho3
            rw [show intsN ((readL D (d + 1) (N % 2 ^ i)).set d (x + sh)) = (intsN (readL D (d + 1) (N % 2 ^ i))).set d ((x + sh : Nat) : Int) from by simp only [intsN, List.map_set]]
            exact Lib.hid ho3
      · have hm1 : min i T = T := by omega
        have hm2 : min (i + 1) T = T := by omega
        rw [hm1] at HP HO
        rcases hbt2 with rfl | rfl
        · have HGI := Lib.hid (show N % 2 ^ (i + 1) < 2 ^ T by rw [mod_step, HBIT.out, Nat.zero_mul, Nat.add_zero]; exact HG.out)
          have HM2 := Lib.hid hm2
          clear hm1 hm2 hw2 hw3 hws
          go_wp2_with fail
          refine ⟨⟨i + 1, c1, A1, by go_num, by omega, ?_, ?_, HGI, HK⟩, by simp [intOf]; omega⟩
          · rw [HM2.out]; exact HP
          · rw [HM2.out]; exact HO
        · have HRE := Lib.hid (readE_no (bs := bs) HE.out (fun h => by
            have h1 := h.2
            rw [← HNN.out, ← HT.out] at h1
            have h2 : N < 2 ^ i := Nat.lt_of_lt_of_le h1 (Nat.pow_le_pow_right (by omega) (by omega))
            have h3 := HBIT.out
            rw [Nat.div_eq_of_lt h2] at h3
            cases h3))
          clear hm1 hm2 hw2 hw3 hws
          go_wp2_with fail
          go_ret2
          exact ⟨HK.out, .inl ⟨by rw [HRE.out]; decide, by rw [HRE.out]; rfl⟩⟩
    · obtain rfl : i = 8 * L := by omega
      have hm1 : min (8 * L) T = T := by omega
      rw [hm1, show cntN D T = K by rw [HT.out]; exact cntN_mul hD1 K] at HP HO
      have hNL : N < 2 ^ (8 * L) := by
        have := packN_lt HS.out
        rw [← HNN.out, HN.out] at this
        exact this
      have hNT : N < 2 ^ T := by
        have := HG.out
        rwa [Nat.mod_eq_of_lt hNL] at this
      rw [Nat.mod_eq_of_lt hNT] at HO
      have HRE := Lib.hid (readE_ok (bs := bs) HE.out (by rw [HN.out, ← HT.out]; exact HSS.out) (by rw [← HT.out, ← HNN.out]; exact hNT))
      obtain ⟨A2, c2, hv2, hc2, _, _, hge2⟩ := own_form HO.out
      injection hv2 with hA2 _ hcc2
      subst hA2 hcc2
      have HROW := Lib.hid (show RowR wr w.heap.size w.heap.size (D : Int) (intsN (readL D K N)) from
        ⟨A1, c1, by rw [show (intsN (readL D K N)).length = K by rw [intsN, List.length_map, readL_len]]; exact HP.out, own_rd HO.out, by rw [show (intsN (readL D K N)).length = K by rw [intsN, List.length_map, readL_len]]; exact hc2, Nat.le_refl _, fun ad h => by have := (hge2 ad h).2.2.1; omega⟩)
      clear hm1 hNL hNT hge2 hc2 hw2 hw3 hws
      go_wp2_with fail
      go_ret2
      exact ⟨HK.out, .inr ⟨HRE.out, w.heap.size, rfl, HROW.out⟩⟩
end Go.Proofs.Ytlkgepojjjcaoaa
