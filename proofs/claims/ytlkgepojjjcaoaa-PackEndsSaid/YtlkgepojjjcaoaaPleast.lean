/-
  THE STATEMENT PackLeast OF LAYER 2, its walk, and the chapter's example (awake): the call returns true and writes to nothing that was there.
  CONDITIONS: numbers of 64 bits.
-/
import Derived.Test.YtlkgepojjjcaoaaPrd
namespace Go.Proofs.Ytlkgepojjjcaoaa
open Go.RowKit

theorem int_wf {x : Int} (h : (Lit.int .i64 x).wf = true) : -9223372036854775808 ≤ x ∧ x ≤ 9223372036854775807 := by
  simpa [Lit.wf, IntKind.min, IntKind.max, IntKind.signed, IntKind.bits] using h
theorem ok503 : okN [5, 0, 3] := by
  intro x hx
  simp only [List.mem_cons, List.not_mem_nil, or_false] at hx
  rcases hx with rfl | rfl | rfl <;> decide
theorem fit503 : fitN 3 [5, 0, 3] := ⟨ok503, by decide⟩
theorem new503 : newE 3 [5, 0, 3] = 0 := by
  unfold newE
  rw [if_pos fit503]
  decide
theorem small503 : Small [5, 0, 3] := by
  intro x hx
  simp only [List.mem_cons, List.not_mem_nil, or_false] at hx
  omega
theorem rd_ints (w : World) (l : List Int) (C : Array Value) (hC : C.toList = l.map (.int .i64)) : Rd (w.alloc (.cells C 3)) (w.heap.size + 1) (some ⟨w.heap.size, 0, none⟩) (l.map (.int .i64)) := by
  rw [← hC]
  exact Rd.new w C 3 (0, 0)

set_option maxRecDepth 100000 in
set_option maxHeartbeats 1000000 in
theorem pawake_any (w : World) : Calls Try.prog 9 #[] w fun e w' => e = .returned (.bool true) ∧ Kp [] w w' := by
  go_enter Try.func9, Try.ntmps9
  go_wp2_with fail
  refine (new_any 3 _ 3 3 _ [5, 0, 3] _ (rd_ints w [5, 0, 3] #[.int .i64 5, .int .i64 0, .int .i64 3] rfl) rfl (by omega) small503).mono ?_
  rintro e w1 ⟨hk1, ⟨hne, _⟩ | ⟨_, _, p, rfl, hrow⟩⟩
  · exact absurd new503 hne
  have HK1 := Lib.hid (((Kp.refl [] w).alloc _).trans hk1); clear hk1
  have HR := Lib.hid (show RowM w1 (w.alloc (.cells #[.int .i64 5, .int .i64 0, .int .i64 3] 3)).heap.size p 3 [5, 0, 3] from hrow); clear hrow
  go_wp2_with fail
  refine (rAt_any _ p 3 2 3 [5, 0, 3] w1 HR.out rfl).mono ?_
  rintro e w2 ⟨rfl, hd2⟩
  have HR2 := Lib.hid (HR.out.kp0 (hd2.kp []))
  have HK2 := Lib.hid (HK1.out.trans (hd2.kp [])); clear hd2 HK1 HR
  go_wp2_with fail
  refine (rbytes_any _ p 3 [5, 0, 3] w2 HR2.out).mono ?_
  rintro e w3 ⟨A3, m3, c3, hm3, rfl, hown3, hk3⟩
  have hm2 : m3 = 2 := hm3
  subst hm2
  have hbl : bytesN (packN 3 [5, 0, 3]) 2 = [197, 0] := by decide
  rw [hbl] at hown3
  have HO3 := Lib.hid (own_rd hown3); clear hown3 hm3 hbl
  have HR3 := Lib.hid (HR2.out.kp0 hk3)
  have HK3 := Lib.hid (HK2.out.trans hk3); clear hk3 HK2 HR2
  go_wp2_with fail
  refine (sameB A3 _ 2 2 c3 2 _ (w3.heap.size + 1) [197, 0] [197, 0] _ (HO3.out.kp0 ((Kp.refl [] _).alloc _)) (Rd.new w3 #[.int .u8 197, .int .u8 0] 5 (0, 0)) rfl rfl (by omega) (by omega)).mono ?_
  rintro e w4 ⟨rfl, hd4⟩
  rw [show decide (([197, 0] : List Int) = [197, 0]) = true from by simp]
  have HR4 := Lib.hid (HR3.out.kp0 (((Kp.refl [] _).alloc _).trans (hd4.kp [])))
  have HK4 := Lib.hid ((HK3.out.alloc _).trans (hd4.kp [])); clear hd4 HK3 HR3 HO3
  go_wp2_with fail
  refine (rlen_any _ p 3 3 [5, 0, 3] w4 HR4.out rfl).mono ?_
  rintro e w5 ⟨rfl, rfl⟩
  go_wp2_with fail
  refine (rwide_any _ p 3 [5, 0, 3] w4 HR4.out).mono ?_
  rintro e w5 ⟨rfl, rfl⟩
  go_wp2_with fail
  go_ret
  exact ⟨rfl, HK4.out⟩

theorem wideF_zero {l : List Int} (h : l ≠ []) : wideF 0 l = wideF 1 l := by
  cases l with
  | nil => exact absurd rfl h
  | cons x l =>
    show wideF (max 0 (dgt x.toNat)) l = wideF (max 1 (dgt x.toNat)) l
    have := dgt_pos x.toNat
    rw [show max 0 (dgt x.toNat) = max 1 (dgt x.toNat) from by omega]
theorem errRow_few {W n : Nat} (h1 : 1 ≤ W) (h2 : W ≤ 60) (h3 : n ≤ 2000) : errRow W n = 0 := by
  unfold errRow
  rw [if_neg (by omega), if_neg]
  have : (2000 : Int) ≤ 16777216 / (W : Int) := by
    rw [Int.le_ediv_iff_mul_le (by omega)]
    omega
  omega

set_option maxRecDepth 100000 in
set_option maxHeartbeats 2000000 in
theorem least_any (A : Option Addr) (n c B : Nat) (l : List Int) (w : World) (hx : Rd w B A (l.map (.int .i64))) (hn : l.length = n) (hs : Small l) :
    Calls Try.prog 3 #[.slice A n c] w fun e w' => e = .returned (.bool true) ∧ Kp [] w w' := by
  have HX := Lib.hid hx; clear hx
  have HN := Lib.hid hn; clear hn
  have HS := Lib.hid hs; clear hs
  go_enter Try.func3, Try.ntmps3
  go_wp2_with fail
  refine (pawake_any _).mono ?_
  rintro e w1 ⟨rfl, hk1⟩
  have HK1 := Lib.hid hk1; clear hk1
  by_cases hbig : 2000 < n
  · go_wp2_with fail
    go_ret
    exact ⟨rfl, HK1.out⟩
  have hb9 : n ≤ 1000000000 := by omega
  go_wp2_with fail
  refine (width_any A n c _ l w1 (HX.out.kp0 HK1.out) HN.out hb9 HS.out).mono ?_
  rintro e w2 ⟨rfl, rfl⟩
  by_cases hok : okN l
  · rw [wideL_ok hok, wideE_ok hok]
    obtain ⟨W, hW⟩ : ∃ W, W = wideF 1 l := ⟨_, rfl⟩
    have hWb := wideF_le hok
    rw [← hW] at hWb ⊢
    have HW := Lib.hid hW; clear hW
    have HOK := Lib.hid hok; clear hok
    have HNE := Lib.hid (show newE (W : Int) l = 0 by
      unfold newE
      rw [if_pos ⟨HOK.out, by rw [← HW.out]; exact Int.le_refl _⟩, HN.out]
      exact errRow_few hWb.1 hWb.2 (by omega))
    have HN2 := Lib.hid (show newE ((W : Int) - 1) l = 2 by
      unfold newE
      rw [if_neg (fun h => by have := h.2; rw [← HW.out] at this; omega)])
    have hw1 : IntKind.i64.wrap ((W : Int) - 1) = (W : Int) - 1 := by rw [IntKind.wrap_i64]; omega
    go_wp2_with fail
    refine (new_any W A n c _ l w1 (HX.out.kp0 HK1.out) HN.out hb9 HS.out).mono ?_
    rintro e w2 ⟨hk2, ⟨hne, _⟩ | ⟨_, _, p, rfl, hrow⟩⟩
    · exact absurd HNE.out hne
    have HK2 := Lib.hid (HK1.out.trans hk2); clear hk2
    rw [Int.toNat_natCast] at hrow
    have HR := Lib.hid hrow; clear hrow
    go_wp2_with fail
    refine (new_any ((W : Int) - 1) A n c _ l w2 (HX.out.kp0 HK2.out) HN.out hb9 HS.out).mono ?_
    rintro e w3 ⟨hk3, ⟨_, rfl⟩ | ⟨hz, _⟩⟩
    rotate_left
    · exact absurd hz (by rw [HN2.out]; decide)
    rw [HN2.out]
    have HK3 := Lib.hid (HK2.out.trans hk3)
    have HR3 := Lib.hid (HR.out.kp0 hk3); clear hk3
    go_wp2_with fail
    refine (rwide_any _ p W _ w3 HR3.out).mono ?_
    rintro e w4 ⟨rfl, rfl⟩
    go_wp2_with fail
    go_loopw [11, 12] (fun y x wr => ∃ k : Nat, x = .int .i64 (k : Int) ∧ k ≤ n ∧ y = .int .i64 ((wideF 0 (l.take k) : Nat) : Int) ∧ Hid (Kp [] w wr)) (fun _ x _ => n - (intOf x).toNat)
    case atStart => exact ⟨0, rfl, by omega, rfl, HK3⟩
    case round =>
      obtain ⟨k, rfl, hk, rfl, HK⟩ := hrel
      by_cases hlt : k < n
      · obtain ⟨x, ad, hxk, rfl, _, hcx⟩ := (HX.out.kp0 HK.out).ix (i := k) (by have := HN.out; omega)
        have hxo := HOK.out x (List.mem_of_getElem? hxk)
        have hxs := HS.out x (List.mem_of_getElem? hxk)
        have hok1 : okN [x] := by intro z hz; simp at hz; rw [hz]; exact hxo
        have HE1 := Lib.hid (wideE_ok hok1)
        obtain ⟨d, hd⟩ : ∃ d, d = dgt x.toNat := ⟨_, rfl⟩
        have hL1 : wideL [x] = (d : Int) := by
          rw [wideL_ok hok1, hd]
          show ((max 1 (dgt x.toNat) : Nat) : Int) = _
          have := dgt_pos x.toNat
          omega
        have HL1 := Lib.hid hL1
        have hdW : d ≤ W := by rw [hd, HW.out]; exact (wideF_ge (l := l) 1).2 x (List.mem_of_getElem? hxk)
        obtain ⟨G, hG⟩ : ∃ G, G = wideF 0 (l.take k) := ⟨_, rfl⟩
        obtain ⟨m, hm⟩ : ∃ m, m = max G d := ⟨_, rfl⟩
        have hmx : max (G : Int) (d : Int) = (m : Int) := by omega
        have HNX := Lib.hid (show wideF 0 (l.take (k + 1)) = m by rw [take_succ_of hxk, wideF_snoc, ← hG, ← hd, hm])
        have hs1 : Small [x] := by intro z hz; simp at hz; rw [hz]; exact hxs
        have HS1 := Lib.hid hs1
        rw [← hG]
        have hn2 : n ≤ 2000 := by omega
        clear hxo hxs hok1 hd hL1 hG hm hs1 hxk
        go_wp2_with fail
        refine (width_any _ 1 1 _ [x] _ (rd_ints wr [x] #[.int .i64 x] rfl) rfl (by omega) HS1.out).mono ?_
        rintro e w5 ⟨rfl, rfl⟩
        rw [HE1.out, HL1.out]
        have HK5 := Lib.hid (HK.out.alloc (.cells #[.int .i64 x] 3))
        go_wp2_with fail
        exact ⟨⟨k + 1, by go_num, by omega, by rw [HNX.out], HK5⟩, by simp [intOf]; omega⟩
      · obtain rfl : n = k := by omega
        by_cases hn0 : n = 0
        · have hl0 : l = [] := List.eq_nil_of_length_eq_zero (by rw [HN.out, hn0])
          have hW1 : W = 1 := by rw [HW.out, hl0]; rfl
          subst hn0 hl0
          subst hW1
          go_wp2_with fail
          go_ret
          exact ⟨rfl, HK.out⟩
        · have hG : wideF 0 (l.take n) = W := by
            rw [List.take_of_length_le (by rw [HN.out]; exact Nat.le_refl _), HW.out]
            exact wideF_zero (fun e => hn0 (by have := HN.out; rw [e] at this; exact this.symm))
          rw [hG]
          clear hG
          go_wp2_with fail
          go_ret
          exact ⟨rfl, HK.out⟩
  · rw [wideL_no hok, wideE_no hok]
    have HNE := Lib.hid (show newE 60 l = 2 by unfold newE; rw [if_neg (fun h => hok h.1)])
    clear hok
    go_wp2_with fail
    refine (new_any 60 A n c _ l w1 (HX.out.kp0 HK1.out) HN.out hb9 HS.out).mono ?_
    rintro e w3 ⟨hk3, ⟨_, rfl⟩ | ⟨hz, _⟩⟩
    rotate_left
    · exact absurd hz (by rw [HNE.out]; decide)
    rw [HNE.out]
    have HK3 := Lib.hid (HK1.out.trans hk3); clear hk3
    go_wp2_with fail
    go_ret
    exact ⟨rfl, HK3.out⟩
end Go.Proofs.Ytlkgepojjjcaoaa
