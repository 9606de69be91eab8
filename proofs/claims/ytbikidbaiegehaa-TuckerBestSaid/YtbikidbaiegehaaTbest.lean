/-
  THE STATEMENT TuckerBest OF LAYER 5, its walk: for every weights and numbers the call returns true and writes to nothing that was there.
  CONDITIONS: rows of at most 10^9 numbers.
-/
import Derived.Test.YtbikidbaiegehaaTfull
namespace Go.Proofs.Ytbikidbaiegehaa
open Go.RowKit

theorem grown_one (A : Option Addr) (n nc c : Nat) (w : World) (h2 : n ≤ 1) :
    Calls Try.prog 37 #[.int .i64 n, .slice A nc c] w fun e w' => e = .returned (.slice (some ⟨w.heap.size, 0, none⟩) 1 1) ∧ Blk w' w.heap.size 3 ([(1 : Int)].map (.int .i64)) ∧ Kp [] w w' := by
  have hnd : decide ((n : Int) ≤ 1) = true := by simp; omega
  go_enter Try.func37, Try.ntmps37
  go_wp2_with fail
  go_ret
  exact ⟨rfl, Blk.new w 3 [.int .i64 1], (Kp.refl [] w).alloc _⟩
theorem growN_any (A : Option Addr) (n nc c B : Nat) (cuts : List Int) (w : World) (hx : Rd w B A (cuts.map (.int .i64))) (hn : cuts.length = nc) (hb : nc ≤ 1000000000) (h2 : 1 ≤ n) (hn3 : n ≤ 257) :
    Calls Try.prog 37 #[.int .i64 n, .slice A nc c] w fun e w' => ∃ A' ls, e = .returned (.slice A' n n) ∧ Rd w' w'.heap.size A' (ls.map (.int .i64)) ∧ ls.length = n ∧ okF ls ∧ Kp [] w w' := by
  by_cases h1 : n = 1
  · subst h1
    refine (grown_one A 1 nc c w (by omega)).mono ?_
    rintro e w' ⟨rfl, hb', hk⟩
    exact ⟨_, [1], rfl, hb'.rd hb'.lt, rfl, ⟨by simp, .inl rfl⟩, hk⟩
  · refine (grown_any A n nc c B cuts w hx hn hb (by omega) (by omega)).mono ?_
    rintro e w' ⟨g, ls, rfl, hb', hl, hd, _, hk⟩
    exact ⟨_, ls, rfl, hb'.rd hb'.lt, hl, okF_of_dl hd (by omega) (by omega), hk⟩

open Classical in
set_option maxRecDepth 100000 in
set_option maxHeartbeats 2000000 in
theorem bestL_any (A A' : Option Addr) (n nc c c' B B' : Nat) (l cuts : List Int) (w : World) (hx : Rd w B A (l.map (.int .i64))) (hy : Rd w B' A' (cuts.map (.int .i64))) (hn : l.length = n) (hm : cuts.length = nc) (hb : n ≤ 140737488355328) :
    Calls Try.prog 10 #[.slice A n c, .slice A' nc c'] w fun e w' => e = .returned (.bool true) ∧ Kp [] w w' := by
  obtain ⟨i0, hi, hz0, hz1, hz2⟩ := info_parts Try.info_int
  have HX := Lib.hid hx.here; clear hx
  have HY := Lib.hid hy.here; clear hy
  have HN := Lib.hid hn; clear hn
  have HM := Lib.hid hm; clear hm
  go_enter Try.func10, Try.ntmps10
  go_wp2_with fail
  refine (awake_any _).mono ?_
  rintro e w1 ⟨rfl, hk1⟩
  have HK1 := Lib.hid hk1; clear hk1
  by_cases hbig : 300 < n ∨ 300 < nc
  · have hbg : decide ((300 : Int) < (n : Int)) = true ∨ (decide ((300 : Int) < (n : Int)) = false ∧ decide ((300 : Int) < (nc : Int)) = true) := by
      by_cases h : 300 < n
      · left; simp; omega
      · right; constructor <;> simp <;> omega
    clear hbig
    rcases hbg with h1 | ⟨h1, h2⟩
    all_goals go_wp2_with fail
    all_goals go_ret
    all_goals exact ⟨rfl, HK1.out⟩
  have h1 : decide ((300 : Int) < (n : Int)) = false := by simp; omega
  have h2 : decide ((300 : Int) < (nc : Int)) = false := by simp; omega
  have HB9 := Lib.hid (show n ≤ 1000000000 ∧ nc ≤ 1000000000 by omega)
  clear hbig
  go_wp2_with fail
  refine (tlengths_any A n c _ l w1 (HX.out.kp0 HK1.out) HN.out HB9.out.1).mono ?_
  rintro e w2 ⟨A1, m1, c1, hm1, rfl, hown1, hk2⟩
  have HK2 := Lib.hid (HK1.out.trans hk2); clear hk2 HK1
  by_cases hok : okW l
  · rw [lensE_ok hok]
    rw [lensL_len hok, HN.out] at hm1
    subst hm1
    have HOW := Lib.hid hok; clear hok
    have HR1 := Lib.hid (own_rd hown1); clear hown1
    have HN2 := Lib.hid (show 1 ≤ m1 ∧ m1 ≤ 257 from ⟨by have := HOW.out.2.1; have := HN.out; omega, by have := HOW.out.2.2; have := HN.out; omega⟩)
    have HL1 := Lib.hid (show (lensL l).length = m1 by rw [lensL_len HOW.out, HN.out])
    go_wp2_with fail
    refine (tcost_any A A1 m1 m1 c c1 _ _ l (lensL l) w2 (HX.out.kp0 HK2.out) HR1.out HN.out HL1.out HB9.out.1 HB9.out.1).mono ?_
    rintro e w3 ⟨rfl, hk3⟩
    rw [costE_ok (okC_lens HOW.out), costV_cl (okC_lens HOW.out)]
    obtain ⟨V1, hV1⟩ : ∃ V, V = cl l (lensL l) := ⟨_, rfl⟩
    rw [← hV1]
    have HV1 := Lib.hid hV1; clear hV1
    have HR3 := Lib.hid (HR1.out.kp0 hk3).here
    have HK3 := Lib.hid (HK2.out.trans hk3); clear hk3 HK2 HR1
    go_wp2_with fail
    refine (growN_any A' m1 nc c' _ cuts w3 (HY.out.kp0 HK3.out) HM.out HB9.out.2 HN2.out.1 HN2.out.2).mono ?_
    rintro e w4 ⟨A4, ls, rfl, hr4, hl4, hf4, hk4⟩
    have HR4 := Lib.hid hr4; clear hr4
    have HL4 := Lib.hid hl4; clear hl4
    have HF4 := Lib.hid hf4; clear hf4
    have HR3' := Lib.hid (HR3.out.kp0 hk4).here
    have HK4 := Lib.hid (HK3.out.trans hk4); clear hk4 HK3 HR3
    have HOC := Lib.hid (show okC l ls from ⟨by rw [HN.out, HL4.out], HOW.out, HF4.out⟩)
    go_wp2_with fail
    refine (tcost_any A A4 m1 m1 c m1 _ _ l ls w4 (HX.out.kp0 HK4.out) HR4.out HN.out HL4.out HB9.out.1 HB9.out.1).mono ?_
    rintro e w5 ⟨rfl, hk5⟩
    rw [costE_ok HOC.out, costV_cl HOC.out]
    obtain ⟨V2, hV2⟩ : ∃ V, V = cl l ls := ⟨_, rfl⟩
    rw [← hV2]
    have hVV : decide (V2 < V1) = false := by
      have := best_least HOC.out
      rw [← hV2, ← HV1.out] at this
      simp; omega
    clear hV2
    have HR5 := Lib.hid (HR3'.out.kp0 hk5).here
    have HR5' := Lib.hid (HR4.out.kp0 hk5).here
    have HK5 := Lib.hid (HK4.out.trans hk5); clear hk5 HK4 HR3' HR4
    go_wp2_with fail
    refine (tfits_any A1 m1 c1 _ (lensL l) w5 HR5.out HL1.out HB9.out.1).mono ?_
    rintro e w6 ⟨rfl, hk6⟩
    rw [show decide (okF (lensL l)) = true from decide_eq_true (okF_lens HOW.out)]
    have HR6 := Lib.hid (HR5'.out.kp0 hk6).here
    have HK6 := Lib.hid (HK5.out.trans hk6); clear hk6 HK5 HR5'
    go_wp2_with fail
    refine (tfits_any A4 m1 m1 _ ls w6 HR6.out HL4.out HB9.out.1).mono ?_
    rintro e w7 ⟨rfl, hk7⟩
    rw [show decide (okF ls) = true from decide_eq_true HF4.out]
    have HK7 := Lib.hid (HK6.out.trans hk7); clear hk7 HK6 HR6 HR5
    have hwn : IntKind.i64.wrap ((m1 : Int) - 1) = (m1 : Int) - 1 := by rw [IntKind.wrap_i64]; omega
    go_wp2_with fail
    go_loopw [12, 13] (fun y x wr => ∃ (j k c2 : Nat) (A2 : Option Addr), x = .int .i64 ((j : Int) - 1) ∧ y = .slice A2 k c2 ∧ j + k = m1 ∧ Hid (wr.ownsRow w.heap.size 3 1 (.slice A2 k c2) k ((l.drop j).reverse.map (.int .i64))) ∧ Hid (Kp [] w wr)) (fun _ x _ => (intOf x + 1).toNat)
    case atStart => exact ⟨m1, 0, 0, none, rfl, rfl, by omega, Lib.hid (by rw [List.drop_of_length_le (by rw [HN.out]; exact Nat.le_refl _)]; exact ⟨rfl, .inl ⟨rfl, rfl⟩⟩), HK7⟩
    case round =>
      clear HK7
      obtain ⟨j, k, c2, A2, rfl, rfl, hjk, HO, HK⟩ := hrel
      cases j with
      | zero =>
        obtain rfl : k = m1 := by omega
        have hneg : (((0 : Nat) : Int) - 1) = -1 := by omega
        rw [hneg]
        have HO' := Lib.hid (show wr.ownsRow w.heap.size 3 1 (.slice A2 k c2) k (l.reverse.map (.int .i64)) from HO.out); clear HO
        have HLR := Lib.hid (show l.reverse.length = k by rw [List.length_reverse, HN.out])
        go_wp2_with fail
        refine (tlengths_any A2 k c2 _ l.reverse wr (own_rd HO'.out) HLR.out HB9.out.1).mono ?_
        rintro e w8 ⟨A8, m8, c8, hm8, rfl, hown8, hk8⟩
        rw [lensE_ok HOW.out.rev]
        rw [lensL_len HOW.out.rev, HLR.out] at hm8
        subst hm8
        have HR8 := Lib.hid (own_rd hown8); clear hown8
        have HR9 := Lib.hid ((own_rd HO'.out).kp0 hk8).here
        have HK8 := Lib.hid (HK.out.trans hk8); clear hk8 HK HO'
        go_wp2_with fail
        refine (tcost_any A2 A8 m8 m8 c2 c8 _ _ l.reverse (lensL l.reverse) w8 HR9.out HR8.out HLR.out (by rw [lensL_len HOW.out.rev, HLR.out]) HB9.out.1 HB9.out.1).mono ?_
        rintro e w9 ⟨rfl, hk9⟩
        rw [costE_ok (okC_lens HOW.out.rev), costV_cl (okC_lens HOW.out.rev), best_turned HOW.out, ← HV1.out]
        have HK9 := Lib.hid (HK8.out.trans hk9); clear hk9 HK8
        go_wp2_with fail
        go_ret
        exact ⟨rfl, HK9.out⟩
      | succ j =>
        have hpos : (((j + 1 : Nat) : Int) - 1) = (j : Int) := by omega
        rw [hpos]
        obtain ⟨x, ad, hxk, rfl, _, hcx⟩ := (HX.out.kp0 HK.out).ix (i := j) (by have := HN.out; omega)
        have hjm : j < m1 := by omega
        have hm2 := HN2.out.2
        have hwj : IntKind.i64.wrap ((j : Int) - 1) = (j : Int) - 1 := by rw [IntKind.wrap_i64]; omega
        have HNX := Lib.hid (show (l.drop j).reverse = (l.drop (j + 1)).reverse ++ [x] by rw [drop_of hxk, List.reverse_cons])
        have HRX := Lib.hid (show Rd (wr.alloc (.cells #[.int .i64 x] 3)) (wr.heap.size + 1) (some ⟨wr.heap.size, 0, none⟩) [.int .i64 x] from Rd.new wr #[.int .i64 x] 3 (0, 0))
        clear hxk hpos
        go_wp2_with (at_builtin; go_loud (refine wpList_append_rd rfl (.tmp 86) (.tmp 91) 41 rfl w.heap.size 3 i0 (.int .i64 0) 1 8 Try.underlying41 hi hz0 hz1 hz2 rfl (by decide) _ k _ rfl (own_kp0 HO.out ((Kp.refl [] _).alloc _)) _ _ 1 1 [.int .i64 x] rfl rfl HRX.out (by simp [Value.oneCell']) (by unfold maxLen; omega) (by omega) (Nat.le_trans HK.out.size (by simp)) ?_); intro v2 w2 hown2 hgrow2 hat2
                     obtain ⟨A3, c3, rfl, _⟩ := own_form hown2
                     have HK2 := Lib.hid ((HK.out.alloc (.cells #[.int .i64 x] 3)).grown hgrow2 (fun g hg => .inr (own_ge HO.out hg).1))
                     have HO2 := Lib.hid hown2
                     clear hown2 hgrow2 hat2)
        exact ⟨⟨j, k + 1, c3, A3, by go_num, rfl, by omega, Lib.hid (by rw [HNX.out, List.map_append]; exact HO2.out), HK2⟩, by simp [intOf]⟩
  · rw [lensE_no hok]
    rw [lensL_no hok] at hm1
    have hm0 : m1 = 0 := hm1
    subst hm0
    clear hok hm1 hown1
    go_wp2_with fail
    go_ret
    exact ⟨rfl, HK2.out⟩
end Go.Proofs.Ytbikidbaiegehaa
