/-
  LAYER 2: a row is the document's (same), where both hold the same numbers.
  CONDITIONS: as it says.
-/
import Derived.Test.YtlkgepojjjcaoaaPrbyt2
namespace Go.Proofs.Ytlkgepojjjcaoaa
open Go.RowKit

set_option maxRecDepth 100000 in
set_option maxHeartbeats 4000000 in
theorem same_any (b b2 p p2 wd : Nat) (ls : List Nat) (at_ : Int) (w : World) (hM : RowM w b p wd ls) (hR : RowR w b2 p2 wd (intsN ls)) :
    Calls Try.prog 20 #[.pointer (some ⟨p, 0, none⟩), .pointer (some ⟨p2, 0, none⟩), .int .i64 at_] w fun e w' => e = .returned (.bool true) ∧ Kp [] w w' := by
  obtain ⟨_, _, d1, d2, d3⟩ := hM.cells
  have HM := Lib.hid hM
  have HRR := Lib.hid (show ∀ w' : World, Kp [] w w' → RowR w' b2 p2 wd (intsN ls) from fun w' hk => by
    obtain ⟨A, c, h1, h2, h3, h4⟩ := hR
    exact ⟨A, c, h1.kp0 hk, (h2.kp0 hk).here, h3, h4⟩)
  obtain ⟨g, ws, _, _, _, _, _, h6, he, _⟩ := hM
  have HLT := Lib.hid h6; clear h6
  have HER := Lib.hid he; clear he
  obtain ⟨A2, c2, h1, h2, h3, h4⟩ := hR
  obtain ⟨n, hn⟩ : ∃ n, ls.length = n := ⟨_, rfl⟩
  have hil : (intsN ls).length = n := by rw [← hn]; simp [intsN]
  rw [hil] at h1 h3
  have hnb : n ≤ 16777216 := by
    rw [← hn]
    exact Nat.le_trans (Nat.le_mul_of_pos_left _ d1) d3
  obtain ⟨m, hm⟩ : ∃ m, m = (wd * ls.length + 7) / 8 := ⟨_, rfl⟩
  have hmb : m ≤ 3000000 := by omega
  obtain ⟨bs, hbs⟩ : ∃ bs, bs = bytesN (packN wd ls) m := ⟨_, rfl⟩
  have HBL := Lib.hid (show bs.length = m by rw [hbs, bytesN_len])
  have HBS := Lib.hid hbs; clear hbs
  have HMM := Lib.hid hm; clear hm
  have HR := Lib.hid h1; clear h1
  have HX := Lib.hid h2; clear h2
  have HN := Lib.hid hn; clear hn
  have HIL := Lib.hid hil; clear hil
  clear d3 h4
  go_enter Try.func20, Try.ntmps20
  go_upto_region 1 with fail
  refine wp_region_rel (by kernel_rfl) 66 [12, 16, 21, 25, 30, 34, 35, 40, 42, 43] [11, 12, 13, 14, 15, 16, 17, 18, 19, 20, 21, 22, 23, 24, 25, 26, 27, 28, 29, 30, 31, 32, 33, 34, 35, 36, 37, 38, 39, 40, 41, 42, 43, 44, 45] [([false, false, false, false, false, false, false, false, false, false, false, false, false, false, false, false, false, false, false, false, false, false, false, false, false, false, false, false, false, false, false, false, false, false, false], []), ([true, false, false, false, false, false, false, false, false, false, false, false, false, false, false, false, false, false, false, false, false, false, false, false, false, false, false, false, false, false, false, false, false, false, false], []), ([false, false, false, false, false, false, false, false, false, false, false, false, false, false, false, false, false, false, false, false, false, false, false, false, false, false, false, false, false, false, false, false, false, false, false], []), ([false, false, true, false, false, false, false, false, false, false, false, false, false, false, false, false, false, false, false, false, false, false, false, false, false, false, false, false, false, false, false, false, false, false, false], []), ([false, false, true, true, false, false, false, false, false, false, false, false, false, false, false, false, false, false, false, false, false, false, false, false, false, false, false, false, false, false, false, false, false, false, false], []), ([false, false, true, true, true, false, false, false, false, false, false, false, false, false, false, false, false, false, false, false, false, false, false, false, false, false, false, false, false, false, false, false, false, false, false], []), ([false, false, false, false, false, false, false, false, false, false, false, false, false, false, false, false, false, false, false, false, false, false, false, false, false, false, false, false, false, false, false, false, false, false, false], [16]), ([false, false, false, false, false, false, true, false, false, false, false, false, false, false, false, false, false, false, false, false, false, false, false, false, false, false, false, false, false, false, false, false, false, false, false], [12, 16]), ([false, false, false, false, false, false, true, true, false, false, false, false, false, false, false, false, false, false, false, false, false, false, false, false, false, false, false, false, false, false, false, false, false, false, false], [12, 16]), ([false, false, false, false, false, false, true, true, true, false, false, false, false, false, false, false, false, false, false, false, false, false, false, false, false, false, false, false, false, false, false, false, false, false, false], [12, 16]), ([false, false, false, false, false, false, true, true, true, true, false, false, false, false, false, false, false, false, false, false, false, false, false, false, false, false, false, false, false, false, false, false, false, false, false], [12, 16]), ([false, false, false, false, false, false, true, true, true, false, false, false, false, false, false, false, false, false, false, false, false, false, false, false, false, false, false, false, false, false, false, false, false, false, false], [12, 16]), ([false, false, false, false, false, false, true, true, true, false, false, true, false, false, false, false, false, false, false, false, false, false, false, false, false, false, false, false, false, false, false, false, false, false, false], [12, 16]), ([false, false, false, false, false, false, true, true, true, false, false, true, true, false, false, false, false, false, false, false, false, false, false, false, false, false, false, false, false, false, false, false, false, false, false], [12, 16]), ([false, false, false, false, false, false, true, true, true, false, false, true, true, true, false, false, false, false, false, false, false, false, false, false, false, false, false, false, false, false, false, false, false, false, false], [12, 16]), ([false, false, false, false, false, false, true, true, true, false, false, false, false, false, false, false, false, false, false, false, false, false, false, false, false, false, false, false, false, false, false, false, false, false, false], [12, 16, 21, 25]), ([false, false, false, false, false, false, true, true, true, false, false, false, false, false, false, true, false, false, false, false, false, false, false, false, false, false, false, false, false, false, false, false, false, false, false], [12, 16, 21, 25]), ([false, false, false, false, false, false, true, true, true, false, false, false, false, false, false, true, true, false, false, false, false, false, false, false, false, false, false, false, false, false, false, false, false, false, false], [12, 16, 21, 25]), ([false, false, false, false, false, false, true, true, true, false, false, false, false, false, false, true, true, true, false, false, false, false, false, false, false, false, false, false, false, false, false, false, false, false, false], [12, 16, 21, 25]), ([false, false, false, false, false, false, true, true, true, false, false, false, false, false, false, true, true, true, true, false, false, false, false, false, false, false, false, false, false, false, false, false, false, false, false], [12, 16, 21, 25]), ([false, false, false, false, false, false, true, true, true, false, false, false, false, false, false, true, true, true, false, false, false, false, false, false, false, false, false, false, false, false, false, false, false, false, false], [12, 16, 21, 25]), ([false, false, false, false, false, false, true, true, true, false, false, false, false, false, false, true, true, true, false, false, true, false, false, false, false, false, false, false, false, false, false, false, false, false, false], [12, 16, 21, 25]), ([false, false, false, false, false, false, true, true, true, false, false, false, false, false, false, true, true, true, false, false, true, true, false, false, false, false, false, false, false, false, false, false, false, false, false], [12, 16, 21, 25]), ([false, false, false, false, false, false, true, true, true, false, false, false, false, false, false, true, true, true, false, false, true, true, true, false, false, false, false, false, false, false, false, false, false, false, false], [12, 16, 21, 25]), ([false, false, false, false, false, false, true, true, true, false, false, false, false, false, false, true, true, true, false, false, false, false, false, false, false, false, false, false, false, false, false, false, false, false, false], [12, 16, 21, 25, 30, 34]), ([false, false, false, false, false, false, true, true, true, false, false, false, false, false, false, true, true, true, false, false, false, false, false, false, false, false, false, false, false, false, false, false, false, false, false], [12, 16, 21, 25, 35]), ([false, false, false, false, false, false, true, true, true, false, false, false, false, false, false, true, true, true, false, false, false, false, false, false, false, true, false, false, false, false, false, false, false, false, false], [12, 16, 21, 25, 35]), ([false, false, false, false, false, false, true, true, true, false, false, false, false, false, false, true, true, true, false, false, false, false, false, false, false, true, true, false, false, false, false, false, false, false, false], [12, 16, 21, 25, 35]), ([false, false, false, false, false, false, true, true, true, false, false, false, false, false, false, true, true, true, false, false, false, false, false, false, false, true, true, true, false, false, false, false, false, false, false], [12, 16, 21, 25, 35]), ([false, false, false, false, false, false, true, true, true, false, false, false, false, false, false, true, true, true, false, false, false, false, false, false, false, true, true, true, true, false, false, false, false, false, false], [12, 16, 21, 25, 35]), ([false, false, false, false, false, false, true, true, true, false, false, false, false, false, false, true, true, true, false, false, false, false, false, false, false, true, true, true, false, false, false, false, false, false, false], [12, 16, 21, 25, 35]), ([false, false, false, false, false, false, true, true, true, false, false, false, false, false, false, true, true, true, false, false, false, false, false, false, false, true, true, true, false, false, true, false, false, false, false], [12, 16, 21, 25, 35]), ([false, false, false, false, false, false, true, true, true, false, false, false, false, false, false, true, true, true, false, false, false, false, false, false, false, true, true, true, false, false, false, false, false, false, false], [12, 16, 21, 25, 35, 40, 42]), ([false, false, false, false, false, false, true, true, true, false, false, false, false, false, false, true, true, true, false, false, false, false, false, false, false, true, true, true, false, false, false, false, false, false, false], [12, 16, 21, 25, 35, 43]), ([false, false, false, false, false, false, true, true, true, false, false, false, false, false, false, true, true, true, false, false, false, false, false, false, false, true, true, true, false, false, false, false, false, true, false], [12, 16, 21, 25, 35, 43])] [true, false, true, true, true, false, true, true, true, true, false, true, true, true, false, true, true, true, true, false, true, true, true, false, false, true, true, true, true, false, true, false, false, true, true] (by kernel_rfl) (by kernel_rfl) rfl (factOf [(100000, .eq undef), (12, .eq (.int .i64 (n : Int))), (16, .eq (.slice A2 n c2)), (21, .eq (.int .i64 (wd : Int))), (25, .eq (.int .i64 (wd : Int))), (30, .rd .i64 (intsN ls)), (34, .eq (.slice A2 n c2)), (35, .eq (.bool true)), (40, .rd .u8 bs), (42, .rd .u8 bs), (43, .eq (.bool true))]) (factOf_stable _) _ (fun x => by simp only [fillL, Nat.reduceAdd, Nat.reduceEqDiff, ↓reduceIte]; rfl) ?_ ?_
  · refine relAll_cons (fun x w' hk hd => ?_) ?_
    · dsimp only
      clear hd
      repeat (first | (refine wpSel_no ?_) | (refine wpSel_yes (fun K hK => ?_); go_simp; (refine hK _ ?_; clear hK K)))
      refine wpSel_nil ?_
      refine relStep_pure rfl ?_
      go_simp
    refine relAll_cons (fun x w' hk hd => ?_) ?_
    · dsimp only
      clear hd
      repeat (first | (refine wpSel_no ?_) | (refine wpSel_yes (fun K hK => ?_); go_simp; (refine hK _ ?_; clear hK K)))
      refine wpSel_nil ?_
      refine relStep_imp rfl (fun K hK => ?_)
      go_simp
      refine (rlen_any b p wd n ls _ (HM.out.kp0 hk) HN.out).mono ?_
      rintro e w1 ⟨rfl, rfl⟩
      exact hK _ _ rfl (Kp.refl _ _)
    refine relAll_cons (fun x w' hk hd => ?_) ?_
    · dsimp only
      clear hd
      repeat (first | (refine wpSel_no ?_) | (refine wpSel_yes (fun K hK => ?_); go_simp; (refine hK _ ?_; clear hK K)))
      refine wpSel_nil ?_
      refine relStep_pure rfl ?_
      go_simp
    refine relAll_cons (fun x w' hk hd => ?_) ?_
    · dsimp only
      clear hd
      repeat (first | (refine wpSel_no ?_) | (refine wpSel_yes (fun K hK => ?_); go_simp; (refine hK _ ?_; clear hK K)))
      refine wpSel_nil ?_
      refine relStep_pure rfl ?_
      go_simp
    refine relAll_cons (fun x w' hk hd => ?_) ?_
    · dsimp only
      clear hd
      repeat (first | (refine wpSel_no ?_) | (refine wpSel_yes (fun K hK => ?_); go_simp; (refine hK _ ?_; clear hK K)))
      refine wpSel_nil ?_
      refine relStep_pure rfl ?_
      go_simp
    refine relAll_cons (fun x w' hk hd => ?_) ?_
    · dsimp only
      clear hd
      repeat (first | (refine wpSel_no ?_) | (refine wpSel_yes (fun K hK => ?_); go_simp; (refine hK _ ?_; clear hK K)))
      refine wpSel_nil ?_
      refine relStep_imp rfl (fun K hK => ?_)
      have cx := (HR.out.kp0 hk).cell 1
      simp only [List.getElem?_cons_zero, List.getElem?_cons_succ] at cx
      go_simp
      exact hK _ _ rfl (Kp.refl _ _)
    refine relAll_cons (fun x w' hk hd => ?_) ?_
    · dsimp only
      simp only [depAll, factOf, Nat.reduceEqDiff, ↓reduceIte, SFact.eq_p] at hd
      obtain ⟨e16, -⟩ := hd
      repeat (first | (refine wpSel_no ?_) | (refine wpSel_yes (fun K hK => ?_); go_simp; (refine hK _ ?_; clear hK K)))
      refine wpSel_nil ?_
      refine relStep_pure rfl ?_
      go_simp
    refine relAll_cons (fun x w' hk hd => ?_) ?_
    · dsimp only
      simp only [depAll, factOf, Nat.reduceEqDiff, ↓reduceIte, SFact.eq_p] at hd
      obtain ⟨e12, e16, -⟩ := hd
      repeat (first | (refine wpSel_no ?_) | (refine wpSel_yes (fun K hK => ?_); go_simp; (refine hK _ ?_; clear hK K)))
      refine wpSel_nil ?_
      refine relStep_pure rfl ?_
      go_simp
    refine relAll_cons (fun x w' hk hd => ?_) ?_
    · dsimp only
      simp only [depAll, factOf, Nat.reduceEqDiff, ↓reduceIte, SFact.eq_p] at hd
      obtain ⟨e12, e16, -⟩ := hd
      repeat (first | (refine wpSel_no ?_) | (refine wpSel_yes (fun K hK => ?_); go_simp; (refine hK _ ?_; clear hK K)))
      refine wpSel_nil ?_
      refine relStep_pure rfl ?_
      go_simp
    refine relAll_cons (fun x w' hk hd => ?_) ?_
    · dsimp only
      simp only [depAll, factOf, Nat.reduceEqDiff, ↓reduceIte, SFact.eq_p] at hd
      obtain ⟨e12, e16, -⟩ := hd
      repeat (first | (refine wpSel_no ?_) | (refine wpSel_yes (fun K hK => ?_); go_simp; (refine hK _ ?_; clear hK K)))
      refine wpSel_nil ?_
      refine relStep_pure rfl ?_
      go_simp
    refine relAll_cons (fun x w' hk hd => ?_) ?_
    · dsimp only
      simp only [depAll, factOf, Nat.reduceEqDiff, ↓reduceIte, SFact.eq_p] at hd
      obtain ⟨e12, e16, -⟩ := hd
      repeat (first | (refine wpSel_no ?_) | (refine wpSel_yes (fun K hK => ?_); go_simp; (refine hK _ ?_; clear hK K)))
      refine wpSel_nil ?_
      refine relStep_imp rfl (fun K hK => ?_)
      go_simp
      refine (rwide_any b p wd ls _ (HM.out.kp0 hk)).mono ?_
      rintro e w1 ⟨rfl, rfl⟩
      exact hK _ _ rfl (Kp.refl _ _)
    refine relAll_cons (fun x w' hk hd => ?_) ?_
    · dsimp only
      simp only [depAll, factOf, Nat.reduceEqDiff, ↓reduceIte, SFact.eq_p] at hd
      obtain ⟨e12, e16, -⟩ := hd
      repeat (first | (refine wpSel_no ?_) | (refine wpSel_yes (fun K hK => ?_); go_simp; (refine hK _ ?_; clear hK K)))
      refine wpSel_nil ?_
      refine relStep_pure rfl ?_
      go_simp
    refine relAll_cons (fun x w' hk hd => ?_) ?_
    · dsimp only
      simp only [depAll, factOf, Nat.reduceEqDiff, ↓reduceIte, SFact.eq_p] at hd
      obtain ⟨e12, e16, -⟩ := hd
      repeat (first | (refine wpSel_no ?_) | (refine wpSel_yes (fun K hK => ?_); go_simp; (refine hK _ ?_; clear hK K)))
      refine wpSel_nil ?_
      refine relStep_pure rfl ?_
      go_simp
    refine relAll_cons (fun x w' hk hd => ?_) ?_
    · dsimp only
      simp only [depAll, factOf, Nat.reduceEqDiff, ↓reduceIte, SFact.eq_p] at hd
      obtain ⟨e12, e16, -⟩ := hd
      repeat (first | (refine wpSel_no ?_) | (refine wpSel_yes (fun K hK => ?_); go_simp; (refine hK _ ?_; clear hK K)))
      refine wpSel_nil ?_
      refine relStep_pure rfl ?_
      go_simp
    refine relAll_cons (fun x w' hk hd => ?_) ?_
    · dsimp only
      simp only [depAll, factOf, Nat.reduceEqDiff, ↓reduceIte, SFact.eq_p] at hd
      obtain ⟨e12, e16, -⟩ := hd
      repeat (first | (refine wpSel_no ?_) | (refine wpSel_yes (fun K hK => ?_); go_simp; (refine hK _ ?_; clear hK K)))
      refine wpSel_nil ?_
      refine relStep_imp rfl (fun K hK => ?_)
      have cx := (HR.out.kp0 hk).cell 0
      simp only [List.getElem?_cons_zero] at cx
      go_simp
      exact hK _ _ rfl (Kp.refl _ _)
    refine relAll_cons (fun x w' hk hd => ?_) ?_
    · dsimp only
      simp only [depAll, factOf, Nat.reduceEqDiff, ↓reduceIte, SFact.eq_p] at hd
      obtain ⟨e12, e16, e21, e25, -⟩ := hd
      repeat (first | (refine wpSel_no ?_) | (refine wpSel_yes (fun K hK => ?_); go_simp; (refine hK _ ?_; clear hK K)))
      refine wpSel_nil ?_
      refine relStep_pure rfl ?_
      go_simp
    refine relAll_cons (fun x w' hk hd => ?_) ?_
    · dsimp only
      simp only [depAll, factOf, Nat.reduceEqDiff, ↓reduceIte, SFact.eq_p] at hd
      obtain ⟨e12, e16, e21, e25, -⟩ := hd
      repeat (first | (refine wpSel_no ?_) | (refine wpSel_yes (fun K hK => ?_); go_simp; (refine hK _ ?_; clear hK K)))
      refine wpSel_nil ?_
      refine relStep_pure rfl ?_
      go_simp
    refine relAll_cons (fun x w' hk hd => ?_) ?_
    · dsimp only
      simp only [depAll, factOf, Nat.reduceEqDiff, ↓reduceIte, SFact.eq_p] at hd
      obtain ⟨e12, e16, e21, e25, -⟩ := hd
      repeat (first | (refine wpSel_no ?_) | (refine wpSel_yes (fun K hK => ?_); go_simp; (refine hK _ ?_; clear hK K)))
      refine wpSel_nil ?_
      refine relStep_pure rfl ?_
      go_simp
    refine relAll_cons (fun x w' hk hd => ?_) ?_
    · dsimp only
      simp only [depAll, factOf, Nat.reduceEqDiff, ↓reduceIte, SFact.eq_p] at hd
      obtain ⟨e12, e16, e21, e25, -⟩ := hd
      repeat (first | (refine wpSel_no ?_) | (refine wpSel_yes (fun K hK => ?_); go_simp; (refine hK _ ?_; clear hK K)))
      refine wpSel_nil ?_
      refine relStep_pure rfl ?_
      go_simp
    refine relAll_cons (fun x w' hk hd => ?_) ?_
    · dsimp only
      simp only [depAll, factOf, Nat.reduceEqDiff, ↓reduceIte, SFact.eq_p] at hd
      obtain ⟨e12, e16, e21, e25, -⟩ := hd
      repeat (first | (refine wpSel_no ?_) | (refine wpSel_yes (fun K hK => ?_); go_simp; (refine hK _ ?_; clear hK K)))
      refine wpSel_nil ?_
      refine relStep_imp rfl (fun K hK => ?_)
      go_simp
      refine (rall_any b p wd ls _ (HM.out.kp0 hk)).mono ?_
      rintro e w1 ⟨A1, m1, c1, hm1, rfl, hown1, hk1⟩
      exact hK _ _ (IsRd.of_own hown1 (by rw [hm1]; simp [intsN])) hk1
    refine relAll_cons (fun x w' hk hd => ?_) ?_
    · dsimp only
      simp only [depAll, factOf, Nat.reduceEqDiff, ↓reduceIte, SFact.eq_p] at hd
      obtain ⟨e12, e16, e21, e25, -⟩ := hd
      repeat (first | (refine wpSel_no ?_) | (refine wpSel_yes (fun K hK => ?_); go_simp; (refine hK _ ?_; clear hK K)))
      refine wpSel_nil ?_
      refine relStep_pure rfl ?_
      go_simp
    refine relAll_cons (fun x w' hk hd => ?_) ?_
    · dsimp only
      simp only [depAll, factOf, Nat.reduceEqDiff, ↓reduceIte, SFact.eq_p] at hd
      obtain ⟨e12, e16, e21, e25, -⟩ := hd
      repeat (first | (refine wpSel_no ?_) | (refine wpSel_yes (fun K hK => ?_); go_simp; (refine hK _ ?_; clear hK K)))
      refine wpSel_nil ?_
      refine relStep_pure rfl ?_
      go_simp
    refine relAll_cons (fun x w' hk hd => ?_) ?_
    · dsimp only
      simp only [depAll, factOf, Nat.reduceEqDiff, ↓reduceIte, SFact.eq_p] at hd
      obtain ⟨e12, e16, e21, e25, -⟩ := hd
      repeat (first | (refine wpSel_no ?_) | (refine wpSel_yes (fun K hK => ?_); go_simp; (refine hK _ ?_; clear hK K)))
      refine wpSel_nil ?_
      refine relStep_pure rfl ?_
      go_simp
    refine relAll_cons (fun x w' hk hd => ?_) ?_
    · dsimp only
      simp only [depAll, factOf, Nat.reduceEqDiff, ↓reduceIte, SFact.eq_p] at hd
      obtain ⟨e12, e16, e21, e25, -⟩ := hd
      repeat (first | (refine wpSel_no ?_) | (refine wpSel_yes (fun K hK => ?_); go_simp; (refine hK _ ?_; clear hK K)))
      refine wpSel_nil ?_
      refine relStep_imp rfl (fun K hK => ?_)
      have cx := (HR.out.kp0 hk).cell 1
      simp only [List.getElem?_cons_zero, List.getElem?_cons_succ] at cx
      go_simp
      exact hK _ _ rfl (Kp.refl _ _)
    refine relAll_cons (fun x w' hk hd => ?_) ?_
    · dsimp only
      simp only [depAll, factOf, Nat.reduceEqDiff, ↓reduceIte, SFact.eq_p, SFact.rd_p] at hd
      obtain ⟨e12, e16, e21, e25, ⟨A30, c30, e30, hc30, hr30⟩, e34, -⟩ := hd
      repeat (first | (refine wpSel_no ?_) | (refine wpSel_yes (fun K hK => ?_); go_simp; (refine hK _ ?_; clear hK K)))
      refine wpSel_nil ?_
      refine relStep_imp rfl (fun K hK => ?_)
      go_simp
      refine (sameI _ _ _ _ _ _ _ _ (intsN ls) (intsN ls) _ hr30 (HX.out.kp0 hk) (by first | rfl | simp [intsN]) (by rw [HIL.out]) (by have := HIL.out; simp [intsN] at this ⊢; omega) (by omega)).mono ?_
      rintro e w1 ⟨rfl, hd1⟩
      rw [show decide (intsN ls = intsN ls) = true from by simp]
      exact hK _ _ rfl (hd1.kp [])
    refine relAll_cons (fun x w' hk hd => ?_) ?_
    · dsimp only
      simp only [depAll, factOf, Nat.reduceEqDiff, ↓reduceIte, SFact.eq_p] at hd
      obtain ⟨e12, e16, e21, e25, e35, -⟩ := hd
      repeat (first | (refine wpSel_no ?_) | (refine wpSel_yes (fun K hK => ?_); go_simp; (refine hK _ ?_; clear hK K)))
      refine wpSel_nil ?_
      refine relStep_pure rfl ?_
      go_simp
    refine relAll_cons (fun x w' hk hd => ?_) ?_
    · dsimp only
      simp only [depAll, factOf, Nat.reduceEqDiff, ↓reduceIte, SFact.eq_p] at hd
      obtain ⟨e12, e16, e21, e25, e35, -⟩ := hd
      repeat (first | (refine wpSel_no ?_) | (refine wpSel_yes (fun K hK => ?_); go_simp; (refine hK _ ?_; clear hK K)))
      refine wpSel_nil ?_
      refine relStep_pure rfl ?_
      go_simp
    refine relAll_cons (fun x w' hk hd => ?_) ?_
    · dsimp only
      simp only [depAll, factOf, Nat.reduceEqDiff, ↓reduceIte, SFact.eq_p] at hd
      obtain ⟨e12, e16, e21, e25, e35, -⟩ := hd
      repeat (first | (refine wpSel_no ?_) | (refine wpSel_yes (fun K hK => ?_); go_simp; (refine hK _ ?_; clear hK K)))
      refine wpSel_nil ?_
      refine relStep_pure rfl ?_
      go_simp
    refine relAll_cons (fun x w' hk hd => ?_) ?_
    · dsimp only
      simp only [depAll, factOf, Nat.reduceEqDiff, ↓reduceIte, SFact.eq_p] at hd
      obtain ⟨e12, e16, e21, e25, e35, -⟩ := hd
      repeat (first | (refine wpSel_no ?_) | (refine wpSel_yes (fun K hK => ?_); go_simp; (refine hK _ ?_; clear hK K)))
      refine wpSel_nil ?_
      refine relStep_pure rfl ?_
      go_simp
    refine relAll_cons (fun x w' hk hd => ?_) ?_
    · dsimp only
      simp only [depAll, factOf, Nat.reduceEqDiff, ↓reduceIte, SFact.eq_p] at hd
      obtain ⟨e12, e16, e21, e25, e35, -⟩ := hd
      repeat (first | (refine wpSel_no ?_) | (refine wpSel_yes (fun K hK => ?_); go_simp; (refine hK _ ?_; clear hK K)))
      refine wpSel_nil ?_
      refine relStep_imp rfl (fun K hK => ?_)
      go_simp
      refine (rbytes_any b p wd ls _ (HM.out.kp0 hk)).mono ?_
      rintro e w1 ⟨A1, m1, c1, hm1, rfl, hown1, hk1⟩
      rw [hm1, ← HMM.out, ← HBS.out] at hown1
      rw [hm1, ← HMM.out]
      exact hK _ _ (IsRd.of_own hown1 HBL.out) hk1
    refine relAll_cons (fun x w' hk hd => ?_) ?_
    · dsimp only
      simp only [depAll, factOf, Nat.reduceEqDiff, ↓reduceIte, SFact.eq_p] at hd
      obtain ⟨e12, e16, e21, e25, e35, -⟩ := hd
      repeat (first | (refine wpSel_no ?_) | (refine wpSel_yes (fun K hK => ?_); go_simp; (refine hK _ ?_; clear hK K)))
      refine wpSel_nil ?_
      refine relStep_pure rfl ?_
      go_simp
    refine relAll_cons (fun x w' hk hd => ?_) ?_
    · dsimp only
      simp only [depAll, factOf, Nat.reduceEqDiff, ↓reduceIte, SFact.eq_p] at hd
      obtain ⟨e12, e16, e21, e25, e35, -⟩ := hd
      repeat (first | (refine wpSel_no ?_) | (refine wpSel_yes (fun K hK => ?_); go_simp; (refine hK _ ?_; clear hK K)))
      refine wpSel_nil ?_
      refine relStep_imp rfl (fun K hK => ?_)
      go_simp
      refine (refbytes_any b2 p2 wd ls _ (HRR.out _ hk) HLT.out HER.out).mono ?_
      rintro e w1 ⟨g1, m1, hm1, rfl, hb1, _, hk1⟩
      rw [hm1, ← HMM.out, ← HBS.out] at hb1
      rw [hm1, ← HMM.out]
      exact hK _ _ ⟨_, _, by rw [HBL.out], by rw [HBL.out]; exact Nat.le_refl _, hb1.rd hb1.lt⟩ hk1
    refine relAll_cons (fun x w' hk hd => ?_) ?_
    · dsimp only
      simp only [depAll, factOf, Nat.reduceEqDiff, ↓reduceIte, SFact.eq_p, SFact.rd_p] at hd
      obtain ⟨e12, e16, e21, e25, e35, ⟨A40, c40, e40, hc40, hr40⟩, ⟨A42, c42, e42, hc42, hr42⟩, -⟩ := hd
      repeat (first | (refine wpSel_no ?_) | (refine wpSel_yes (fun K hK => ?_); go_simp; (refine hK _ ?_; clear hK K)))
      refine wpSel_nil ?_
      refine relStep_imp rfl (fun K hK => ?_)
      go_simp
      refine (sameB _ _ _ _ _ _ _ _ bs bs _ hr40 hr42 rfl rfl (by rw [HBL.out]; omega) (by rw [HBL.out]; omega)).mono ?_
      rintro e w1 ⟨rfl, hd1⟩
      rw [show decide (bs = bs) = true from by simp]
      exact hK _ _ rfl (hd1.kp [])
    refine relAll_cons (fun x w' hk hd => ?_) ?_
    · dsimp only
      simp only [depAll, factOf, Nat.reduceEqDiff, ↓reduceIte, SFact.eq_p] at hd
      obtain ⟨e12, e16, e21, e25, e35, e43, -⟩ := hd
      repeat (first | (refine wpSel_no ?_) | (refine wpSel_yes (fun K hK => ?_); go_simp; (refine hK _ ?_; clear hK K)))
      refine wpSel_nil ?_
      refine relStep_pure rfl ?_
      go_simp
    refine relAll_cons (fun x w' hk hd => ?_) ?_
    · dsimp only
      simp only [depAll, factOf, Nat.reduceEqDiff, ↓reduceIte, SFact.eq_p] at hd
      obtain ⟨e12, e16, e21, e25, e35, e43, -⟩ := hd
      repeat (first | (refine wpSel_no ?_) | (refine wpSel_yes (fun K hK => ?_); go_simp; (refine hK _ ?_; clear hK K)))
      refine wpSel_nil ?_
      refine relStep_pure rfl ?_
      go_simp
    exact relAll_nil
  · intro x w' hk hd
    dsimp only
    simp only [depAll, factOf, Nat.reduceEqDiff, ↓reduceIte, SFact.eq_p, SFact.rd_p] at hd
    obtain ⟨e12, e16, e21, e25, ⟨A30, c30, e30, hc30, hr30⟩, e34, e35, ⟨A40, c40, e40, hc40, hr40⟩, ⟨A42, c42, e42, hc42, hr42⟩, e43, -⟩ := hd
    repeat (first | (refine wpSel_no ?_) | (refine wpSel_yes (fun K hK => ?_); go_simp; (refine hK _ ?_; clear hK K)))
    refine wpSel_nil ?_
    have HKR := Lib.hid hk
    clear hk
    by_cases hin : 0 ≤ at_ ∧ at_ < (n : Int)
    · obtain ⟨i, rfl⟩ : ∃ i : Nat, at_ = (i : Int) := ⟨at_.toNat, by omega⟩
      obtain ⟨x, hx⟩ : ∃ x, ls[i]? = some x := ⟨_, List.getElem?_eq_getElem (by rw [HN.out]; omega)⟩
      have HXX := Lib.hid hx; clear hx
      have HXI := Lib.hid (show (intsN ls)[i]? = some (x : Int) by simp [intsN, HXX.out])
      go_wp2_with fail
      refine (rAt_any b p wd i x ls _ (HM.out.kp0 HKR.out) HXX.out).mono ?_
      rintro e w3 ⟨rfl, hd3⟩
      have HK3 := Lib.hid (HKR.out.trans (hd3.kp [])); clear hd3
      go_wp2_with fail
      refine (refAt_in b2 p2 wd (intsN ls) i x _ (HRR.out _ HK3.out) HXI.out).mono ?_
      rintro e w4 ⟨rfl, rfl⟩
      go_wp2_with fail
      go_ret
      exact ⟨rfl, HK3.out⟩
    · have HOUT := Lib.hid (show at_ < 0 ∨ (n : Int) ≤ at_ by omega)
      clear hin
      go_wp2_with fail
      refine (rAt_out b p wd n at_ ls _ (HM.out.kp0 HKR.out) HN.out HOUT.out).mono ?_
      rintro e w3 ⟨rfl, rfl⟩
      go_wp2_with fail
      refine (refAt_out b2 p2 wd (intsN ls) at_ _ (HRR.out _ HKR.out) (by rw [HIL.out]; exact HOUT.out)).mono ?_
      rintro e w4 ⟨rfl, rfl⟩
      go_wp2_with fail
      go_ret
      exact ⟨rfl, HKR.out⟩
end Go.Proofs.Ytlkgepojjjcaoaa
