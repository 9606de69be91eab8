/-
  LAYER 5: the chapter's examples (awake).
  CONDITIONS: none.
-/
import Derived.Test.YthidmpllganmnaaTref2
import Derived.Test.YthidmpllganmnaaTcost
namespace Go.Proofs.Ythidmpllganmnaa
open Go.RowKit

theorem cst_one (w : Nat → Nat) (i : Nat) : cst w 1 i = pre w (i + 2) - pre w i := by
  rw [show (1 : Nat) = 0 + 1 from rfl, cst_succ]
  unfold cut spl argm
  rw [Nat.sub_self, cst_zero, cst_zero]
  rfl
theorem cst_two (w : Nat → Nat) (i : Nat) : cst w 2 i = pre w (i + 3) - pre w i + spl w 1 i (argm (spl w 1 i) 1) := by
  rw [show (2 : Nat) = 1 + 1 from rfl, cst_succ]
  rfl
theorem spl_one (w : Nat → Nat) (i : Nat) : spl w 1 i 0 = cst w 1 (i + 1) ∧ spl w 1 i 1 = cst w 1 i := by
  unfold spl
  exact ⟨by rw [cst_zero, Nat.zero_add], by rw [Nat.sub_self, cst_zero]; rfl⟩
theorem okW_a : okW [1, 2, 3] := ⟨by intro x hx; simp at hx; omega, by simp, by simp⟩
theorem okW_b : okW [5, 1, 1, 5] := ⟨by intro x hx; simp at hx; omega, by simp, by simp⟩
theorem K_a : K (wt [1, 2, 3]) 0 2 = 2 := by
  unfold K cut
  have h0 := (spl_one (wt [1, 2, 3]) 0).1
  have h1 := (spl_one (wt [1, 2, 3]) 0).2
  rw [cst_one] at h0 h1
  have e0 : spl (wt [1, 2, 3]) 1 0 0 = 5 := h0
  have e1 : spl (wt [1, 2, 3]) 1 0 1 = 3 := h1
  show 0 + 1 + argm (spl (wt [1, 2, 3]) 1 0) 1 = 2
  unfold argm argm
  rw [e0, e1]
  rfl
theorem lens_two (w : Nat → Nat) (i d : Nat) : lens w i (i + 1) d = [((d + 1 : Nat) : Int), ((d + 1 : Nat) : Int)] := by
  have hb := K_bound w (show i < i + 1 by omega)
  have e : K w i (i + 1) = i + 1 := by omega
  rw [lens_cut w d (by omega), e, show i + 1 - 1 = i from rfl, lens_self, lens_self]
  rfl
theorem rd_a (w : World) : Rd (w.alloc (.cells #[.int .i64 1, .int .i64 2, .int .i64 3] 3)) (w.heap.size + 1) (some ⟨w.heap.size, 0, none⟩) ([1, 2, 3].map (.int .i64)) := Rd.new w #[.int .i64 1, .int .i64 2, .int .i64 3] 3 (0, 0)
theorem rd_b (w : World) : Rd (w.alloc (.cells #[.int .i64 5, .int .i64 1, .int .i64 1, .int .i64 5] 3)) (w.heap.size + 1) (some ⟨w.heap.size, 0, none⟩) ([5, 1, 1, 5].map (.int .i64)) := Rd.new w #[.int .i64 5, .int .i64 1, .int .i64 1, .int .i64 5] 3 (0, 0)
theorem rd_c (w : World) : Rd (w.alloc (.cells #[.int .i64 2, .int .i64 3, .int .i64 3, .int .i64 1] 3)) (w.heap.size + 1) (some ⟨w.heap.size, 0, none⟩) ([2, 3, 3, 1].map (.int .i64)) := Rd.new w #[.int .i64 2, .int .i64 3, .int .i64 3, .int .i64 1] 3 (0, 0)
theorem rd_d (w : World) : Rd (w.alloc (.cells #[.int .i64 2, .int .i64 2, .int .i64 1] 3)) (w.heap.size + 1) (some ⟨w.heap.size, 0, none⟩) ([2, 2, 1].map (.int .i64)) := Rd.new w #[.int .i64 2, .int .i64 2, .int .i64 1] 3 (0, 0)
theorem rd_e (w : World) : Rd (w.alloc (.cells #[.int .i64 1, .int .i64 3, .int .i64 3, .int .i64 2] 3)) (w.heap.size + 1) (some ⟨w.heap.size, 0, none⟩) ([1, 3, 3, 2].map (.int .i64)) := Rd.new w #[.int .i64 1, .int .i64 3, .int .i64 3, .int .i64 2] 3 (0, 0)
theorem rd_bc (w : World) : ∃ B, Rd ((w.alloc (.cells #[.int .i64 5, .int .i64 1, .int .i64 1, .int .i64 5] 3)).alloc (.cells #[.int .i64 2, .int .i64 3, .int .i64 3, .int .i64 1] 3)) B (some ⟨w.heap.size, 0, none⟩) ([5, 1, 1, 5].map (.int .i64)) ∧
    Rd ((w.alloc (.cells #[.int .i64 5, .int .i64 1, .int .i64 1, .int .i64 5] 3)).alloc (.cells #[.int .i64 2, .int .i64 3, .int .i64 3, .int .i64 1] 3)) B (some ⟨w.heap.size + 1, 0, none⟩) ([2, 3, 3, 1].map (.int .i64)) := by
  have h1 := (rd_b w).kp0 ((Kp.refl [] _).alloc (.cells #[.int .i64 2, .int .i64 3, .int .i64 3, .int .i64 1] 3))
  have h2 := rd_c (w.alloc (.cells #[.int .i64 5, .int .i64 1, .int .i64 1, .int .i64 5] 3))
  have e : (w.alloc (.cells #[.int .i64 5, .int .i64 1, .int .i64 1, .int .i64 5] 3)).heap.size = w.heap.size + 1 := by simp
  rw [e] at h2
  exact ⟨_, h1.bound (Nat.le_succ _), h2⟩
theorem lensL_a : lensL [1, 2, 3] = [2, 2, 1] := by
  rw [lensL_more okW_a (by simp)]
  show lens _ 0 2 0 = _
  rw [lens_cut _ _ (by omega), K_a]
  show lens _ 0 1 1 ++ lens _ 2 2 1 = _
  rw [lens_self, show (1 : Nat) = 0 + 1 from rfl, lens_two]
  rfl
theorem spl_two (w : Nat → Nat) (i : Nat) : spl w 2 i 0 = cst w 2 (i + 1) ∧ spl w 2 i 1 = cst w 1 i + cst w 1 (i + 2) ∧ spl w 2 i 2 = cst w 2 i := by
  unfold spl
  exact ⟨by rw [cst_zero, Nat.zero_add], rfl, by rw [Nat.sub_self, cst_zero]; rfl⟩
theorem spl_b (i : Nat) (a b : Nat) (h0 : pre (wt [5, 1, 1, 5]) (i + 1 + 2) - pre (wt [5, 1, 1, 5]) (i + 1) = a) (h1 : pre (wt [5, 1, 1, 5]) (i + 2) - pre (wt [5, 1, 1, 5]) i = b) :
    argm (spl (wt [5, 1, 1, 5]) 1 i) 1 = (if b < a then 1 else 0) ∧ spl (wt [5, 1, 1, 5]) 1 i (argm (spl (wt [5, 1, 1, 5]) 1 i) 1) = min a b := by
  have g0 := (spl_one (wt [5, 1, 1, 5]) i).1
  have g1 := (spl_one (wt [5, 1, 1, 5]) i).2
  rw [cst_one, h0] at g0
  rw [cst_one, h1] at g1
  have e : argm (spl (wt [5, 1, 1, 5]) 1 i) 1 = if b < a then 1 else 0 := by
    unfold argm argm
    rw [g0, g1]
  refine ⟨e, ?_⟩
  rw [e]
  by_cases h : b < a
  · rw [if_pos h, g1]; omega
  · rw [if_neg h, g0]; omega
theorem K_b1 : K (wt [5, 1, 1, 5]) 1 3 = 3 := by
  show 1 + 1 + argm (spl (wt [5, 1, 1, 5]) 1 1) 1 = 3
  rw [(spl_b 1 6 2 rfl rfl).1]
  rfl
theorem K_b : K (wt [5, 1, 1, 5]) 0 3 = 1 := by
  show 0 + 1 + argm (spl (wt [5, 1, 1, 5]) 2 0) 2 = 1
  have h0 := (spl_two (wt [5, 1, 1, 5]) 0).1
  have h1 := (spl_two (wt [5, 1, 1, 5]) 0).2.1
  have h2 := (spl_two (wt [5, 1, 1, 5]) 0).2.2
  rw [cst_two, (spl_b 1 6 2 rfl rfl).2] at h0
  rw [cst_two, (spl_b 0 2 6 rfl rfl).2] at h2
  rw [cst_one, cst_one] at h1
  have e0 : spl (wt [5, 1, 1, 5]) 2 0 0 = 9 := h0
  have e1 : spl (wt [5, 1, 1, 5]) 2 0 1 = 12 := h1
  have e2 : spl (wt [5, 1, 1, 5]) 2 0 2 = 9 := h2
  unfold argm argm argm
  simp [e0, e1, e2]
theorem lensL_b : lensL [5, 1, 1, 5] = [1, 3, 3, 2] := by
  rw [lensL_more okW_b (by simp)]
  show lens _ 0 3 0 = _
  rw [lens_cut _ _ (by omega), K_b]
  show lens _ 0 0 1 ++ lens _ 1 3 1 = _
  rw [lens_self, lens_cut _ _ (show 1 < 3 by omega), K_b1]
  show _ ++ (lens _ 1 2 2 ++ lens _ 3 3 2) = _
  rw [lens_self, show lens (wt [5, 1, 1, 5]) 1 2 2 = _ from lens_two _ 1 2]
  rfl
theorem okC_c : okC [5, 1, 1, 5] [2, 3, 3, 1] := by
  refine ⟨rfl, okW_b, by simp, .inr ⟨by simp, ?_⟩⟩
  exact .node (a := [2, 3, 3]) (b := [1]) (.node (a := [2]) (b := [3, 3]) (.leaf 2) (.node (a := [3]) (b := [3]) (.leaf 3) (.leaf 3))) (.leaf 1)
theorem costV_c : costV [5, 1, 1, 5] [2, 3, 3, 1] = 21 := by rw [costV_ok okC_c]; rfl

set_option maxRecDepth 100000 in
set_option maxHeartbeats 2000000 in
theorem awake_any (w : World) : Calls Try.prog 8 #[] w fun e w' => e = .returned (.bool true) ∧ Kp [] w w' := by
  go_enter Try.func8, Try.ntmps8
  go_wp2_with fail
  refine (tlengths_any _ 3 3 _ [1, 2, 3] _ (rd_a w) rfl (by omega)).mono ?_
  rintro e w1 ⟨A1, m1, c1, rfl, rfl, hown1, hk1⟩
  rw [lensL_a] at hown1
  rw [lensL_a, lensE_ok okW_a]
  have HO1 := Lib.hid hown1; clear hown1
  have HK1 := Lib.hid (((Kp.refl [] w).alloc _).trans hk1); clear hk1
  go_wp2_with fail
  refine (tlengths_any _ 4 4 _ [5, 1, 1, 5] _ (rd_b w1) rfl (by omega)).mono ?_
  rintro e w2 ⟨A2, m2, c2, rfl, rfl, hown2, hk2⟩
  rw [lensL_b] at hown2
  rw [lensL_b, lensE_ok okW_b]
  have HO1' := Lib.hid (own_kp0 HO1.out (((Kp.refl [] w1).alloc _).trans hk2)); clear HO1
  have HO2 := Lib.hid hown2; clear hown2
  have HK2 := Lib.hid (HK1.out.trans (((Kp.refl [] w1).alloc _).trans hk2)); clear hk2 HK1
  go_wp2_with fail
  obtain ⟨B2, hrb, hrc⟩ := rd_bc w2
  refine (tcost_any _ _ 4 4 _ _ _ _ [5, 1, 1, 5] [2, 3, 3, 1] _ hrb hrc rfl rfl (by omega) (by omega)).mono ?_
  rintro e w3 ⟨rfl, hk3⟩
  clear hrb hrc
  rw [costV_c, costE_ok okC_c]
  have HO1 := Lib.hid (own_kp0 HO1'.out ((((Kp.refl [] w2).alloc _).alloc _).trans hk3)); clear HO1'
  have HO2' := Lib.hid (own_kp0 HO2.out ((((Kp.refl [] w2).alloc _).alloc _).trans hk3)); clear HO2
  have HK3 := Lib.hid (HK2.out.trans ((((Kp.refl [] w2).alloc _).alloc _).trans hk3)); clear hk3 HK2
  go_wp2_with fail
  refine (sameI A1 _ 3 3 c1 3 _ _ [2, 2, 1] [2, 2, 1] _ ((own_rd HO1.out).kp0 ((Kp.refl [] _).alloc _)) (rd_d w3) rfl rfl (by omega) (by omega)).mono ?_
  rintro e w4 ⟨rfl, hd4⟩
  rw [show decide (([2, 2, 1] : List Int) = [2, 2, 1]) = true from by simp]
  have HO2 := Lib.hid ((own_rd HO2'.out).kp0 (((Kp.refl [] _).alloc _).trans (hd4.kp []))); clear HO2'
  have HK4 := Lib.hid ((HK3.out.alloc _).trans (hd4.kp [])); clear hd4 HK3
  go_wp2_with fail
  refine (sameI A2 _ 4 4 c2 4 _ _ [1, 3, 3, 2] [1, 3, 3, 2] _ (HO2.out.kp0 ((Kp.refl [] _).alloc _)) (rd_e w4) rfl rfl (by omega) (by omega)).mono ?_
  rintro e w5 ⟨rfl, hd5⟩
  rw [show decide (([1, 3, 3, 2] : List Int) = [1, 3, 3, 2]) = true from by simp]
  have HK5 := Lib.hid ((HK4.out.alloc _).trans (hd5.kp [])); clear hd5 HK4
  go_wp2_with fail
  go_ret
  exact ⟨rfl, HK5.out⟩
end Go.Proofs.Ythidmpllganmnaa
