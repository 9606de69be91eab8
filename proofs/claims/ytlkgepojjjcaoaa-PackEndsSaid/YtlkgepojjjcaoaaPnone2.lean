/-
  LAYER 2: the chapter's 'none': of no row.
  CONDITIONS: none.
-/
import Derived.Test.YtlkgepojjjcaoaaPnone
namespace Go.Proofs.Ytlkgepojjjcaoaa
open Go.RowKit

set_option maxRecDepth 100000 in
set_option maxHeartbeats 4000000 in
theorem none_any (w : World) : Calls Try.prog 36 #[] w fun e w' => e = .returned (.bool true) ∧ Kp [] w w' := by
  go_enter Try.func36, Try.ntmps36
  go_wp2_with fail
  obtain ⟨W0, hW0⟩ : ∃ W0, W0 = (w.alloc (.cells #[.slice none 0 0, .int .i64 0, .int .i64 0] 63)).alloc (.cells #[.pointer none, .pointer (some ⟨w.heap.size, 0, none⟩)] 27) := ⟨_, rfl⟩
  have HKW := Lib.hid (show Kp [] w W0 by rw [hW0]; exact ((Kp.refl [] w).alloc _).alloc _)
  have HBP := Lib.hid (show Blk W0 w.heap.size 63 [.slice none 0 0, .int .i64 0, .int .i64 0] by rw [hW0]; exact (Blk.new w 63 [.slice none 0 0, .int .i64 0, .int .i64 0]).alloc _)
  have HBG := Lib.hid (show Blk W0 (w.heap.size + 1) 27 [.pointer none, .pointer (some ⟨w.heap.size, 0, none⟩)] by
    rw [hW0]
    have h := Blk.new (w.alloc (.cells #[.slice none 0 0, .int .i64 0, .int .i64 0] 63)) 27 [.pointer none, .pointer (some ⟨w.heap.size, 0, none⟩)]
    rw [show (w.alloc (.cells #[.slice none 0 0, .int .i64 0, .int .i64 0] 63)).heap.size = w.heap.size + 1 by simp] at h
    exact h)
  have HPI := Lib.hid (show ∀ i, i < 2 → ∃ A, W0.cell? ⟨w.heap.size + 1, i, none⟩ = some (.pointer A) ∧ NoRow W0 (.pointer A) from fun i hi => by
    rcases (show i = 0 ∨ i = 1 by omega) with rfl | rfl
    · exact ⟨_, HBG.out.cell 0, .inl rfl⟩
    · exact ⟨_, HBG.out.cell 1, .inr ⟨_, rfl, HBP.out⟩⟩)
  rw [← hW0]
  clear hW0
  go_loopw [2] (fun x wr => ∃ i : Nat, x = .int .i64 (i : Int) ∧ i ≤ 2 ∧ Hid (Kp [] W0 wr)) (fun x _ => 2 - (intOf x).toNat)
  case atStart => exact ⟨0, rfl, by omega, Lib.hid (Kp.refl [] W0)⟩
  case round =>
    obtain ⟨i, rfl, hi, HK⟩ := hrel
    by_cases hlt : i < 2
    · obtain ⟨A, hcx, hno⟩ := HPI.out i hlt
      have HCX := Lib.hid hcx; clear hcx
      have HNO := Lib.hid hno; clear hno
      have c0 := HK.out.cell HCX.out (by simp)
      go_wp2_with fail
      refine (nAt_any (.pointer A) wr (HNO.out.kp0 HK.out)).mono ?_
      rintro e w1 ⟨rfl, rfl⟩
      go_wp2_with fail
      refine (nfind_any (.pointer A) wr (HNO.out.kp0 HK.out)).mono ?_
      rintro e w1 ⟨rfl, hk1⟩
      have HK1 := Lib.hid (HK.out.trans hk1); clear hk1 c0 HK
      have HK := HK1; clear HK1
      go_upto_region 7 with fail
      refine wp_region_facts (by kernel_rfl) 70 [30, 31, 32, 33, 34, 35, 36, 37, 38, 39, 40, 41, 42, 43, 44, 45, 46, 47, 48, 49, 50, 51, 52, 53, 54, 55, 56, 57, 58, 59, 60, 61, 62, 63, 64, 65, 66, 67, 68, 69] [[], [30], [31], [32], [32, 33], [34], [35], [36, 35], [35, 37], [38], [39], [39, 40], [41], [42], [42], [43, 44, 42], [45, 42], [46, 42], [42], [42], [48, 49, 42], [50, 42], [51, 42], [47, 52, 42], [42], [42], [54, 55, 42], [56, 42], [57, 42], [58, 42], [53, 59, 42], [42], [42], [61, 62, 42], [63, 42], [64, 42], [65, 42], [60, 66, 42], [67, 42], [42, 68]] (by kernel_rfl) (by kernel_rfl) rfl (factOf [(30, .eq (.int .i64 0)), (31, .eq (.bool false)), (32, .eq (.bool false)), (33, .eq (.bool false)), (34, .eq (.bool false)), (35, .eq (.bool false)), (36, .eq (.int .i64 0)), (37, .eq (.bool false)), (38, .eq (.bool false)), (39, .eq (.bool false)), (40, .eq (.bool false)), (41, .eq (.bool false)), (42, .eq (.bool false)), (43, .eq (.slice (some ⟨w.heap.size + 1, 0, none⟩) 2 2)), (44, .eq (.int .i64 (i : Int))), (45, .eq (.pointer (some ⟨w.heap.size + 1, i, none⟩))), (46, .eq (.pointer A)), (47, .eq (.int .i64 0)), (48, .eq (.slice (some ⟨w.heap.size + 1, 0, none⟩) 2 2)), (49, .eq (.int .i64 (i : Int))), (50, .eq (.pointer (some ⟨w.heap.size + 1, i, none⟩))), (51, .eq (.pointer A)), (52, .eq (.int .i64 0)), (53, .eq (.int .i64 0)), (54, .eq (.slice (some ⟨w.heap.size + 1, 0, none⟩) 2 2)), (55, .eq (.int .i64 (i : Int))), (56, .eq (.pointer (some ⟨w.heap.size + 1, i, none⟩))), (57, .eq (.pointer A)), (58, .eq (.slice none 0 0)), (59, .eq (.int .i64 0)), (60, .eq (.int .i64 0)), (61, .eq (.slice (some ⟨w.heap.size + 1, 0, none⟩) 2 2)), (62, .eq (.int .i64 (i : Int))), (63, .eq (.pointer (some ⟨w.heap.size + 1, i, none⟩))), (64, .eq (.pointer A)), (65, .eq (.slice none 0 0)), (66, .eq (.int .i64 0)), (67, .eq (.int .i64 0)), (68, .eq (.bool false)), (69, .eq (.bool false))]) (factOf_stable _) _ (fun x => by simp only [fillL, Nat.reduceAdd, Nat.reduceEqDiff, ↓reduceIte]; rfl) ?_ ?_
      · refine ⟨?_, ?_, ?_, ?_, ?_, ?_, ?_, ?_, ?_, ?_, ?_, ?_, ?_, ?_, ?_, ?_, ?_, ?_, ?_, ?_, ?_, ?_, ?_, ?_, ?_, ?_, ?_, ?_, ?_, ?_, ?_, ?_, ?_, ?_, ?_, ?_, ?_, ?_, ?_, ?_, trivial⟩
        · intro x w' a hk hd ev  -- 30 = Op.move (Operand.tmp 3)
          have e3 : a.tmps[3]?.getD undef = .int .i64 0 := ev.old 3 rfl
          refine stepF_un rfl (fun K hK => ?_)
          exact stepF_val _ hK (run_move rfl e3 _) rfl
        · intro x w' a hk hd ev  -- 31 = Op.binOp BinOp.neq 3 (Operand.tmp 30) (Operand.const (Value.
          have h30 : x 30 = .int .i64 0 := hd.1
          have e30 : a.tmps[30]?.getD undef = .int .i64 0 := (ev.new 30 rfl).trans h30
          refine stepF_un rfl (fun K hK => ?_)
          go_simp
          exact hK _ _ rfl (Kp.refl _ _)
        · intro x w' a hk hd ev  -- 32 = Op.move (Operand.tmp 31)
          have h31 : x 31 = .bool false := hd.1
          have e31 : a.tmps[31]?.getD undef = .bool false := (ev.new 31 rfl).trans h31
          refine stepF_un rfl (fun K hK => ?_)
          exact stepF_val _ hK (run_move rfl e31 _) rfl
        · intro x w' a hk hd ev  -- 33 = Op.move (Operand.tmp 4)
          have h32 : x 32 = .bool false := hd.1
          have e32 : a.tmps[32]?.getD undef = .bool false := (ev.new 32 rfl).trans h32
          have e4 : a.tmps[4]?.getD undef = .bool false := ev.old 4 rfl
          refine stepF_yes (i := 2) (g := 32) (b := false) rfl rfl rfl e32 (fun K hK => ?_)
          exact stepF_val _ hK (run_move rfl e4 _) rfl
        · intro x w' a hk hd ev  -- 34 = Op.pick (Operand.tmp 32) (Operand.const (Value.bool true)) (
          have h32 : x 32 = .bool false := hd.1
          have e32 : a.tmps[32]?.getD undef = .bool false := (ev.new 32 rfl).trans h32
          have h33 : x 33 = .bool false := hd.2.1
          have e33 : a.tmps[33]?.getD undef = .bool false := (ev.new 33 rfl).trans h33
          refine stepF_un rfl (fun K hK => ?_)
          go_simp
          exact hK _ _ rfl (Kp.refl _ _)
        · intro x w' a hk hd ev  -- 35 = Op.move (Operand.tmp 34)
          have h34 : x 34 = .bool false := hd.1
          have e34 : a.tmps[34]?.getD undef = .bool false := (ev.new 34 rfl).trans h34
          refine stepF_un rfl (fun K hK => ?_)
          exact stepF_val _ hK (run_move rfl e34 _) rfl
        · intro x w' a hk hd ev  -- 36 = Op.move (Operand.tmp 5)
          have h35 : x 35 = .bool false := hd.1
          have e35 : a.tmps[35]?.getD undef = .bool false := (ev.new 35 rfl).trans h35
          have e5 : a.tmps[5]?.getD undef = .int .i64 0 := ev.old 5 rfl
          refine stepF_yes (i := 5) (g := 35) (b := false) rfl rfl rfl e35 (fun K hK => ?_)
          exact stepF_val _ hK (run_move rfl e5 _) rfl
        · intro x w' a hk hd ev  -- 37 = Op.binOp BinOp.neq 3 (Operand.tmp 36) (Operand.const (Value.
          have h36 : x 36 = .int .i64 0 := hd.1
          have e36 : a.tmps[36]?.getD undef = .int .i64 0 := (ev.new 36 rfl).trans h36
          have h35 : x 35 = .bool false := hd.2.1
          have e35 : a.tmps[35]?.getD undef = .bool false := (ev.new 35 rfl).trans h35
          refine stepF_yes (i := 5) (g := 35) (b := false) rfl rfl rfl e35 (fun K hK => ?_)
          go_simp
          exact hK _ _ rfl (Kp.refl _ _)
        · intro x w' a hk hd ev  -- 38 = Op.pick (Operand.tmp 35) (Operand.const (Value.bool true)) (
          have h35 : x 35 = .bool false := hd.1
          have e35 : a.tmps[35]?.getD undef = .bool false := (ev.new 35 rfl).trans h35
          have h37 : x 37 = .bool false := hd.2.1
          have e37 : a.tmps[37]?.getD undef = .bool false := (ev.new 37 rfl).trans h37
          refine stepF_un rfl (fun K hK => ?_)
          go_simp
          exact hK _ _ rfl (Kp.refl _ _)
        · intro x w' a hk hd ev  -- 39 = Op.move (Operand.tmp 38)
          have h38 : x 38 = .bool false := hd.1
          have e38 : a.tmps[38]?.getD undef = .bool false := (ev.new 38 rfl).trans h38
          refine stepF_un rfl (fun K hK => ?_)
          exact stepF_val _ hK (run_move rfl e38 _) rfl
        · intro x w' a hk hd ev  -- 40 = Op.move (Operand.tmp 6)
          have h39 : x 39 = .bool false := hd.1
          have e39 : a.tmps[39]?.getD undef = .bool false := (ev.new 39 rfl).trans h39
          have e6 : a.tmps[6]?.getD undef = .bool false := ev.old 6 rfl
          refine stepF_yes (i := 9) (g := 39) (b := false) rfl rfl rfl e39 (fun K hK => ?_)
          exact stepF_val _ hK (run_move rfl e6 _) rfl
        · intro x w' a hk hd ev  -- 41 = Op.pick (Operand.tmp 39) (Operand.const (Value.bool true)) (
          have h39 : x 39 = .bool false := hd.1
          have e39 : a.tmps[39]?.getD undef = .bool false := (ev.new 39 rfl).trans h39
          have h40 : x 40 = .bool false := hd.2.1
          have e40 : a.tmps[40]?.getD undef = .bool false := (ev.new 40 rfl).trans h40
          refine stepF_un rfl (fun K hK => ?_)
          go_simp
          exact hK _ _ rfl (Kp.refl _ _)
        · intro x w' a hk hd ev  -- 42 = Op.move (Operand.tmp 41)
          have h41 : x 41 = .bool false := hd.1
          have e41 : a.tmps[41]?.getD undef = .bool false := (ev.new 41 rfl).trans h41
          refine stepF_un rfl (fun K hK => ?_)
          exact stepF_val _ hK (run_move rfl e41 _) rfl
        · intro x w' a hk hd ev  -- 43 = Op.move (Operand.tmp 1)
          have h42 : x 42 = .bool false := hd.1
          have e42 : a.tmps[42]?.getD undef = .bool false := (ev.new 42 rfl).trans h42
          have e1 : a.tmps[1]?.getD undef = .slice (some ⟨w.heap.size + 1, 0, none⟩) 2 2 := ev.old 1 rfl
          refine stepF_yes (i := 12) (g := 42) (b := false) rfl rfl rfl e42 (fun K hK => ?_)
          exact stepF_val _ hK (run_move rfl e1 _) rfl
        · intro x w' a hk hd ev  -- 44 = Op.move (Operand.tmp 2)
          have h42 : x 42 = .bool false := hd.1
          have e42 : a.tmps[42]?.getD undef = .bool false := (ev.new 42 rfl).trans h42
          have e2 : a.tmps[2]?.getD undef = .int .i64 (i : Int) := ev.old 2 rfl
          refine stepF_yes (i := 12) (g := 42) (b := false) rfl rfl rfl e42 (fun K hK => ?_)
          exact stepF_val _ hK (run_move rfl e2 _) rfl
        · intro x w' a hk hd ev  -- 45 = Op.indexAddr 70 (Operand.tmp 43) (Operand.tmp 44)
          have h43 : x 43 = .slice (some ⟨w.heap.size + 1, 0, none⟩) 2 2 := hd.1
          have e43 : a.tmps[43]?.getD undef = .slice (some ⟨w.heap.size + 1, 0, none⟩) 2 2 := (ev.new 43 rfl).trans h43
          have h44 : x 44 = .int .i64 (i : Int) := hd.2.1
          have e44 : a.tmps[44]?.getD undef = .int .i64 (i : Int) := (ev.new 44 rfl).trans h44
          have h42 : x 42 = .bool false := hd.2.2.1
          have e42 : a.tmps[42]?.getD undef = .bool false := (ev.new 42 rfl).trans h42
          refine stepF_yes (i := 12) (g := 42) (b := false) rfl rfl rfl e42 (fun K hK => ?_)
          have hi0 : (0 : Int) ≤ (i : Int) := by omega
          have hi2 : (i : Int) < 2 := by omega
          go_simp
          exact hK _ _ rfl (Kp.refl _ _)
        · intro x w' a hk hd ev  -- 46 = Op.load 27 (Operand.tmp 45)
          have h45 : x 45 = .pointer (some ⟨w.heap.size + 1, i, none⟩) := hd.1
          have e45 : a.tmps[45]?.getD undef = .pointer (some ⟨w.heap.size + 1, i, none⟩) := (ev.new 45 rfl).trans h45
          have h42 : x 42 = .bool false := hd.2.1
          have e42 : a.tmps[42]?.getD undef = .bool false := (ev.new 42 rfl).trans h42
          refine stepF_yes (i := 12) (g := 42) (b := false) rfl rfl rfl e42 (fun K hK => ?_)
          have cx := (HK.out.trans hk).cell HCX.out (by simp)
          go_simp
          exact hK _ _ rfl (Kp.refl _ _)
        · intro x w' a hk hd ev  -- 47 = Op.call { callee := Callee.value (Operand.func 28), args := 
          have h46 : x 46 = .pointer A := hd.1
          have e46 : a.tmps[46]?.getD undef = .pointer A := (ev.new 46 rfl).trans h46
          have h42 : x 42 = .bool false := hd.2.1
          have e42 : a.tmps[42]?.getD undef = .bool false := (ev.new 42 rfl).trans h42
          refine stepF_yes (i := 12) (g := 42) (b := false) rfl rfl rfl e42 (fun K hK => ?_)
          go_simp
          refine (nlen_any (.pointer A) _ (HNO.out.kp0 (HK.out.trans hk))).mono ?_
          rintro e w1 ⟨rfl, rfl⟩
          exact hK _ _ rfl (Kp.refl _ _)
        · intro x w' a hk hd ev  -- 48 = Op.move (Operand.tmp 1)
          have h42 : x 42 = .bool false := hd.1
          have e42 : a.tmps[42]?.getD undef = .bool false := (ev.new 42 rfl).trans h42
          have e1 : a.tmps[1]?.getD undef = .slice (some ⟨w.heap.size + 1, 0, none⟩) 2 2 := ev.old 1 rfl
          refine stepF_yes (i := 12) (g := 42) (b := false) rfl rfl rfl e42 (fun K hK => ?_)
          exact stepF_val _ hK (run_move rfl e1 _) rfl
        · intro x w' a hk hd ev  -- 49 = Op.move (Operand.tmp 2)
          have h42 : x 42 = .bool false := hd.1
          have e42 : a.tmps[42]?.getD undef = .bool false := (ev.new 42 rfl).trans h42
          have e2 : a.tmps[2]?.getD undef = .int .i64 (i : Int) := ev.old 2 rfl
          refine stepF_yes (i := 12) (g := 42) (b := false) rfl rfl rfl e42 (fun K hK => ?_)
          exact stepF_val _ hK (run_move rfl e2 _) rfl
        · intro x w' a hk hd ev  -- 50 = Op.indexAddr 70 (Operand.tmp 48) (Operand.tmp 49)
          have h48 : x 48 = .slice (some ⟨w.heap.size + 1, 0, none⟩) 2 2 := hd.1
          have e48 : a.tmps[48]?.getD undef = .slice (some ⟨w.heap.size + 1, 0, none⟩) 2 2 := (ev.new 48 rfl).trans h48
          have h49 : x 49 = .int .i64 (i : Int) := hd.2.1
          have e49 : a.tmps[49]?.getD undef = .int .i64 (i : Int) := (ev.new 49 rfl).trans h49
          have h42 : x 42 = .bool false := hd.2.2.1
          have e42 : a.tmps[42]?.getD undef = .bool false := (ev.new 42 rfl).trans h42
          refine stepF_yes (i := 12) (g := 42) (b := false) rfl rfl rfl e42 (fun K hK => ?_)
          have hi0 : (0 : Int) ≤ (i : Int) := by omega
          have hi2 : (i : Int) < 2 := by omega
          go_simp
          exact hK _ _ rfl (Kp.refl _ _)
        · intro x w' a hk hd ev  -- 51 = Op.load 27 (Operand.tmp 50)
          have h50 : x 50 = .pointer (some ⟨w.heap.size + 1, i, none⟩) := hd.1
          have e50 : a.tmps[50]?.getD undef = .pointer (some ⟨w.heap.size + 1, i, none⟩) := (ev.new 50 rfl).trans h50
          have h42 : x 42 = .bool false := hd.2.1
          have e42 : a.tmps[42]?.getD undef = .bool false := (ev.new 42 rfl).trans h42
          refine stepF_yes (i := 12) (g := 42) (b := false) rfl rfl rfl e42 (fun K hK => ?_)
          have cx := (HK.out.trans hk).cell HCX.out (by simp)
          go_simp
          exact hK _ _ rfl (Kp.refl _ _)
        · intro x w' a hk hd ev  -- 52 = Op.call { callee := Callee.value (Operand.func 12), args := 
          have h51 : x 51 = .pointer A := hd.1
          have e51 : a.tmps[51]?.getD undef = .pointer A := (ev.new 51 rfl).trans h51
          have h42 : x 42 = .bool false := hd.2.1
          have e42 : a.tmps[42]?.getD undef = .bool false := (ev.new 42 rfl).trans h42
          refine stepF_yes (i := 12) (g := 42) (b := false) rfl rfl rfl e42 (fun K hK => ?_)
          go_simp
          refine (nwide_any (.pointer A) _ (HNO.out.kp0 (HK.out.trans hk))).mono ?_
          rintro e w1 ⟨rfl, rfl⟩
          exact hK _ _ rfl (Kp.refl _ _)
        · intro x w' a hk hd ev  -- 53 = Op.binOp BinOp.add 3 (Operand.tmp 47) (Operand.tmp 52) 3
          have h47 : x 47 = .int .i64 0 := hd.1
          have e47 : a.tmps[47]?.getD undef = .int .i64 0 := (ev.new 47 rfl).trans h47
          have h52 : x 52 = .int .i64 0 := hd.2.1
          have e52 : a.tmps[52]?.getD undef = .int .i64 0 := (ev.new 52 rfl).trans h52
          have h42 : x 42 = .bool false := hd.2.2.1
          have e42 : a.tmps[42]?.getD undef = .bool false := (ev.new 42 rfl).trans h42
          refine stepF_yes (i := 12) (g := 42) (b := false) rfl rfl rfl e42 (fun K hK => ?_)
          go_simp
          exact hK _ _ rfl (Kp.refl _ _)
        · intro x w' a hk hd ev  -- 54 = Op.move (Operand.tmp 1)
          have h42 : x 42 = .bool false := hd.1
          have e42 : a.tmps[42]?.getD undef = .bool false := (ev.new 42 rfl).trans h42
          have e1 : a.tmps[1]?.getD undef = .slice (some ⟨w.heap.size + 1, 0, none⟩) 2 2 := ev.old 1 rfl
          refine stepF_yes (i := 12) (g := 42) (b := false) rfl rfl rfl e42 (fun K hK => ?_)
          exact stepF_val _ hK (run_move rfl e1 _) rfl
        · intro x w' a hk hd ev  -- 55 = Op.move (Operand.tmp 2)
          have h42 : x 42 = .bool false := hd.1
          have e42 : a.tmps[42]?.getD undef = .bool false := (ev.new 42 rfl).trans h42
          have e2 : a.tmps[2]?.getD undef = .int .i64 (i : Int) := ev.old 2 rfl
          refine stepF_yes (i := 12) (g := 42) (b := false) rfl rfl rfl e42 (fun K hK => ?_)
          exact stepF_val _ hK (run_move rfl e2 _) rfl
        · intro x w' a hk hd ev  -- 56 = Op.indexAddr 70 (Operand.tmp 54) (Operand.tmp 55)
          have h54 : x 54 = .slice (some ⟨w.heap.size + 1, 0, none⟩) 2 2 := hd.1
          have e54 : a.tmps[54]?.getD undef = .slice (some ⟨w.heap.size + 1, 0, none⟩) 2 2 := (ev.new 54 rfl).trans h54
          have h55 : x 55 = .int .i64 (i : Int) := hd.2.1
          have e55 : a.tmps[55]?.getD undef = .int .i64 (i : Int) := (ev.new 55 rfl).trans h55
          have h42 : x 42 = .bool false := hd.2.2.1
          have e42 : a.tmps[42]?.getD undef = .bool false := (ev.new 42 rfl).trans h42
          refine stepF_yes (i := 12) (g := 42) (b := false) rfl rfl rfl e42 (fun K hK => ?_)
          have hi0 : (0 : Int) ≤ (i : Int) := by omega
          have hi2 : (i : Int) < 2 := by omega
          go_simp
          exact hK _ _ rfl (Kp.refl _ _)
        · intro x w' a hk hd ev  -- 57 = Op.load 27 (Operand.tmp 56)
          have h56 : x 56 = .pointer (some ⟨w.heap.size + 1, i, none⟩) := hd.1
          have e56 : a.tmps[56]?.getD undef = .pointer (some ⟨w.heap.size + 1, i, none⟩) := (ev.new 56 rfl).trans h56
          have h42 : x 42 = .bool false := hd.2.1
          have e42 : a.tmps[42]?.getD undef = .bool false := (ev.new 42 rfl).trans h42
          refine stepF_yes (i := 12) (g := 42) (b := false) rfl rfl rfl e42 (fun K hK => ?_)
          have cx := (HK.out.trans hk).cell HCX.out (by simp)
          go_simp
          exact hK _ _ rfl (Kp.refl _ _)
        · intro x w' a hk hd ev  -- 58 = Op.call { callee := Callee.value (Operand.func 32), args := 
          have h57 : x 57 = .pointer A := hd.1
          have e57 : a.tmps[57]?.getD undef = .pointer A := (ev.new 57 rfl).trans h57
          have h42 : x 42 = .bool false := hd.2.1
          have e42 : a.tmps[42]?.getD undef = .bool false := (ev.new 42 rfl).trans h42
          refine stepF_yes (i := 12) (g := 42) (b := false) rfl rfl rfl e42 (fun K hK => ?_)
          go_simp
          refine (nall_any (.pointer A) _ (HNO.out.kp0 (HK.out.trans hk))).mono ?_
          rintro e w1 ⟨rfl, rfl⟩
          exact hK _ _ rfl (Kp.refl _ _)
        · intro x w' a hk hd ev  -- 59 = Op.call { callee := Callee.builtin Builtin.len, args := #[Op
          have h58 : x 58 = .slice none 0 0 := hd.1
          have e58 : a.tmps[58]?.getD undef = .slice none 0 0 := (ev.new 58 rfl).trans h58
          have h42 : x 42 = .bool false := hd.2.1
          have e42 : a.tmps[42]?.getD undef = .bool false := (ev.new 42 rfl).trans h42
          refine stepF_yes (i := 12) (g := 42) (b := false) rfl rfl rfl e42 (fun K hK => ?_)
          go_simp
          exact hK _ _ rfl (Kp.refl _ _)
        · intro x w' a hk hd ev  -- 60 = Op.binOp BinOp.add 3 (Operand.tmp 53) (Operand.tmp 59) 3
          have h53 : x 53 = .int .i64 0 := hd.1
          have e53 : a.tmps[53]?.getD undef = .int .i64 0 := (ev.new 53 rfl).trans h53
          have h59 : x 59 = .int .i64 0 := hd.2.1
          have e59 : a.tmps[59]?.getD undef = .int .i64 0 := (ev.new 59 rfl).trans h59
          have h42 : x 42 = .bool false := hd.2.2.1
          have e42 : a.tmps[42]?.getD undef = .bool false := (ev.new 42 rfl).trans h42
          refine stepF_yes (i := 12) (g := 42) (b := false) rfl rfl rfl e42 (fun K hK => ?_)
          go_simp
          exact hK _ _ rfl (Kp.refl _ _)
        · intro x w' a hk hd ev  -- 61 = Op.move (Operand.tmp 1)
          have h42 : x 42 = .bool false := hd.1
          have e42 : a.tmps[42]?.getD undef = .bool false := (ev.new 42 rfl).trans h42
          have e1 : a.tmps[1]?.getD undef = .slice (some ⟨w.heap.size + 1, 0, none⟩) 2 2 := ev.old 1 rfl
          refine stepF_yes (i := 12) (g := 42) (b := false) rfl rfl rfl e42 (fun K hK => ?_)
          exact stepF_val _ hK (run_move rfl e1 _) rfl
        · intro x w' a hk hd ev  -- 62 = Op.move (Operand.tmp 2)
          have h42 : x 42 = .bool false := hd.1
          have e42 : a.tmps[42]?.getD undef = .bool false := (ev.new 42 rfl).trans h42
          have e2 : a.tmps[2]?.getD undef = .int .i64 (i : Int) := ev.old 2 rfl
          refine stepF_yes (i := 12) (g := 42) (b := false) rfl rfl rfl e42 (fun K hK => ?_)
          exact stepF_val _ hK (run_move rfl e2 _) rfl
        · intro x w' a hk hd ev  -- 63 = Op.indexAddr 70 (Operand.tmp 61) (Operand.tmp 62)
          have h61 : x 61 = .slice (some ⟨w.heap.size + 1, 0, none⟩) 2 2 := hd.1
          have e61 : a.tmps[61]?.getD undef = .slice (some ⟨w.heap.size + 1, 0, none⟩) 2 2 := (ev.new 61 rfl).trans h61
          have h62 : x 62 = .int .i64 (i : Int) := hd.2.1
          have e62 : a.tmps[62]?.getD undef = .int .i64 (i : Int) := (ev.new 62 rfl).trans h62
          have h42 : x 42 = .bool false := hd.2.2.1
          have e42 : a.tmps[42]?.getD undef = .bool false := (ev.new 42 rfl).trans h42
          refine stepF_yes (i := 12) (g := 42) (b := false) rfl rfl rfl e42 (fun K hK => ?_)
          have hi0 : (0 : Int) ≤ (i : Int) := by omega
          have hi2 : (i : Int) < 2 := by omega
          go_simp
          exact hK _ _ rfl (Kp.refl _ _)
        · intro x w' a hk hd ev  -- 64 = Op.load 27 (Operand.tmp 63)
          have h63 : x 63 = .pointer (some ⟨w.heap.size + 1, i, none⟩) := hd.1
          have e63 : a.tmps[63]?.getD undef = .pointer (some ⟨w.heap.size + 1, i, none⟩) := (ev.new 63 rfl).trans h63
          have h42 : x 42 = .bool false := hd.2.1
          have e42 : a.tmps[42]?.getD undef = .bool false := (ev.new 42 rfl).trans h42
          refine stepF_yes (i := 12) (g := 42) (b := false) rfl rfl rfl e42 (fun K hK => ?_)
          have cx := (HK.out.trans hk).cell HCX.out (by simp)
          go_simp
          exact hK _ _ rfl (Kp.refl _ _)
        · intro x w' a hk hd ev  -- 65 = Op.call { callee := Callee.value (Operand.func 27), args := 
          have h64 : x 64 = .pointer A := hd.1
          have e64 : a.tmps[64]?.getD undef = .pointer A := (ev.new 64 rfl).trans h64
          have h42 : x 42 = .bool false := hd.2.1
          have e42 : a.tmps[42]?.getD undef = .bool false := (ev.new 42 rfl).trans h42
          refine stepF_yes (i := 12) (g := 42) (b := false) rfl rfl rfl e42 (fun K hK => ?_)
          go_simp
          refine (nbytes_any (.pointer A) _ (HNO.out.kp0 (HK.out.trans hk))).mono ?_
          rintro e w1 ⟨rfl, rfl⟩
          exact hK _ _ rfl (Kp.refl _ _)
        · intro x w' a hk hd ev  -- 66 = Op.call { callee := Callee.builtin Builtin.len, args := #[Op
          have h65 : x 65 = .slice none 0 0 := hd.1
          have e65 : a.tmps[65]?.getD undef = .slice none 0 0 := (ev.new 65 rfl).trans h65
          have h42 : x 42 = .bool false := hd.2.1
          have e42 : a.tmps[42]?.getD undef = .bool false := (ev.new 42 rfl).trans h42
          refine stepF_yes (i := 12) (g := 42) (b := false) rfl rfl rfl e42 (fun K hK => ?_)
          go_simp
          exact hK _ _ rfl (Kp.refl _ _)
        · intro x w' a hk hd ev  -- 67 = Op.binOp BinOp.add 3 (Operand.tmp 60) (Operand.tmp 66) 3
          have h60 : x 60 = .int .i64 0 := hd.1
          have e60 : a.tmps[60]?.getD undef = .int .i64 0 := (ev.new 60 rfl).trans h60
          have h66 : x 66 = .int .i64 0 := hd.2.1
          have e66 : a.tmps[66]?.getD undef = .int .i64 0 := (ev.new 66 rfl).trans h66
          have h42 : x 42 = .bool false := hd.2.2.1
          have e42 : a.tmps[42]?.getD undef = .bool false := (ev.new 42 rfl).trans h42
          refine stepF_yes (i := 12) (g := 42) (b := false) rfl rfl rfl e42 (fun K hK => ?_)
          go_simp
          exact hK _ _ rfl (Kp.refl _ _)
        · intro x w' a hk hd ev  -- 68 = Op.binOp BinOp.neq 3 (Operand.tmp 67) (Operand.const (Value.
          have h67 : x 67 = .int .i64 0 := hd.1
          have e67 : a.tmps[67]?.getD undef = .int .i64 0 := (ev.new 67 rfl).trans h67
          have h42 : x 42 = .bool false := hd.2.1
          have e42 : a.tmps[42]?.getD undef = .bool false := (ev.new 42 rfl).trans h42
          refine stepF_yes (i := 12) (g := 42) (b := false) rfl rfl rfl e42 (fun K hK => ?_)
          go_simp
          exact hK _ _ rfl (Kp.refl _ _)
        · intro x w' a hk hd ev  -- 69 = Op.pick (Operand.tmp 42) (Operand.const (Value.bool true)) (
          have h42 : x 42 = .bool false := hd.1
          have e42 : a.tmps[42]?.getD undef = .bool false := (ev.new 42 rfl).trans h42
          have h68 : x 68 = .bool false := hd.2.1
          have e68 : a.tmps[68]?.getD undef = .bool false := (ev.new 68 rfl).trans h68
          refine stepF_un rfl (fun K hK => ?_)
          go_simp
          exact hK _ _ rfl (Kp.refl _ _)
      · intro x w' hk hd
        have h30 : x 30 = .int .i64 0 := hd.1
        have h31 : x 31 = .bool false := hd.2.1
        have h32 : x 32 = .bool false := hd.2.2.1
        have h33 : x 33 = .bool false := hd.2.2.2.1
        have h34 : x 34 = .bool false := hd.2.2.2.2.1
        have h35 : x 35 = .bool false := hd.2.2.2.2.2.1
        have h36 : x 36 = .int .i64 0 := hd.2.2.2.2.2.2.1
        have h37 : x 37 = .bool false := hd.2.2.2.2.2.2.2.1
        have h38 : x 38 = .bool false := hd.2.2.2.2.2.2.2.2.1
        have h39 : x 39 = .bool false := hd.2.2.2.2.2.2.2.2.2.1
        have h40 : x 40 = .bool false := hd.2.2.2.2.2.2.2.2.2.2.1
        have h41 : x 41 = .bool false := hd.2.2.2.2.2.2.2.2.2.2.2.1
        have h42 : x 42 = .bool false := hd.2.2.2.2.2.2.2.2.2.2.2.2.1
        have h43 : x 43 = .slice (some ⟨w.heap.size + 1, 0, none⟩) 2 2 := hd.2.2.2.2.2.2.2.2.2.2.2.2.2.1
        have h44 : x 44 = .int .i64 (i : Int) := hd.2.2.2.2.2.2.2.2.2.2.2.2.2.2.1
        have h45 : x 45 = .pointer (some ⟨w.heap.size + 1, i, none⟩) := hd.2.2.2.2.2.2.2.2.2.2.2.2.2.2.2.1
        have h46 : x 46 = .pointer A := hd.2.2.2.2.2.2.2.2.2.2.2.2.2.2.2.2.1
        have h47 : x 47 = .int .i64 0 := hd.2.2.2.2.2.2.2.2.2.2.2.2.2.2.2.2.2.1
        have h48 : x 48 = .slice (some ⟨w.heap.size + 1, 0, none⟩) 2 2 := hd.2.2.2.2.2.2.2.2.2.2.2.2.2.2.2.2.2.2.1
        have h49 : x 49 = .int .i64 (i : Int) := hd.2.2.2.2.2.2.2.2.2.2.2.2.2.2.2.2.2.2.2.1
        have h50 : x 50 = .pointer (some ⟨w.heap.size + 1, i, none⟩) := hd.2.2.2.2.2.2.2.2.2.2.2.2.2.2.2.2.2.2.2.2.1
        have h51 : x 51 = .pointer A := hd.2.2.2.2.2.2.2.2.2.2.2.2.2.2.2.2.2.2.2.2.2.1
        have h52 : x 52 = .int .i64 0 := hd.2.2.2.2.2.2.2.2.2.2.2.2.2.2.2.2.2.2.2.2.2.2.1
        have h53 : x 53 = .int .i64 0 := hd.2.2.2.2.2.2.2.2.2.2.2.2.2.2.2.2.2.2.2.2.2.2.2.1
        have h54 : x 54 = .slice (some ⟨w.heap.size + 1, 0, none⟩) 2 2 := hd.2.2.2.2.2.2.2.2.2.2.2.2.2.2.2.2.2.2.2.2.2.2.2.2.1
        have h55 : x 55 = .int .i64 (i : Int) := hd.2.2.2.2.2.2.2.2.2.2.2.2.2.2.2.2.2.2.2.2.2.2.2.2.2.1
        have h56 : x 56 = .pointer (some ⟨w.heap.size + 1, i, none⟩) := hd.2.2.2.2.2.2.2.2.2.2.2.2.2.2.2.2.2.2.2.2.2.2.2.2.2.2.1
        have h57 : x 57 = .pointer A := hd.2.2.2.2.2.2.2.2.2.2.2.2.2.2.2.2.2.2.2.2.2.2.2.2.2.2.2.1
        have h58 : x 58 = .slice none 0 0 := hd.2.2.2.2.2.2.2.2.2.2.2.2.2.2.2.2.2.2.2.2.2.2.2.2.2.2.2.2.1
        have h59 : x 59 = .int .i64 0 := hd.2.2.2.2.2.2.2.2.2.2.2.2.2.2.2.2.2.2.2.2.2.2.2.2.2.2.2.2.2.1
        have h60 : x 60 = .int .i64 0 := hd.2.2.2.2.2.2.2.2.2.2.2.2.2.2.2.2.2.2.2.2.2.2.2.2.2.2.2.2.2.2.1
        have h61 : x 61 = .slice (some ⟨w.heap.size + 1, 0, none⟩) 2 2 := hd.2.2.2.2.2.2.2.2.2.2.2.2.2.2.2.2.2.2.2.2.2.2.2.2.2.2.2.2.2.2.2.1
        have h62 : x 62 = .int .i64 (i : Int) := hd.2.2.2.2.2.2.2.2.2.2.2.2.2.2.2.2.2.2.2.2.2.2.2.2.2.2.2.2.2.2.2.2.1
        have h63 : x 63 = .pointer (some ⟨w.heap.size + 1, i, none⟩) := hd.2.2.2.2.2.2.2.2.2.2.2.2.2.2.2.2.2.2.2.2.2.2.2.2.2.2.2.2.2.2.2.2.2.1
        have h64 : x 64 = .pointer A := hd.2.2.2.2.2.2.2.2.2.2.2.2.2.2.2.2.2.2.2.2.2.2.2.2.2.2.2.2.2.2.2.2.2.2.1
        have h65 : x 65 = .slice none 0 0 := hd.2.2.2.2.2.2.2.2.2.2.2.2.2.2.2.2.2.2.2.2.2.2.2.2.2.2.2.2.2.2.2.2.2.2.2.1
        have h66 : x 66 = .int .i64 0 := hd.2.2.2.2.2.2.2.2.2.2.2.2.2.2.2.2.2.2.2.2.2.2.2.2.2.2.2.2.2.2.2.2.2.2.2.2.1
        have h67 : x 67 = .int .i64 0 := hd.2.2.2.2.2.2.2.2.2.2.2.2.2.2.2.2.2.2.2.2.2.2.2.2.2.2.2.2.2.2.2.2.2.2.2.2.2.1
        have h68 : x 68 = .bool false := hd.2.2.2.2.2.2.2.2.2.2.2.2.2.2.2.2.2.2.2.2.2.2.2.2.2.2.2.2.2.2.2.2.2.2.2.2.2.2.1
        have h69 : x 69 = .bool false := hd.2.2.2.2.2.2.2.2.2.2.2.2.2.2.2.2.2.2.2.2.2.2.2.2.2.2.2.2.2.2.2.2.2.2.2.2.2.2.2.1
        have HK5 := Lib.hid (HK.out.trans hk)
        clear hk hd
        rw [h69]
        go_wp2_with fail
        exact ⟨⟨i + 1, by go_num, by omega, HK5⟩, by simp [intOf]; omega⟩
    · obtain rfl : i = 2 := by omega
      go_wp2_with fail
      go_ret
      exact ⟨rfl, HKW.out.trans HK.out⟩
end Go.Proofs.Ytlkgepojjjcaoaa
