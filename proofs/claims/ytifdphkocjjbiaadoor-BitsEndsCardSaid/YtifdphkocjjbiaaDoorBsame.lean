/-
  LAYER 1: same: a vector and the document's, of the same bits, are found to be the same.
  CONDITIONS: as it says.
-/
import Derived.Test.YtifdphkocjjbiaaDoorBrel
namespace Go.Proofs.YtifdphkocjjbiaaDoor
open Go.RowKit

set_option maxRecDepth 100000 in
set_option maxHeartbeats 8000000 in
theorem same_any (S T : List Nat) (p q : Nat) (at_ : Int) (bs : List Bool) (c : Bool) (w : World) (h : VecM w S p bs c) (hr : RefV w T q bs) (hTS : ∀ x ∈ T, x ∉ S) (ht : Tab64 w) (h0 : 0 ∉ S) :
    Calls Tryd.prog 20 #[.pointer (some ⟨p, 0, none⟩), .pointer (some ⟨q, 0, none⟩), .int .i64 at_] w fun e w' => e = .returned (.bool true) ∧ Kp S w w' ∧ ∃ S', VecM w' S' p bs true ∧ Grow w S S' := by
  have HI := Lib.hid (show VecI S w.heap.size p bs w from ⟨S, c, h, fun _ => rfl, Nat.le_refl _, fun x hx => .inl hx⟩)
  have HS := Lib.hid h.lt
  have HR := Lib.hid hr
  have HTS := Lib.hid hTS
  obtain ⟨_, _, _, hn16⟩ := h.tail
  have HL16 := Lib.hid hn16
  obtain ⟨RA, rc, c0, _⟩ := hr.open
  have HQ := Lib.hid (show q ∉ S from hTS q (by obtain ⟨_, _, _, _, rfl⟩ := hr; simp))
  obtain ⟨n, hn⟩ : ∃ n, n = bs.length := ⟨_, rfl⟩
  rw [← hn] at c0 hn16
  have HN := Lib.hid hn.symm
  obtain ⟨m, hm⟩ : ∃ m, m = (bs.length + 7) / 8 := ⟨_, rfl⟩
  have HM := Lib.hid hm
  have HMB := Lib.hid (show m ≤ 1000000000 by rw [hm, ← hn]; omega)
  obtain ⟨xs, hxs⟩ : ∃ xs, xs = bytesN (bitN bs) m := ⟨_, rfl⟩
  have HXS := Lib.hid hxs
  have HXL := Lib.hid (show xs.length = m by rw [hxs, bytesN_len])
  obtain ⟨C, hC⟩ : ∃ C, C = bs.count true := ⟨_, rfl⟩
  have HC := Lib.hid hC.symm
  have HRK := Lib.hid (show rankI bs (n : Int) = C by rw [rankI_in (by rw [hn]; exact Nat.le_refl _), cntI_all (by rw [hn]; exact Nat.le_refl _), hC])
  have HT := Lib.hid ht
  have H0 := Lib.hid h0
  obtain ⟨y1, hy1⟩ : ∃ y1, IntKind.i64.wrap (at_ - 1) = y1 := ⟨_, rfl⟩
  obtain ⟨y2, hy2⟩ : ∃ y2, IntKind.i64.wrap ((n : Int) - 1) = y2 := ⟨_, rfl⟩
  obtain ⟨y3, hy3⟩ : ∃ y3, IntKind.i64.wrap ((n : Int) + 1) = y3 := ⟨_, rfl⟩
  clear h hr hTS hn hm hxs hC ht h0
  go_enter Tryd.func20, Tryd.ntmps20
  go_wp2_with fail
  letI : RG.Rel := cntRel S w.heap.size p bs
  refine RG.wp_region_facts (by kernel_rfl) 124 [13, 14, 15, 16, 17, 18, 19, 20, 21, 22, 23, 24, 25, 26, 27, 28, 29, 30, 31, 32, 33, 34, 35, 36, 37, 38, 39, 40] [[], [13], [], [15], [16], [17], [18], [14, 19], [20], [21], [22, 21], [21], [24, 21], [23, 25, 21], [26, 21], [21, 27], [28], [29], [30, 29], [29], [29], [33, 29], [34, 29], [35, 29], [36, 29], [32, 37, 29], [31, 38, 29], [29, 39]] (by kernel_rfl) (by kernel_rfl) rfl (RG.gfactOf [(13, .eq (.pointer (some ⟨p, 0, none⟩))), (14, .eq (.int .i64 (n : Int))), (15, .eq (.pointer (some ⟨q, 0, none⟩))), (16, .eq (.pointer (some ⟨q, 0, none⟩))), (17, .eq (.pointer (some ⟨q, 0, none⟩))), (18, .eq (.slice RA n rc)), (19, .eq (.int .i64 (n : Int))), (20, .eq (.bool false)), (21, .eq (.bool false)), (22, .eq (.pointer (some ⟨p, 0, none⟩))), (23, rdS S w.heap.size p bs xs), (24, .eq (.pointer (some ⟨q, 0, none⟩))), (25, rdS S w.heap.size p bs xs), (26, .eq (.bool true)), (27, .eq (.bool false)), (28, .eq (.bool false)), (29, .eq (.bool false)), (30, .eq (.pointer (some ⟨p, 0, none⟩))), (31, cntF S w.heap.size p bs (.int .i64 (C : Int))), (32, .eq (.pointer (some ⟨q, 0, none⟩))), (33, .eq (.pointer (some ⟨q, 0, none⟩))), (34, .eq (.pointer (some ⟨q, 0, none⟩))), (35, .eq (.pointer (some ⟨q, 0, none⟩))), (36, .eq (.slice RA n rc)), (37, .eq (.int .i64 (n : Int))), (38, .eq (.int .i64 (C : Int))), (39, .eq (.bool false)), (40, .eq (.bool false))]) (RG.gfactOf_stable _) _ (fun x => by simp only [fillL, Nat.reduceAdd, Nat.reduceEqDiff, ↓reduceIte]; rfl) ?_ ?_
  · refine ⟨?_, ?_, ?_, ?_, ?_, ?_, ?_, ?_, ?_, ?_, ?_, ?_, ?_, ?_, ?_, ?_, ?_, ?_, ?_, ?_, ?_, ?_, ?_, ?_, ?_, ?_, ?_, ?_, trivial⟩
    · intro fx w' fa hk hd ev  -- 13 = Op.move (Operand.tmp 0)
      have hk : cntR S w.heap.size p bs w w' := hk
      have e0 : fa.tmps[0]?.getD undef = .pointer (some ⟨p, 0, none⟩) := ev.old 0 rfl
      refine RG.stepF_un rfl (fun K hK => ?_)
      exact RG.stepF_val _ hK (RG.run_move rfl e0 _) rfl
    · intro fx w' fa hk hd ev  -- 14 = Op.call { callee := Callee.value (Operand.func 10), args := 
      have hk : cntR S w.heap.size p bs w w' := hk
      have h13 : fx 13 = .pointer (some ⟨p, 0, none⟩) := hd.1
      have e13 : fa.tmps[13]?.getD undef = .pointer (some ⟨p, 0, none⟩) := (ev.new 13 rfl).trans h13
      refine RG.stepF_un rfl (fun K hK => ?_)
      go_simp
      obtain ⟨S1, c1, hv1, _, hB1, _⟩ := hk.2.1 HI.out
      refine (vlen_any S1 p n bs c1 w' hv1 HN.out).mono ?_
      rintro e w1 ⟨rfl, rfl⟩
      exact hK _ _ rfl (RG.Rel.refl _)
    · intro fx w' fa hk hd ev  -- 15 = Op.move (Operand.tmp 1)
      have hk : cntR S w.heap.size p bs w w' := hk
      have e1 : fa.tmps[1]?.getD undef = .pointer (some ⟨q, 0, none⟩) := ev.old 1 rfl
      refine RG.stepF_un rfl (fun K hK => ?_)
      exact RG.stepF_val _ hK (RG.run_move rfl e1 _) rfl
    · intro fx w' fa hk hd ev  -- 16 = Op.nilCheck (Operand.tmp 15)
      have hk : cntR S w.heap.size p bs w w' := hk
      have h15 : fx 15 = .pointer (some ⟨q, 0, none⟩) := hd.1
      have e15 : fa.tmps[15]?.getD undef = .pointer (some ⟨q, 0, none⟩) := (ev.new 15 rfl).trans h15
      refine RG.stepF_un rfl (fun K hK => ?_)
      go_simp
      exact hK _ _ rfl (RG.Rel.refl _)
    · intro fx w' fa hk hd ev  -- 17 = Op.fieldAddr 68 (Operand.tmp 16) 0
      have hk : cntR S w.heap.size p bs w w' := hk
      have h16 : fx 16 = .pointer (some ⟨q, 0, none⟩) := hd.1
      have e16 : fa.tmps[16]?.getD undef = .pointer (some ⟨q, 0, none⟩) := (ev.new 16 rfl).trans h16
      refine RG.stepF_un rfl (fun K hK => ?_)
      go_simp
      exact hK _ _ rfl (RG.Rel.refl _)
    · intro fx w' fa hk hd ev  -- 18 = Op.load 22 (Operand.tmp 17)
      have hk : cntR S w.heap.size p bs w w' := hk
      have h17 : fx 17 = .pointer (some ⟨q, 0, none⟩) := hd.1
      have e17 : fa.tmps[17]?.getD undef = .pointer (some ⟨q, 0, none⟩) := (ev.new 17 rfl).trans h17
      refine RG.stepF_un rfl (fun K hK => ?_)
      have cx := hk.1.cell c0 HQ.out
      go_simp
      exact hK _ _ rfl (RG.Rel.refl _)
    · intro fx w' fa hk hd ev  -- 19 = Op.call { callee := Callee.builtin Builtin.len, args := #[Op
      have hk : cntR S w.heap.size p bs w w' := hk
      have h18 : fx 18 = .slice RA n rc := hd.1
      have e18 : fa.tmps[18]?.getD undef = .slice RA n rc := (ev.new 18 rfl).trans h18
      refine RG.stepF_un rfl (fun K hK => ?_)
      go_simp
      exact hK _ _ rfl (RG.Rel.refl _)
    · intro fx w' fa hk hd ev  -- 20 = Op.binOp BinOp.neq 3 (Operand.tmp 14) (Operand.tmp 19) 3
      have hk : cntR S w.heap.size p bs w w' := hk
      have h14 : fx 14 = .int .i64 (n : Int) := hd.1
      have e14 : fa.tmps[14]?.getD undef = .int .i64 (n : Int) := (ev.new 14 rfl).trans h14
      have h19 : fx 19 = .int .i64 (n : Int) := hd.2.1
      have e19 : fa.tmps[19]?.getD undef = .int .i64 (n : Int) := (ev.new 19 rfl).trans h19
      refine RG.stepF_un rfl (fun K hK => ?_)
      go_simp
      exact hK _ _ rfl (RG.Rel.refl _)
    · intro fx w' fa hk hd ev  -- 21 = Op.move (Operand.tmp 20)
      have hk : cntR S w.heap.size p bs w w' := hk
      have h20 : fx 20 = .bool false := hd.1
      have e20 : fa.tmps[20]?.getD undef = .bool false := (ev.new 20 rfl).trans h20
      refine RG.stepF_un rfl (fun K hK => ?_)
      exact RG.stepF_val _ hK (RG.run_move rfl e20 _) rfl
    · intro fx w' fa hk hd ev  -- 22 = Op.move (Operand.tmp 0)
      have hk : cntR S w.heap.size p bs w w' := hk
      have h21 : fx 21 = .bool false := hd.1
      have e21 : fa.tmps[21]?.getD undef = .bool false := (ev.new 21 rfl).trans h21
      have e0 : fa.tmps[0]?.getD undef = .pointer (some ⟨p, 0, none⟩) := ev.old 0 rfl
      refine RG.stepF_yes (i := 8) (g := 21) (b := false) rfl rfl rfl e21 (fun K hK => ?_)
      exact RG.stepF_val _ hK (RG.run_move rfl e0 _) rfl
    · intro fx w' fa hk hd ev  -- 23 = Op.call { callee := Callee.value (Operand.func 27), args := 
      have hk : cntR S w.heap.size p bs w w' := hk
      have h22 : fx 22 = .pointer (some ⟨p, 0, none⟩) := hd.1
      have e22 : fa.tmps[22]?.getD undef = .pointer (some ⟨p, 0, none⟩) := (ev.new 22 rfl).trans h22
      have h21 : fx 21 = .bool false := hd.2.1
      have e21 : fa.tmps[21]?.getD undef = .bool false := (ev.new 21 rfl).trans h21
      refine RG.stepF_yes (i := 8) (g := 21) (b := false) rfl rfl rfl e21 (fun K hK => ?_)
      go_simp
      obtain ⟨S1, c1, hv1, _, hB1, _⟩ := hk.2.1 HI.out
      refine (vbytes_any S1 p bs c1 w' hv1).mono ?_
      rintro e w1 ⟨A, m1, cA, hm1, rfl, hown, hk1⟩
      obtain rfl : m = m1 := by rw [hm1, HM.out]
      obtain ⟨A2, c2, hv2, hle, _, _, hbk⟩ := own_form hown
      injection hv2 with hv2 _ hv3
      subst hv2 hv3
      rw [← HXS.out] at hown
      exact hK _ _ ⟨A, cA, by rw [HXL.out], by rw [HXL.out]; exact hle, own_rd hown, fun ad e hm => by have h1 := (hbk ad e).2.2.1; have h2 := HS.out _ hm; have h3 := hk.1.size; omega⟩ (cntR.of_kp hk1)
    · intro fx w' fa hk hd ev  -- 24 = Op.move (Operand.tmp 1)
      have hk : cntR S w.heap.size p bs w w' := hk
      have h21 : fx 21 = .bool false := hd.1
      have e21 : fa.tmps[21]?.getD undef = .bool false := (ev.new 21 rfl).trans h21
      have e1 : fa.tmps[1]?.getD undef = .pointer (some ⟨q, 0, none⟩) := ev.old 1 rfl
      refine RG.stepF_yes (i := 8) (g := 21) (b := false) rfl rfl rfl e21 (fun K hK => ?_)
      exact RG.stepF_val _ hK (RG.run_move rfl e1 _) rfl
    · intro fx w' fa hk hd ev  -- 25 = Op.call { callee := Callee.value (Operand.func 39), args := 
      have hk : cntR S w.heap.size p bs w w' := hk
      have h24 : fx 24 = .pointer (some ⟨q, 0, none⟩) := hd.1
      have e24 : fa.tmps[24]?.getD undef = .pointer (some ⟨q, 0, none⟩) := (ev.new 24 rfl).trans h24
      have h21 : fx 21 = .bool false := hd.2.1
      have e21 : fa.tmps[21]?.getD undef = .bool false := (ev.new 21 rfl).trans h21
      refine RG.stepF_yes (i := 8) (g := 21) (b := false) rfl rfl rfl e21 (fun K hK => ?_)
      go_simp
      refine (rbbytes_any T q bs w' (HR.out.kp hk.1 HTS.out) HL16.out).mono ?_
      rintro e w1 ⟨g, m1, hm1, rfl, hblk, hge, hk1⟩
      obtain rfl : m = m1 := by rw [hm1, HM.out]
      rw [← HXS.out] at hblk
      exact hK _ _ ⟨_, _, by rw [HXL.out], by rw [HXL.out]; exact Nat.le_refl _, hblk.rd hblk.lt, fun ad e hm => by injection e with e; subst e; have h1 : g < w.heap.size := HS.out _ hm; have h2 := hk.1.size; omega⟩ (cntR.of_kp hk1)
    · intro fx w' fa hk hd ev  -- 26 = Op.call { callee := Callee.value (Operand.func 31), args := 
      have hk : cntR S w.heap.size p bs w w' := hk
      have h23 : (rdS S w.heap.size p bs xs : RG.GFact).p (fx 23) w' := hd.1
      have h23 : IsRdS S xs (fx 23) w' := h23
      obtain ⟨A23, c23, v23, hc23, hr23, hs23⟩ := h23.len (n := m) HXL.out
      have e23 : fa.tmps[23]?.getD undef = .slice A23 m c23 := (ev.new 23 rfl).trans v23
      have h25 : (rdS S w.heap.size p bs xs : RG.GFact).p (fx 25) w' := hd.2.1
      have h25 : IsRdS S xs (fx 25) w' := h25
      obtain ⟨A25, c25, v25, hc25, hr25, hs25⟩ := h25.len (n := m) HXL.out
      have e25 : fa.tmps[25]?.getD undef = .slice A25 m c25 := (ev.new 25 rfl).trans v25
      have h21 : fx 21 = .bool false := hd.2.2.1
      have e21 : fa.tmps[21]?.getD undef = .bool false := (ev.new 21 rfl).trans h21
      refine RG.stepF_yes (i := 8) (g := 21) (b := false) rfl rfl rfl e21 (fun K hK => ?_)
      go_simp
      refine (sameB _ _ _ _ _ _ _ _ xs xs _ hr23 hr25 HXL.out HXL.out (by have := HMB.out; omega) (by have := HMB.out; omega)).mono ?_
      rintro e w1 ⟨rfl, hd1⟩
      rw [show decide (xs = xs) = true from by simp]
      exact hK _ _ rfl (cntR.of_kp (hd1.kp []))
    · intro fx w' fa hk hd ev  -- 27 = Op.unOp UnOp.not 4 (Operand.tmp 26)
      have hk : cntR S w.heap.size p bs w w' := hk
      have h26 : fx 26 = .bool true := hd.1
      have e26 : fa.tmps[26]?.getD undef = .bool true := (ev.new 26 rfl).trans h26
      have h21 : fx 21 = .bool false := hd.2.1
      have e21 : fa.tmps[21]?.getD undef = .bool false := (ev.new 21 rfl).trans h21
      refine RG.stepF_yes (i := 8) (g := 21) (b := false) rfl rfl rfl e21 (fun K hK => ?_)
      go_simp
      exact hK _ _ rfl (RG.Rel.refl _)
    · intro fx w' fa hk hd ev  -- 28 = Op.pick (Operand.tmp 21) (Operand.const (Value.bool true)) (
      have hk : cntR S w.heap.size p bs w w' := hk
      have h21 : fx 21 = .bool false := hd.1
      have e21 : fa.tmps[21]?.getD undef = .bool false := (ev.new 21 rfl).trans h21
      have h27 : fx 27 = .bool false := hd.2.1
      have e27 : fa.tmps[27]?.getD undef = .bool false := (ev.new 27 rfl).trans h27
      refine RG.stepF_un rfl (fun K hK => ?_)
      go_simp
      exact hK _ _ rfl (RG.Rel.refl _)
    · intro fx w' fa hk hd ev  -- 29 = Op.move (Operand.tmp 28)
      have hk : cntR S w.heap.size p bs w w' := hk
      have h28 : fx 28 = .bool false := hd.1
      have e28 : fa.tmps[28]?.getD undef = .bool false := (ev.new 28 rfl).trans h28
      refine RG.stepF_un rfl (fun K hK => ?_)
      exact RG.stepF_val _ hK (RG.run_move rfl e28 _) rfl
    · intro fx w' fa hk hd ev  -- 30 = Op.move (Operand.tmp 0)
      have hk : cntR S w.heap.size p bs w w' := hk
      have h29 : fx 29 = .bool false := hd.1
      have e29 : fa.tmps[29]?.getD undef = .bool false := (ev.new 29 rfl).trans h29
      have e0 : fa.tmps[0]?.getD undef = .pointer (some ⟨p, 0, none⟩) := ev.old 0 rfl
      refine RG.stepF_yes (i := 16) (g := 29) (b := false) rfl rfl rfl e29 (fun K hK => ?_)
      exact RG.stepF_val _ hK (RG.run_move rfl e0 _) rfl
    · intro fx w' fa hk hd ev  -- 31 = Op.call { callee := Callee.value (Operand.func 12), args := 
      have hk : cntR S w.heap.size p bs w w' := hk
      have h30 : fx 30 = .pointer (some ⟨p, 0, none⟩) := hd.1
      have e30 : fa.tmps[30]?.getD undef = .pointer (some ⟨p, 0, none⟩) := (ev.new 30 rfl).trans h30
      have h29 : fx 29 = .bool false := hd.2.1
      have e29 : fa.tmps[29]?.getD undef = .bool false := (ev.new 29 rfl).trans h29
      refine RG.stepF_yes (i := 16) (g := 29) (b := false) rfl rfl rfl e29 (fun K hK => ?_)
      go_simp
      refine (ones_rel (hk.2.1 HI.out) HC.out).mono ?_
      rintro e w1 ⟨rfl, hk1, hC1⟩
      exact hK _ _ ⟨rfl, hC1⟩ hk1
    · intro fx w' fa hk hd ev  -- 32 = Op.move (Operand.tmp 1)
      have hk : cntR S w.heap.size p bs w w' := hk
      have h29 : fx 29 = .bool false := hd.1
      have e29 : fa.tmps[29]?.getD undef = .bool false := (ev.new 29 rfl).trans h29
      have e1 : fa.tmps[1]?.getD undef = .pointer (some ⟨q, 0, none⟩) := ev.old 1 rfl
      refine RG.stepF_yes (i := 16) (g := 29) (b := false) rfl rfl rfl e29 (fun K hK => ?_)
      exact RG.stepF_val _ hK (RG.run_move rfl e1 _) rfl
    · intro fx w' fa hk hd ev  -- 33 = Op.move (Operand.tmp 1)
      have hk : cntR S w.heap.size p bs w w' := hk
      have h29 : fx 29 = .bool false := hd.1
      have e29 : fa.tmps[29]?.getD undef = .bool false := (ev.new 29 rfl).trans h29
      have e1 : fa.tmps[1]?.getD undef = .pointer (some ⟨q, 0, none⟩) := ev.old 1 rfl
      refine RG.stepF_yes (i := 16) (g := 29) (b := false) rfl rfl rfl e29 (fun K hK => ?_)
      exact RG.stepF_val _ hK (RG.run_move rfl e1 _) rfl
    · intro fx w' fa hk hd ev  -- 34 = Op.nilCheck (Operand.tmp 33)
      have hk : cntR S w.heap.size p bs w w' := hk
      have h33 : fx 33 = .pointer (some ⟨q, 0, none⟩) := hd.1
      have e33 : fa.tmps[33]?.getD undef = .pointer (some ⟨q, 0, none⟩) := (ev.new 33 rfl).trans h33
      have h29 : fx 29 = .bool false := hd.2.1
      have e29 : fa.tmps[29]?.getD undef = .bool false := (ev.new 29 rfl).trans h29
      refine RG.stepF_yes (i := 16) (g := 29) (b := false) rfl rfl rfl e29 (fun K hK => ?_)
      go_simp
      exact hK _ _ rfl (RG.Rel.refl _)
    · intro fx w' fa hk hd ev  -- 35 = Op.fieldAddr 68 (Operand.tmp 34) 0
      have hk : cntR S w.heap.size p bs w w' := hk
      have h34 : fx 34 = .pointer (some ⟨q, 0, none⟩) := hd.1
      have e34 : fa.tmps[34]?.getD undef = .pointer (some ⟨q, 0, none⟩) := (ev.new 34 rfl).trans h34
      have h29 : fx 29 = .bool false := hd.2.1
      have e29 : fa.tmps[29]?.getD undef = .bool false := (ev.new 29 rfl).trans h29
      refine RG.stepF_yes (i := 16) (g := 29) (b := false) rfl rfl rfl e29 (fun K hK => ?_)
      go_simp
      exact hK _ _ rfl (RG.Rel.refl _)
    · intro fx w' fa hk hd ev  -- 36 = Op.load 22 (Operand.tmp 35)
      have hk : cntR S w.heap.size p bs w w' := hk
      have h35 : fx 35 = .pointer (some ⟨q, 0, none⟩) := hd.1
      have e35 : fa.tmps[35]?.getD undef = .pointer (some ⟨q, 0, none⟩) := (ev.new 35 rfl).trans h35
      have h29 : fx 29 = .bool false := hd.2.1
      have e29 : fa.tmps[29]?.getD undef = .bool false := (ev.new 29 rfl).trans h29
      refine RG.stepF_yes (i := 16) (g := 29) (b := false) rfl rfl rfl e29 (fun K hK => ?_)
      have cx := hk.1.cell c0 HQ.out
      go_simp
      exact hK _ _ rfl (RG.Rel.refl _)
    · intro fx w' fa hk hd ev  -- 37 = Op.call { callee := Callee.builtin Builtin.len, args := #[Op
      have hk : cntR S w.heap.size p bs w w' := hk
      have h36 : fx 36 = .slice RA n rc := hd.1
      have e36 : fa.tmps[36]?.getD undef = .slice RA n rc := (ev.new 36 rfl).trans h36
      have h29 : fx 29 = .bool false := hd.2.1
      have e29 : fa.tmps[29]?.getD undef = .bool false := (ev.new 29 rfl).trans h29
      refine RG.stepF_yes (i := 16) (g := 29) (b := false) rfl rfl rfl e29 (fun K hK => ?_)
      go_simp
      exact hK _ _ rfl (RG.Rel.refl _)
    · intro fx w' fa hk hd ev  -- 38 = Op.call { callee := Callee.value (Operand.func 40), args := 
      have hk : cntR S w.heap.size p bs w w' := hk
      have h32 : fx 32 = .pointer (some ⟨q, 0, none⟩) := hd.1
      have e32 : fa.tmps[32]?.getD undef = .pointer (some ⟨q, 0, none⟩) := (ev.new 32 rfl).trans h32
      have h37 : fx 37 = .int .i64 (n : Int) := hd.2.1
      have e37 : fa.tmps[37]?.getD undef = .int .i64 (n : Int) := (ev.new 37 rfl).trans h37
      have h29 : fx 29 = .bool false := hd.2.2.1
      have e29 : fa.tmps[29]?.getD undef = .bool false := (ev.new 29 rfl).trans h29
      refine RG.stepF_yes (i := 16) (g := 29) (b := false) rfl rfl rfl e29 (fun K hK => ?_)
      go_simp
      refine (rbrank_any T q (n : Int) bs w' (HR.out.kp hk.1 HTS.out) HL16.out).mono ?_
      rw [HRK.out]
      rintro e w1 ⟨rfl, rfl⟩
      exact hK _ _ rfl (RG.Rel.refl _)
    · intro fx w' fa hk hd ev  -- 39 = Op.binOp BinOp.neq 3 (Operand.tmp 31) (Operand.tmp 38) 3
      have hk : cntR S w.heap.size p bs w w' := hk
      have h31 : (cntF S w.heap.size p bs (.int .i64 (C : Int)) : RG.GFact).p (fx 31) w' := hd.1
      have e31 : fa.tmps[31]?.getD undef = .int .i64 (C : Int) := (ev.new 31 rfl).trans h31.1
      have h38 : fx 38 = .int .i64 (C : Int) := hd.2.1
      have e38 : fa.tmps[38]?.getD undef = .int .i64 (C : Int) := (ev.new 38 rfl).trans h38
      have h29 : fx 29 = .bool false := hd.2.2.1
      have e29 : fa.tmps[29]?.getD undef = .bool false := (ev.new 29 rfl).trans h29
      refine RG.stepF_yes (i := 16) (g := 29) (b := false) rfl rfl rfl e29 (fun K hK => ?_)
      go_simp
      exact hK _ _ rfl (RG.Rel.refl _)
    · intro fx w' fa hk hd ev  -- 40 = Op.pick (Operand.tmp 29) (Operand.const (Value.bool true)) (
      have hk : cntR S w.heap.size p bs w w' := hk
      have h29 : fx 29 = .bool false := hd.1
      have e29 : fa.tmps[29]?.getD undef = .bool false := (ev.new 29 rfl).trans h29
      have h39 : fx 39 = .bool false := hd.2.1
      have e39 : fa.tmps[39]?.getD undef = .bool false := (ev.new 39 rfl).trans h39
      refine RG.stepF_un rfl (fun K hK => ?_)
      go_simp
      exact hK _ _ rfl (RG.Rel.refl _)
  · intro fx w' hk hd
    have hk : cntR S w.heap.size p bs w w' := hk
    have h13 : fx 13 = .pointer (some ⟨p, 0, none⟩) := hd.1
    have h14 : fx 14 = .int .i64 (n : Int) := hd.2.1
    have h15 : fx 15 = .pointer (some ⟨q, 0, none⟩) := hd.2.2.1
    have h16 : fx 16 = .pointer (some ⟨q, 0, none⟩) := hd.2.2.2.1
    have h17 : fx 17 = .pointer (some ⟨q, 0, none⟩) := hd.2.2.2.2.1
    have h18 : fx 18 = .slice RA n rc := hd.2.2.2.2.2.1
    have h19 : fx 19 = .int .i64 (n : Int) := hd.2.2.2.2.2.2.1
    have h20 : fx 20 = .bool false := hd.2.2.2.2.2.2.2.1
    have h21 : fx 21 = .bool false := hd.2.2.2.2.2.2.2.2.1
    have h22 : fx 22 = .pointer (some ⟨p, 0, none⟩) := hd.2.2.2.2.2.2.2.2.2.1
    have h23 : (rdS S w.heap.size p bs xs : RG.GFact).p (fx 23) w' := hd.2.2.2.2.2.2.2.2.2.2.1
    have h24 : fx 24 = .pointer (some ⟨q, 0, none⟩) := hd.2.2.2.2.2.2.2.2.2.2.2.1
    have h25 : (rdS S w.heap.size p bs xs : RG.GFact).p (fx 25) w' := hd.2.2.2.2.2.2.2.2.2.2.2.2.1
    have h26 : fx 26 = .bool true := hd.2.2.2.2.2.2.2.2.2.2.2.2.2.1
    have h27 : fx 27 = .bool false := hd.2.2.2.2.2.2.2.2.2.2.2.2.2.2.1
    have h28 : fx 28 = .bool false := hd.2.2.2.2.2.2.2.2.2.2.2.2.2.2.2.1
    have h29 : fx 29 = .bool false := hd.2.2.2.2.2.2.2.2.2.2.2.2.2.2.2.2.1
    have h30 : fx 30 = .pointer (some ⟨p, 0, none⟩) := hd.2.2.2.2.2.2.2.2.2.2.2.2.2.2.2.2.2.1
    have h31 : (cntF S w.heap.size p bs (.int .i64 (C : Int)) : RG.GFact).p (fx 31) w' := hd.2.2.2.2.2.2.2.2.2.2.2.2.2.2.2.2.2.2.1
    have h32 : fx 32 = .pointer (some ⟨q, 0, none⟩) := hd.2.2.2.2.2.2.2.2.2.2.2.2.2.2.2.2.2.2.2.1
    have h33 : fx 33 = .pointer (some ⟨q, 0, none⟩) := hd.2.2.2.2.2.2.2.2.2.2.2.2.2.2.2.2.2.2.2.2.1
    have h34 : fx 34 = .pointer (some ⟨q, 0, none⟩) := hd.2.2.2.2.2.2.2.2.2.2.2.2.2.2.2.2.2.2.2.2.2.1
    have h35 : fx 35 = .pointer (some ⟨q, 0, none⟩) := hd.2.2.2.2.2.2.2.2.2.2.2.2.2.2.2.2.2.2.2.2.2.2.1
    have h36 : fx 36 = .slice RA n rc := hd.2.2.2.2.2.2.2.2.2.2.2.2.2.2.2.2.2.2.2.2.2.2.2.1
    have h37 : fx 37 = .int .i64 (n : Int) := hd.2.2.2.2.2.2.2.2.2.2.2.2.2.2.2.2.2.2.2.2.2.2.2.2.1
    have h38 : fx 38 = .int .i64 (C : Int) := hd.2.2.2.2.2.2.2.2.2.2.2.2.2.2.2.2.2.2.2.2.2.2.2.2.2.1
    have h39 : fx 39 = .bool false := hd.2.2.2.2.2.2.2.2.2.2.2.2.2.2.2.2.2.2.2.2.2.2.2.2.2.2.1
    have h40 : fx 40 = .bool false := hd.2.2.2.2.2.2.2.2.2.2.2.2.2.2.2.2.2.2.2.2.2.2.2.2.2.2.2.1
    have HKR := Lib.hid hk
    obtain ⟨S2, hv2, _, hS2⟩ := h31.2
    have HV2 := Lib.hid hv2
    have HS2 := Lib.hid hS2
    rw [h40]
    clear hk hd hv2 hS2 h31
    have c3 := HKR.out.1.cell c0 HQ.out
    go_wp2_with fail
    refine wp_region_facts (by kernel_rfl) 124 [7, 41, 42, 43, 44, 45, 46, 47, 48, 49, 50, 51, 52, 53, 54, 55, 56, 57, 58, 59, 60, 61] [[], [], [42], [], [44], [45], [46], [47], [48], [], [50], [51], [52], [53], [], [55], [56], [57], [58], [59], [41, 43, 49, 54, 60], [61]] (by kernel_rfl) (by kernel_rfl) rfl (factOf [(41, .eq (.int .i64 at_)), (42, .eq (.int .i64 at_)), (43, .eq (.int .i64 y1)), (44, .eq (.pointer (some ⟨q, 0, none⟩))), (45, .eq (.pointer (some ⟨q, 0, none⟩))), (46, .eq (.pointer (some ⟨q, 0, none⟩))), (47, .eq (.slice RA n rc)), (48, .eq (.int .i64 (n : Int))), (49, .eq (.int .i64 y2)), (50, .eq (.pointer (some ⟨q, 0, none⟩))), (51, .eq (.pointer (some ⟨q, 0, none⟩))), (52, .eq (.pointer (some ⟨q, 0, none⟩))), (53, .eq (.slice RA n rc)), (54, .eq (.int .i64 (n : Int))), (55, .eq (.pointer (some ⟨q, 0, none⟩))), (56, .eq (.pointer (some ⟨q, 0, none⟩))), (57, .eq (.pointer (some ⟨q, 0, none⟩))), (58, .eq (.slice RA n rc)), (59, .eq (.int .i64 (n : Int))), (60, .eq (.int .i64 y3)), (61, .rd .i64 ([at_, y1, 0, 1, 63, 64, 65, 511, 512, 513, y2, (n : Int), y3, -1])), (7, .rd .i64 ([at_, y1, 0, 1, 63, 64, 65, 511, 512, 513, y2, (n : Int), y3, -1]))]) (factOf_stable _) _ (fun x => by simp only [fillL, Nat.reduceAdd, Nat.reduceEqDiff, ↓reduceIte]; rfl) ?_ ?_
    · refine ⟨?_, ?_, ?_, ?_, ?_, ?_, ?_, ?_, ?_, ?_, ?_, ?_, ?_, ?_, ?_, ?_, ?_, ?_, ?_, ?_, ?_, ?_, trivial⟩
      · intro fx w' fa hk hd ev  -- 41 = Op.move (Operand.tmp 2)
        have e2 : fa.tmps[2]?.getD undef = .int .i64 at_ := ev.old 2 rfl
        refine stepF_un rfl (fun K hK => ?_)
        exact stepF_val _ hK (run_move rfl e2 _) rfl
      · intro fx w' fa hk hd ev  -- 42 = Op.move (Operand.tmp 2)
        have e2 : fa.tmps[2]?.getD undef = .int .i64 at_ := ev.old 2 rfl
        refine stepF_un rfl (fun K hK => ?_)
        exact stepF_val _ hK (run_move rfl e2 _) rfl
      · intro fx w' fa hk hd ev  -- 43 = Op.binOp BinOp.sub 3 (Operand.tmp 42) (Operand.const (Value.
        have h42 : fx 42 = .int .i64 at_ := hd.1
        have e42 : fa.tmps[42]?.getD undef = .int .i64 at_ := (ev.new 42 rfl).trans h42
        refine stepF_un rfl (fun K hK => ?_)
        go_simp
        exact hK _ _ rfl (Kp.refl _ _)
      · intro fx w' fa hk hd ev  -- 44 = Op.move (Operand.tmp 1)
        have e1 : fa.tmps[1]?.getD undef = .pointer (some ⟨q, 0, none⟩) := ev.old 1 rfl
        refine stepF_un rfl (fun K hK => ?_)
        exact stepF_val _ hK (run_move rfl e1 _) rfl
      · intro fx w' fa hk hd ev  -- 45 = Op.nilCheck (Operand.tmp 44)
        have h44 : fx 44 = .pointer (some ⟨q, 0, none⟩) := hd.1
        have e44 : fa.tmps[44]?.getD undef = .pointer (some ⟨q, 0, none⟩) := (ev.new 44 rfl).trans h44
        refine stepF_un rfl (fun K hK => ?_)
        go_simp
        exact hK _ _ rfl (Kp.refl _ _)
      · intro fx w' fa hk hd ev  -- 46 = Op.fieldAddr 68 (Operand.tmp 45) 0
        have h45 : fx 45 = .pointer (some ⟨q, 0, none⟩) := hd.1
        have e45 : fa.tmps[45]?.getD undef = .pointer (some ⟨q, 0, none⟩) := (ev.new 45 rfl).trans h45
        refine stepF_un rfl (fun K hK => ?_)
        go_simp
        exact hK _ _ rfl (Kp.refl _ _)
      · intro fx w' fa hk hd ev  -- 47 = Op.load 22 (Operand.tmp 46)
        have h46 : fx 46 = .pointer (some ⟨q, 0, none⟩) := hd.1
        have e46 : fa.tmps[46]?.getD undef = .pointer (some ⟨q, 0, none⟩) := (ev.new 46 rfl).trans h46
        refine stepF_un rfl (fun K hK => ?_)
        have cx := hk.cell c3 (by simp)
        go_simp
        exact hK _ _ rfl (Kp.refl _ _)
      · intro fx w' fa hk hd ev  -- 48 = Op.call { callee := Callee.builtin Builtin.len, args := #[Op
        have h47 : fx 47 = .slice RA n rc := hd.1
        have e47 : fa.tmps[47]?.getD undef = .slice RA n rc := (ev.new 47 rfl).trans h47
        refine stepF_un rfl (fun K hK => ?_)
        go_simp
        exact hK _ _ rfl (Kp.refl _ _)
      · intro fx w' fa hk hd ev  -- 49 = Op.binOp BinOp.sub 3 (Operand.tmp 48) (Operand.const (Value.
        have h48 : fx 48 = .int .i64 (n : Int) := hd.1
        have e48 : fa.tmps[48]?.getD undef = .int .i64 (n : Int) := (ev.new 48 rfl).trans h48
        refine stepF_un rfl (fun K hK => ?_)
        go_simp
        exact hK _ _ rfl (Kp.refl _ _)
      · intro fx w' fa hk hd ev  -- 50 = Op.move (Operand.tmp 1)
        have e1 : fa.tmps[1]?.getD undef = .pointer (some ⟨q, 0, none⟩) := ev.old 1 rfl
        refine stepF_un rfl (fun K hK => ?_)
        exact stepF_val _ hK (run_move rfl e1 _) rfl
      · intro fx w' fa hk hd ev  -- 51 = Op.nilCheck (Operand.tmp 50)
        have h50 : fx 50 = .pointer (some ⟨q, 0, none⟩) := hd.1
        have e50 : fa.tmps[50]?.getD undef = .pointer (some ⟨q, 0, none⟩) := (ev.new 50 rfl).trans h50
        refine stepF_un rfl (fun K hK => ?_)
        go_simp
        exact hK _ _ rfl (Kp.refl _ _)
      · intro fx w' fa hk hd ev  -- 52 = Op.fieldAddr 68 (Operand.tmp 51) 0
        have h51 : fx 51 = .pointer (some ⟨q, 0, none⟩) := hd.1
        have e51 : fa.tmps[51]?.getD undef = .pointer (some ⟨q, 0, none⟩) := (ev.new 51 rfl).trans h51
        refine stepF_un rfl (fun K hK => ?_)
        go_simp
        exact hK _ _ rfl (Kp.refl _ _)
      · intro fx w' fa hk hd ev  -- 53 = Op.load 22 (Operand.tmp 52)
        have h52 : fx 52 = .pointer (some ⟨q, 0, none⟩) := hd.1
        have e52 : fa.tmps[52]?.getD undef = .pointer (some ⟨q, 0, none⟩) := (ev.new 52 rfl).trans h52
        refine stepF_un rfl (fun K hK => ?_)
        have cx := hk.cell c3 (by simp)
        go_simp
        exact hK _ _ rfl (Kp.refl _ _)
      · intro fx w' fa hk hd ev  -- 54 = Op.call { callee := Callee.builtin Builtin.len, args := #[Op
        have h53 : fx 53 = .slice RA n rc := hd.1
        have e53 : fa.tmps[53]?.getD undef = .slice RA n rc := (ev.new 53 rfl).trans h53
        refine stepF_un rfl (fun K hK => ?_)
        go_simp
        exact hK _ _ rfl (Kp.refl _ _)
      · intro fx w' fa hk hd ev  -- 55 = Op.move (Operand.tmp 1)
        have e1 : fa.tmps[1]?.getD undef = .pointer (some ⟨q, 0, none⟩) := ev.old 1 rfl
        refine stepF_un rfl (fun K hK => ?_)
        exact stepF_val _ hK (run_move rfl e1 _) rfl
      · intro fx w' fa hk hd ev  -- 56 = Op.nilCheck (Operand.tmp 55)
        have h55 : fx 55 = .pointer (some ⟨q, 0, none⟩) := hd.1
        have e55 : fa.tmps[55]?.getD undef = .pointer (some ⟨q, 0, none⟩) := (ev.new 55 rfl).trans h55
        refine stepF_un rfl (fun K hK => ?_)
        go_simp
        exact hK _ _ rfl (Kp.refl _ _)
      · intro fx w' fa hk hd ev  -- 57 = Op.fieldAddr 68 (Operand.tmp 56) 0
        have h56 : fx 56 = .pointer (some ⟨q, 0, none⟩) := hd.1
        have e56 : fa.tmps[56]?.getD undef = .pointer (some ⟨q, 0, none⟩) := (ev.new 56 rfl).trans h56
        refine stepF_un rfl (fun K hK => ?_)
        go_simp
        exact hK _ _ rfl (Kp.refl _ _)
      · intro fx w' fa hk hd ev  -- 58 = Op.load 22 (Operand.tmp 57)
        have h57 : fx 57 = .pointer (some ⟨q, 0, none⟩) := hd.1
        have e57 : fa.tmps[57]?.getD undef = .pointer (some ⟨q, 0, none⟩) := (ev.new 57 rfl).trans h57
        refine stepF_un rfl (fun K hK => ?_)
        have cx := hk.cell c3 (by simp)
        go_simp
        exact hK _ _ rfl (Kp.refl _ _)
      · intro fx w' fa hk hd ev  -- 59 = Op.call { callee := Callee.builtin Builtin.len, args := #[Op
        have h58 : fx 58 = .slice RA n rc := hd.1
        have e58 : fa.tmps[58]?.getD undef = .slice RA n rc := (ev.new 58 rfl).trans h58
        refine stepF_un rfl (fun K hK => ?_)
        go_simp
        exact hK _ _ rfl (Kp.refl _ _)
      · intro fx w' fa hk hd ev  -- 60 = Op.binOp BinOp.add 3 (Operand.tmp 59) (Operand.const (Value.
        have h59 : fx 59 = .int .i64 (n : Int) := hd.1
        have e59 : fa.tmps[59]?.getD undef = .int .i64 (n : Int) := (ev.new 59 rfl).trans h59
        refine stepF_un rfl (fun K hK => ?_)
        go_simp
        exact hK _ _ rfl (Kp.refl _ _)
      · intro fx w' fa hk hd ev  -- 61 = Op.buildSlice 47 14 #[(0, Operand.tmp 41), (1, Operand.tmp 4
        have h41 : fx 41 = .int .i64 at_ := hd.1
        have e41 : fa.tmps[41]?.getD undef = .int .i64 at_ := (ev.new 41 rfl).trans h41
        have h43 : fx 43 = .int .i64 y1 := hd.2.1
        have e43 : fa.tmps[43]?.getD undef = .int .i64 y1 := (ev.new 43 rfl).trans h43
        have h49 : fx 49 = .int .i64 y2 := hd.2.2.1
        have e49 : fa.tmps[49]?.getD undef = .int .i64 y2 := (ev.new 49 rfl).trans h49
        have h54 : fx 54 = .int .i64 (n : Int) := hd.2.2.2.1
        have e54 : fa.tmps[54]?.getD undef = .int .i64 (n : Int) := (ev.new 54 rfl).trans h54
        have h60 : fx 60 = .int .i64 y3 := hd.2.2.2.2.1
        have e60 : fa.tmps[60]?.getD undef = .int .i64 y3 := (ev.new 60 rfl).trans h60
        refine stepF_un rfl (fun K hK => ?_)
        go_simp
        exact hK _ _ (IsRd.new w' .i64 [at_, y1, 0, 1, 63, 64, 65, 511, 512, 513, y2, (n : Int), y3, -1] 3 14 rfl) ((Kp.refl _ _).alloc _)
      · intro fx w' fa hk hd ev  -- 7 = Op.assign (Operand.tmp 61)
        have h61 : IsRd .i64 ([at_, y1, 0, 1, 63, 64, 65, 511, 512, 513, y2, (n : Int), y3, -1]) (fx 61) w' := hd.1
        refine stepF_un rfl (fun K hK => ?_)
        exact stepF_val _ hK (run_assign rfl (ev.new 61 rfl) _) h61
    · intro fx w' hk hd
      have h7 : IsRd .i64 ([at_, y1, 0, 1, 63, 64, 65, 511, 512, 513, y2, (n : Int), y3, -1]) (fx 7) w' := hd.1
      have h41 : fx 41 = .int .i64 at_ := hd.2.1
      have h42 : fx 42 = .int .i64 at_ := hd.2.2.1
      have h43 : fx 43 = .int .i64 y1 := hd.2.2.2.1
      have h44 : fx 44 = .pointer (some ⟨q, 0, none⟩) := hd.2.2.2.2.1
      have h45 : fx 45 = .pointer (some ⟨q, 0, none⟩) := hd.2.2.2.2.2.1
      have h46 : fx 46 = .pointer (some ⟨q, 0, none⟩) := hd.2.2.2.2.2.2.1
      have h47 : fx 47 = .slice RA n rc := hd.2.2.2.2.2.2.2.1
      have h48 : fx 48 = .int .i64 (n : Int) := hd.2.2.2.2.2.2.2.2.1
      have h49 : fx 49 = .int .i64 y2 := hd.2.2.2.2.2.2.2.2.2.1
      have h50 : fx 50 = .pointer (some ⟨q, 0, none⟩) := hd.2.2.2.2.2.2.2.2.2.2.1
      have h51 : fx 51 = .pointer (some ⟨q, 0, none⟩) := hd.2.2.2.2.2.2.2.2.2.2.2.1
      have h52 : fx 52 = .pointer (some ⟨q, 0, none⟩) := hd.2.2.2.2.2.2.2.2.2.2.2.2.1
      have h53 : fx 53 = .slice RA n rc := hd.2.2.2.2.2.2.2.2.2.2.2.2.2.1
      have h54 : fx 54 = .int .i64 (n : Int) := hd.2.2.2.2.2.2.2.2.2.2.2.2.2.2.1
      have h55 : fx 55 = .pointer (some ⟨q, 0, none⟩) := hd.2.2.2.2.2.2.2.2.2.2.2.2.2.2.2.1
      have h56 : fx 56 = .pointer (some ⟨q, 0, none⟩) := hd.2.2.2.2.2.2.2.2.2.2.2.2.2.2.2.2.1
      have h57 : fx 57 = .pointer (some ⟨q, 0, none⟩) := hd.2.2.2.2.2.2.2.2.2.2.2.2.2.2.2.2.2.1
      have h58 : fx 58 = .slice RA n rc := hd.2.2.2.2.2.2.2.2.2.2.2.2.2.2.2.2.2.2.1
      have h59 : fx 59 = .int .i64 (n : Int) := hd.2.2.2.2.2.2.2.2.2.2.2.2.2.2.2.2.2.2.2.1
      have h60 : fx 60 = .int .i64 y3 := hd.2.2.2.2.2.2.2.2.2.2.2.2.2.2.2.2.2.2.2.2.1
      have h61 : IsRd .i64 ([at_, y1, 0, 1, 63, 64, 65, 511, 512, 513, y2, (n : Int), y3, -1]) (fx 61) w' := hd.2.2.2.2.2.2.2.2.2.2.2.2.2.2.2.2.2.2.2.2.2.1
      obtain ⟨A7, c7, v7, hc7, hr7⟩ := h7.len (n := 14) rfl
      have HK3 := Lib.hid hk
      have HR7 := Lib.hid hr7
      have H02 := Lib.hid (show 0 ∉ S2 from fun hm => by
        rcases HS2.out _ hm with h | h
        · exact H0.out h
        · have := HT.out.lt; omega)
      have HT2 := Lib.hid ((HT.out.kp HKR.out.1 H0.out).kp0 hk)
      have HR2 := Lib.hid ((HR.out.kp HKR.out.1 HTS.out).kp0 hk)
      have HV3 := Lib.hid (HV2.out.kp0 hk)
      obtain ⟨w3, hw3⟩ : ∃ w3, w3 = fx 7 := ⟨_, rfl⟩
      rw [v7]
      clear hk hd h7 v7 hr7 hw3 c3 h41 h42 h43 h44 h45 h46 h47 h48 h49 h50 h51 h52 h53 h54 h55 h56 h57 h58 h59 h60 h61
      go_wp2_with fail
      rename_i wz
      go_loopw [8] (fun x wr => ∃ (i : Nat), x = .int .i64 (i : Int) ∧ i ≤ 14 ∧ Hid (Kp [] _ wr)) (fun x _ => 14 - (intOf x).toNat)
      case atStart => exact ⟨0, rfl, by omega, Lib.hid (Kp.refl [] _)⟩
      case round =>
        obtain ⟨i, rfl, hi, HK⟩ := hrel
        by_cases hlt : i < 14
        · obtain ⟨x, ad, hxi, rfl, _, hc0⟩ := (HR7.out.kp0 HK.out).ix (i := i) (by show i < 14; exact hlt)
          obtain ⟨sI, hsI⟩ : ∃ sI, sI = selI bs x := ⟨_, rfl⟩
          obtain ⟨sB, hsB⟩ : ∃ sB, sB = selB bs x := ⟨_, rfl⟩
          obtain ⟨gb, hgb⟩ : ∃ gb, gb = getB bs x := ⟨_, rfl⟩
          obtain ⟨R, hR⟩ : ∃ R, R = rankI bs x := ⟨_, rfl⟩
          have HSI := Lib.hid hsI.symm
          have HSB := Lib.hid hsB.symm
          have HG := Lib.hid hgb.symm
          have HRX := Lib.hid hR.symm
          clear hxi hsI hsB hgb hR
          go_wp2_with fail
          refine (qselect x (HV3.out.kp0 HK.out) (HT2.out.kp0 HK.out) H02.out HSI.out HSB.out).mono ?_
          rintro e w8 ⟨rfl, hk8⟩
          have hcx := hk8.cell hc0 (by simp)
          have HK9 := Lib.hid (HK.out.trans hk8)
          have HV9 := Lib.hid (HV3.out.kp0 HK9.out)
          have HR9 := Lib.hid (HR2.out.kp0 HK9.out)
          clear hk8 hc0 HK
          go_wp2_with fail
          refine (rbselect_any T q x bs w8 HR9.out HL16.out).mono ?_
          rw [HSI.out, HSB.out]
          rintro e w9 ⟨rfl, rfl⟩
          go_wp2_with fail
          refine wp_region_facts (by kernel_rfl) 124 [86, 87, 88, 89, 90, 91, 92, 93, 94, 95, 96, 97, 98, 99, 100, 101, 102, 103, 104, 105, 106, 107, 108, 109, 110, 111, 112, 113, 114, 115, 116, 117, 118, 119, 120, 121, 122, 123] [[], [], [], [87, 88], [89], [86, 90], [], [], [], [93, 94], [95], [92, 96], [91, 97], [98], [99], [99], [99], [101, 102, 99], [103, 99], [100, 104, 99], [99], [99], [99], [107, 108, 99], [109, 99], [106, 110, 99], [105, 111, 99], [99, 112], [113], [114], [114], [115, 116, 114], [114, 117], [118], [119], [119], [120, 121, 119], [119, 122]] (by kernel_rfl) (by kernel_rfl) rfl (factOf [(86, .eq (.pointer (some ⟨p, 0, none⟩))), (87, .eq (.slice (some ad) 14 c7)), (88, .eq (.int .i64 (i : Int))), (89, .eq (.pointer (some (ad.add i)))), (90, .eq (.int .i64 x)), (91, .eq (.bool gb)), (92, .eq (.pointer (some ⟨q, 0, none⟩))), (93, .eq (.slice (some ad) 14 c7)), (94, .eq (.int .i64 (i : Int))), (95, .eq (.pointer (some (ad.add i)))), (96, .eq (.int .i64 x)), (97, .eq (.bool gb)), (98, .eq (.bool false)), (99, .eq (.bool false)), (100, .eq (.pointer (some ⟨p, 0, none⟩))), (101, .eq (.slice (some ad) 14 c7)), (102, .eq (.int .i64 (i : Int))), (103, .eq (.pointer (some (ad.add i)))), (104, .eq (.int .i64 x)), (105, .eq (.int .i64 (R : Int))), (106, .eq (.pointer (some ⟨q, 0, none⟩))), (107, .eq (.slice (some ad) 14 c7)), (108, .eq (.int .i64 (i : Int))), (109, .eq (.pointer (some (ad.add i)))), (110, .eq (.int .i64 x)), (111, .eq (.int .i64 (R : Int))), (112, .eq (.bool false)), (113, .eq (.bool false)), (114, .eq (.bool false)), (115, .eq (.int .i64 sI)), (116, .eq (.int .i64 sI)), (117, .eq (.bool false)), (118, .eq (.bool false)), (119, .eq (.bool false)), (120, .eq (.bool sB)), (121, .eq (.bool sB)), (122, .eq (.bool false)), (123, .eq (.bool false))]) (factOf_stable _) _ (fun x => by simp only [fillL, Nat.reduceAdd, Nat.reduceEqDiff, ↓reduceIte]; rfl) ?_ ?_
          · refine ⟨?_, ?_, ?_, ?_, ?_, ?_, ?_, ?_, ?_, ?_, ?_, ?_, ?_, ?_, ?_, ?_, ?_, ?_, ?_, ?_, ?_, ?_, ?_, ?_, ?_, ?_, ?_, ?_, ?_, ?_, ?_, ?_, ?_, ?_, ?_, ?_, ?_, ?_, trivial⟩
            · intro fx w' fa hk hd ev  -- 86 = Op.move (Operand.tmp 0)
              have e0 : fa.tmps[0]?.getD undef = .pointer (some ⟨p, 0, none⟩) := ev.old 0 rfl
              refine stepF_un rfl (fun K hK => ?_)
              exact stepF_val _ hK (run_move rfl e0 _) rfl
            · intro fx w' fa hk hd ev  -- 87 = Op.move (Operand.tmp 7)
              have e7 : fa.tmps[7]?.getD undef = .slice (some ad) 14 c7 := ev.old 7 rfl
              refine stepF_un rfl (fun K hK => ?_)
              exact stepF_val _ hK (run_move rfl e7 _) rfl
            · intro fx w' fa hk hd ev  -- 88 = Op.move (Operand.tmp 8)
              have e8 : fa.tmps[8]?.getD undef = .int .i64 (i : Int) := ev.old 8 rfl
              refine stepF_un rfl (fun K hK => ?_)
              exact stepF_val _ hK (run_move rfl e8 _) rfl
            · intro fx w' fa hk hd ev  -- 89 = Op.indexAddr 47 (Operand.tmp 87) (Operand.tmp 88)
              have h87 : fx 87 = .slice (some ad) 14 c7 := hd.1
              have e87 : fa.tmps[87]?.getD undef = .slice (some ad) 14 c7 := (ev.new 87 rfl).trans h87
              have h88 : fx 88 = .int .i64 (i : Int) := hd.2.1
              have e88 : fa.tmps[88]?.getD undef = .int .i64 (i : Int) := (ev.new 88 rfl).trans h88
              refine stepF_un rfl (fun K hK => ?_)
              have hz0 : (0 : Int) ≤ (i : Int) := by omega
              have hz1 : (i : Int) < 14 := by omega
              go_simp
              exact hK _ _ rfl (Kp.refl _ _)
            · intro fx w' fa hk hd ev  -- 90 = Op.load 3 (Operand.tmp 89)
              have h89 : fx 89 = .pointer (some (ad.add i)) := hd.1
              have e89 : fa.tmps[89]?.getD undef = .pointer (some (ad.add i)) := (ev.new 89 rfl).trans h89
              refine stepF_un rfl (fun K hK => ?_)
              have cx := hk.cell hcx (by simp)
              go_simp
              exact hK _ _ rfl (Kp.refl _ _)
            · intro fx w' fa hk hd ev  -- 91 = Op.call { callee := Callee.value (Operand.func 13), args := 
              have h86 : fx 86 = .pointer (some ⟨p, 0, none⟩) := hd.1
              have e86 : fa.tmps[86]?.getD undef = .pointer (some ⟨p, 0, none⟩) := (ev.new 86 rfl).trans h86
              have h90 : fx 90 = .int .i64 x := hd.2.1
              have e90 : fa.tmps[90]?.getD undef = .int .i64 x := (ev.new 90 rfl).trans h90
              refine stepF_un rfl (fun K hK => ?_)
              go_simp
              refine (qget x (HV9.out.kp0 hk) HG.out).mono ?_
              rintro e w1 ⟨rfl, hk1⟩
              exact hK _ _ rfl hk1
            · intro fx w' fa hk hd ev  -- 92 = Op.move (Operand.tmp 1)
              have e1 : fa.tmps[1]?.getD undef = .pointer (some ⟨q, 0, none⟩) := ev.old 1 rfl
              refine stepF_un rfl (fun K hK => ?_)
              exact stepF_val _ hK (run_move rfl e1 _) rfl
            · intro fx w' fa hk hd ev  -- 93 = Op.move (Operand.tmp 7)
              have e7 : fa.tmps[7]?.getD undef = .slice (some ad) 14 c7 := ev.old 7 rfl
              refine stepF_un rfl (fun K hK => ?_)
              exact stepF_val _ hK (run_move rfl e7 _) rfl
            · intro fx w' fa hk hd ev  -- 94 = Op.move (Operand.tmp 8)
              have e8 : fa.tmps[8]?.getD undef = .int .i64 (i : Int) := ev.old 8 rfl
              refine stepF_un rfl (fun K hK => ?_)
              exact stepF_val _ hK (run_move rfl e8 _) rfl
            · intro fx w' fa hk hd ev  -- 95 = Op.indexAddr 47 (Operand.tmp 93) (Operand.tmp 94)
              have h93 : fx 93 = .slice (some ad) 14 c7 := hd.1
              have e93 : fa.tmps[93]?.getD undef = .slice (some ad) 14 c7 := (ev.new 93 rfl).trans h93
              have h94 : fx 94 = .int .i64 (i : Int) := hd.2.1
              have e94 : fa.tmps[94]?.getD undef = .int .i64 (i : Int) := (ev.new 94 rfl).trans h94
              refine stepF_un rfl (fun K hK => ?_)
              have hz0 : (0 : Int) ≤ (i : Int) := by omega
              have hz1 : (i : Int) < 14 := by omega
              go_simp
              exact hK _ _ rfl (Kp.refl _ _)
            · intro fx w' fa hk hd ev  -- 96 = Op.load 3 (Operand.tmp 95)
              have h95 : fx 95 = .pointer (some (ad.add i)) := hd.1
              have e95 : fa.tmps[95]?.getD undef = .pointer (some (ad.add i)) := (ev.new 95 rfl).trans h95
              refine stepF_un rfl (fun K hK => ?_)
              have cx := hk.cell hcx (by simp)
              go_simp
              exact hK _ _ rfl (Kp.refl _ _)
            · intro fx w' fa hk hd ev  -- 97 = Op.call { callee := Callee.value (Operand.func 42), args := 
              have h92 : fx 92 = .pointer (some ⟨q, 0, none⟩) := hd.1
              have e92 : fa.tmps[92]?.getD undef = .pointer (some ⟨q, 0, none⟩) := (ev.new 92 rfl).trans h92
              have h96 : fx 96 = .int .i64 x := hd.2.1
              have e96 : fa.tmps[96]?.getD undef = .int .i64 x := (ev.new 96 rfl).trans h96
              refine stepF_un rfl (fun K hK => ?_)
              go_simp
              refine (rbget_any T q x bs _ (HR9.out.kp0 hk)).mono ?_
              rw [HG.out]
              rintro e w1 ⟨rfl, rfl⟩
              exact hK _ _ rfl (Kp.refl _ _)
            · intro fx w' fa hk hd ev  -- 98 = Op.binOp BinOp.neq 4 (Operand.tmp 91) (Operand.tmp 97) 4
              have h91 : fx 91 = .bool gb := hd.1
              have e91 : fa.tmps[91]?.getD undef = .bool gb := (ev.new 91 rfl).trans h91
              have h97 : fx 97 = .bool gb := hd.2.1
              have e97 : fa.tmps[97]?.getD undef = .bool gb := (ev.new 97 rfl).trans h97
              refine stepF_un rfl (fun K hK => ?_)
              go_simp
              exact hK _ _ rfl (Kp.refl _ _)
            · intro fx w' fa hk hd ev  -- 99 = Op.move (Operand.tmp 98)
              have h98 : fx 98 = .bool false := hd.1
              have e98 : fa.tmps[98]?.getD undef = .bool false := (ev.new 98 rfl).trans h98
              refine stepF_un rfl (fun K hK => ?_)
              exact stepF_val _ hK (run_move rfl e98 _) rfl
            · intro fx w' fa hk hd ev  -- 100 = Op.move (Operand.tmp 0)
              have h99 : fx 99 = .bool false := hd.1
              have e99 : fa.tmps[99]?.getD undef = .bool false := (ev.new 99 rfl).trans h99
              have e0 : fa.tmps[0]?.getD undef = .pointer (some ⟨p, 0, none⟩) := ev.old 0 rfl
              refine stepF_yes (i := 13) (g := 99) (b := false) rfl rfl rfl e99 (fun K hK => ?_)
              exact stepF_val _ hK (run_move rfl e0 _) rfl
            · intro fx w' fa hk hd ev  -- 101 = Op.move (Operand.tmp 7)
              have h99 : fx 99 = .bool false := hd.1
              have e99 : fa.tmps[99]?.getD undef = .bool false := (ev.new 99 rfl).trans h99
              have e7 : fa.tmps[7]?.getD undef = .slice (some ad) 14 c7 := ev.old 7 rfl
              refine stepF_yes (i := 13) (g := 99) (b := false) rfl rfl rfl e99 (fun K hK => ?_)
              exact stepF_val _ hK (run_move rfl e7 _) rfl
            · intro fx w' fa hk hd ev  -- 102 = Op.move (Operand.tmp 8)
              have h99 : fx 99 = .bool false := hd.1
              have e99 : fa.tmps[99]?.getD undef = .bool false := (ev.new 99 rfl).trans h99
              have e8 : fa.tmps[8]?.getD undef = .int .i64 (i : Int) := ev.old 8 rfl
              refine stepF_yes (i := 13) (g := 99) (b := false) rfl rfl rfl e99 (fun K hK => ?_)
              exact stepF_val _ hK (run_move rfl e8 _) rfl
            · intro fx w' fa hk hd ev  -- 103 = Op.indexAddr 47 (Operand.tmp 101) (Operand.tmp 102)
              have h101 : fx 101 = .slice (some ad) 14 c7 := hd.1
              have e101 : fa.tmps[101]?.getD undef = .slice (some ad) 14 c7 := (ev.new 101 rfl).trans h101
              have h102 : fx 102 = .int .i64 (i : Int) := hd.2.1
              have e102 : fa.tmps[102]?.getD undef = .int .i64 (i : Int) := (ev.new 102 rfl).trans h102
              have h99 : fx 99 = .bool false := hd.2.2.1
              have e99 : fa.tmps[99]?.getD undef = .bool false := (ev.new 99 rfl).trans h99
              refine stepF_yes (i := 13) (g := 99) (b := false) rfl rfl rfl e99 (fun K hK => ?_)
              have hz0 : (0 : Int) ≤ (i : Int) := by omega
              have hz1 : (i : Int) < 14 := by omega
              go_simp
              exact hK _ _ rfl (Kp.refl _ _)
            · intro fx w' fa hk hd ev  -- 104 = Op.load 3 (Operand.tmp 103)
              have h103 : fx 103 = .pointer (some (ad.add i)) := hd.1
              have e103 : fa.tmps[103]?.getD undef = .pointer (some (ad.add i)) := (ev.new 103 rfl).trans h103
              have h99 : fx 99 = .bool false := hd.2.1
              have e99 : fa.tmps[99]?.getD undef = .bool false := (ev.new 99 rfl).trans h99
              refine stepF_yes (i := 13) (g := 99) (b := false) rfl rfl rfl e99 (fun K hK => ?_)
              have cx := hk.cell hcx (by simp)
              go_simp
              exact hK _ _ rfl (Kp.refl _ _)
            · intro fx w' fa hk hd ev  -- 105 = Op.call { callee := Callee.value (Operand.func 11), args := 
              have h100 : fx 100 = .pointer (some ⟨p, 0, none⟩) := hd.1
              have e100 : fa.tmps[100]?.getD undef = .pointer (some ⟨p, 0, none⟩) := (ev.new 100 rfl).trans h100
              have h104 : fx 104 = .int .i64 x := hd.2.1
              have e104 : fa.tmps[104]?.getD undef = .int .i64 x := (ev.new 104 rfl).trans h104
              have h99 : fx 99 = .bool false := hd.2.2.1
              have e99 : fa.tmps[99]?.getD undef = .bool false := (ev.new 99 rfl).trans h99
              refine stepF_yes (i := 13) (g := 99) (b := false) rfl rfl rfl e99 (fun K hK => ?_)
              go_simp
              refine (qrank x (HV9.out.kp0 hk) HRX.out).mono ?_
              rintro e w1 ⟨rfl, hk1⟩
              exact hK _ _ rfl hk1
            · intro fx w' fa hk hd ev  -- 106 = Op.move (Operand.tmp 1)
              have h99 : fx 99 = .bool false := hd.1
              have e99 : fa.tmps[99]?.getD undef = .bool false := (ev.new 99 rfl).trans h99
              have e1 : fa.tmps[1]?.getD undef = .pointer (some ⟨q, 0, none⟩) := ev.old 1 rfl
              refine stepF_yes (i := 13) (g := 99) (b := false) rfl rfl rfl e99 (fun K hK => ?_)
              exact stepF_val _ hK (run_move rfl e1 _) rfl
            · intro fx w' fa hk hd ev  -- 107 = Op.move (Operand.tmp 7)
              have h99 : fx 99 = .bool false := hd.1
              have e99 : fa.tmps[99]?.getD undef = .bool false := (ev.new 99 rfl).trans h99
              have e7 : fa.tmps[7]?.getD undef = .slice (some ad) 14 c7 := ev.old 7 rfl
              refine stepF_yes (i := 13) (g := 99) (b := false) rfl rfl rfl e99 (fun K hK => ?_)
              exact stepF_val _ hK (run_move rfl e7 _) rfl
            · intro fx w' fa hk hd ev  -- 108 = Op.move (Operand.tmp 8)
              have h99 : fx 99 = .bool false := hd.1
              have e99 : fa.tmps[99]?.getD undef = .bool false := (ev.new 99 rfl).trans h99
              have e8 : fa.tmps[8]?.getD undef = .int .i64 (i : Int) := ev.old 8 rfl
              refine stepF_yes (i := 13) (g := 99) (b := false) rfl rfl rfl e99 (fun K hK => ?_)
              exact stepF_val _ hK (run_move rfl e8 _) rfl
            · intro fx w' fa hk hd ev  -- 109 = Op.indexAddr 47 (Operand.tmp 107) (Operand.tmp 108)
              have h107 : fx 107 = .slice (some ad) 14 c7 := hd.1
              have e107 : fa.tmps[107]?.getD undef = .slice (some ad) 14 c7 := (ev.new 107 rfl).trans h107
              have h108 : fx 108 = .int .i64 (i : Int) := hd.2.1
              have e108 : fa.tmps[108]?.getD undef = .int .i64 (i : Int) := (ev.new 108 rfl).trans h108
              have h99 : fx 99 = .bool false := hd.2.2.1
              have e99 : fa.tmps[99]?.getD undef = .bool false := (ev.new 99 rfl).trans h99
              refine stepF_yes (i := 13) (g := 99) (b := false) rfl rfl rfl e99 (fun K hK => ?_)
              have hz0 : (0 : Int) ≤ (i : Int) := by omega
              have hz1 : (i : Int) < 14 := by omega
              go_simp
              exact hK _ _ rfl (Kp.refl _ _)
            · intro fx w' fa hk hd ev  -- 110 = Op.load 3 (Operand.tmp 109)
              have h109 : fx 109 = .pointer (some (ad.add i)) := hd.1
              have e109 : fa.tmps[109]?.getD undef = .pointer (some (ad.add i)) := (ev.new 109 rfl).trans h109
              have h99 : fx 99 = .bool false := hd.2.1
              have e99 : fa.tmps[99]?.getD undef = .bool false := (ev.new 99 rfl).trans h99
              refine stepF_yes (i := 13) (g := 99) (b := false) rfl rfl rfl e99 (fun K hK => ?_)
              have cx := hk.cell hcx (by simp)
              go_simp
              exact hK _ _ rfl (Kp.refl _ _)
            · intro fx w' fa hk hd ev  -- 111 = Op.call { callee := Callee.value (Operand.func 40), args := 
              have h106 : fx 106 = .pointer (some ⟨q, 0, none⟩) := hd.1
              have e106 : fa.tmps[106]?.getD undef = .pointer (some ⟨q, 0, none⟩) := (ev.new 106 rfl).trans h106
              have h110 : fx 110 = .int .i64 x := hd.2.1
              have e110 : fa.tmps[110]?.getD undef = .int .i64 x := (ev.new 110 rfl).trans h110
              have h99 : fx 99 = .bool false := hd.2.2.1
              have e99 : fa.tmps[99]?.getD undef = .bool false := (ev.new 99 rfl).trans h99
              refine stepF_yes (i := 13) (g := 99) (b := false) rfl rfl rfl e99 (fun K hK => ?_)
              go_simp
              refine (rbrank_any T q x bs _ (HR9.out.kp0 hk) HL16.out).mono ?_
              rw [HRX.out]
              rintro e w1 ⟨rfl, rfl⟩
              exact hK _ _ rfl (Kp.refl _ _)
            · intro fx w' fa hk hd ev  -- 112 = Op.binOp BinOp.neq 3 (Operand.tmp 105) (Operand.tmp 111) 3
              have h105 : fx 105 = .int .i64 (R : Int) := hd.1
              have e105 : fa.tmps[105]?.getD undef = .int .i64 (R : Int) := (ev.new 105 rfl).trans h105
              have h111 : fx 111 = .int .i64 (R : Int) := hd.2.1
              have e111 : fa.tmps[111]?.getD undef = .int .i64 (R : Int) := (ev.new 111 rfl).trans h111
              have h99 : fx 99 = .bool false := hd.2.2.1
              have e99 : fa.tmps[99]?.getD undef = .bool false := (ev.new 99 rfl).trans h99
              refine stepF_yes (i := 13) (g := 99) (b := false) rfl rfl rfl e99 (fun K hK => ?_)
              go_simp
              exact hK _ _ rfl (Kp.refl _ _)
            · intro fx w' fa hk hd ev  -- 113 = Op.pick (Operand.tmp 99) (Operand.const (Value.bool true)) (
              have h99 : fx 99 = .bool false := hd.1
              have e99 : fa.tmps[99]?.getD undef = .bool false := (ev.new 99 rfl).trans h99
              have h112 : fx 112 = .bool false := hd.2.1
              have e112 : fa.tmps[112]?.getD undef = .bool false := (ev.new 112 rfl).trans h112
              refine stepF_un rfl (fun K hK => ?_)
              go_simp
              exact hK _ _ rfl (Kp.refl _ _)
            · intro fx w' fa hk hd ev  -- 114 = Op.move (Operand.tmp 113)
              have h113 : fx 113 = .bool false := hd.1
              have e113 : fa.tmps[113]?.getD undef = .bool false := (ev.new 113 rfl).trans h113
              refine stepF_un rfl (fun K hK => ?_)
              exact stepF_val _ hK (run_move rfl e113 _) rfl
            · intro fx w' fa hk hd ev  -- 115 = Op.move (Operand.tmp 9)
              have h114 : fx 114 = .bool false := hd.1
              have e114 : fa.tmps[114]?.getD undef = .bool false := (ev.new 114 rfl).trans h114
              have e9 : fa.tmps[9]?.getD undef = .int .i64 sI := ev.old 9 rfl
              refine stepF_yes (i := 28) (g := 114) (b := false) rfl rfl rfl e114 (fun K hK => ?_)
              exact stepF_val _ hK (run_move rfl e9 _) rfl
            · intro fx w' fa hk hd ev  -- 116 = Op.move (Operand.tmp 11)
              have h114 : fx 114 = .bool false := hd.1
              have e114 : fa.tmps[114]?.getD undef = .bool false := (ev.new 114 rfl).trans h114
              have e11 : fa.tmps[11]?.getD undef = .int .i64 sI := ev.old 11 rfl
              refine stepF_yes (i := 28) (g := 114) (b := false) rfl rfl rfl e114 (fun K hK => ?_)
              exact stepF_val _ hK (run_move rfl e11 _) rfl
            · intro fx w' fa hk hd ev  -- 117 = Op.binOp BinOp.neq 3 (Operand.tmp 115) (Operand.tmp 116) 3
              have h115 : fx 115 = .int .i64 sI := hd.1
              have e115 : fa.tmps[115]?.getD undef = .int .i64 sI := (ev.new 115 rfl).trans h115
              have h116 : fx 116 = .int .i64 sI := hd.2.1
              have e116 : fa.tmps[116]?.getD undef = .int .i64 sI := (ev.new 116 rfl).trans h116
              have h114 : fx 114 = .bool false := hd.2.2.1
              have e114 : fa.tmps[114]?.getD undef = .bool false := (ev.new 114 rfl).trans h114
              refine stepF_yes (i := 28) (g := 114) (b := false) rfl rfl rfl e114 (fun K hK => ?_)
              go_simp
              exact hK _ _ rfl (Kp.refl _ _)
            · intro fx w' fa hk hd ev  -- 118 = Op.pick (Operand.tmp 114) (Operand.const (Value.bool true)) 
              have h114 : fx 114 = .bool false := hd.1
              have e114 : fa.tmps[114]?.getD undef = .bool false := (ev.new 114 rfl).trans h114
              have h117 : fx 117 = .bool false := hd.2.1
              have e117 : fa.tmps[117]?.getD undef = .bool false := (ev.new 117 rfl).trans h117
              refine stepF_un rfl (fun K hK => ?_)
              go_simp
              exact hK _ _ rfl (Kp.refl _ _)
            · intro fx w' fa hk hd ev  -- 119 = Op.move (Operand.tmp 118)
              have h118 : fx 118 = .bool false := hd.1
              have e118 : fa.tmps[118]?.getD undef = .bool false := (ev.new 118 rfl).trans h118
              refine stepF_un rfl (fun K hK => ?_)
              exact stepF_val _ hK (run_move rfl e118 _) rfl
            · intro fx w' fa hk hd ev  -- 120 = Op.move (Operand.tmp 10)
              have h119 : fx 119 = .bool false := hd.1
              have e119 : fa.tmps[119]?.getD undef = .bool false := (ev.new 119 rfl).trans h119
              have e10 : fa.tmps[10]?.getD undef = .bool sB := ev.old 10 rfl
              refine stepF_yes (i := 33) (g := 119) (b := false) rfl rfl rfl e119 (fun K hK => ?_)
              exact stepF_val _ hK (run_move rfl e10 _) rfl
            · intro fx w' fa hk hd ev  -- 121 = Op.move (Operand.tmp 12)
              have h119 : fx 119 = .bool false := hd.1
              have e119 : fa.tmps[119]?.getD undef = .bool false := (ev.new 119 rfl).trans h119
              have e12 : fa.tmps[12]?.getD undef = .bool sB := ev.old 12 rfl
              refine stepF_yes (i := 33) (g := 119) (b := false) rfl rfl rfl e119 (fun K hK => ?_)
              exact stepF_val _ hK (run_move rfl e12 _) rfl
            · intro fx w' fa hk hd ev  -- 122 = Op.binOp BinOp.neq 4 (Operand.tmp 120) (Operand.tmp 121) 4
              have h120 : fx 120 = .bool sB := hd.1
              have e120 : fa.tmps[120]?.getD undef = .bool sB := (ev.new 120 rfl).trans h120
              have h121 : fx 121 = .bool sB := hd.2.1
              have e121 : fa.tmps[121]?.getD undef = .bool sB := (ev.new 121 rfl).trans h121
              have h119 : fx 119 = .bool false := hd.2.2.1
              have e119 : fa.tmps[119]?.getD undef = .bool false := (ev.new 119 rfl).trans h119
              refine stepF_yes (i := 33) (g := 119) (b := false) rfl rfl rfl e119 (fun K hK => ?_)
              go_simp
              exact hK _ _ rfl (Kp.refl _ _)
            · intro fx w' fa hk hd ev  -- 123 = Op.pick (Operand.tmp 119) (Operand.const (Value.bool true)) 
              have h119 : fx 119 = .bool false := hd.1
              have e119 : fa.tmps[119]?.getD undef = .bool false := (ev.new 119 rfl).trans h119
              have h122 : fx 122 = .bool false := hd.2.1
              have e122 : fa.tmps[122]?.getD undef = .bool false := (ev.new 122 rfl).trans h122
              refine stepF_un rfl (fun K hK => ?_)
              go_simp
              exact hK _ _ rfl (Kp.refl _ _)
          · intro fx w' hk hd
            have h86 : fx 86 = .pointer (some ⟨p, 0, none⟩) := hd.1
            have h87 : fx 87 = .slice (some ad) 14 c7 := hd.2.1
            have h88 : fx 88 = .int .i64 (i : Int) := hd.2.2.1
            have h89 : fx 89 = .pointer (some (ad.add i)) := hd.2.2.2.1
            have h90 : fx 90 = .int .i64 x := hd.2.2.2.2.1
            have h91 : fx 91 = .bool gb := hd.2.2.2.2.2.1
            have h92 : fx 92 = .pointer (some ⟨q, 0, none⟩) := hd.2.2.2.2.2.2.1
            have h93 : fx 93 = .slice (some ad) 14 c7 := hd.2.2.2.2.2.2.2.1
            have h94 : fx 94 = .int .i64 (i : Int) := hd.2.2.2.2.2.2.2.2.1
            have h95 : fx 95 = .pointer (some (ad.add i)) := hd.2.2.2.2.2.2.2.2.2.1
            have h96 : fx 96 = .int .i64 x := hd.2.2.2.2.2.2.2.2.2.2.1
            have h97 : fx 97 = .bool gb := hd.2.2.2.2.2.2.2.2.2.2.2.1
            have h98 : fx 98 = .bool false := hd.2.2.2.2.2.2.2.2.2.2.2.2.1
            have h99 : fx 99 = .bool false := hd.2.2.2.2.2.2.2.2.2.2.2.2.2.1
            have h100 : fx 100 = .pointer (some ⟨p, 0, none⟩) := hd.2.2.2.2.2.2.2.2.2.2.2.2.2.2.1
            have h101 : fx 101 = .slice (some ad) 14 c7 := hd.2.2.2.2.2.2.2.2.2.2.2.2.2.2.2.1
            have h102 : fx 102 = .int .i64 (i : Int) := hd.2.2.2.2.2.2.2.2.2.2.2.2.2.2.2.2.1
            have h103 : fx 103 = .pointer (some (ad.add i)) := hd.2.2.2.2.2.2.2.2.2.2.2.2.2.2.2.2.2.1
            have h104 : fx 104 = .int .i64 x := hd.2.2.2.2.2.2.2.2.2.2.2.2.2.2.2.2.2.2.1
            have h105 : fx 105 = .int .i64 (R : Int) := hd.2.2.2.2.2.2.2.2.2.2.2.2.2.2.2.2.2.2.2.1
            have h106 : fx 106 = .pointer (some ⟨q, 0, none⟩) := hd.2.2.2.2.2.2.2.2.2.2.2.2.2.2.2.2.2.2.2.2.1
            have h107 : fx 107 = .slice (some ad) 14 c7 := hd.2.2.2.2.2.2.2.2.2.2.2.2.2.2.2.2.2.2.2.2.2.1
            have h108 : fx 108 = .int .i64 (i : Int) := hd.2.2.2.2.2.2.2.2.2.2.2.2.2.2.2.2.2.2.2.2.2.2.1
            have h109 : fx 109 = .pointer (some (ad.add i)) := hd.2.2.2.2.2.2.2.2.2.2.2.2.2.2.2.2.2.2.2.2.2.2.2.1
            have h110 : fx 110 = .int .i64 x := hd.2.2.2.2.2.2.2.2.2.2.2.2.2.2.2.2.2.2.2.2.2.2.2.2.1
            have h111 : fx 111 = .int .i64 (R : Int) := hd.2.2.2.2.2.2.2.2.2.2.2.2.2.2.2.2.2.2.2.2.2.2.2.2.2.1
            have h112 : fx 112 = .bool false := hd.2.2.2.2.2.2.2.2.2.2.2.2.2.2.2.2.2.2.2.2.2.2.2.2.2.2.1
            have h113 : fx 113 = .bool false := hd.2.2.2.2.2.2.2.2.2.2.2.2.2.2.2.2.2.2.2.2.2.2.2.2.2.2.2.1
            have h114 : fx 114 = .bool false := hd.2.2.2.2.2.2.2.2.2.2.2.2.2.2.2.2.2.2.2.2.2.2.2.2.2.2.2.2.1
            have h115 : fx 115 = .int .i64 sI := hd.2.2.2.2.2.2.2.2.2.2.2.2.2.2.2.2.2.2.2.2.2.2.2.2.2.2.2.2.2.1
            have h116 : fx 116 = .int .i64 sI := hd.2.2.2.2.2.2.2.2.2.2.2.2.2.2.2.2.2.2.2.2.2.2.2.2.2.2.2.2.2.2.1
            have h117 : fx 117 = .bool false := hd.2.2.2.2.2.2.2.2.2.2.2.2.2.2.2.2.2.2.2.2.2.2.2.2.2.2.2.2.2.2.2.1
            have h118 : fx 118 = .bool false := hd.2.2.2.2.2.2.2.2.2.2.2.2.2.2.2.2.2.2.2.2.2.2.2.2.2.2.2.2.2.2.2.2.1
            have h119 : fx 119 = .bool false := hd.2.2.2.2.2.2.2.2.2.2.2.2.2.2.2.2.2.2.2.2.2.2.2.2.2.2.2.2.2.2.2.2.2.1
            have h120 : fx 120 = .bool sB := hd.2.2.2.2.2.2.2.2.2.2.2.2.2.2.2.2.2.2.2.2.2.2.2.2.2.2.2.2.2.2.2.2.2.2.1
            have h121 : fx 121 = .bool sB := hd.2.2.2.2.2.2.2.2.2.2.2.2.2.2.2.2.2.2.2.2.2.2.2.2.2.2.2.2.2.2.2.2.2.2.2.1
            have h122 : fx 122 = .bool false := hd.2.2.2.2.2.2.2.2.2.2.2.2.2.2.2.2.2.2.2.2.2.2.2.2.2.2.2.2.2.2.2.2.2.2.2.2.1
            have h123 : fx 123 = .bool false := hd.2.2.2.2.2.2.2.2.2.2.2.2.2.2.2.2.2.2.2.2.2.2.2.2.2.2.2.2.2.2.2.2.2.2.2.2.2.1
            have HK10 := Lib.hid (HK9.out.trans hk)
            rw [h123]
            clear hk hd
            go_wp2_with fail
            exact ⟨⟨i + 1, by go_num, by omega, HK10⟩, by simp [intOf]; omega⟩
        · obtain rfl : i = 14 := by omega
          go_wp2_with fail
          go_ret
          exact ⟨rfl, HKR.out.1.trans ((HK3.out.trans HK.out).mono (by simp)), S2, HV3.out.kp0 HK.out, HS2.out⟩
end Go.Proofs.YtifdphkocjjbiaaDoor
