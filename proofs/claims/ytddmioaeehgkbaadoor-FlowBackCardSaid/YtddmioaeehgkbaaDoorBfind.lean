/-
  LAYER 1: the place of a one, by how many stand below it.
  CONDITIONS: as each says.
-/
import Derived.Test.YtddmioaeehgkbaaDoorBtz
import Derived.StillTailTactics
namespace Go.Proofs.YtddmioaeehgkbaaDoor
open Go.RowKit

theorem clrN_zero (l : List Bool) : clrN 0 l = l := by cases l <;> rfl
theorem wordL_sel {bs : List Bool} {wd k i : Nat} (h : IsSel (wordL bs wd) k i) : IsSel bs (k + cntI bs (64 * wd)) (64 * wd + i) := (IsSel.take h).drop
theorem wordL_count (bs : List Bool) (k : Nat) : popN 64 (bitN (wordL bs k)) = (wordL bs k).count true := popN_bitN 64 _ (wordL_len bs k)

set_option maxRecDepth 100000 in
set_option maxHeartbeats 4000000 in
theorem bfind_any (S : List Nat) (p k : Nat) (bs : List Bool) (w : World) (h : VecM w S p bs true) (hk : k < bs.count true) (ht : Tab64 w) :
    Calls Tryd.prog 66 #[.pointer (some ⟨p, 0, none⟩), .int .i64 k] w fun e w' => ∃ i : Nat, e = .returned (.int .i64 (i : Int)) ∧ IsSel bs k i ∧ Kp [] w w' := by
  have HV := Lib.hid h; clear h
  have HKC := Lib.hid hk; clear hk
  have HT := Lib.hid ht; clear ht
  obtain ⟨_, _, _, hnb⟩ := HV.out.tail
  have HNB := Lib.hid hnb; clear hnb
  obtain ⟨R, hR⟩ : ∃ R, R = rowsOf bs.length := ⟨_, rfl⟩
  have hRb : 1 ≤ R ∧ R ≤ 40000 := by have := HNB.out; unfold rowsOf at hR; omega
  have HR := Lib.hid hR; clear hR
  have hkb : k ≤ 16777216 := by have := HKC.out; have := List.count_le_length (a := true) (l := bs); have := HNB.out; omega
  obtain ⟨ga, ca, c1, hca⟩ := HV.out.ahead
  obtain ⟨g, c0, hcw⟩ := HV.out.words
  obtain ⟨m, hm⟩ : ∃ m, m = wordsOf bs.length := ⟨_, rfl⟩
  have hmb : m ≤ 262144 := by have := HNB.out; unfold wordsOf at hm; omega
  rw [← HR.out] at c1 hca
  rw [← hm] at c0 hcw
  have HC1 := Lib.hid c1
  have HC0 := Lib.hid c0
  have HCA := Lib.hid hca
  have HCW := Lib.hid hcw
  have HM := Lib.hid hm
  clear hca hcw hm c0
  have c1w : ((w.alloc (.cells #[.pointer (some ⟨p, 0, none⟩)] 103)).alloc (.cells #[.int .i64 (k : Int)] 3)).cell? ⟨p, 1, none⟩ = some (.slice (some ⟨ga, 0, none⟩) R ca) :=
    (((Kp.refl [] w).alloc (.cells #[.pointer (some ⟨p, 0, none⟩)] 103)).alloc (.cells #[.int .i64 (k : Int)] 3)).cell c1 (by simp)
  clear c1
  obtain ⟨b1, hb1⟩ : ∃ b1, b1 = w.heap.size := ⟨_, rfl⟩
  go_enter Tryd.func66, Tryd.ntmps66
  go_wp2_with fail
  obtain ⟨w1, hw1⟩ : ∃ w1, w1 = (w.alloc (.cells #[.pointer (some ⟨p, 0, none⟩)] 103)).alloc (.cells #[.int .i64 (k : Int)] 3) := ⟨_, rfl⟩
  have HK1 := Lib.hid (show Kp [] w w1 by rw [hw1]; exact ((Kp.refl [] w).alloc _).alloc _)
  have HB1 := Lib.hid (show Blk w1 b1 103 [.pointer (some ⟨p, 0, none⟩)] by
    rw [hw1, hb1]
    exact (Blk.new w 103 [.pointer (some ⟨p, 0, none⟩)]).alloc _)
  have HB2 := Lib.hid (show Blk w1 (b1 + 1) 3 [.int .i64 (k : Int)] by
    rw [hw1, hb1]
    have h := Blk.new (w.alloc (.cells #[.pointer (some ⟨p, 0, none⟩)] 103)) 3 [.int .i64 (k : Int)]
    rw [show (w.alloc (.cells #[.pointer (some ⟨p, 0, none⟩)] 103)).heap.size = w.heap.size + 1 by simp] at h
    exact h)
  have HBW := Lib.hid (show w.heap.size ≤ b1 by omega)
  rw [← hw1, ← hb1]
  clear hw1 hb1 c1w
  refine (search_any 72 R _ (fun r => decide (k < cntI bs (512 * r))) w1 (enters_fn Tryd.func72 (by kernel_rfl) rfl) (by omega) (fun w' r hd hr => ?_) (fun a b' hab hbn hp => ?_)).mono ?_
  · exact bfindc_any S p k r b1 (b1 + 1) bs w' (HV.out.kp0 (HK1.out.trans (hd.kp []))) (by rw [← HR.out]; exact hr) (by rw [hd.cell]; exact HB1.out.cell 0) (by rw [hd.cell]; exact HB2.out.cell 0)
  · simp only [decide_eq_true_eq] at hp ⊢
    exact Nat.lt_of_lt_of_le hp (cntI_mono bs (by omega))
  rintro e w2 ⟨r, rfl, hrR, hlo, hhi, hd⟩
  obtain ⟨row, hrow⟩ : ∃ row, r = row + 1 := by
    refine ⟨r - 1, ?_⟩
    rcases Nat.eq_zero_or_pos r with h0 | h0
    · subst h0
      have := of_decide_eq_true (hhi 0 (Nat.le_refl _) (by omega))
      simp [cntI] at this
    · omega
  have hrow2 : row + 1 < R := by
    rcases Nat.lt_or_ge r R with h | h
    · omega
    · have h1 := of_decide_eq_false (hlo row (by omega))
      have h2 := HKC.out
      have h3 := HR.out
      unfold rowsOf at h3
      rw [cntI_all (by omega)] at h1
      exact absurd h2 h1
  have hA : cntI bs (512 * row) ≤ k := by have := of_decide_eq_false (hlo row (by omega)); omega
  have hB : k < cntI bs (512 * (row + 1)) := by
    have := of_decide_eq_true (hhi (row + 1) (by omega) hrow2)
    exact this
  have HK2 := Lib.hid (HK1.out.trans (hd.kp []))
  have HD1 := Lib.hid (HB1.out.kp0 (hd.kp []))
  have HD2 := Lib.hid (HB2.out.kp0 (hd.kp []))
  have HHB := Lib.hid hB
  have hwr : IntKind.i64.wrap ((r : Int) - 1) = (row : Int) := by rw [IntKind.wrap_i64]; omega
  have hw8 : IntKind.i64.wrap ((row : Int) * 8) = ((8 * row : Nat) : Int) := by rw [IntKind.wrap_i64]; omega
  obtain ⟨N, hN⟩ : ∃ N, N = cntI bs (512 * row) := ⟨_, rfl⟩
  have crow := HK2.out.cell (HCA.out row (by omega)) (by simp)
  rw [← hN] at crow hA
  have e1 := HK2.out.cell HC1.out (by simp)
  have d1 := HD1.out.cell 0
  have d2 := HD2.out.cell 0
  have df := HD2.out.free 0
  simp only [List.getElem?_cons_zero] at d1 d2
  obtain ⟨k0, hk0⟩ : ∃ k0, k0 = k - N := ⟨_, rfl⟩
  have hwk : IntKind.i64.wrap ((k : Int) - (N : Int)) = (k0 : Int) := by rw [IntKind.wrap_i64]; omega
  have hrowi : (row : Int) < (R : Int) := by omega
  have HN := Lib.hid hN
  have HK0 := Lib.hid (show k0 + cntI bs (64 * (8 * row)) = k by rw [show 64 * (8 * row) = 512 * row by omega, ← HN.out]; omega)
  have hrow9 : row ≤ 40000 := by omega
  have hk09 : k0 ≤ 16777216 := by omega
  clear hlo hhi hd hB hN hA hk0 hrow hrow2 hrR HB1 HB2 HK1
  go_wp2_with fail
  go_region
  go_wp2_with fail
  have HKA := Lib.hid (HK2.out.setCell (p := ⟨b1 + 1, 0, none⟩) (.inr (by have := HBW.out; show w.heap.size ≤ b1 + 1; omega)) (.int .i64 (k0 : Int))).drew
  have HDA := Lib.hid (HD2.out.set_ 0 (.int .i64 (k0 : Int))).drew
  have HDB := Lib.hid (HD1.out.far (p := ⟨b1 + 1, 0, none⟩) (by show b1 ≠ b1 + 1; omega) (.int .i64 (k0 : Int))).drew
  clear crow e1 d1 d2 df
  go_loopw [6] (fun x wr => ∃ wd k1 : Nat, x = .int .i64 (wd : Int) ∧ k1 ≤ 16777216 ∧ wd ≤ 8 * row + 8 ∧ Hid (k1 + cntI bs (64 * wd) = k) ∧ Hid (Blk wr b1 103 [.pointer (some ⟨p, 0, none⟩)]) ∧ Hid (Blk wr (b1 + 1) 3 [.int .i64 (k1 : Int)]) ∧ Hid (Kp [] w wr)) (fun x _ => 8 * row + 8 - (intOf x).toNat)
  case atStart => exact ⟨8 * row, k0, rfl, by omega, by omega, HK0, HDB, HDA, HKA⟩
  case round =>
    clear HKA HDA HDB HD1 HD2 HK2 HK0
    obtain ⟨wd, k1, rfl, hk19, hwd, HK1, HD1, HD2, HK⟩ := hrel
    have hwdb : wd < 8 * row + 8 := by
      rcases Nat.lt_or_ge wd (8 * row + 8) with h | h
      · exact h
      · exfalso
        have h1 := cntI_mono bs (show 512 * (row + 1) ≤ 64 * wd by omega)
        have h2 := HHB.out
        have h3 := HK1.out
        omega
    have hwm : wd < m := by
      rcases Nat.lt_or_ge wd m with h | h
      · exact h
      · exfalso
        have h1 := HM.out
        unfold wordsOf at h1
        have h2 := HK1.out
        rw [cntI_all (show bs.length ≤ 64 * wd by omega)] at h2
        have h3 := HKC.out
        omega
    have hwmi : (wd : Int) < (m : Int) := by omega
    have d1 := HD1.out.cell 0
    have d2 := HD2.out.cell 0
    have df := HD2.out.free 0
    simp only [List.getElem?_cons_zero] at d1 d2
    have e0 := HK.out.cell HC0.out (by simp)
    have ex := HK.out.cell (HCW.out wd hwm) (by simp)
    obtain ⟨x, hx⟩ : ∃ x, x = bitN (wordL bs wd) := ⟨_, rfl⟩
    have hxb : x < 2 ^ 64 := by rw [hx]; exact bitN_wordL_lt _ _
    rw [← hx] at ex
    obtain ⟨pp, hpp⟩ : ∃ pp, pp = popN 64 x := ⟨_, rfl⟩
    have HX := Lib.hid hx
    have HPP := Lib.hid (show pp = (wordL bs wd).count true by rw [hpp, hx, wordL_count])
    have HPC := Lib.hid (show cntI bs (64 * (wd + 1)) = cntI bs (64 * wd) + pp by rw [hpp, hx]; exact wordL_pop bs wd)
    have HON := Lib.hid (show ∀ w' : World, Calls Tryd.prog 73 #[.int .u64 x] w' fun e w'' => e = .returned (.int .i64 (pp : Int)) ∧ w' = w'' from fun w' => by
      have := ones_any x w' hxb
      rw [← hpp] at this
      exact this)
    have hwd9 : wd ≤ 400000 := by omega
    clear hx hxb hpp
    by_cases hge : pp ≤ k1
    · have hdk : decide ((pp : Int) ≤ (k1 : Int)) = true := by simp; exact hge
      obtain ⟨k2, hk2⟩ : ∃ k2, k2 = k1 - pp := ⟨_, rfl⟩
      have hwk2 : IntKind.i64.wrap ((k1 : Int) - (pp : Int)) = (k2 : Int) := by rw [IntKind.wrap_i64]; omega
      have HK2 := Lib.hid (show k2 + cntI bs (64 * (wd + 1)) = k by have h1 := HK1.out; have h2 := HPC.out; omega)
      have hk29 : k2 ≤ 16777216 := by omega
      clear hk2
      go_upto_region 4 with fail
      refine wp_region_facts (by kernel_rfl) 69 [27, 28, 29, 30, 31, 32, 33, 34, 35, 36] [[], [], [28], [29], [30], [], [31, 32], [33], [34], [27, 35]] (by kernel_rfl) (by kernel_rfl) rfl (factOf [(27, .eq (.int .i64 (k1 : Int))), (28, .eq (.pointer (some ⟨p, 0, none⟩))), (29, .eq (.pointer (some ⟨p, 0, none⟩))), (30, .eq (.pointer (some ⟨p, 0, none⟩))), (31, .eq (.slice (some ⟨g, 0, none⟩) m m)), (32, .eq (.int .i64 (wd : Int))), (33, .eq (.pointer (some ⟨g, wd, none⟩))), (34, .eq (.int .u64 (x : Int))), (35, .eq (.int .i64 (pp : Int))), (36, .eq (.bool true))]) (factOf_stable _) _ (fun x => by simp only [fillL, Nat.reduceAdd, Nat.reduceEqDiff, ↓reduceIte]; rfl) ?_ ?_
      · refine ⟨?_, ?_, ?_, ?_, ?_, ?_, ?_, ?_, ?_, ?_, trivial⟩
        · intro fx w' fa hk hd ev  -- 27 = Op.load 3 (Operand.tmp 3)
          have e3 : fa.tmps[3]?.getD undef = .pointer (some ⟨b1 + 1, 0, none⟩) := ev.old 3 rfl
          refine stepF_un rfl (fun K hK => ?_)
          have cx := hk.cell (p := ⟨b1 + 1, 0, none⟩) d2 (by simp)
          go_simp
          exact hK _ _ rfl (Kp.refl _ _)
        · intro fx w' fa hk hd ev  -- 28 = Op.load 71 (Operand.tmp 2)
          have e2 : fa.tmps[2]?.getD undef = .pointer (some ⟨b1, 0, none⟩) := ev.old 2 rfl
          refine stepF_un rfl (fun K hK => ?_)
          have cx := hk.cell (p := ⟨b1, 0, none⟩) d1 (by simp)
          go_simp
          exact hK _ _ rfl (Kp.refl _ _)
        · intro fx w' fa hk hd ev  -- 29 = Op.nilCheck (Operand.tmp 28)
          have h28 : fx 28 = .pointer (some ⟨p, 0, none⟩) := hd.1
          have e28 : fa.tmps[28]?.getD undef = .pointer (some ⟨p, 0, none⟩) := (ev.new 28 rfl).trans h28
          refine stepF_un rfl (fun K hK => ?_)
          go_simp
          exact hK _ _ rfl (Kp.refl _ _)
        · intro fx w' fa hk hd ev  -- 30 = Op.fieldAddr 63 (Operand.tmp 29) 0
          have h29 : fx 29 = .pointer (some ⟨p, 0, none⟩) := hd.1
          have e29 : fa.tmps[29]?.getD undef = .pointer (some ⟨p, 0, none⟩) := (ev.new 29 rfl).trans h29
          refine stepF_un rfl (fun K hK => ?_)
          go_simp
          exact hK _ _ rfl (Kp.refl _ _)
        · intro fx w' fa hk hd ev  -- 31 = Op.load 61 (Operand.tmp 30)
          have h30 : fx 30 = .pointer (some ⟨p, 0, none⟩) := hd.1
          have e30 : fa.tmps[30]?.getD undef = .pointer (some ⟨p, 0, none⟩) := (ev.new 30 rfl).trans h30
          refine stepF_un rfl (fun K hK => ?_)
          have cx := hk.cell (p := ⟨p, 0, none⟩) e0 (by simp)
          go_simp
          exact hK _ _ rfl (Kp.refl _ _)
        · intro fx w' fa hk hd ev  -- 32 = Op.move (Operand.tmp 6)
          have e6 : fa.tmps[6]?.getD undef = .int .i64 (wd : Int) := ev.old 6 rfl
          refine stepF_un rfl (fun K hK => ?_)
          exact stepF_val _ hK (run_move rfl e6 _) rfl
        · intro fx w' fa hk hd ev  -- 33 = Op.indexAddr 61 (Operand.tmp 31) (Operand.tmp 32)
          have h31 : fx 31 = .slice (some ⟨g, 0, none⟩) m m := hd.1
          have e31 : fa.tmps[31]?.getD undef = .slice (some ⟨g, 0, none⟩) m m := (ev.new 31 rfl).trans h31
          have h32 : fx 32 = .int .i64 (wd : Int) := hd.2.1
          have e32 : fa.tmps[32]?.getD undef = .int .i64 (wd : Int) := (ev.new 32 rfl).trans h32
          refine stepF_un rfl (fun K hK => ?_)
          have hz0 : (0 : Int) ≤ (wd : Int) := by omega
          go_simp
          exact hK _ _ rfl (Kp.refl _ _)
        · intro fx w' fa hk hd ev  -- 34 = Op.load 60 (Operand.tmp 33)
          have h33 : fx 33 = .pointer (some ⟨g, wd, none⟩) := hd.1
          have e33 : fa.tmps[33]?.getD undef = .pointer (some ⟨g, wd, none⟩) := (ev.new 33 rfl).trans h33
          refine stepF_un rfl (fun K hK => ?_)
          have cx := hk.cell (p := ⟨g, wd, none⟩) ex (by simp)
          go_simp
          exact hK _ _ rfl (Kp.refl _ _)
        · intro fx w' fa hk hd ev  -- 35 = Op.call { callee := Callee.value (Operand.func 48), args := 
          have h34 : fx 34 = .int .u64 (x : Int) := hd.1
          have e34 : fa.tmps[34]?.getD undef = .int .u64 (x : Int) := (ev.new 34 rfl).trans h34
          refine stepF_un rfl (fun K hK => ?_)
          go_simp
          refine (HON.out _).mono ?_
          rintro e w1 ⟨rfl, rfl⟩
          exact hK _ _ rfl (Kp.refl _ _)
        · intro fx w' fa hk hd ev  -- 36 = Op.binOp BinOp.geq 3 (Operand.tmp 27) (Operand.tmp 35) 3
          have h27 : fx 27 = .int .i64 (k1 : Int) := hd.1
          have e27 : fa.tmps[27]?.getD undef = .int .i64 (k1 : Int) := (ev.new 27 rfl).trans h27
          have h35 : fx 35 = .int .i64 (pp : Int) := hd.2.1
          have e35 : fa.tmps[35]?.getD undef = .int .i64 (pp : Int) := (ev.new 35 rfl).trans h35
          refine stepF_un rfl (fun K hK => ?_)
          go_simp
          exact hK _ _ rfl (Kp.refl _ _)
      · intro fx w' hk hd
        have h27 : fx 27 = .int .i64 (k1 : Int) := hd.1
        have h28 : fx 28 = .pointer (some ⟨p, 0, none⟩) := hd.2.1
        have h29 : fx 29 = .pointer (some ⟨p, 0, none⟩) := hd.2.2.1
        have h30 : fx 30 = .pointer (some ⟨p, 0, none⟩) := hd.2.2.2.1
        have h31 : fx 31 = .slice (some ⟨g, 0, none⟩) m m := hd.2.2.2.2.1
        have h32 : fx 32 = .int .i64 (wd : Int) := hd.2.2.2.2.2.1
        have h33 : fx 33 = .pointer (some ⟨g, wd, none⟩) := hd.2.2.2.2.2.2.1
        have h34 : fx 34 = .int .u64 (x : Int) := hd.2.2.2.2.2.2.2.1
        have h35 : fx 35 = .int .i64 (pp : Int) := hd.2.2.2.2.2.2.2.2.1
        have h36 : fx 36 = .bool true := hd.2.2.2.2.2.2.2.2.2.1
        rw [h36]
        have HK3 := Lib.hid (HK.out.trans hk)
        have HE1 := Lib.hid (HD1.out.kp0 hk)
        have HE2 := Lib.hid (HD2.out.kp0 hk)
        have f1 : w'.cell? ⟨b1, 0, none⟩ = some (.pointer (some ⟨p, 0, none⟩)) := HE1.out.cell 0
        have f2 : w'.cell? ⟨b1 + 1, 0, none⟩ = some (.int .i64 (k1 : Int)) := HE2.out.cell 0
        have ff := HE2.out.free 0
        have g0 := hk.cell e0 (by simp)
        have gx := hk.cell ex (by simp)
        clear hk hd d1 d2 df e0 ex HD1 HD2 HK
        go_wp2_with fail
        refine wp_region_still_tail 10 (by kernel_rfl) (by kernel_rfl) ?_
        simp only [List.take_succ_cons, List.take_zero, List.drop_succ_cons, List.drop_zero]
        repeat still_step
        refine wpStill_step (fun K hK => ?_)
        go_simp
        refine ⟨_, ((HON.out _).mono (fun e w2 h => ⟨h.1, h.2.symm⟩)), hK _ ?_⟩
        clear hK K
        repeat still_step
        refine wpStill_nil ?_
        change wpList _ _ _ _ _ w'.drew
        go_wp2_with fail
        have hs1 := (HE1.out.far (p := ⟨b1 + 1, 0, none⟩) (by show b1 ≠ b1 + 1; omega) (.int .i64 (k2 : Int))).drew
        have hs2 := (HE2.out.set_ 0 (.int .i64 (k2 : Int))).drew
        have hs3 := (HK3.out.setCell (p := ⟨b1 + 1, 0, none⟩) (.inr (by have := HBW.out; show w.heap.size ≤ b1 + 1; omega)) (.int .i64 (k2 : Int))).drew
        exact ⟨⟨wd + 1, k2, by go_num, by omega, by omega, HK2, Lib.hid hs1, Lib.hid hs2, Lib.hid hs3⟩, by simp [intOf]; omega⟩
    · have hdk : decide ((pp : Int) ≤ (k1 : Int)) = false := by simp; omega
      go_upto_region 4 with fail
      refine wp_region_facts (by kernel_rfl) 69 [27, 28, 29, 30, 31, 32, 33, 34, 35, 36] [[], [], [28], [29], [30], [], [31, 32], [33], [34], [27, 35]] (by kernel_rfl) (by kernel_rfl) rfl (factOf [(27, .eq (.int .i64 (k1 : Int))), (28, .eq (.pointer (some ⟨p, 0, none⟩))), (29, .eq (.pointer (some ⟨p, 0, none⟩))), (30, .eq (.pointer (some ⟨p, 0, none⟩))), (31, .eq (.slice (some ⟨g, 0, none⟩) m m)), (32, .eq (.int .i64 (wd : Int))), (33, .eq (.pointer (some ⟨g, wd, none⟩))), (34, .eq (.int .u64 (x : Int))), (35, .eq (.int .i64 (pp : Int))), (36, .eq (.bool false))]) (factOf_stable _) _ (fun x => by simp only [fillL, Nat.reduceAdd, Nat.reduceEqDiff, ↓reduceIte]; rfl) ?_ ?_
      · refine ⟨?_, ?_, ?_, ?_, ?_, ?_, ?_, ?_, ?_, ?_, trivial⟩
        · intro fx w' fa hk hd ev  -- 27 = Op.load 3 (Operand.tmp 3)
          have e3 : fa.tmps[3]?.getD undef = .pointer (some ⟨b1 + 1, 0, none⟩) := ev.old 3 rfl
          refine stepF_un rfl (fun K hK => ?_)
          have cx := hk.cell (p := ⟨b1 + 1, 0, none⟩) d2 (by simp)
          go_simp
          exact hK _ _ rfl (Kp.refl _ _)
        · intro fx w' fa hk hd ev  -- 28 = Op.load 71 (Operand.tmp 2)
          have e2 : fa.tmps[2]?.getD undef = .pointer (some ⟨b1, 0, none⟩) := ev.old 2 rfl
          refine stepF_un rfl (fun K hK => ?_)
          have cx := hk.cell (p := ⟨b1, 0, none⟩) d1 (by simp)
          go_simp
          exact hK _ _ rfl (Kp.refl _ _)
        · intro fx w' fa hk hd ev  -- 29 = Op.nilCheck (Operand.tmp 28)
          have h28 : fx 28 = .pointer (some ⟨p, 0, none⟩) := hd.1
          have e28 : fa.tmps[28]?.getD undef = .pointer (some ⟨p, 0, none⟩) := (ev.new 28 rfl).trans h28
          refine stepF_un rfl (fun K hK => ?_)
          go_simp
          exact hK _ _ rfl (Kp.refl _ _)
        · intro fx w' fa hk hd ev  -- 30 = Op.fieldAddr 63 (Operand.tmp 29) 0
          have h29 : fx 29 = .pointer (some ⟨p, 0, none⟩) := hd.1
          have e29 : fa.tmps[29]?.getD undef = .pointer (some ⟨p, 0, none⟩) := (ev.new 29 rfl).trans h29
          refine stepF_un rfl (fun K hK => ?_)
          go_simp
          exact hK _ _ rfl (Kp.refl _ _)
        · intro fx w' fa hk hd ev  -- 31 = Op.load 61 (Operand.tmp 30)
          have h30 : fx 30 = .pointer (some ⟨p, 0, none⟩) := hd.1
          have e30 : fa.tmps[30]?.getD undef = .pointer (some ⟨p, 0, none⟩) := (ev.new 30 rfl).trans h30
          refine stepF_un rfl (fun K hK => ?_)
          have cx := hk.cell (p := ⟨p, 0, none⟩) e0 (by simp)
          go_simp
          exact hK _ _ rfl (Kp.refl _ _)
        · intro fx w' fa hk hd ev  -- 32 = Op.move (Operand.tmp 6)
          have e6 : fa.tmps[6]?.getD undef = .int .i64 (wd : Int) := ev.old 6 rfl
          refine stepF_un rfl (fun K hK => ?_)
          exact stepF_val _ hK (run_move rfl e6 _) rfl
        · intro fx w' fa hk hd ev  -- 33 = Op.indexAddr 61 (Operand.tmp 31) (Operand.tmp 32)
          have h31 : fx 31 = .slice (some ⟨g, 0, none⟩) m m := hd.1
          have e31 : fa.tmps[31]?.getD undef = .slice (some ⟨g, 0, none⟩) m m := (ev.new 31 rfl).trans h31
          have h32 : fx 32 = .int .i64 (wd : Int) := hd.2.1
          have e32 : fa.tmps[32]?.getD undef = .int .i64 (wd : Int) := (ev.new 32 rfl).trans h32
          refine stepF_un rfl (fun K hK => ?_)
          have hz0 : (0 : Int) ≤ (wd : Int) := by omega
          go_simp
          exact hK _ _ rfl (Kp.refl _ _)
        · intro fx w' fa hk hd ev  -- 34 = Op.load 60 (Operand.tmp 33)
          have h33 : fx 33 = .pointer (some ⟨g, wd, none⟩) := hd.1
          have e33 : fa.tmps[33]?.getD undef = .pointer (some ⟨g, wd, none⟩) := (ev.new 33 rfl).trans h33
          refine stepF_un rfl (fun K hK => ?_)
          have cx := hk.cell (p := ⟨g, wd, none⟩) ex (by simp)
          go_simp
          exact hK _ _ rfl (Kp.refl _ _)
        · intro fx w' fa hk hd ev  -- 35 = Op.call { callee := Callee.value (Operand.func 48), args := 
          have h34 : fx 34 = .int .u64 (x : Int) := hd.1
          have e34 : fa.tmps[34]?.getD undef = .int .u64 (x : Int) := (ev.new 34 rfl).trans h34
          refine stepF_un rfl (fun K hK => ?_)
          go_simp
          refine (HON.out _).mono ?_
          rintro e w1 ⟨rfl, rfl⟩
          exact hK _ _ rfl (Kp.refl _ _)
        · intro fx w' fa hk hd ev  -- 36 = Op.binOp BinOp.geq 3 (Operand.tmp 27) (Operand.tmp 35) 3
          have h27 : fx 27 = .int .i64 (k1 : Int) := hd.1
          have e27 : fa.tmps[27]?.getD undef = .int .i64 (k1 : Int) := (ev.new 27 rfl).trans h27
          have h35 : fx 35 = .int .i64 (pp : Int) := hd.2.1
          have e35 : fa.tmps[35]?.getD undef = .int .i64 (pp : Int) := (ev.new 35 rfl).trans h35
          refine stepF_un rfl (fun K hK => ?_)
          go_simp
          exact hK _ _ rfl (Kp.refl _ _)
      · intro fx w' hk hd
        have h27 : fx 27 = .int .i64 (k1 : Int) := hd.1
        have h28 : fx 28 = .pointer (some ⟨p, 0, none⟩) := hd.2.1
        have h29 : fx 29 = .pointer (some ⟨p, 0, none⟩) := hd.2.2.1
        have h30 : fx 30 = .pointer (some ⟨p, 0, none⟩) := hd.2.2.2.1
        have h31 : fx 31 = .slice (some ⟨g, 0, none⟩) m m := hd.2.2.2.2.1
        have h32 : fx 32 = .int .i64 (wd : Int) := hd.2.2.2.2.2.1
        have h33 : fx 33 = .pointer (some ⟨g, wd, none⟩) := hd.2.2.2.2.2.2.1
        have h34 : fx 34 = .int .u64 (x : Int) := hd.2.2.2.2.2.2.2.1
        have h35 : fx 35 = .int .i64 (pp : Int) := hd.2.2.2.2.2.2.2.2.1
        have h36 : fx 36 = .bool false := hd.2.2.2.2.2.2.2.2.2.1
        rw [h36]
        have HK3 := Lib.hid (HK.out.trans hk)
        have HE1 := Lib.hid (HD1.out.kp0 hk)
        have HE2 := Lib.hid (HD2.out.kp0 hk)
        have f1 : w'.cell? ⟨b1, 0, none⟩ = some (.pointer (some ⟨p, 0, none⟩)) := HE1.out.cell 0
        have f2 : w'.cell? ⟨b1 + 1, 0, none⟩ = some (.int .i64 (k1 : Int)) := HE2.out.cell 0
        have ff := HE2.out.free 0
        have g0 := hk.cell e0 (by simp)
        have gx := hk.cell ex (by simp)
        clear hk hd d1 d2 df e0 ex HD1 HD2 HK
        have HCL := Lib.hid (clrN_zero (wordL bs wd))
        go_wp2_with fail
        have HLT := Lib.hid (show k1 < (wordL bs wd).count true by rw [← HPP.out]; omega)
        have HLC := Lib.hid (show (wordL bs wd).count true ≤ 64 from Nat.le_trans List.count_le_length (wordL_len bs wd))
        obtain ⟨l, hl⟩ : ∃ l, l = wordL bs wd := ⟨_, rfl⟩
        rw [← hl] at HX HPP HCL HLT HLC
        have HLL := Lib.hid (show l.length ≤ 64 by rw [hl]; exact wordL_len bs wd)
        have HL := Lib.hid hl; clear hl
        have HPM := Lib.hid (show ∀ j, popN 64 (bitN (clrN j l)) = l.count true - j from fun j => by rw [popN_bitN 64 _ (by rw [clrN_len]; exact HLL.out), clrN_count])
        go_loopw [7] (fun x wr => ∃ j k2 : Nat, x = .int .u64 ((bitN (clrN j l) : Nat) : Int) ∧ j + k2 = k1 ∧ Hid (Blk wr (b1 + 1) 3 [.int .i64 (k2 : Int)]) ∧ Hid (Kp [] w wr)) (fun x _ => popN 64 (intOf x).toNat)
        case atStart => exact ⟨0, k1, by rw [HCL.out, ← HX.out], by omega, HE2, HK3⟩
        case round =>
          clear HE2 HK3 f1 f2 ff g0 gx
          obtain ⟨j, k2, rfl, hjk, HE2, HK3⟩ := hrel
          have f2 : wr.cell? ⟨b1 + 1, 0, none⟩ = some (.int .i64 (k2 : Int)) := HE2.out.cell 0
          have ff := HE2.out.free 0
          have HXL := Lib.hid (show bitN (clrN j l) < 2 ^ 64 from Nat.lt_of_lt_of_le (bitN_lt _) (Nat.pow_le_pow_right (by omega) (by rw [clrN_len]; exact HLL.out)))
          have hjl : j < l.count true := by have := HLT.out; omega
          have hcp : 0 < (clrN j l).count true := by rw [clrN_count]; omega
          rcases Nat.eq_zero_or_pos k2 with h0 | h0
          · subst h0
            obtain rfl : j = k1 := by omega
            have HTB := Lib.hid (HT.out.kp0 HK3.out)
            have hft := ft_lt hcp
            rw [clrN_len] at hft
            obtain ⟨t, htt⟩ : ∃ t, t = ft (clrN j l) := ⟨_, rfl⟩
            rw [← htt] at hft
            have HSEL := Lib.hid (show IsSel bs k (64 * wd + t) by
              have h1 := sel_clr (l := l) (k := j) hjl
              rw [← htt, HL.out] at h1
              have h2 := wordL_sel h1
              rwa [HK1.out] at h2)
            have ht64 : t < 64 := by have := HLL.out; omega
            have hwm : IntKind.i64.wrap ((wd : Int) * 64) = ((64 * wd : Nat) : Int) := by rw [IntKind.wrap_i64]; omega
            have hwa : IntKind.i64.wrap (64 * (wd : Int) + (t : Int)) = ((64 * wd + t : Nat) : Int) := by rw [IntKind.wrap_i64]; omega
            have hwa' : IntKind.i64.wrap (((64 * wd : Nat) : Int) + (t : Int)) = ((64 * wd + t : Nat) : Int) := by rw [IntKind.wrap_i64]; omega
            have HTZ := Lib.hid (show Calls Tryd.prog 74 #[.int .u64 (bitN (clrN j l) : Nat)] wr fun e w' => e = .returned (.int .i64 (t : Int)) ∧ wr = w' by
              have := tz_any (clrN j l) wr (by rw [clrN_len]; exact HLL.out) hcp HTB.out
              rwa [← htt] at this)
            clear hft htt hcp hjl hjk
            go_wp2_with fail
            refine HTZ.out.mono ?_
            rintro e w5 ⟨rfl, rfl⟩
            go_wp2_with fail
            go_ret
            exact ⟨64 * wd + t, by go_num, HSEL.out, HK3.out⟩
          · obtain ⟨k3, hk3⟩ : ∃ k3, k2 = k3 + 1 := ⟨k2 - 1, by omega⟩
            have hwk3 : IntKind.i64.wrap ((k2 : Int) - 1) = (k3 : Int) := by rw [IntKind.wrap_i64]; omega
            obtain ⟨X, hX⟩ : ∃ X, X = bitN (clrN j l) := ⟨_, rfl⟩
            have hXp : 0 < X := by rw [hX]; exact bitN_pos hcp
            obtain ⟨X1, hX1⟩ : ∃ X1, X1 = X - 1 := ⟨_, rfl⟩
            have hXb := HXL.out
            rw [← hX] at hXb
            have hw1 : IntKind.u64.wrap ((X : Int) - 1) = (X1 : Int) := by
              rw [show (X : Int) - 1 = (X1 : Int) by omega]
              exact u64_wrap_small (by omega)
            obtain ⟨Y, hY⟩ : ∃ Y, Y = bitN (clrN (j + 1) l) := ⟨_, rfl⟩
            have hand : bits .and .u64 (X : Int) (X1 : Int) = (Y : Int) := by
              rw [u64_and_nat X X1 (by omega) (by omega), hX1, hX, bitN_clr hcp, clrN_succ, hY]
            rw [← hX]
            have HXX := Lib.hid hX
            have HYY := Lib.hid hY
            have HJ3 := Lib.hid (show j + 1 + k3 = k1 by omega)
            have HJL := Lib.hid hjl
            have hs2 := Lib.hid (HE2.out.set_ 0 (.int .i64 (k3 : Int)))
            have hs3 := Lib.hid (HK3.out.setCell (p := ⟨b1 + 1, 0, none⟩) (.inr (by have := HBW.out; show w.heap.size ≤ b1 + 1; omega)) (.int .i64 (k3 : Int)))
            clear hX hX1 hXb hY hjk hjl hcp hk3
            go_wp2_with fail
            exact ⟨⟨j + 1, k3, by rw [HYY.out], HJ3.out, hs2, hs3⟩, by
              show popN 64 (Int.toNat (Y : Int)) < popN 64 (Int.toNat (X : Int))
              rw [Int.toNat_natCast, Int.toNat_natCast, HYY.out, HXX.out, HPM.out, HPM.out]
              have := HJL.out
              omega⟩
end Go.Proofs.YtddmioaeehgkbaaDoor
