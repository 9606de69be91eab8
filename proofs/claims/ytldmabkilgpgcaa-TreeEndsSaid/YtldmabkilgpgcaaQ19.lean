/-
  LAYER 15 (tree), the document's: Bytes, Has; kids' numbers.
  LAYER 15 (tree): is a tree the document's?
  CONDITIONS: as each lemma says.
-/
import Derived.Test.YtldmabkilgpgcaaQ18
import Derived.Test.YtldmabkilgpgcaaQ10
import Derived.Test.YtldmabkilgpgcaaQ15
import Derived.Deep.CutBlock
namespace Go.Proofs.Ytldmabkilgpgcaa
open Go.RowKit

/-- The document's kid of a node, the number as any. -/
def wantV (bs : List Bool) (node : Int) (q : Nat) : Int := if 0 ≤ node ∧ node < ((bs.length / 4 : Nat) : Int) then kidJ bs (bs.length / 4) (4 * node.toNat + q) else -2
theorem want_there (bs : List Bool) (node : Int) (q : Nat) : thereV bs node q = decide (-2 < wantV bs node q) := by
  unfold thereV wantV
  by_cases h : 0 ≤ node ∧ node < ((bs.length / 4 : Nat) : Int)
  · rw [if_pos h, if_pos h]
    unfold kidJ
    cases bs.getD (4 * node.toNat + q) false
    · simp
    · simp only [if_true]
      split
      · symm; rw [decide_eq_true_iff]; omega
      · rfl
  · rw [if_neg h, if_neg h]; rfl
theorem want_kid (bs : List Bool) (node : Int) (q : Nat) : ((kidV bs node q : Nat) : Int) = max (wantV bs node q) 0 := by
  unfold kidV
  by_cases h : 0 ≤ node ∧ node < ((bs.length / 4 : Nat) : Int)
  · unfold thereV wantV
    rw [if_pos h, if_pos h]
    unfold kidJ cntI
    cases bs.getD (4 * node.toNat + q) false
    · rfl
    · simp only [if_true]
      rw [Nat.add_comm]
      by_cases h2 : 1 + List.count true (List.take (4 * node.toNat + q) bs) < bs.length / 4
      · rw [if_pos h2, if_neg (by omega)]; omega
      · rw [if_neg h2, if_pos (by omega)]; rfl
  · unfold thereV wantV
    rw [if_neg h, if_neg h]
    rfl
theorem RTree.lt {w : World} {lo p h : Nat} {L : List (Nat × Nat)} {bs : List Bool} (ht : RTree w lo p h L bs) : p < w.heap.size := by
  obtain ⟨AL, Ab, Ak, nL, cL, nb, cb, nk, ck, h1, _⟩ := ht
  exact h1.lt
theorem RTree.cells {w : World} {lo p h : Nat} {L : List (Nat × Nat)} {bs : List Bool} (ht : RTree w lo p h L bs) : ∃ (AL Ab Ak : Option Addr) (cL cb ck : Nat), w.cell? ⟨p, 0, none⟩ = some (.int .i64 ((2 ^ h : Nat) : Int)) ∧ w.cell? ⟨p, 1, none⟩ = some (.int .i64 (h : Int)) ∧ w.cell? ⟨p, 2, none⟩ = some (.slice AL L.length cL) ∧ w.cell? ⟨p, 3, none⟩ = some (.slice Ab bs.length cb) ∧ w.cell? ⟨p, 4, none⟩ = some (.slice Ak (bs.length / 4) ck) ∧
    L.length ≤ cL ∧ Rd w w.heap.size AL (pc L) ∧ Rd w w.heap.size Ab (bs.map .bool) ∧ Rd w w.heap.size Ak ((kidsF bs (bs.length / 4) (4 * (bs.length / 4))).map (.int .i64)) ∧ 4 * (bs.length / 4) = bs.length := by
  obtain ⟨AL, Ab, Ak, nL, cL, nb, cb, nk, ck, h1, h2, h3, h4, h5, h6, h7, h8, h9, h10, _⟩ := ht
  have hq : bs.length / 4 = nk := by omega
  refine ⟨AL, Ab, Ak, cL, cb, ck, by rw [h1.cell]; rfl, by rw [h1.cell]; rfl, by rw [h1.cell, h2]; rfl, by rw [h1.cell, h5]; rfl, by rw [h1.cell, hq]; rfl, by omega, h4, h7, by rw [hq]; exact h10, by omega⟩
set_option maxRecDepth 100000 in
set_option maxHeartbeats 4000000 in
theorem rhas_any (lo p h : Nat) (L : List (Nat × Nat)) (bs : List Bool) (r cc : Int) (w : World) (ht : RTree w lo p h L bs) (hL : L.length ≤ 1000000) :
    Calls Try.prog 47 #[.pointer (some ⟨p, 0, none⟩), .agg #[.int .i64 r, .int .i64 cc]] w fun e w' => e = .returned (.bool (decide ((r, cc) ∈ L.map upI))) ∧ Kp [] w w' := by
  obtain ⟨R, hR⟩ : ∃ R, R = decide ((r, cc) ∈ L.map upI) := ⟨_, rfl⟩
  rw [← hR]
  obtain ⟨w1, hw1⟩ : ∃ w1, w1 = w.alloc (.cells #[.int .i64 r, .int .i64 cc] 71) := ⟨_, rfl⟩
  obtain ⟨g, hg⟩ : ∃ g, g = w.heap.size := ⟨_, rfl⟩
  have hk1 : Kp [] w w1 := by rw [hw1]; exact (Kp.refl [] w).alloc _
  have hb1 : Blk w1 g 71 [.int .i64 r, .int .i64 cc] := by rw [hw1, hg]; exact Blk.new w _ _
  obtain ⟨AL, _, _, cL, _, _, _, _, c2, _, _, hcL, hrd, _⟩ := (ht.kp0 hk1).cells
  obtain ⟨n, hn⟩ : ∃ n, L.length = n := ⟨_, rfl⟩
  rw [hn] at c2 hcL hL
  have HK := Lib.hid hk1
  have HX := Lib.hid hrd
  have HB := Lib.hid hb1
  have HC2 := Lib.hid c2
  have HN := Lib.hid hn; clear hn
  have HR := Lib.hid hR; clear hR
  have HW1 := Lib.hid hw1; clear hw1
  have HG := Lib.hid hg; clear hg
  clear ht hrd hk1 hb1 c2
  go_enter Try.func47, Try.ntmps47
  go_wp2_with fail
  rw [← HW1.out, ← HG.out]
  go_loopw [5] (fun x wr => ∃ k : Nat, x = .int .i64 (k : Int) ∧ k ≤ n ∧ Hid (∀ y ∈ (L.map upI).take k, y ≠ (r, cc)) ∧ Hid (Kp [] w1 wr)) (fun x _ => n - (intOf x).toNat)
  case atStart => exact ⟨0, rfl, by omega, Lib.hid (by simp), Lib.hid (Kp.refl _ _)⟩
  case round =>
    obtain ⟨k, rfl, hk, HNO, HKR⟩ := hrel
    have hc2 := HKR.out.cell HC2.out (by simp)
    by_cases hlt : k < n
    · obtain ⟨a, b, ad, hxk, had, _, hcx, hcy⟩ := (HX.out.kp0 HKR.out).ixN (k := k) (by rw [HN.out]; exact hlt)
      subst had
      have hi0 : (0 : Int) ≤ (k : Int) := by omega
      have hi1 : (k : Int) < (n : Int) := by omega
      have hq0 : wr.cell? ⟨g, 0, none⟩ = some (.int .i64 r) := HKR.out.cell (by rw [HB.out.cell]; rfl) (by simp)
      have hq1 : wr.cell? ⟨g, 1, none⟩ = some (.int .i64 cc) := HKR.out.cell (by rw [HB.out.cell]; rfl) (by simp)
      have hpe := rpair_eq (a : Int) (b : Int) r cc
      have hxu : (L.map upI)[k]? = some ((a : Int), (b : Int)) := by rw [List.getElem?_map, hxk]; rfl
      by_cases he : (a : Int) = r ∧ (b : Int) = cc
      · have HR2 := Lib.hid (show R = true by rw [HR.out, decide_eq_true_iff, ← he.1, ← he.2]; exact List.mem_of_getElem? hxu)
        rw [decide_eq_true he] at hpe
        clear hxk hxu HNO he
        go_wp2_with fail
        go_quiet (fail)
        go_wp2_with fail
        go_ret
        exact ⟨by rw [HR2.out]; rfl, HK.out.trans (HKR.out.drewN _)⟩
      · have HNO2 := Lib.hid (show ∀ y ∈ (L.map upI).take (k + 1), y ≠ (r, cc) from fun y hy => by
          rw [g_take hxu] at hy
          rcases List.mem_append.1 hy with h | h
          · exact HNO.out y h
          · simp only [List.mem_singleton] at h
            subst h
            intro e
            injection e with e1 e2
            exact he ⟨e1, e2⟩)
        rw [decide_eq_false he] at hpe
        clear hxk hxu HNO he
        go_wp2_with fail
        go_quiet (fail)
        go_wp2_with fail
        exact ⟨⟨k + 1, by go_num, by omega, HNO2, Lib.hid (HKR.out.drewN _)⟩, by simp [intOf]; omega⟩
    · obtain rfl : n = k := by omega
      have HR2 := Lib.hid (show R = false by
        rw [HR.out, decide_eq_false_iff_not]
        intro hm
        exact HNO.out _ (by rw [List.take_of_length_le (by rw [List.length_map, HN.out]; exact Nat.le_refl _)]; exact hm) rfl)
      go_wp2_with fail
      go_ret
      exact ⟨by rw [HR2.out]; rfl, HK.out.trans HKR.out⟩
set_option maxRecDepth 100000 in
set_option maxHeartbeats 4000000 in
theorem rtbytes_any (lo p h : Nat) (L : List (Nat × Nat)) (bs : List Bool) (w : World) (ht : RTree w lo p h L bs) (hh : h ≤ 17) (hn16 : bs.length ≤ 16777216) :
    Calls Try.prog 26 #[.pointer (some ⟨p, 0, none⟩)] w fun e w' => ∃ A m c, m = 5 + (bs.length + 7) / 8 ∧ e = .returned (.slice A m c) ∧ w'.ownsRow w.heap.size 5 1 (.slice A m c) m ((treeB h bs).map (.int .u8)) ∧ Kp [] w w' := by
  obtain ⟨i0, hi, hz0, hz1, hz2⟩ := info_parts Try.info_gu8
  obtain ⟨n, hn⟩ : ∃ n, bs.length = n := ⟨_, rfl⟩
  rw [hn] at hn16
  obtain ⟨x1, hx1⟩ : ∃ x1, x1 = (n : Int) / 16777216 % 256 := ⟨_, rfl⟩
  obtain ⟨x2, hx2⟩ : ∃ x2, x2 = (n : Int) / 65536 % 256 := ⟨_, rfl⟩
  obtain ⟨x3, hx3⟩ : ∃ x3, x3 = (n : Int) / 256 % 256 := ⟨_, rfl⟩
  obtain ⟨x4, hx4⟩ : ∃ x4, x4 = (n : Int) % 256 := ⟨_, rfl⟩
  have HTB := Lib.hid (show treeB h bs = [(h : Int), x1, x2, x3, x4] ++ bytesN (bitN bs) ((n + 7) / 8) by unfold treeB headB; rw [hn, hx1, hx2, hx3, hx4])
  have hw0 : IntKind.wrap .u8 (h : Int) = (h : Int) := by rw [IntKind.wrap_u8]; omega
  have hw1 : IntKind.wrap .u8 ((n : Int) / 16777216) = x1 := by rw [IntKind.wrap_u8, hx1]
  have hw2 : IntKind.wrap .u8 ((n : Int) / 65536) = x2 := by rw [IntKind.wrap_u8, hx2]
  have hw3 : IntKind.wrap .u8 ((n : Int) / 256) = x3 := by rw [IntKind.wrap_u8, hx3]
  have hw4 : IntKind.wrap .u8 (n : Int) = x4 := by rw [IntKind.wrap_u8, hx4]
  obtain ⟨_, Ab, _, _, cb, _, _, c1, _, c3, _, _, _, hrb, _⟩ := ht.cells
  rw [hn] at c3
  have HRB := Lib.hid hrb
  have HN := Lib.hid hn
  clear hn ht hx1 hx2 hx3 hx4 hrb
  rw [HTB.out, HN.out]
  go_enter Try.func26, Try.ntmps26
  go_wp2_with fail
  refine (rbof_any Ab n cb _ bs w HRB.out HN.out hn16).mono ?_
  rintro e w1 ⟨S, v, rfl, hv, _, hk1⟩
  have HV := Lib.hid hv
  have HK1 := Lib.hid hk1
  have hc1 := hk1.cell c1 (by simp)
  have HBY := Lib.hid (show ∀ w', Kp [] w1 w' → Calls Try.prog 54 #[.pointer (some ⟨v, 0, none⟩)] w' fun e w'' => ∃ g m, m = (n + 7) / 8 ∧ e = .returned (.slice (some ⟨g, 0, none⟩) m m) ∧ Blk w'' g 5 ((bytesN (bitN bs) m).map (.int .u8)) ∧ w'.heap.size ≤ g ∧ Kp [] w' w'' from fun w' hk => by
    have := rbbytes_any S v bs w' (HV.out.kp0 hk) (by rw [HN.out]; exact hn16)
    rw [HN.out] at this
    exact this)
  obtain ⟨mb, hmb⟩ : ∃ mb, mb = (n + 7) / 8 := ⟨_, rfl⟩
  rw [← hmb] at HBY
  have hmbb : mb ≤ 3000000 := by omega
  have HMB := Lib.hid hmb
  clear hv hk1 hmb c1 c3
  go_wp2_with fail
  refine wp_region_tail (by kernel_rfl) 21 39 19 38 [2, 19, 20, 21, 22, 23, 24, 25, 26, 27, 28, 29, 30, 31, 32, 33, 34, 35, 36, 37, 38] [[], [19], [19, 20], [19, 20, 21], [19, 20, 21, 22], [], [24], [24, 25], [], [27], [27, 28], [], [30], [30, 31], [], [33], [19, 20, 21, 22, 23, 24, 25, 26, 27, 28, 29, 30, 31, 32, 33, 34], [], [36], [19, 20, 21, 22, 23, 24, 25, 26, 27, 28, 29, 30, 31, 32, 33, 34, 35, 36, 37], [19, 20, 21, 22, 23, 24, 25, 26, 27, 28, 29, 30, 31, 32, 33, 34, 36, 38]] [19, 20, 21, 22, 23, 24, 25, 26, 27, 28, 29, 30, 31, 32, 33, 34, 36] [38, 2] [.pointer (some ⟨p, 0, none⟩), .pointer (some ⟨p, 0, none⟩), .pointer (some ⟨p, 1, none⟩), .int .i64 (h : Int), .int .u8 (h : Int), .int .i64 (n : Int), .int .i64 ((n : Int) / 16777216), .int .u8 x1, .int .i64 (n : Int), .int .i64 ((n : Int) / 65536), .int .u8 x2, .int .i64 (n : Int), .int .i64 ((n : Int) / 256), .int .u8 x3, .int .i64 (n : Int), .int .u8 x4, .pointer (some ⟨v, 0, none⟩)] [(19, .eq (.pointer (some ⟨p, 0, none⟩))), (20, .eq (.pointer (some ⟨p, 0, none⟩))), (21, .eq (.pointer (some ⟨p, 1, none⟩))), (22, .eq (.int .i64 (h : Int))), (23, .eq (.int .u8 (h : Int))), (24, .eq (.int .i64 (n : Int))), (25, .eq (.int .i64 ((n : Int) / 16777216))), (26, .eq (.int .u8 x1)), (27, .eq (.int .i64 (n : Int))), (28, .eq (.int .i64 ((n : Int) / 65536))), (29, .eq (.int .u8 x2)), (30, .eq (.int .i64 (n : Int))), (31, .eq (.int .i64 ((n : Int) / 256))), (32, .eq (.int .u8 x3)), (33, .eq (.int .i64 (n : Int))), (34, .eq (.int .u8 x4)), (35, SFact.own (w1.heap.size) 5 1 5 ([.int .u8 (h : Int), .int .u8 x1, .int .u8 x2, .int .u8 x3, .int .u8 x4])), (36, .eq (.pointer (some ⟨v, 0, none⟩))), (37, SFact.vals mb ((bytesN (bitN bs) mb).map (.int .u8))), (38, (⟨AppN w1 w1.heap.size 5 1 (5 + mb) ([.int .u8 (h : Int), .int .u8 x1, .int .u8 x2, .int .u8 x3, .int .u8 x4] ++ (bytesN (bitN bs) mb).map (.int .u8)), AppN.st⟩ : SFact)), (2, (⟨AppN w1 w1.heap.size 5 1 (5 + mb) ([.int .u8 (h : Int), .int .u8 x1, .int .u8 x2, .int .u8 x3, .int .u8 x4] ++ (bytesN (bitN bs) mb).map (.int .u8)), AppN.st⟩ : SFact))] rfl (by kernel_rfl) (by kernel_rfl) (by kernel_rfl) rfl rfl _ (fun x => by simp only [fillL, Nat.reduceAdd, Nat.reduceEqDiff, ↓reduceIte]; rfl) ?_ ?_ ?_
  · refine ⟨?_, ?_, ?_, ?_, ?_, ?_, ?_, ?_, ?_, ?_, ?_, ?_, ?_, ?_, ?_, ?_, ?_, ?_, ?_, ?_, ?_, trivial⟩
    · intro fx w' fa hk hd ev  -- 19 = Op.move (Operand.tmp 0)
      have e0 : fa.tmps[0]?.getD undef = .pointer (some ⟨p, 0, none⟩) := ev.old 0 rfl
      refine stepF_un rfl (fun K hK => ?_)
      exact stepF_val _ hK (run_move rfl e0 _) rfl
    · intro fx w' fa hk hd ev  -- 20 = Op.nilCheck (Operand.tmp 19)
      have h19 : fx 19 = .pointer (some ⟨p, 0, none⟩) := hd.1
      have e19 : fa.tmps[19]?.getD undef = .pointer (some ⟨p, 0, none⟩) := (ev.new 19 rfl).trans h19
      refine stepF_un rfl (fun K hK => ?_)
      go_simp
      exact hK _ _ rfl (Kp.refl _ _)
    · intro fx w' fa hk hd ev  -- 21 = Op.fieldAddr 75 (Operand.tmp 20) 1
      have h20 : fx 20 = .pointer (some ⟨p, 0, none⟩) := hd.2.1
      have e20 : fa.tmps[20]?.getD undef = .pointer (some ⟨p, 0, none⟩) := (ev.new 20 rfl).trans h20
      refine stepF_un rfl (fun K hK => ?_)
      go_simp
      exact hK _ _ rfl (Kp.refl _ _)
    · intro fx w' fa hk hd ev  -- 22 = Op.load 3 (Operand.tmp 21)
      have h21 : fx 21 = .pointer (some ⟨p, 1, none⟩) := hd.2.2.1
      have e21 : fa.tmps[21]?.getD undef = .pointer (some ⟨p, 1, none⟩) := (ev.new 21 rfl).trans h21
      refine stepF_un rfl (fun K hK => ?_)
      have hc11 := hk.cell hc1 (by simp)
      go_simp
      exact hK _ _ rfl (Kp.refl _ _)
    · intro fx w' fa hk hd ev  -- 23 = Op.convert 3 5 (Operand.tmp 22)
      have h22 : fx 22 = .int .i64 (h : Int) := hd.2.2.2.1
      have e22 : fa.tmps[22]?.getD undef = .int .i64 (h : Int) := (ev.new 22 rfl).trans h22
      refine stepF_un rfl (fun K hK => ?_)
      go_simp
      exact hK _ _ rfl (Kp.refl _ _)
    · intro fx w' fa hk hd ev  -- 24 = Op.move (Operand.tmp 3)
      have e3 : fa.tmps[3]?.getD undef = .int .i64 (n : Int) := ev.old 3 rfl
      refine stepF_un rfl (fun K hK => ?_)
      exact stepF_val _ hK (run_move rfl e3 _) rfl
    · intro fx w' fa hk hd ev  -- 25 = Op.binOp BinOp.shr 3 (Operand.tmp 24) (Operand.const (Value.
      have h24 : fx 24 = .int .i64 (n : Int) := hd.1
      have e24 : fa.tmps[24]?.getD undef = .int .i64 (n : Int) := (ev.new 24 rfl).trans h24
      refine stepF_un rfl (fun K hK => ?_)
      go_simp
      exact hK _ _ rfl (Kp.refl _ _)
    · intro fx w' fa hk hd ev  -- 26 = Op.convert 3 5 (Operand.tmp 25)
      have h25 : fx 25 = .int .i64 ((n : Int) / 16777216) := hd.2.1
      have e25 : fa.tmps[25]?.getD undef = .int .i64 ((n : Int) / 16777216) := (ev.new 25 rfl).trans h25
      refine stepF_un rfl (fun K hK => ?_)
      go_simp
      exact hK _ _ rfl (Kp.refl _ _)
    · intro fx w' fa hk hd ev  -- 27 = Op.move (Operand.tmp 3)
      have e3 : fa.tmps[3]?.getD undef = .int .i64 (n : Int) := ev.old 3 rfl
      refine stepF_un rfl (fun K hK => ?_)
      exact stepF_val _ hK (run_move rfl e3 _) rfl
    · intro fx w' fa hk hd ev  -- 28 = Op.binOp BinOp.shr 3 (Operand.tmp 27) (Operand.const (Value.
      have h27 : fx 27 = .int .i64 (n : Int) := hd.1
      have e27 : fa.tmps[27]?.getD undef = .int .i64 (n : Int) := (ev.new 27 rfl).trans h27
      refine stepF_un rfl (fun K hK => ?_)
      go_simp
      exact hK _ _ rfl (Kp.refl _ _)
    · intro fx w' fa hk hd ev  -- 29 = Op.convert 3 5 (Operand.tmp 28)
      have h28 : fx 28 = .int .i64 ((n : Int) / 65536) := hd.2.1
      have e28 : fa.tmps[28]?.getD undef = .int .i64 ((n : Int) / 65536) := (ev.new 28 rfl).trans h28
      refine stepF_un rfl (fun K hK => ?_)
      go_simp
      exact hK _ _ rfl (Kp.refl _ _)
    · intro fx w' fa hk hd ev  -- 30 = Op.move (Operand.tmp 3)
      have e3 : fa.tmps[3]?.getD undef = .int .i64 (n : Int) := ev.old 3 rfl
      refine stepF_un rfl (fun K hK => ?_)
      exact stepF_val _ hK (run_move rfl e3 _) rfl
    · intro fx w' fa hk hd ev  -- 31 = Op.binOp BinOp.shr 3 (Operand.tmp 30) (Operand.const (Value.
      have h30 : fx 30 = .int .i64 (n : Int) := hd.1
      have e30 : fa.tmps[30]?.getD undef = .int .i64 (n : Int) := (ev.new 30 rfl).trans h30
      refine stepF_un rfl (fun K hK => ?_)
      go_simp
      exact hK _ _ rfl (Kp.refl _ _)
    · intro fx w' fa hk hd ev  -- 32 = Op.convert 3 5 (Operand.tmp 31)
      have h31 : fx 31 = .int .i64 ((n : Int) / 256) := hd.2.1
      have e31 : fa.tmps[31]?.getD undef = .int .i64 ((n : Int) / 256) := (ev.new 31 rfl).trans h31
      refine stepF_un rfl (fun K hK => ?_)
      go_simp
      exact hK _ _ rfl (Kp.refl _ _)
    · intro fx w' fa hk hd ev  -- 33 = Op.move (Operand.tmp 3)
      have e3 : fa.tmps[3]?.getD undef = .int .i64 (n : Int) := ev.old 3 rfl
      refine stepF_un rfl (fun K hK => ?_)
      exact stepF_val _ hK (run_move rfl e3 _) rfl
    · intro fx w' fa hk hd ev  -- 34 = Op.convert 3 5 (Operand.tmp 33)
      have h33 : fx 33 = .int .i64 (n : Int) := hd.1
      have e33 : fa.tmps[33]?.getD undef = .int .i64 (n : Int) := (ev.new 33 rfl).trans h33
      refine stepF_un rfl (fun K hK => ?_)
      go_simp
      exact hK _ _ rfl (Kp.refl _ _)
    · intro fx w' fa hk hd ev  -- 35 = Op.buildSlice 38 5 #[(0, Operand.tmp 23), (1, Operand.tmp 26
      have h23 : fx 23 = .int .u8 (h : Int) := hd.2.2.2.2.1
      have e23 : fa.tmps[23]?.getD undef = .int .u8 (h : Int) := (ev.new 23 rfl).trans h23
      have h26 : fx 26 = .int .u8 x1 := hd.2.2.2.2.2.2.2.1
      have e26 : fa.tmps[26]?.getD undef = .int .u8 x1 := (ev.new 26 rfl).trans h26
      have h29 : fx 29 = .int .u8 x2 := hd.2.2.2.2.2.2.2.2.2.2.1
      have e29 : fa.tmps[29]?.getD undef = .int .u8 x2 := (ev.new 29 rfl).trans h29
      have h32 : fx 32 = .int .u8 x3 := hd.2.2.2.2.2.2.2.2.2.2.2.2.2.1
      have e32 : fa.tmps[32]?.getD undef = .int .u8 x3 := (ev.new 32 rfl).trans h32
      have h34 : fx 34 = .int .u8 x4 := hd.2.2.2.2.2.2.2.2.2.2.2.2.2.2.2.1
      have e34 : fa.tmps[34]?.getD undef = .int .u8 x4 := (ev.new 34 rfl).trans h34
      refine stepF_un rfl (fun K hK => ?_)
      go_simp
      exact hK _ _ (own_build w' (w1.heap.size) 5 1 5 ([.int .u8 (h : Int), .int .u8 x1, .int .u8 x2, .int .u8 x3, .int .u8 x4]) (by have := hk.size; omega) rfl (by decide)) ((Kp.refl _ _).alloc _)
    · intro fx w' fa hk hd ev  -- 36 = Op.move (Operand.tmp 4)
      have e4 : fa.tmps[4]?.getD undef = .pointer (some ⟨v, 0, none⟩) := ev.old 4 rfl
      refine stepF_un rfl (fun K hK => ?_)
      exact stepF_val _ hK (run_move rfl e4 _) rfl
    · intro fx w' fa hk hd ev  -- 37 = Op.call { callee := Callee.value (Operand.func 54), args := 
      have h36 : fx 36 = .pointer (some ⟨v, 0, none⟩) := hd.1
      have e36 : fa.tmps[36]?.getD undef = .pointer (some ⟨v, 0, none⟩) := (ev.new 36 rfl).trans h36
      refine stepF_un rfl (fun K hK => ?_)
      go_simp
      refine (HBY.out w' hk).mono ?_
      rintro e w2 ⟨g2, m2, rfl, rfl, hb2, _, hk2⟩
      exact hK _ _ ⟨_, _, rfl, Nat.le_refl _, hb2.rd hb2.lt⟩ hk2
    · exact trivial
    · intro fx w' fa hd ev  -- 2 = Op.assign (Operand.tmp 38)
      have h38 : ((⟨AppN w1 w1.heap.size 5 1 (5 + mb) ([.int .u8 (h : Int), .int .u8 x1, .int .u8 x2, .int .u8 x3, .int .u8 x4] ++ (bytesN (bitN bs) mb).map (.int .u8)), AppN.st⟩ : SFact) : SFact).p (fx 38) w' := hd.2.2.2.2.2.2.2.2.2.2.2.2.2.2.2.2.2.1
      refine stepF_un rfl (fun K hK => ?_)
      exact stepF_val _ hK (run_assign rfl (ev.new 38 rfl) _) h38
  · intro o1 ho1 fx w' fa hk hd ev K hK  -- 38 = Op.call { callee := Callee.builtin Builtin.append, args := #
    obtain rfl := Option.some.inj ho1
    have h35 : (SFact.own (w1.heap.size) 5 1 5 ([.int .u8 (h : Int), .int .u8 x1, .int .u8 x2, .int .u8 x3, .int .u8 x4]) : SFact).p (fx 35) w' := hd.2.2.2.2.2.2.2.2.2.2.2.2.2.2.2.2.1
    have o35 : w'.ownsRow (w1.heap.size) 5 1 (fx 35) 5 ([.int .u8 (h : Int), .int .u8 x1, .int .u8 x2, .int .u8 x3, .int .u8 x4]) := h35
    obtain ⟨A35, c35, v35, _⟩ := own_form o35
    have e35 : fa.tmps[35]?.getD undef = .slice A35 5 c35 := (ev.new 35 rfl).trans v35
    rw [v35] at o35
    have h37 : (SFact.vals mb ((bytesN (bitN bs) mb).map (.int .u8)) : SFact).p (fx 37) w' := hd.2.2.2.2.2.2.2.2.2.2.2.2.2.2.2.2.2.2.1
    obtain ⟨A37, c37, v37, hc37, hr37⟩ := h37
    have e37 : fa.tmps[37]?.getD undef = .slice A37 mb c37 := (ev.new 37 rfl).trans v37
    exact wp_append_in 35 37 38 rfl _ 5 i0 (.int .u8 0) 1 1 Try.underlying38 hi hz0 hz1 hz2 rfl (by decide) _ 5 _ e35 o35 hk _ A37 mb c37 _ e37 (by simp [bytesN]) hr37 (oc_ints _ _) (by unfold maxLen; omega) (by omega) rfl hK
  · intro fx w' hd
    have h2 : ((⟨AppN w1 w1.heap.size 5 1 (5 + mb) ([.int .u8 (h : Int), .int .u8 x1, .int .u8 x2, .int .u8 x3, .int .u8 x4] ++ (bytesN (bitN bs) mb).map (.int .u8)), AppN.st⟩ : SFact) : SFact).p (fx 2) w' := hd.1
    have h19 : fx 19 = .pointer (some ⟨p, 0, none⟩) := hd.2.1
    have h20 : fx 20 = .pointer (some ⟨p, 0, none⟩) := hd.2.2.1
    have h21 : fx 21 = .pointer (some ⟨p, 1, none⟩) := hd.2.2.2.1
    have h22 : fx 22 = .int .i64 (h : Int) := hd.2.2.2.2.1
    have h23 : fx 23 = .int .u8 (h : Int) := hd.2.2.2.2.2.1
    have h24 : fx 24 = .int .i64 (n : Int) := hd.2.2.2.2.2.2.1
    have h25 : fx 25 = .int .i64 ((n : Int) / 16777216) := hd.2.2.2.2.2.2.2.1
    have h26 : fx 26 = .int .u8 x1 := hd.2.2.2.2.2.2.2.2.1
    have h27 : fx 27 = .int .i64 (n : Int) := hd.2.2.2.2.2.2.2.2.2.1
    have h28 : fx 28 = .int .i64 ((n : Int) / 65536) := hd.2.2.2.2.2.2.2.2.2.2.1
    have h29 : fx 29 = .int .u8 x2 := hd.2.2.2.2.2.2.2.2.2.2.2.1
    have h30 : fx 30 = .int .i64 (n : Int) := hd.2.2.2.2.2.2.2.2.2.2.2.2.1
    have h31 : fx 31 = .int .i64 ((n : Int) / 256) := hd.2.2.2.2.2.2.2.2.2.2.2.2.2.1
    have h32 : fx 32 = .int .u8 x3 := hd.2.2.2.2.2.2.2.2.2.2.2.2.2.2.1
    have h33 : fx 33 = .int .i64 (n : Int) := hd.2.2.2.2.2.2.2.2.2.2.2.2.2.2.2.1
    have h34 : fx 34 = .int .u8 x4 := hd.2.2.2.2.2.2.2.2.2.2.2.2.2.2.2.2.1
    have h36 : fx 36 = .pointer (some ⟨v, 0, none⟩) := hd.2.2.2.2.2.2.2.2.2.2.2.2.2.2.2.2.2.1
    have hP : (AppN w1 w1.heap.size 5 1 (5 + mb) ([.int .u8 (h : Int), .int .u8 x1, .int .u8 x2, .int .u8 x3, .int .u8 x4] ++ (bytesN (bitN bs) mb).map (.int .u8))) (fx 38) w' := hd.2.2.2.2.2.2.2.2.2.2.2.2.2.2.2.2.2.2.1
    refine endT_none ?_
    obtain ⟨A8, c8, e2, ho8, hk8⟩ := h2
    have H8 := Lib.hid ho8
    have HK8 := Lib.hid (HK1.out.trans hk8)
    rw [e2]
    clear hP hd ho8 hk8
    go_wp2_with fail
    go_ret
    refine ⟨A8, 5 + mb, c8, by rw [HMB.out], rfl, ?_, HK8.out⟩
    rw [← HMB.out]
    exact own_base H8.out HK1.out.size

theorem pcI_snoc (l : List (Int × Int)) (p : Int × Int) : pcI (l ++ [p]) = pcI l ++ [.int .i64 p.1, .int .i64 p.2] := by simp [pcI]
theorem pcI_append (l m : List (Int × Int)) : pcI (l ++ m) = pcI l ++ pcI m := by simp [pcI]
set_option maxRecDepth 100000 in
set_option maxHeartbeats 4000000 in
theorem pairs_any (A : Option Addr) (n c B : Nat) (l : List (Int × Int)) (w : World) (hx : Rd w B A (pcI l)) (hB : B ≤ w.heap.size) (hn : l.length = n) (hb : n ≤ 1000) :
    Calls Try.prog 12 #[.slice A n c] w fun e w' => ∃ (Ao : Option Addr) (co : Nat), e = .returned (.slice Ao n co) ∧ w'.ownsRow w.heap.size 71 2 (.slice Ao n co) n (pcI l) ∧ Kp [] w w' := by
  obtain ⟨i0, hi, hz0, hz1, hz2⟩ := info_parts Try.info_rpair
  have HX := Lib.hid hx
  have HB := Lib.hid hB
  have HN := Lib.hid hn; clear hn
  clear hx hB
  go_enter Try.func12, Try.ntmps12
  go_wp2_with fail
  go_loopw [3, 4] (fun v x wr => ∃ (k co : Nat) (Ao : Option Addr), x = .int .i64 (k : Int) ∧ v = .slice Ao k co ∧ k ≤ n ∧ Hid (wr.ownsRow w.heap.size 71 2 (.slice Ao k co) k (pcI (l.take k))) ∧ Hid (Kp [] w wr)) (fun _ x _ => n - (intOf x).toNat)
  case atStart => exact ⟨0, 0, none, rfl, rfl, by omega, Lib.hid (World.ownsRow_nil _ _ _ 2), Lib.hid (Kp.refl _ _)⟩
  case round =>
    obtain ⟨k, co, Ao, rfl, rfl, hk, HO, HK⟩ := hrel
    by_cases hlt : k < n
    · obtain ⟨a, b, ad, hxk, had, _, hcx, hcy⟩ := (HX.out.kp0 HK.out).ixI (k := k) (by rw [HN.out]; exact hlt)
      subst had
      have HT := Lib.hid (show pcI (l.take (k + 1)) = pcI (l.take k) ++ [.int .i64 a, .int .i64 b] by rw [g_take hxk, pcI_snoc])
      have HZ := Lib.hid HK.out.size
      have hi0 : (0 : Int) ≤ (k : Int) := by omega
      have hi1 : (k : Int) < (n : Int) := by omega
      clear hxk
      go_wp2_with fail
      refine wp_region_tail (by kernel_rfl) 14 26 13 24 [11, 12, 13, 14, 15, 16, 17, 18, 19, 20, 21, 22, 23, 24] [[], [], [], [12, 13], [12, 13, 14], [12, 13, 14, 15], [], [], [17, 18], [17, 18, 19], [17, 18, 19, 20], [12, 13, 14, 15, 16, 17, 18, 19, 20, 21], [12, 13, 14, 15, 16, 17, 18, 19, 20, 21, 22], [11, 12, 13, 14, 15, 16, 17, 18, 19, 20, 21, 22, 23]] [11, 12, 13, 14, 15, 16, 17, 18, 19, 20, 21, 22] [24] [.slice Ao k co, .slice (some ad) n c, .int .i64 (k : Int), .pointer (some (ad.add (k * 2))), .pointer (some (ad.add (k * 2))), .int .i64 a, .slice (some ad) n c, .int .i64 (k : Int), .pointer (some (ad.add (k * 2))), .pointer (some ⟨(ad.add (k * 2)).block, (ad.add (k * 2)).off + 1, none⟩), .int .i64 b, .agg #[.int .i64 a, .int .i64 b]] [(11, .eq (.slice Ao k co)), (12, .eq (.slice (some ad) n c)), (13, .eq (.int .i64 (k : Int))), (14, .eq (.pointer (some (ad.add (k * 2))))), (15, .eq (.pointer (some (ad.add (k * 2))))), (16, .eq (.int .i64 a)), (17, .eq (.slice (some ad) n c)), (18, .eq (.int .i64 (k : Int))), (19, .eq (.pointer (some (ad.add (k * 2))))), (20, .eq (.pointer (some ⟨(ad.add (k * 2)).block, (ad.add (k * 2)).off + 1, none⟩))), (21, .eq (.int .i64 b)), (22, .eq (.agg #[.int .i64 a, .int .i64 b])), (23, SFact.vals 1 ([.int .i64 a, .int .i64 b])), (24, (⟨AppP wr w.heap.size 71 2 (k + 1) (.slice Ao k co) (pcI (l.take k) ++ [.int .i64 a, .int .i64 b]), AppP.st⟩ : SFact))] rfl (by kernel_rfl) (by kernel_rfl) (by kernel_rfl) rfl rfl _ (fun x => by simp only [fillL, Nat.reduceAdd, Nat.reduceEqDiff, ↓reduceIte]; rfl) ?_ ?_ ?_
      · refine ⟨?_, ?_, ?_, ?_, ?_, ?_, ?_, ?_, ?_, ?_, ?_, ?_, ?_, ?_, trivial⟩
        · intro fx w' fa hk hd ev  -- 11 = Op.move (Operand.tmp 3)
          have e3 : fa.tmps[3]?.getD undef = .slice Ao k co := ev.old 3 rfl
          refine stepF_un rfl (fun K hK => ?_)
          exact stepF_val _ hK (run_move rfl e3 _) rfl
        · intro fx w' fa hk hd ev  -- 12 = Op.move (Operand.tmp 0)
          have e0 : fa.tmps[0]?.getD undef = .slice (some ad) n c := ev.old 0 rfl
          refine stepF_un rfl (fun K hK => ?_)
          exact stepF_val _ hK (run_move rfl e0 _) rfl
        · intro fx w' fa hk hd ev  -- 13 = Op.move (Operand.tmp 4)
          have e4 : fa.tmps[4]?.getD undef = .int .i64 (k : Int) := ev.old 4 rfl
          refine stepF_un rfl (fun K hK => ?_)
          exact stepF_val _ hK (run_move rfl e4 _) rfl
        · intro fx w' fa hk hd ev  -- 14 = Op.indexAddr 22 (Operand.tmp 12) (Operand.tmp 13)
          have h12 : fx 12 = .slice (some ad) n c := hd.1
          have e12 : fa.tmps[12]?.getD undef = .slice (some ad) n c := (ev.new 12 rfl).trans h12
          have h13 : fx 13 = .int .i64 (k : Int) := hd.2.1
          have e13 : fa.tmps[13]?.getD undef = .int .i64 (k : Int) := (ev.new 13 rfl).trans h13
          refine stepF_un rfl (fun K hK => ?_)
          go_simp
          exact hK _ _ rfl (Kp.refl _ _)
        · intro fx w' fa hk hd ev  -- 15 = Op.fieldAddr 24 (Operand.tmp 14) 0
          have h14 : fx 14 = .pointer (some (ad.add (k * 2))) := hd.2.2.1
          have e14 : fa.tmps[14]?.getD undef = .pointer (some (ad.add (k * 2))) := (ev.new 14 rfl).trans h14
          refine stepF_un rfl (fun K hK => ?_)
          go_simp
          exact hK _ _ rfl (Kp.refl _ _)
        · intro fx w' fa hk hd ev  -- 16 = Op.load 3 (Operand.tmp 15)
          have h15 : fx 15 = .pointer (some (ad.add (k * 2))) := hd.2.2.2.1
          have e15 : fa.tmps[15]?.getD undef = .pointer (some (ad.add (k * 2))) := (ev.new 15 rfl).trans h15
          refine stepF_un rfl (fun K hK => ?_)
          have hcx1 := hk.cell hcx (by simp)
          go_simp
          exact hK _ _ rfl (Kp.refl _ _)
        · intro fx w' fa hk hd ev  -- 17 = Op.move (Operand.tmp 0)
          have e0 : fa.tmps[0]?.getD undef = .slice (some ad) n c := ev.old 0 rfl
          refine stepF_un rfl (fun K hK => ?_)
          exact stepF_val _ hK (run_move rfl e0 _) rfl
        · intro fx w' fa hk hd ev  -- 18 = Op.move (Operand.tmp 4)
          have e4 : fa.tmps[4]?.getD undef = .int .i64 (k : Int) := ev.old 4 rfl
          refine stepF_un rfl (fun K hK => ?_)
          exact stepF_val _ hK (run_move rfl e4 _) rfl
        · intro fx w' fa hk hd ev  -- 19 = Op.indexAddr 22 (Operand.tmp 17) (Operand.tmp 18)
          have h17 : fx 17 = .slice (some ad) n c := hd.1
          have e17 : fa.tmps[17]?.getD undef = .slice (some ad) n c := (ev.new 17 rfl).trans h17
          have h18 : fx 18 = .int .i64 (k : Int) := hd.2.1
          have e18 : fa.tmps[18]?.getD undef = .int .i64 (k : Int) := (ev.new 18 rfl).trans h18
          refine stepF_un rfl (fun K hK => ?_)
          go_simp
          exact hK _ _ rfl (Kp.refl _ _)
        · intro fx w' fa hk hd ev  -- 20 = Op.fieldAddr 24 (Operand.tmp 19) 1
          have h19 : fx 19 = .pointer (some (ad.add (k * 2))) := hd.2.2.1
          have e19 : fa.tmps[19]?.getD undef = .pointer (some (ad.add (k * 2))) := (ev.new 19 rfl).trans h19
          refine stepF_un rfl (fun K hK => ?_)
          go_simp
          exact hK _ _ rfl (Kp.refl _ _)
        · intro fx w' fa hk hd ev  -- 21 = Op.load 3 (Operand.tmp 20)
          have h20 : fx 20 = .pointer (some ⟨(ad.add (k * 2)).block, (ad.add (k * 2)).off + 1, none⟩) := hd.2.2.2.1
          have e20 : fa.tmps[20]?.getD undef = .pointer (some ⟨(ad.add (k * 2)).block, (ad.add (k * 2)).off + 1, none⟩) := (ev.new 20 rfl).trans h20
          refine stepF_un rfl (fun K hK => ?_)
          have hcy1 := hk.cell hcy (by simp)
          go_simp
          exact hK _ _ rfl (Kp.refl _ _)
        · intro fx w' fa hk hd ev  -- 22 = Op.build 71 #[(0, Operand.tmp 16), (1, Operand.tmp 21)]
          have h16 : fx 16 = .int .i64 a := hd.2.2.2.2.1
          have e16 : fa.tmps[16]?.getD undef = .int .i64 a := (ev.new 16 rfl).trans h16
          have h21 : fx 21 = .int .i64 b := hd.2.2.2.2.2.2.2.2.2.1
          have e21 : fa.tmps[21]?.getD undef = .int .i64 b := (ev.new 21 rfl).trans h21
          refine stepF_un rfl (fun K hK => ?_)
          go_simp
          exact hK _ _ rfl (Kp.refl _ _)
        · intro fx w' fa hk hd ev  -- 23 = Op.buildSlice 34 1 #[(0, Operand.tmp 22)]
          have h22 : fx 22 = .agg #[.int .i64 a, .int .i64 b] := hd.2.2.2.2.2.2.2.2.2.2.1
          have e22 : fa.tmps[22]?.getD undef = .agg #[.int .i64 a, .int .i64 b] := (ev.new 22 rfl).trans h22
          refine stepF_un rfl (fun K hK => ?_)
          go_simp
          exact hK _ _ (vals_new w' ([.int .i64 a, .int .i64 b]) 71 1) ((Kp.refl _ _).alloc _)
        · exact trivial
      · intro o1 ho1 fx w' fa hk hd ev K hK  -- 24 = Op.call { callee := Callee.builtin Builtin.append, args := #
        obtain rfl := Option.some.inj ho1
        have h11 : fx 11 = .slice Ao k co := hd.1
        have e11 : fa.tmps[11]?.getD undef = .slice Ao k co := (ev.new 11 rfl).trans h11
        have h23 : (SFact.vals 1 ([.int .i64 a, .int .i64 b]) : SFact).p (fx 23) w' := hd.2.2.2.2.2.2.2.2.2.2.2.2.1
        obtain ⟨A23, c23, v23, hc23, hr23⟩ := h23
        have e23 : fa.tmps[23]?.getD undef = .slice A23 1 c23 := (ev.new 23 rfl).trans v23
        exact wp_append_app 11 23 34 rfl w.heap.size 71 i0 (.agg #[.int .i64 0, .int .i64 0]) 2 16 Try.underlying34 hi hz0 hz1 hz2 rfl (by decide) (.slice Ao k co) k _ e11 HO.out hk _ A23 1 c23 _ e23 rfl hr23 (by intro u hu; simp at hu; rcases hu with rfl | rfl <;> rfl) (by unfold maxLen; omega) (by omega) HZ.out hK
      · intro fx w' hd
        have h11 : fx 11 = .slice Ao k co := hd.1
        have h12 : fx 12 = .slice (some ad) n c := hd.2.1
        have h13 : fx 13 = .int .i64 (k : Int) := hd.2.2.1
        have h14 : fx 14 = .pointer (some (ad.add (k * 2))) := hd.2.2.2.1
        have h15 : fx 15 = .pointer (some (ad.add (k * 2))) := hd.2.2.2.2.1
        have h16 : fx 16 = .int .i64 a := hd.2.2.2.2.2.1
        have h17 : fx 17 = .slice (some ad) n c := hd.2.2.2.2.2.2.1
        have h18 : fx 18 = .int .i64 (k : Int) := hd.2.2.2.2.2.2.2.1
        have h19 : fx 19 = .pointer (some (ad.add (k * 2))) := hd.2.2.2.2.2.2.2.2.1
        have h20 : fx 20 = .pointer (some ⟨(ad.add (k * 2)).block, (ad.add (k * 2)).off + 1, none⟩) := hd.2.2.2.2.2.2.2.2.2.1
        have h21 : fx 21 = .int .i64 b := hd.2.2.2.2.2.2.2.2.2.2.1
        have h22 : fx 22 = .agg #[.int .i64 a, .int .i64 b] := hd.2.2.2.2.2.2.2.2.2.2.2.1
        have hP : (AppP wr w.heap.size 71 2 (k + 1) (.slice Ao k co) (pcI (l.take k) ++ [.int .i64 a, .int .i64 b])) (fx 24) w' := hd.2.2.2.2.2.2.2.2.2.2.2.2.1
        change Oper.wp _ _ _ _ _ _
        obtain ⟨A7, c7, e24, hown7, hk7, _⟩ := hP
        rw [← HT.out] at hown7
        have HO7 := Lib.hid hown7
        have HK7 := Lib.hid (HK.out.trans' hk7 (fun x hx => .inr (own_ge HO.out (mem_ownL.1 hx)).1))
        rw [e24]
        clear hd hown7 hk7
        go_simp
        go_wp2_with fail
        exact ⟨⟨k + 1, c7, A7, by go_num, rfl, by omega, HO7, HK7⟩, by simp [intOf]; omega⟩
    · obtain rfl : n = k := by omega
      rw [List.take_of_length_le (Nat.le_of_eq HN.out)] at HO
      go_wp2_with fail
      go_ret
      exact ⟨Ao, co, rfl, HO.out, HK.out⟩
set_option maxRecDepth 100000 in
set_option maxHeartbeats 4000000 in
theorem lentP_any (A : Option Addr) (n c B : Nat) (l : List (Int × Int)) (w : World) (hx : Rd w B A (pcI l)) (hn : l.length = n) (hb : n ≤ 1000) :
    Calls Try.prog 9 #[.slice A n c] w fun e w' => e = .returned (.slice (some ⟨w.heap.size, 0, none⟩) n (n + 2)) ∧ w'.ownsRow w.heap.size 24 2 (.slice (some ⟨w.heap.size, 0, none⟩) (n + 1) (n + 2)) (n + 1) (pcI l ++ [.int .i64 7, .int .i64 7]) ∧ Kp [] w w' := by
  obtain ⟨i0, hi, hz0, hz1, hz2⟩ := info_parts Try.info_pair
  have HX := Lib.hid hx
  have HN := Lib.hid hn; clear hn
  have HPL := Lib.hid (show (pcI l).length = n * 2 by rw [pcI_len, HN.out])
  clear hx
  have h1 : (0 : Int) ≤ (n : Int) := by omega
  have h2 : (n : Int) ≤ (n : Int) + 2 := by omega
  have h3 : n ≤ n + 2 := by omega
  go_enter Try.func9, Try.ntmps9
  go_wp2_with (first | (at_make; refine wpList_make_own _ rfl _ _ 22 rfl w.heap.size 24 i0 (.agg #[.int .i64 0, .int .i64 0]) 2 Try.underlying22 hi hz0 hz1 .i64 .i64 _ (n + 2) rfl rfl (by simp) (by rw [hz2]; omega) (by unfold maxLen; omega) (Nat.le_refl _) ?_; intro w1 hown1 hgrow1) | (at_builtin; refine wpList_append_fits_rd rfl (.tmp 6) (.tmp 7) 22 rfl w.heap.size 24 i0 2 Try.underlying22 hi hz1 (by omega) w.heap.size 0 (n + 2) [] rfl hown1 B A n c (pcI l) rfl HPL.out (HX.out.kp0 ((Kp.refl [] w).grown hgrow1 (by simp))) (oc_pcI _) (by omega) ?_; intro w2 hown2 hgrow2; simp only [Nat.zero_add, List.nil_append] at hown2) | (at_builtin; go_loud (refine wpList_append_fits_rd rfl (.tmp 8) (.tmp 10) 22 rfl w.heap.size 24 i0 2 Try.underlying22 hi hz1 (by omega) w.heap.size n (n + 2) _ rfl (hown2.alloc _) _ (some ⟨w2.heap.size, 0, none⟩) 1 1 [.int .i64 7, .int .i64 7] rfl rfl (rd_new' w2 #[.int .i64 7, .int .i64 7] 24 rfl) (by intro u hu; simp at hu; subst hu; rfl) (by omega) ?_); intro w3 hown3 hgrow3))
  go_ret
  exact ⟨rfl, hown3, ((((Kp.refl [] w).grown hgrow1 (by simp)).trans' ((Kp.refl [w.heap.size] w1).grown hgrow2 (by simp)) (by simp)).alloc _).trans' ((Kp.refl [w.heap.size] _).grown hgrow3 (by simp)) (by simp)⟩
end Go.Proofs.Ytldmabkilgpgcaa
namespace Go.Proofs.Ytldmabkilgpgcaa
open Go.RowKit

/-- Has, of any pair. -/
theorem thas_any (S : List Nat) (p q h k : Nat) (m : List (Nat × Nat)) (r cc : Int) (bs : List Bool) (w : World) (ht : TreeM w S p q h k bs true) (hbs : bs = levL h [m]) (h1 : 1 ≤ h) (h17 : h ≤ 17) (hm : ∀ x ∈ m, x.1 < 2 ^ h ∧ x.2 < 2 ^ h) (hr0 : -9223372036854775808 ≤ r) (hr1 : r ≤ 9223372036854775807) (hc0 : -9223372036854775808 ≤ cc) (hc1 : cc ≤ 9223372036854775807) :
    Calls Try.prog 32 #[.pointer (some ⟨p, 0, none⟩), .agg #[.int .i64 r, .int .i64 cc]] w fun e w' => e = .returned (.bool (decide ((r, cc) ∈ m.map upI))) ∧ Kp [] w w' := by
  cases ho : outI ((2 ^ h : Nat) : Int) r cc with
  | true =>
    have h9 := thas_out S p q h k r cc bs w ht h17 ho hr0 hr1 hc0 hc1
    have e9 : decide ((r, cc) ∈ m.map upI) = false := by
      rw [decide_eq_false_iff_not]
      intro hmm
      obtain ⟨x, hx, he⟩ := List.mem_map.1 hmm
      have hb := hm x hx
      unfold upI at he
      injection he with e1 e2
      unfold outI at ho
      simp only [Bool.not_eq_true', decide_eq_false_iff_not] at ho
      exact ho ⟨by omega, by rw [← e1]; exact Int.ofNat_lt.2 hb.1, by omega, by rw [← e2]; exact Int.ofNat_lt.2 hb.2⟩
    rw [e9]
    exact h9
  | false =>
    obtain ⟨o1, o2, o3, o4⟩ := out_in ho
    obtain ⟨a, rfl⟩ : ∃ a : Nat, r = (a : Int) := ⟨r.toNat, by omega⟩
    obtain ⟨b, rfl⟩ : ∃ b : Nat, cc = (b : Int) := ⟨cc.toNat, by omega⟩
    have h9 := thas_in S p q h k a b bs w ht h17 (Int.ofNat_lt.1 o2) (Int.ofNat_lt.1 o4)
    have e9 : hasW bs h 0 (a, b) = decide (((a : Int), (b : Int)) ∈ m.map upI) := by
      rw [hbs, Bool.eq_iff_iff, has_iff hm ⟨Int.ofNat_lt.1 o2, Int.ofNat_lt.1 o4⟩ h1, decide_eq_true_iff, mem_up]
    rw [e9] at h9
    exact h9
set_option maxRecDepth 100000 in
set_option maxHeartbeats 4000000 in
theorem same_any (S : List Nat) (p q h lo pr : Nat) (L m : List (Nat × Nat)) (bs : List Bool) (r cc node : Int) (w : World) (ht : TreeM w S p q h (kOf bs) bs true) (hr : RTree w lo pr h L bs) (hbs : bs = levL h [m]) (h1 : 1 ≤ h) (h17 : h ≤ 17) (hm : ∀ x ∈ m, x.1 < 2 ^ h ∧ x.2 < 2 ^ h) (hL : L.Nodup) (hLm : ∀ x, x ∈ L ↔ x ∈ m) (hml : bs.length ≤ 20000)
    (hr0 : -9223372036854775808 ≤ r) (hr1 : r ≤ 9223372036854775807) (hc0 : -9223372036854775808 ≤ cc) (hc1 : cc ≤ 9223372036854775807) (hn0 : -9223372036854775808 ≤ node) (hn1 : node ≤ 9223372036854775807) :
    Calls Try.prog 17 #[.pointer (some ⟨p, 0, none⟩), .pointer (some ⟨pr, 0, none⟩), .agg #[.int .i64 r, .int .i64 cc], .int .i64 node] w fun e w' => e = .returned (.bool true) ∧ Kp [] w w' := by
  obtain ⟨C, _, hCS, hCN, hCL⟩ := grow_tree h1 hm []
  have hLk : L.length = kOf bs := by
    rw [hbs, ← hCL]
    exact same_len hL hCN (fun x => by rw [hLm x, hCS x])
  have hmu : ∀ a b : Int, ((a, b) ∈ L.map upI ↔ (a, b) ∈ m.map upI) := fun a b => by
    simp only [List.mem_map]
    constructor
    · rintro ⟨x, hx, e⟩; exact ⟨x, (hLm x).1 hx, e⟩
    · rintro ⟨x, hx, e⟩; exact ⟨x, (hLm x).2 hx, e⟩
  clear hCS hCN hCL
  obtain ⟨K, hK⟩ : ∃ K, K = kOf bs := ⟨_, rfl⟩
  rw [← hK] at ht hLk
  have hKb : K ≤ 20000 := by rw [hK]; unfold kOf; have := List.count_le_length (a := true) (l := bs); omega
  clear hK
  obtain ⟨R, hR⟩ : ∃ R, R = decide ((r, cc) ∈ m.map upI) := ⟨_, rfl⟩
  obtain ⟨w1, hw1⟩ : ∃ w1, w1 = w.alloc (.cells #[.int .i64 r, .int .i64 cc] 24) := ⟨_, rfl⟩
  obtain ⟨g, hg⟩ : ∃ g, g = w.heap.size := ⟨_, rfl⟩
  have hk1 : Kp [] w w1 := by rw [hw1]; exact (Kp.refl [] w).alloc _
  have hb1 : Blk w1 g 24 [.int .i64 r, .int .i64 cc] := by rw [hw1, hg]; exact Blk.new w _ _
  have ht1 := ht.kp0 hk1
  have hr9 := hr.kp0 hk1
  obtain ⟨N, hN⟩ : ∃ N, N = bs.length / 4 := ⟨_, rfl⟩
  obtain ⟨z, hz⟩ : ∃ z, z = 5 + (bs.length + 7) / 8 := ⟨_, rfl⟩
  obtain ⟨s, hs⟩ : ∃ s, s = 2 ^ h := ⟨_, rfl⟩
  obtain ⟨AL, Ab, Ak, cL, cb, ck, q0, q1, q2, q3, q4, hcL, hrL, hrb, hrk, h4⟩ := hr9.cells
  rw [hLk] at q2
  rw [← hN] at q4 hrk h4
  rw [← hs] at q0
  have HSD := Lib.hid (show ∀ w', Kp [] w1 w' → Calls Try.prog 18 #[.pointer (some ⟨p, 0, none⟩)] w' fun e w'' => e = .returned (.int .i64 (s : Int)) ∧ Kp [] w' w'' from fun w' hk => by
    rw [hs]; exact (tside2_any S p q h K bs true w' (ht1.kp0 hk) h17).mono fun e w'' ⟨a, b⟩ => ⟨a, by rw [b]; exact Kp.refl _ _⟩)
  have HHT := Lib.hid (show ∀ w', Kp [] w1 w' → Calls Try.prog 21 #[.pointer (some ⟨p, 0, none⟩)] w' fun e w'' => e = .returned (.int .i64 (h : Int)) ∧ Kp [] w' w'' from fun w' hk =>
    (theight_any S p q h K bs true w' (ht1.kp0 hk)).mono fun e w'' ⟨a, b⟩ => ⟨a, by rw [b]; exact Kp.refl _ _⟩)
  have HLE := Lib.hid (show ∀ w', Kp [] w1 w' → Calls Try.prog 19 #[.pointer (some ⟨p, 0, none⟩)] w' fun e w'' => e = .returned (.int .i64 (K : Int)) ∧ Kp [] w' w'' from fun w' hk =>
    (tlen_any S p q h K bs true w' (ht1.kp0 hk)).mono fun e w'' ⟨a, b⟩ => ⟨a, by rw [b]; exact Kp.refl _ _⟩)
  have HND := Lib.hid (show ∀ w', Kp [] w1 w' → Calls Try.prog 20 #[.pointer (some ⟨p, 0, none⟩)] w' fun e w'' => e = .returned (.int .i64 (N : Int)) ∧ Kp [] w' w'' from fun w' hk => by
    rw [hN]; exact (tnodes_any S p q h K _ bs true w' (ht1.kp0 hk) rfl).mono fun e w'' ⟨a, b⟩ => ⟨a, by rw [b]; exact Kp.refl _ _⟩)
  obtain ⟨tb, htb⟩ : ∃ tb, tb = treeB h bs := ⟨_, rfl⟩
  have htl : tb.length = z := by rw [htb, hz]; unfold treeB headB; simp [bytesN]; omega
  have HBY := Lib.hid (show ∀ w', Kp [] w1 w' → Calls Try.prog 16 #[.pointer (some ⟨p, 0, none⟩)] w' fun e w'' => (∃ (A : Option Addr) (c : Nat), e = .returned (.slice A z c) ∧ z ≤ c ∧ Rd w'' w''.heap.size A (tb.map (.int .u8))) ∧ Kp [] w' w'' from fun w' hk =>
    (tbytes_any S p q h K bs w' (ht1.kp0 hk) h17).mono fun e w'' ⟨A, m6, c6, e6, a, ho, b⟩ => ⟨⟨A, c6, by rw [a, e6, hz], by obtain ⟨_, _, f, hle, _⟩ := own_form ho; injection f with _ _ f3; subst f3; omega, by rw [htb]; exact own_rd ho⟩, b⟩)
  have HRB := Lib.hid (show ∀ w', Kp [] w1 w' → Calls Try.prog 26 #[.pointer (some ⟨pr, 0, none⟩)] w' fun e w'' => (∃ (A : Option Addr) (c : Nat), e = .returned (.slice A z c) ∧ z ≤ c ∧ Rd w'' w''.heap.size A (tb.map (.int .u8))) ∧ Kp [] w' w'' from fun w' hk =>
    (rtbytes_any lo pr h L bs w' (hr9.kp0 hk) h17 (by omega)).mono fun e w'' ⟨A, m6, c6, e6, a, ho, b⟩ => ⟨⟨A, c6, by rw [a, e6, hz], by obtain ⟨_, _, f, hle, _⟩ := own_form ho; injection f with _ _ f3; subst f3; omega, by rw [htb]; exact own_rd ho⟩, b⟩)
  have HHA := Lib.hid (show ∀ w', Kp [] w1 w' → Calls Try.prog 32 #[.pointer (some ⟨p, 0, none⟩), .agg #[.int .i64 r, .int .i64 cc]] w' fun e w'' => e = .returned (.bool R) ∧ Kp [] w' w'' from fun w' hk => by
    rw [hR]; exact thas_any S p q h K m r cc bs w' (ht1.kp0 hk) hbs h1 h17 hm hr0 hr1 hc0 hc1)
  have HRH := Lib.hid (show ∀ w', Kp [] w1 w' → Calls Try.prog 47 #[.pointer (some ⟨pr, 0, none⟩), .agg #[.int .i64 r, .int .i64 cc]] w' fun e w'' => e = .returned (.bool R) ∧ Kp [] w' w'' from fun w' hk => by
    have h9 := rhas_any lo pr h L bs r cc w' (hr9.kp0 hk) (by omega)
    rw [show decide ((r, cc) ∈ L.map upI) = R by rw [hR, Bool.eq_iff_iff, decide_eq_true_iff, decide_eq_true_iff]; exact hmu r cc] at h9
    exact h9)
  have HKD := Lib.hid (show ∀ w' x, Kp [] w1 w' → Calls Try.prog 33 #[.pointer (some ⟨p, 0, none⟩), .int .i64 x] w' fun e w'' => e = .returned (.tuple #[kidsA bs x, thereA bs x]) ∧ Kp [] w' w'' from fun w' x hk => tkids_any S p q h K x bs w' (ht1.kp0 hk))
  have HRK := Lib.hid hrk
  have HN := Lib.hid hN
  have H4 := Lib.hid h4
  have HTL := Lib.hid htl
  have HBG := Lib.hid hb1
  have HK1 := Lib.hid hk1
  have HW1 := Lib.hid hw1
  have HG := Lib.hid hg
  have hNb : N ≤ 5000 := by omega
  have hzb : z ≤ 5000 := by omega
  have g0 : w1.cell? ⟨g, 0, none⟩ = some (.int .i64 r) := by rw [hb1.cell]; rfl
  have g1 : w1.cell? ⟨g, 1, none⟩ = some (.int .i64 cc) := by rw [hb1.cell]; rfl
  clear ht hr hm hL hLm hLk hmu hR hw1 hg hk1 hb1 ht1 hr9 hN hz hs hcL hrL hrb hrk h4 htb htl hbs q3
  go_enter Try.func17, Try.ntmps17
  go_wp2_with fail
  rw [← HW1.out, ← HG.out]
  clear HW1
  refine wp_region_facts (by kernel_rfl) 150 [15, 16, 17, 18, 19, 20, 21, 22, 23, 24, 25, 26, 27, 28, 29, 30, 31, 32, 33, 34, 35, 36, 37, 38, 39, 40, 41, 42, 43, 44, 45, 46, 47, 48, 49, 50, 51, 52, 53, 54, 55, 56, 57, 58, 59, 60, 61, 62, 63, 64, 65, 66, 67, 68, 69, 70, 71] [[], [15], [], [17], [18], [19], [16, 20], [21], [22], [23, 22], [22], [25, 22], [26, 22], [27, 22], [24, 28, 22], [22, 29], [30], [31], [32, 31], [31], [34, 31], [35, 31], [36, 31], [37, 31], [33, 38, 31], [31, 39], [40], [41], [42, 41], [41], [44, 41], [45, 41], [46, 41], [47, 41], [43, 48, 41], [41, 49], [50], [51], [52, 51], [51], [54, 51], [53, 55, 51], [56, 51], [51, 57], [58], [59], [59], [60, 61, 59], [59], [59], [64, 59], [59], [66, 59], [65, 67, 59], [63, 68, 59], [62, 69, 59], [59, 70]] (by kernel_rfl) (by kernel_rfl) rfl (factOf [(15, .eq (.pointer (some ⟨p, 0, none⟩))), (16, .eq (.int .i64 (s : Int))), (17, .eq (.pointer (some ⟨pr, 0, none⟩))), (18, .eq (.pointer (some ⟨pr, 0, none⟩))), (19, .eq (.pointer (some ⟨pr, 0, none⟩))), (20, .eq (.int .i64 (s : Int))), (21, .eq (.bool false)), (22, .eq (.bool false)), (23, .eq (.pointer (some ⟨p, 0, none⟩))), (24, .eq (.int .i64 (h : Int))), (25, .eq (.pointer (some ⟨pr, 0, none⟩))), (26, .eq (.pointer (some ⟨pr, 0, none⟩))), (27, .eq (.pointer (some ⟨pr, 1, none⟩))), (28, .eq (.int .i64 (h : Int))), (29, .eq (.bool false)), (30, .eq (.bool false)), (31, .eq (.bool false)), (32, .eq (.pointer (some ⟨p, 0, none⟩))), (33, .eq (.int .i64 (K : Int))), (34, .eq (.pointer (some ⟨pr, 0, none⟩))), (35, .eq (.pointer (some ⟨pr, 0, none⟩))), (36, .eq (.pointer (some ⟨pr, 2, none⟩))), (37, .eq (.slice AL K cL)), (38, .eq (.int .i64 (K : Int))), (39, .eq (.bool false)), (40, .eq (.bool false)), (41, .eq (.bool false)), (42, .eq (.pointer (some ⟨p, 0, none⟩))), (43, .eq (.int .i64 (N : Int))), (44, .eq (.pointer (some ⟨pr, 0, none⟩))), (45, .eq (.pointer (some ⟨pr, 0, none⟩))), (46, .eq (.pointer (some ⟨pr, 4, none⟩))), (47, .eq (.slice Ak N ck)), (48, .eq (.int .i64 (N : Int))), (49, .eq (.bool false)), (50, .eq (.bool false)), (51, .eq (.bool false)), (52, .eq (.pointer (some ⟨p, 0, none⟩))), (53, SFact.vals z (tb.map (.int .u8))), (54, .eq (.pointer (some ⟨pr, 0, none⟩))), (55, SFact.vals z (tb.map (.int .u8))), (56, .eq (.bool true)), (57, .eq (.bool false)), (58, .eq (.bool false)), (59, .eq (.bool false)), (60, .eq (.pointer (some ⟨p, 0, none⟩))), (61, .eq (.agg #[.int .i64 r, .int .i64 cc])), (62, .eq (.bool R)), (63, .eq (.pointer (some ⟨pr, 0, none⟩))), (64, .eq (.pointer (some ⟨g, 0, none⟩))), (65, .eq (.int .i64 r)), (66, .eq (.pointer (some ⟨g, 1, none⟩))), (67, .eq (.int .i64 cc)), (68, .eq (.agg #[.int .i64 r, .int .i64 cc])), (69, .eq (.bool R)), (70, .eq (.bool false)), (71, .eq (.bool false))]) (factOf_stable _) _ (fun x => by simp only [fillL, Nat.reduceAdd, Nat.reduceEqDiff, ↓reduceIte]; rfl) ?_ ?_
  · refine ⟨?_, ?_, ?_, ?_, ?_, ?_, ?_, ?_, ?_, ?_, ?_, ?_, ?_, ?_, ?_, ?_, ?_, ?_, ?_, ?_, ?_, ?_, ?_, ?_, ?_, ?_, ?_, ?_, ?_, ?_, ?_, ?_, ?_, ?_, ?_, ?_, ?_, ?_, ?_, ?_, ?_, ?_, ?_, ?_, ?_, ?_, ?_, ?_, ?_, ?_, ?_, ?_, ?_, ?_, ?_, ?_, ?_, trivial⟩
    · intro fx w' fa hk hd ev  -- 15 = Op.move (Operand.tmp 0)
      have e0 : fa.tmps[0]?.getD undef = .pointer (some ⟨p, 0, none⟩) := ev.old 0 rfl
      refine stepF_un rfl (fun K hK => ?_)
      exact stepF_val _ hK (run_move rfl e0 _) rfl
    · intro fx w' fa hk hd ev  -- 16 = Op.call { callee := Callee.value (Operand.func 18), args := 
      have h15 : fx 15 = .pointer (some ⟨p, 0, none⟩) := hd.1
      have e15 : fa.tmps[15]?.getD undef = .pointer (some ⟨p, 0, none⟩) := (ev.new 15 rfl).trans h15
      refine stepF_un rfl (fun K hK => ?_)
      go_simp
      refine (HSD.out w' hk).mono ?_
      rintro e w1 ⟨rfl, hk1⟩
      exact hK _ _ rfl hk1
    · intro fx w' fa hk hd ev  -- 17 = Op.move (Operand.tmp 1)
      have e1 : fa.tmps[1]?.getD undef = .pointer (some ⟨pr, 0, none⟩) := ev.old 1 rfl
      refine stepF_un rfl (fun K hK => ?_)
      exact stepF_val _ hK (run_move rfl e1 _) rfl
    · intro fx w' fa hk hd ev  -- 18 = Op.nilCheck (Operand.tmp 17)
      have h17 : fx 17 = .pointer (some ⟨pr, 0, none⟩) := hd.1
      have e17 : fa.tmps[17]?.getD undef = .pointer (some ⟨pr, 0, none⟩) := (ev.new 17 rfl).trans h17
      refine stepF_un rfl (fun K hK => ?_)
      go_simp
      exact hK _ _ rfl (Kp.refl _ _)
    · intro fx w' fa hk hd ev  -- 19 = Op.fieldAddr 75 (Operand.tmp 18) 0
      have h18 : fx 18 = .pointer (some ⟨pr, 0, none⟩) := hd.1
      have e18 : fa.tmps[18]?.getD undef = .pointer (some ⟨pr, 0, none⟩) := (ev.new 18 rfl).trans h18
      refine stepF_un rfl (fun K hK => ?_)
      go_simp
      exact hK _ _ rfl (Kp.refl _ _)
    · intro fx w' fa hk hd ev  -- 20 = Op.load 3 (Operand.tmp 19)
      have h19 : fx 19 = .pointer (some ⟨pr, 0, none⟩) := hd.1
      have e19 : fa.tmps[19]?.getD undef = .pointer (some ⟨pr, 0, none⟩) := (ev.new 19 rfl).trans h19
      refine stepF_un rfl (fun K hK => ?_)
      have q9 := hk.cell q0 (by simp)
      go_simp
      exact hK _ _ rfl (Kp.refl _ _)
    · intro fx w' fa hk hd ev  -- 21 = Op.binOp BinOp.neq 3 (Operand.tmp 16) (Operand.tmp 20) 3
      have h16 : fx 16 = .int .i64 (s : Int) := hd.1
      have e16 : fa.tmps[16]?.getD undef = .int .i64 (s : Int) := (ev.new 16 rfl).trans h16
      have h20 : fx 20 = .int .i64 (s : Int) := hd.2.1
      have e20 : fa.tmps[20]?.getD undef = .int .i64 (s : Int) := (ev.new 20 rfl).trans h20
      refine stepF_un rfl (fun K hK => ?_)
      go_simp
      exact hK _ _ rfl (Kp.refl _ _)
    · intro fx w' fa hk hd ev  -- 22 = Op.move (Operand.tmp 21)
      have h21 : fx 21 = .bool false := hd.1
      have e21 : fa.tmps[21]?.getD undef = .bool false := (ev.new 21 rfl).trans h21
      refine stepF_un rfl (fun K hK => ?_)
      exact stepF_val _ hK (run_move rfl e21 _) rfl
    · intro fx w' fa hk hd ev  -- 23 = Op.move (Operand.tmp 0)
      have h22 : fx 22 = .bool false := hd.1
      have e22 : fa.tmps[22]?.getD undef = .bool false := (ev.new 22 rfl).trans h22
      have e0 : fa.tmps[0]?.getD undef = .pointer (some ⟨p, 0, none⟩) := ev.old 0 rfl
      refine stepF_yes (i := 7) (g := 22) (b := false) rfl rfl rfl e22 (fun K hK => ?_)
      exact stepF_val _ hK (run_move rfl e0 _) rfl
    · intro fx w' fa hk hd ev  -- 24 = Op.call { callee := Callee.value (Operand.func 21), args := 
      have h23 : fx 23 = .pointer (some ⟨p, 0, none⟩) := hd.1
      have e23 : fa.tmps[23]?.getD undef = .pointer (some ⟨p, 0, none⟩) := (ev.new 23 rfl).trans h23
      have h22 : fx 22 = .bool false := hd.2.1
      have e22 : fa.tmps[22]?.getD undef = .bool false := (ev.new 22 rfl).trans h22
      refine stepF_yes (i := 7) (g := 22) (b := false) rfl rfl rfl e22 (fun K hK => ?_)
      go_simp
      refine (HHT.out w' hk).mono ?_
      rintro e w1 ⟨rfl, hk1⟩
      exact hK _ _ rfl hk1
    · intro fx w' fa hk hd ev  -- 25 = Op.move (Operand.tmp 1)
      have h22 : fx 22 = .bool false := hd.1
      have e22 : fa.tmps[22]?.getD undef = .bool false := (ev.new 22 rfl).trans h22
      have e1 : fa.tmps[1]?.getD undef = .pointer (some ⟨pr, 0, none⟩) := ev.old 1 rfl
      refine stepF_yes (i := 7) (g := 22) (b := false) rfl rfl rfl e22 (fun K hK => ?_)
      exact stepF_val _ hK (run_move rfl e1 _) rfl
    · intro fx w' fa hk hd ev  -- 26 = Op.nilCheck (Operand.tmp 25)
      have h25 : fx 25 = .pointer (some ⟨pr, 0, none⟩) := hd.1
      have e25 : fa.tmps[25]?.getD undef = .pointer (some ⟨pr, 0, none⟩) := (ev.new 25 rfl).trans h25
      have h22 : fx 22 = .bool false := hd.2.1
      have e22 : fa.tmps[22]?.getD undef = .bool false := (ev.new 22 rfl).trans h22
      refine stepF_yes (i := 7) (g := 22) (b := false) rfl rfl rfl e22 (fun K hK => ?_)
      go_simp
      exact hK _ _ rfl (Kp.refl _ _)
    · intro fx w' fa hk hd ev  -- 27 = Op.fieldAddr 75 (Operand.tmp 26) 1
      have h26 : fx 26 = .pointer (some ⟨pr, 0, none⟩) := hd.1
      have e26 : fa.tmps[26]?.getD undef = .pointer (some ⟨pr, 0, none⟩) := (ev.new 26 rfl).trans h26
      have h22 : fx 22 = .bool false := hd.2.1
      have e22 : fa.tmps[22]?.getD undef = .bool false := (ev.new 22 rfl).trans h22
      refine stepF_yes (i := 7) (g := 22) (b := false) rfl rfl rfl e22 (fun K hK => ?_)
      go_simp
      exact hK _ _ rfl (Kp.refl _ _)
    · intro fx w' fa hk hd ev  -- 28 = Op.load 3 (Operand.tmp 27)
      have h27 : fx 27 = .pointer (some ⟨pr, 1, none⟩) := hd.1
      have e27 : fa.tmps[27]?.getD undef = .pointer (some ⟨pr, 1, none⟩) := (ev.new 27 rfl).trans h27
      have h22 : fx 22 = .bool false := hd.2.1
      have e22 : fa.tmps[22]?.getD undef = .bool false := (ev.new 22 rfl).trans h22
      refine stepF_yes (i := 7) (g := 22) (b := false) rfl rfl rfl e22 (fun K hK => ?_)
      have q9 := hk.cell q1 (by simp)
      go_simp
      exact hK _ _ rfl (Kp.refl _ _)
    · intro fx w' fa hk hd ev  -- 29 = Op.binOp BinOp.neq 3 (Operand.tmp 24) (Operand.tmp 28) 3
      have h24 : fx 24 = .int .i64 (h : Int) := hd.1
      have e24 : fa.tmps[24]?.getD undef = .int .i64 (h : Int) := (ev.new 24 rfl).trans h24
      have h28 : fx 28 = .int .i64 (h : Int) := hd.2.1
      have e28 : fa.tmps[28]?.getD undef = .int .i64 (h : Int) := (ev.new 28 rfl).trans h28
      have h22 : fx 22 = .bool false := hd.2.2.1
      have e22 : fa.tmps[22]?.getD undef = .bool false := (ev.new 22 rfl).trans h22
      refine stepF_yes (i := 7) (g := 22) (b := false) rfl rfl rfl e22 (fun K hK => ?_)
      go_simp
      exact hK _ _ rfl (Kp.refl _ _)
    · intro fx w' fa hk hd ev  -- 30 = Op.pick (Operand.tmp 22) (Operand.const (Value.bool true)) (
      have h22 : fx 22 = .bool false := hd.1
      have e22 : fa.tmps[22]?.getD undef = .bool false := (ev.new 22 rfl).trans h22
      have h29 : fx 29 = .bool false := hd.2.1
      have e29 : fa.tmps[29]?.getD undef = .bool false := (ev.new 29 rfl).trans h29
      refine stepF_un rfl (fun K hK => ?_)
      go_simp
      exact hK _ _ rfl (Kp.refl _ _)
    · intro fx w' fa hk hd ev  -- 31 = Op.move (Operand.tmp 30)
      have h30 : fx 30 = .bool false := hd.1
      have e30 : fa.tmps[30]?.getD undef = .bool false := (ev.new 30 rfl).trans h30
      refine stepF_un rfl (fun K hK => ?_)
      exact stepF_val _ hK (run_move rfl e30 _) rfl
    · intro fx w' fa hk hd ev  -- 32 = Op.move (Operand.tmp 0)
      have h31 : fx 31 = .bool false := hd.1
      have e31 : fa.tmps[31]?.getD undef = .bool false := (ev.new 31 rfl).trans h31
      have e0 : fa.tmps[0]?.getD undef = .pointer (some ⟨p, 0, none⟩) := ev.old 0 rfl
      refine stepF_yes (i := 16) (g := 31) (b := false) rfl rfl rfl e31 (fun K hK => ?_)
      exact stepF_val _ hK (run_move rfl e0 _) rfl
    · intro fx w' fa hk hd ev  -- 33 = Op.call { callee := Callee.value (Operand.func 19), args := 
      have h32 : fx 32 = .pointer (some ⟨p, 0, none⟩) := hd.1
      have e32 : fa.tmps[32]?.getD undef = .pointer (some ⟨p, 0, none⟩) := (ev.new 32 rfl).trans h32
      have h31 : fx 31 = .bool false := hd.2.1
      have e31 : fa.tmps[31]?.getD undef = .bool false := (ev.new 31 rfl).trans h31
      refine stepF_yes (i := 16) (g := 31) (b := false) rfl rfl rfl e31 (fun K hK => ?_)
      go_simp
      refine (HLE.out w' hk).mono ?_
      rintro e w1 ⟨rfl, hk1⟩
      exact hK _ _ rfl hk1
    · intro fx w' fa hk hd ev  -- 34 = Op.move (Operand.tmp 1)
      have h31 : fx 31 = .bool false := hd.1
      have e31 : fa.tmps[31]?.getD undef = .bool false := (ev.new 31 rfl).trans h31
      have e1 : fa.tmps[1]?.getD undef = .pointer (some ⟨pr, 0, none⟩) := ev.old 1 rfl
      refine stepF_yes (i := 16) (g := 31) (b := false) rfl rfl rfl e31 (fun K hK => ?_)
      exact stepF_val _ hK (run_move rfl e1 _) rfl
    · intro fx w' fa hk hd ev  -- 35 = Op.nilCheck (Operand.tmp 34)
      have h34 : fx 34 = .pointer (some ⟨pr, 0, none⟩) := hd.1
      have e34 : fa.tmps[34]?.getD undef = .pointer (some ⟨pr, 0, none⟩) := (ev.new 34 rfl).trans h34
      have h31 : fx 31 = .bool false := hd.2.1
      have e31 : fa.tmps[31]?.getD undef = .bool false := (ev.new 31 rfl).trans h31
      refine stepF_yes (i := 16) (g := 31) (b := false) rfl rfl rfl e31 (fun K hK => ?_)
      go_simp
      exact hK _ _ rfl (Kp.refl _ _)
    · intro fx w' fa hk hd ev  -- 36 = Op.fieldAddr 75 (Operand.tmp 35) 2
      have h35 : fx 35 = .pointer (some ⟨pr, 0, none⟩) := hd.1
      have e35 : fa.tmps[35]?.getD undef = .pointer (some ⟨pr, 0, none⟩) := (ev.new 35 rfl).trans h35
      have h31 : fx 31 = .bool false := hd.2.1
      have e31 : fa.tmps[31]?.getD undef = .bool false := (ev.new 31 rfl).trans h31
      refine stepF_yes (i := 16) (g := 31) (b := false) rfl rfl rfl e31 (fun K hK => ?_)
      go_simp
      exact hK _ _ rfl (Kp.refl _ _)
    · intro fx w' fa hk hd ev  -- 37 = Op.load 34 (Operand.tmp 36)
      have h36 : fx 36 = .pointer (some ⟨pr, 2, none⟩) := hd.1
      have e36 : fa.tmps[36]?.getD undef = .pointer (some ⟨pr, 2, none⟩) := (ev.new 36 rfl).trans h36
      have h31 : fx 31 = .bool false := hd.2.1
      have e31 : fa.tmps[31]?.getD undef = .bool false := (ev.new 31 rfl).trans h31
      refine stepF_yes (i := 16) (g := 31) (b := false) rfl rfl rfl e31 (fun K hK => ?_)
      have q9 := hk.cell q2 (by simp)
      go_simp
      exact hK _ _ rfl (Kp.refl _ _)
    · intro fx w' fa hk hd ev  -- 38 = Op.call { callee := Callee.builtin Builtin.len, args := #[Op
      have h37 : fx 37 = .slice AL K cL := hd.1
      have e37 : fa.tmps[37]?.getD undef = .slice AL K cL := (ev.new 37 rfl).trans h37
      have h31 : fx 31 = .bool false := hd.2.1
      have e31 : fa.tmps[31]?.getD undef = .bool false := (ev.new 31 rfl).trans h31
      refine stepF_yes (i := 16) (g := 31) (b := false) rfl rfl rfl e31 (fun K hK => ?_)
      go_simp
      exact hK _ _ rfl (Kp.refl _ _)
    · intro fx w' fa hk hd ev  -- 39 = Op.binOp BinOp.neq 3 (Operand.tmp 33) (Operand.tmp 38) 3
      have h33 : fx 33 = .int .i64 (K : Int) := hd.1
      have e33 : fa.tmps[33]?.getD undef = .int .i64 (K : Int) := (ev.new 33 rfl).trans h33
      have h38 : fx 38 = .int .i64 (K : Int) := hd.2.1
      have e38 : fa.tmps[38]?.getD undef = .int .i64 (K : Int) := (ev.new 38 rfl).trans h38
      have h31 : fx 31 = .bool false := hd.2.2.1
      have e31 : fa.tmps[31]?.getD undef = .bool false := (ev.new 31 rfl).trans h31
      refine stepF_yes (i := 16) (g := 31) (b := false) rfl rfl rfl e31 (fun K hK => ?_)
      go_simp
      exact hK _ _ rfl (Kp.refl _ _)
    · intro fx w' fa hk hd ev  -- 40 = Op.pick (Operand.tmp 31) (Operand.const (Value.bool true)) (
      have h31 : fx 31 = .bool false := hd.1
      have e31 : fa.tmps[31]?.getD undef = .bool false := (ev.new 31 rfl).trans h31
      have h39 : fx 39 = .bool false := hd.2.1
      have e39 : fa.tmps[39]?.getD undef = .bool false := (ev.new 39 rfl).trans h39
      refine stepF_un rfl (fun K hK => ?_)
      go_simp
      exact hK _ _ rfl (Kp.refl _ _)
    · intro fx w' fa hk hd ev  -- 41 = Op.move (Operand.tmp 40)
      have h40 : fx 40 = .bool false := hd.1
      have e40 : fa.tmps[40]?.getD undef = .bool false := (ev.new 40 rfl).trans h40
      refine stepF_un rfl (fun K hK => ?_)
      exact stepF_val _ hK (run_move rfl e40 _) rfl
    · intro fx w' fa hk hd ev  -- 42 = Op.move (Operand.tmp 0)
      have h41 : fx 41 = .bool false := hd.1
      have e41 : fa.tmps[41]?.getD undef = .bool false := (ev.new 41 rfl).trans h41
      have e0 : fa.tmps[0]?.getD undef = .pointer (some ⟨p, 0, none⟩) := ev.old 0 rfl
      refine stepF_yes (i := 26) (g := 41) (b := false) rfl rfl rfl e41 (fun K hK => ?_)
      exact stepF_val _ hK (run_move rfl e0 _) rfl
    · intro fx w' fa hk hd ev  -- 43 = Op.call { callee := Callee.value (Operand.func 20), args := 
      have h42 : fx 42 = .pointer (some ⟨p, 0, none⟩) := hd.1
      have e42 : fa.tmps[42]?.getD undef = .pointer (some ⟨p, 0, none⟩) := (ev.new 42 rfl).trans h42
      have h41 : fx 41 = .bool false := hd.2.1
      have e41 : fa.tmps[41]?.getD undef = .bool false := (ev.new 41 rfl).trans h41
      refine stepF_yes (i := 26) (g := 41) (b := false) rfl rfl rfl e41 (fun K hK => ?_)
      go_simp
      refine (HND.out w' hk).mono ?_
      rintro e w1 ⟨rfl, hk1⟩
      exact hK _ _ rfl hk1
    · intro fx w' fa hk hd ev  -- 44 = Op.move (Operand.tmp 1)
      have h41 : fx 41 = .bool false := hd.1
      have e41 : fa.tmps[41]?.getD undef = .bool false := (ev.new 41 rfl).trans h41
      have e1 : fa.tmps[1]?.getD undef = .pointer (some ⟨pr, 0, none⟩) := ev.old 1 rfl
      refine stepF_yes (i := 26) (g := 41) (b := false) rfl rfl rfl e41 (fun K hK => ?_)
      exact stepF_val _ hK (run_move rfl e1 _) rfl
    · intro fx w' fa hk hd ev  -- 45 = Op.nilCheck (Operand.tmp 44)
      have h44 : fx 44 = .pointer (some ⟨pr, 0, none⟩) := hd.1
      have e44 : fa.tmps[44]?.getD undef = .pointer (some ⟨pr, 0, none⟩) := (ev.new 44 rfl).trans h44
      have h41 : fx 41 = .bool false := hd.2.1
      have e41 : fa.tmps[41]?.getD undef = .bool false := (ev.new 41 rfl).trans h41
      refine stepF_yes (i := 26) (g := 41) (b := false) rfl rfl rfl e41 (fun K hK => ?_)
      go_simp
      exact hK _ _ rfl (Kp.refl _ _)
    · intro fx w' fa hk hd ev  -- 46 = Op.fieldAddr 75 (Operand.tmp 45) 4
      have h45 : fx 45 = .pointer (some ⟨pr, 0, none⟩) := hd.1
      have e45 : fa.tmps[45]?.getD undef = .pointer (some ⟨pr, 0, none⟩) := (ev.new 45 rfl).trans h45
      have h41 : fx 41 = .bool false := hd.2.1
      have e41 : fa.tmps[41]?.getD undef = .bool false := (ev.new 41 rfl).trans h41
      refine stepF_yes (i := 26) (g := 41) (b := false) rfl rfl rfl e41 (fun K hK => ?_)
      go_simp
      exact hK _ _ rfl (Kp.refl _ _)
    · intro fx w' fa hk hd ev  -- 47 = Op.load 73 (Operand.tmp 46)
      have h46 : fx 46 = .pointer (some ⟨pr, 4, none⟩) := hd.1
      have e46 : fa.tmps[46]?.getD undef = .pointer (some ⟨pr, 4, none⟩) := (ev.new 46 rfl).trans h46
      have h41 : fx 41 = .bool false := hd.2.1
      have e41 : fa.tmps[41]?.getD undef = .bool false := (ev.new 41 rfl).trans h41
      refine stepF_yes (i := 26) (g := 41) (b := false) rfl rfl rfl e41 (fun K hK => ?_)
      have q9 := hk.cell q4 (by simp)
      go_simp
      exact hK _ _ rfl (Kp.refl _ _)
    · intro fx w' fa hk hd ev  -- 48 = Op.call { callee := Callee.builtin Builtin.len, args := #[Op
      have h47 : fx 47 = .slice Ak N ck := hd.1
      have e47 : fa.tmps[47]?.getD undef = .slice Ak N ck := (ev.new 47 rfl).trans h47
      have h41 : fx 41 = .bool false := hd.2.1
      have e41 : fa.tmps[41]?.getD undef = .bool false := (ev.new 41 rfl).trans h41
      refine stepF_yes (i := 26) (g := 41) (b := false) rfl rfl rfl e41 (fun K hK => ?_)
      go_simp
      exact hK _ _ rfl (Kp.refl _ _)
    · intro fx w' fa hk hd ev  -- 49 = Op.binOp BinOp.neq 3 (Operand.tmp 43) (Operand.tmp 48) 3
      have h43 : fx 43 = .int .i64 (N : Int) := hd.1
      have e43 : fa.tmps[43]?.getD undef = .int .i64 (N : Int) := (ev.new 43 rfl).trans h43
      have h48 : fx 48 = .int .i64 (N : Int) := hd.2.1
      have e48 : fa.tmps[48]?.getD undef = .int .i64 (N : Int) := (ev.new 48 rfl).trans h48
      have h41 : fx 41 = .bool false := hd.2.2.1
      have e41 : fa.tmps[41]?.getD undef = .bool false := (ev.new 41 rfl).trans h41
      refine stepF_yes (i := 26) (g := 41) (b := false) rfl rfl rfl e41 (fun K hK => ?_)
      go_simp
      exact hK _ _ rfl (Kp.refl _ _)
    · intro fx w' fa hk hd ev  -- 50 = Op.pick (Operand.tmp 41) (Operand.const (Value.bool true)) (
      have h41 : fx 41 = .bool false := hd.1
      have e41 : fa.tmps[41]?.getD undef = .bool false := (ev.new 41 rfl).trans h41
      have h49 : fx 49 = .bool false := hd.2.1
      have e49 : fa.tmps[49]?.getD undef = .bool false := (ev.new 49 rfl).trans h49
      refine stepF_un rfl (fun K hK => ?_)
      go_simp
      exact hK _ _ rfl (Kp.refl _ _)
    · intro fx w' fa hk hd ev  -- 51 = Op.move (Operand.tmp 50)
      have h50 : fx 50 = .bool false := hd.1
      have e50 : fa.tmps[50]?.getD undef = .bool false := (ev.new 50 rfl).trans h50
      refine stepF_un rfl (fun K hK => ?_)
      exact stepF_val _ hK (run_move rfl e50 _) rfl
    · intro fx w' fa hk hd ev  -- 52 = Op.move (Operand.tmp 0)
      have h51 : fx 51 = .bool false := hd.1
      have e51 : fa.tmps[51]?.getD undef = .bool false := (ev.new 51 rfl).trans h51
      have e0 : fa.tmps[0]?.getD undef = .pointer (some ⟨p, 0, none⟩) := ev.old 0 rfl
      refine stepF_yes (i := 36) (g := 51) (b := false) rfl rfl rfl e51 (fun K hK => ?_)
      exact stepF_val _ hK (run_move rfl e0 _) rfl
    · intro fx w' fa hk hd ev  -- 53 = Op.call { callee := Callee.value (Operand.func 16), args := 
      have h52 : fx 52 = .pointer (some ⟨p, 0, none⟩) := hd.1
      have e52 : fa.tmps[52]?.getD undef = .pointer (some ⟨p, 0, none⟩) := (ev.new 52 rfl).trans h52
      have h51 : fx 51 = .bool false := hd.2.1
      have e51 : fa.tmps[51]?.getD undef = .bool false := (ev.new 51 rfl).trans h51
      refine stepF_yes (i := 36) (g := 51) (b := false) rfl rfl rfl e51 (fun K hK => ?_)
      go_simp
      refine (HBY.out w' hk).mono ?_
      rintro e w2 ⟨⟨A2, c2, rfl, hle2, hr2⟩, hk2⟩
      exact hK _ _ ⟨A2, c2, rfl, hle2, hr2⟩ hk2
    · intro fx w' fa hk hd ev  -- 54 = Op.move (Operand.tmp 1)
      have h51 : fx 51 = .bool false := hd.1
      have e51 : fa.tmps[51]?.getD undef = .bool false := (ev.new 51 rfl).trans h51
      have e1 : fa.tmps[1]?.getD undef = .pointer (some ⟨pr, 0, none⟩) := ev.old 1 rfl
      refine stepF_yes (i := 36) (g := 51) (b := false) rfl rfl rfl e51 (fun K hK => ?_)
      exact stepF_val _ hK (run_move rfl e1 _) rfl
    · intro fx w' fa hk hd ev  -- 55 = Op.call { callee := Callee.value (Operand.func 26), args := 
      have h54 : fx 54 = .pointer (some ⟨pr, 0, none⟩) := hd.1
      have e54 : fa.tmps[54]?.getD undef = .pointer (some ⟨pr, 0, none⟩) := (ev.new 54 rfl).trans h54
      have h51 : fx 51 = .bool false := hd.2.1
      have e51 : fa.tmps[51]?.getD undef = .bool false := (ev.new 51 rfl).trans h51
      refine stepF_yes (i := 36) (g := 51) (b := false) rfl rfl rfl e51 (fun K hK => ?_)
      go_simp
      refine (HRB.out w' hk).mono ?_
      rintro e w2 ⟨⟨A2, c2, rfl, hle2, hr2⟩, hk2⟩
      exact hK _ _ ⟨A2, c2, rfl, hle2, hr2⟩ hk2
    · intro fx w' fa hk hd ev  -- 56 = Op.call { callee := Callee.value (Operand.func 29), args := 
      have h53 : (SFact.vals z (tb.map (.int .u8)) : SFact).p (fx 53) w' := hd.1
      obtain ⟨A53, c53, v53, hc53, hr53⟩ := h53
      have e53 : fa.tmps[53]?.getD undef = .slice A53 z c53 := (ev.new 53 rfl).trans v53
      have h55 : (SFact.vals z (tb.map (.int .u8)) : SFact).p (fx 55) w' := hd.2.1
      obtain ⟨A55, c55, v55, hc55, hr55⟩ := h55
      have e55 : fa.tmps[55]?.getD undef = .slice A55 z c55 := (ev.new 55 rfl).trans v55
      have h51 : fx 51 = .bool false := hd.2.2.1
      have e51 : fa.tmps[51]?.getD undef = .bool false := (ev.new 51 rfl).trans h51
      refine stepF_yes (i := 36) (g := 51) (b := false) rfl rfl rfl e51 (fun K hK => ?_)
      go_simp
      refine (sameB A53 A55 z z c53 c55 _ _ tb tb w' hr53 hr55 HTL.out HTL.out (by omega) (by omega)).mono ?_
      rw [decide_eq_true (rfl : tb = tb)]
      rintro e w2 ⟨rfl, hk2⟩
      exact hK _ _ rfl (hk2.kp [])
    · intro fx w' fa hk hd ev  -- 57 = Op.unOp UnOp.not 4 (Operand.tmp 56)
      have h56 : fx 56 = .bool true := hd.1
      have e56 : fa.tmps[56]?.getD undef = .bool true := (ev.new 56 rfl).trans h56
      have h51 : fx 51 = .bool false := hd.2.1
      have e51 : fa.tmps[51]?.getD undef = .bool false := (ev.new 51 rfl).trans h51
      refine stepF_yes (i := 36) (g := 51) (b := false) rfl rfl rfl e51 (fun K hK => ?_)
      go_simp
      exact hK _ _ rfl (Kp.refl _ _)
    · intro fx w' fa hk hd ev  -- 58 = Op.pick (Operand.tmp 51) (Operand.const (Value.bool true)) (
      have h51 : fx 51 = .bool false := hd.1
      have e51 : fa.tmps[51]?.getD undef = .bool false := (ev.new 51 rfl).trans h51
      have h57 : fx 57 = .bool false := hd.2.1
      have e57 : fa.tmps[57]?.getD undef = .bool false := (ev.new 57 rfl).trans h57
      refine stepF_un rfl (fun K hK => ?_)
      go_simp
      exact hK _ _ rfl (Kp.refl _ _)
    · intro fx w' fa hk hd ev  -- 59 = Op.move (Operand.tmp 58)
      have h58 : fx 58 = .bool false := hd.1
      have e58 : fa.tmps[58]?.getD undef = .bool false := (ev.new 58 rfl).trans h58
      refine stepF_un rfl (fun K hK => ?_)
      exact stepF_val _ hK (run_move rfl e58 _) rfl
    · intro fx w' fa hk hd ev  -- 60 = Op.move (Operand.tmp 0)
      have h59 : fx 59 = .bool false := hd.1
      have e59 : fa.tmps[59]?.getD undef = .bool false := (ev.new 59 rfl).trans h59
      have e0 : fa.tmps[0]?.getD undef = .pointer (some ⟨p, 0, none⟩) := ev.old 0 rfl
      refine stepF_yes (i := 44) (g := 59) (b := false) rfl rfl rfl e59 (fun K hK => ?_)
      exact stepF_val _ hK (run_move rfl e0 _) rfl
    · intro fx w' fa hk hd ev  -- 61 = Op.load 24 (Operand.tmp 6)
      have h59 : fx 59 = .bool false := hd.1
      have e59 : fa.tmps[59]?.getD undef = .bool false := (ev.new 59 rfl).trans h59
      have e6 : fa.tmps[6]?.getD undef = .pointer (some ⟨g, 0, none⟩) := ev.old 6 rfl
      refine stepF_yes (i := 44) (g := 59) (b := false) rfl rfl rfl e59 (fun K hK => ?_)
      have g09 := hk.cell g0 (by simp)
      have g19 := hk.cell g1 (by simp)
      go_simp
      exact hK _ _ rfl (Kp.refl _ _)
    · intro fx w' fa hk hd ev  -- 62 = Op.call { callee := Callee.value (Operand.func 32), args := 
      have h60 : fx 60 = .pointer (some ⟨p, 0, none⟩) := hd.1
      have e60 : fa.tmps[60]?.getD undef = .pointer (some ⟨p, 0, none⟩) := (ev.new 60 rfl).trans h60
      have h61 : fx 61 = .agg #[.int .i64 r, .int .i64 cc] := hd.2.1
      have e61 : fa.tmps[61]?.getD undef = .agg #[.int .i64 r, .int .i64 cc] := (ev.new 61 rfl).trans h61
      have h59 : fx 59 = .bool false := hd.2.2.1
      have e59 : fa.tmps[59]?.getD undef = .bool false := (ev.new 59 rfl).trans h59
      refine stepF_yes (i := 44) (g := 59) (b := false) rfl rfl rfl e59 (fun K hK => ?_)
      go_simp
      refine (HHA.out w' hk).mono ?_
      rintro e w1 ⟨rfl, hk1⟩
      exact hK _ _ rfl hk1
    · intro fx w' fa hk hd ev  -- 63 = Op.move (Operand.tmp 1)
      have h59 : fx 59 = .bool false := hd.1
      have e59 : fa.tmps[59]?.getD undef = .bool false := (ev.new 59 rfl).trans h59
      have e1 : fa.tmps[1]?.getD undef = .pointer (some ⟨pr, 0, none⟩) := ev.old 1 rfl
      refine stepF_yes (i := 44) (g := 59) (b := false) rfl rfl rfl e59 (fun K hK => ?_)
      exact stepF_val _ hK (run_move rfl e1 _) rfl
    · intro fx w' fa hk hd ev  -- 64 = Op.fieldAddr 24 (Operand.tmp 6) 0
      have h59 : fx 59 = .bool false := hd.1
      have e59 : fa.tmps[59]?.getD undef = .bool false := (ev.new 59 rfl).trans h59
      have e6 : fa.tmps[6]?.getD undef = .pointer (some ⟨g, 0, none⟩) := ev.old 6 rfl
      refine stepF_yes (i := 44) (g := 59) (b := false) rfl rfl rfl e59 (fun K hK => ?_)
      go_simp
      exact hK _ _ rfl (Kp.refl _ _)
    · intro fx w' fa hk hd ev  -- 65 = Op.load 3 (Operand.tmp 64)
      have h64 : fx 64 = .pointer (some ⟨g, 0, none⟩) := hd.1
      have e64 : fa.tmps[64]?.getD undef = .pointer (some ⟨g, 0, none⟩) := (ev.new 64 rfl).trans h64
      have h59 : fx 59 = .bool false := hd.2.1
      have e59 : fa.tmps[59]?.getD undef = .bool false := (ev.new 59 rfl).trans h59
      refine stepF_yes (i := 44) (g := 59) (b := false) rfl rfl rfl e59 (fun K hK => ?_)
      have g09 := hk.cell g0 (by simp)
      go_simp
      exact hK _ _ rfl (Kp.refl _ _)
    · intro fx w' fa hk hd ev  -- 66 = Op.fieldAddr 24 (Operand.tmp 6) 1
      have h59 : fx 59 = .bool false := hd.1
      have e59 : fa.tmps[59]?.getD undef = .bool false := (ev.new 59 rfl).trans h59
      have e6 : fa.tmps[6]?.getD undef = .pointer (some ⟨g, 0, none⟩) := ev.old 6 rfl
      refine stepF_yes (i := 44) (g := 59) (b := false) rfl rfl rfl e59 (fun K hK => ?_)
      go_simp
      exact hK _ _ rfl (Kp.refl _ _)
    · intro fx w' fa hk hd ev  -- 67 = Op.load 3 (Operand.tmp 66)
      have h66 : fx 66 = .pointer (some ⟨g, 1, none⟩) := hd.1
      have e66 : fa.tmps[66]?.getD undef = .pointer (some ⟨g, 1, none⟩) := (ev.new 66 rfl).trans h66
      have h59 : fx 59 = .bool false := hd.2.1
      have e59 : fa.tmps[59]?.getD undef = .bool false := (ev.new 59 rfl).trans h59
      refine stepF_yes (i := 44) (g := 59) (b := false) rfl rfl rfl e59 (fun K hK => ?_)
      have g19 := hk.cell g1 (by simp)
      go_simp
      exact hK _ _ rfl (Kp.refl _ _)
    · intro fx w' fa hk hd ev  -- 68 = Op.build 71 #[(0, Operand.tmp 65), (1, Operand.tmp 67)]
      have h65 : fx 65 = .int .i64 r := hd.1
      have e65 : fa.tmps[65]?.getD undef = .int .i64 r := (ev.new 65 rfl).trans h65
      have h67 : fx 67 = .int .i64 cc := hd.2.1
      have e67 : fa.tmps[67]?.getD undef = .int .i64 cc := (ev.new 67 rfl).trans h67
      have h59 : fx 59 = .bool false := hd.2.2.1
      have e59 : fa.tmps[59]?.getD undef = .bool false := (ev.new 59 rfl).trans h59
      refine stepF_yes (i := 44) (g := 59) (b := false) rfl rfl rfl e59 (fun K hK => ?_)
      go_simp
      exact hK _ _ rfl (Kp.refl _ _)
    · intro fx w' fa hk hd ev  -- 69 = Op.call { callee := Callee.value (Operand.func 47), args := 
      have h63 : fx 63 = .pointer (some ⟨pr, 0, none⟩) := hd.1
      have e63 : fa.tmps[63]?.getD undef = .pointer (some ⟨pr, 0, none⟩) := (ev.new 63 rfl).trans h63
      have h68 : fx 68 = .agg #[.int .i64 r, .int .i64 cc] := hd.2.1
      have e68 : fa.tmps[68]?.getD undef = .agg #[.int .i64 r, .int .i64 cc] := (ev.new 68 rfl).trans h68
      have h59 : fx 59 = .bool false := hd.2.2.1
      have e59 : fa.tmps[59]?.getD undef = .bool false := (ev.new 59 rfl).trans h59
      refine stepF_yes (i := 44) (g := 59) (b := false) rfl rfl rfl e59 (fun K hK => ?_)
      go_simp
      refine (HRH.out w' hk).mono ?_
      rintro e w1 ⟨rfl, hk1⟩
      exact hK _ _ rfl hk1
    · intro fx w' fa hk hd ev  -- 70 = Op.binOp BinOp.neq 4 (Operand.tmp 62) (Operand.tmp 69) 4
      have h62 : fx 62 = .bool R := hd.1
      have e62 : fa.tmps[62]?.getD undef = .bool R := (ev.new 62 rfl).trans h62
      have h69 : fx 69 = .bool R := hd.2.1
      have e69 : fa.tmps[69]?.getD undef = .bool R := (ev.new 69 rfl).trans h69
      have h59 : fx 59 = .bool false := hd.2.2.1
      have e59 : fa.tmps[59]?.getD undef = .bool false := (ev.new 59 rfl).trans h59
      refine stepF_yes (i := 44) (g := 59) (b := false) rfl rfl rfl e59 (fun K hK => ?_)
      go_simp
      exact hK _ _ rfl (Kp.refl _ _)
    · intro fx w' fa hk hd ev  -- 71 = Op.pick (Operand.tmp 59) (Operand.const (Value.bool true)) (
      have h59 : fx 59 = .bool false := hd.1
      have e59 : fa.tmps[59]?.getD undef = .bool false := (ev.new 59 rfl).trans h59
      have h70 : fx 70 = .bool false := hd.2.1
      have e70 : fa.tmps[70]?.getD undef = .bool false := (ev.new 70 rfl).trans h70
      refine stepF_un rfl (fun K hK => ?_)
      go_simp
      exact hK _ _ rfl (Kp.refl _ _)
  · intro fx w' hk hd
    have h71 : fx 71 = .bool false := hd.2.2.2.2.2.2.2.2.2.2.2.2.2.2.2.2.2.2.2.2.2.2.2.2.2.2.2.2.2.2.2.2.2.2.2.2.2.2.2.2.2.2.2.2.2.2.2.2.2.2.2.2.2.2.2.2.1
    rw [h71]
    clear hd HSD HHT HLE HND HBY HRB HHA HRH HTL g0 g1 q0 q1 q2 HBG
    obtain ⟨w2, hw2⟩ : ∃ w2, w2 = w' := ⟨_, rfl⟩
    have HK2 := Lib.hid hk
    clear hk
    go_wp2_with fail
    rw [← hw2] at HK2 ⊢
    clear hw2
    have q42 := HK2.out.cell q4 (by simp)
    have hwr : IntKind.wrap .i64 ((N : Int) - 1) = (N : Int) - 1 := by rw [IntKind.wrap_i64]; omega
    refine wp_region_facts (by kernel_rfl) 150 [9, 72, 73, 74, 75, 76, 77, 78, 79, 80, 81, 82, 83, 84] [[], [], [73], [74], [75], [76], [77], [], [79], [80], [81], [82], [72, 78, 83], [84]] (by kernel_rfl) (by kernel_rfl) rfl (factOf [(72, .eq (.int .i64 node)), (73, .eq (.pointer (some ⟨pr, 0, none⟩))), (74, .eq (.pointer (some ⟨pr, 0, none⟩))), (75, .eq (.pointer (some ⟨pr, 4, none⟩))), (76, .eq (.slice Ak N ck)), (77, .eq (.int .i64 (N : Int))), (78, .eq (.int .i64 ((N : Int) - 1))), (79, .eq (.pointer (some ⟨pr, 0, none⟩))), (80, .eq (.pointer (some ⟨pr, 0, none⟩))), (81, .eq (.pointer (some ⟨pr, 4, none⟩))), (82, .eq (.slice Ak N ck)), (83, .eq (.int .i64 (N : Int))), (84, SFact.vals 6 ([.int .i64 node, .int .i64 (-1), .int .i64 0, .int .i64 1, .int .i64 ((N : Int) - 1), .int .i64 (N : Int)])), (9, SFact.vals 6 ([.int .i64 node, .int .i64 (-1), .int .i64 0, .int .i64 1, .int .i64 ((N : Int) - 1), .int .i64 (N : Int)]))]) (factOf_stable _) _ (fun x => by simp only [fillL, Nat.reduceAdd, Nat.reduceEqDiff, ↓reduceIte]; rfl) ?_ ?_
    · refine ⟨?_, ?_, ?_, ?_, ?_, ?_, ?_, ?_, ?_, ?_, ?_, ?_, ?_, ?_, trivial⟩
      · intro fx w' fa hk hd ev  -- 72 = Op.move (Operand.tmp 3)
        have e3 : fa.tmps[3]?.getD undef = .int .i64 node := ev.old 3 rfl
        refine stepF_un rfl (fun K hK => ?_)
        exact stepF_val _ hK (run_move rfl e3 _) rfl
      · intro fx w' fa hk hd ev  -- 73 = Op.move (Operand.tmp 1)
        have e1 : fa.tmps[1]?.getD undef = .pointer (some ⟨pr, 0, none⟩) := ev.old 1 rfl
        refine stepF_un rfl (fun K hK => ?_)
        exact stepF_val _ hK (run_move rfl e1 _) rfl
      · intro fx w' fa hk hd ev  -- 74 = Op.nilCheck (Operand.tmp 73)
        have h73 : fx 73 = .pointer (some ⟨pr, 0, none⟩) := hd.1
        have e73 : fa.tmps[73]?.getD undef = .pointer (some ⟨pr, 0, none⟩) := (ev.new 73 rfl).trans h73
        refine stepF_un rfl (fun K hK => ?_)
        go_simp
        exact hK _ _ rfl (Kp.refl _ _)
      · intro fx w' fa hk hd ev  -- 75 = Op.fieldAddr 75 (Operand.tmp 74) 4
        have h74 : fx 74 = .pointer (some ⟨pr, 0, none⟩) := hd.1
        have e74 : fa.tmps[74]?.getD undef = .pointer (some ⟨pr, 0, none⟩) := (ev.new 74 rfl).trans h74
        refine stepF_un rfl (fun K hK => ?_)
        go_simp
        exact hK _ _ rfl (Kp.refl _ _)
      · intro fx w' fa hk hd ev  -- 76 = Op.load 73 (Operand.tmp 75)
        have h75 : fx 75 = .pointer (some ⟨pr, 4, none⟩) := hd.1
        have e75 : fa.tmps[75]?.getD undef = .pointer (some ⟨pr, 4, none⟩) := (ev.new 75 rfl).trans h75
        refine stepF_un rfl (fun K hK => ?_)
        have q9 := hk.cell q42 (by simp)
        go_simp
        exact hK _ _ rfl (Kp.refl _ _)
      · intro fx w' fa hk hd ev  -- 77 = Op.call { callee := Callee.builtin Builtin.len, args := #[Op
        have h76 : fx 76 = .slice Ak N ck := hd.1
        have e76 : fa.tmps[76]?.getD undef = .slice Ak N ck := (ev.new 76 rfl).trans h76
        refine stepF_un rfl (fun K hK => ?_)
        go_simp
        exact hK _ _ rfl (Kp.refl _ _)
      · intro fx w' fa hk hd ev  -- 78 = Op.binOp BinOp.sub 3 (Operand.tmp 77) (Operand.const (Value.
        have h77 : fx 77 = .int .i64 (N : Int) := hd.1
        have e77 : fa.tmps[77]?.getD undef = .int .i64 (N : Int) := (ev.new 77 rfl).trans h77
        refine stepF_un rfl (fun K hK => ?_)
        go_simp
        exact hK _ _ rfl (Kp.refl _ _)
      · intro fx w' fa hk hd ev  -- 79 = Op.move (Operand.tmp 1)
        have e1 : fa.tmps[1]?.getD undef = .pointer (some ⟨pr, 0, none⟩) := ev.old 1 rfl
        refine stepF_un rfl (fun K hK => ?_)
        exact stepF_val _ hK (run_move rfl e1 _) rfl
      · intro fx w' fa hk hd ev  -- 80 = Op.nilCheck (Operand.tmp 79)
        have h79 : fx 79 = .pointer (some ⟨pr, 0, none⟩) := hd.1
        have e79 : fa.tmps[79]?.getD undef = .pointer (some ⟨pr, 0, none⟩) := (ev.new 79 rfl).trans h79
        refine stepF_un rfl (fun K hK => ?_)
        go_simp
        exact hK _ _ rfl (Kp.refl _ _)
      · intro fx w' fa hk hd ev  -- 81 = Op.fieldAddr 75 (Operand.tmp 80) 4
        have h80 : fx 80 = .pointer (some ⟨pr, 0, none⟩) := hd.1
        have e80 : fa.tmps[80]?.getD undef = .pointer (some ⟨pr, 0, none⟩) := (ev.new 80 rfl).trans h80
        refine stepF_un rfl (fun K hK => ?_)
        go_simp
        exact hK _ _ rfl (Kp.refl _ _)
      · intro fx w' fa hk hd ev  -- 82 = Op.load 73 (Operand.tmp 81)
        have h81 : fx 81 = .pointer (some ⟨pr, 4, none⟩) := hd.1
        have e81 : fa.tmps[81]?.getD undef = .pointer (some ⟨pr, 4, none⟩) := (ev.new 81 rfl).trans h81
        refine stepF_un rfl (fun K hK => ?_)
        have q9 := hk.cell q42 (by simp)
        go_simp
        exact hK _ _ rfl (Kp.refl _ _)
      · intro fx w' fa hk hd ev  -- 83 = Op.call { callee := Callee.builtin Builtin.len, args := #[Op
        have h82 : fx 82 = .slice Ak N ck := hd.1
        have e82 : fa.tmps[82]?.getD undef = .slice Ak N ck := (ev.new 82 rfl).trans h82
        refine stepF_un rfl (fun K hK => ?_)
        go_simp
        exact hK _ _ rfl (Kp.refl _ _)
      · intro fx w' fa hk hd ev  -- 84 = Op.buildSlice 83 6 #[(0, Operand.tmp 72), (1, Operand.const 
        have h72 : fx 72 = .int .i64 node := hd.1
        have e72 : fa.tmps[72]?.getD undef = .int .i64 node := (ev.new 72 rfl).trans h72
        have h78 : fx 78 = .int .i64 ((N : Int) - 1) := hd.2.1
        have e78 : fa.tmps[78]?.getD undef = .int .i64 ((N : Int) - 1) := (ev.new 78 rfl).trans h78
        have h83 : fx 83 = .int .i64 (N : Int) := hd.2.2.1
        have e83 : fa.tmps[83]?.getD undef = .int .i64 (N : Int) := (ev.new 83 rfl).trans h83
        refine stepF_un rfl (fun K hK => ?_)
        go_simp
        exact hK _ _ (vals_new w' ([.int .i64 node, .int .i64 (-1), .int .i64 0, .int .i64 1, .int .i64 ((N : Int) - 1), .int .i64 (N : Int)]) 3 6) ((Kp.refl _ _).alloc _)
      · intro fx w' fa hk hd ev  -- 9 = Op.assign (Operand.tmp 84)
        have h84 : (SFact.vals 6 ([.int .i64 node, .int .i64 (-1), .int .i64 0, .int .i64 1, .int .i64 ((N : Int) - 1), .int .i64 (N : Int)]) : SFact).p (fx 84) w' := hd.1
        refine stepF_un rfl (fun K hK => ?_)
        exact stepF_val _ hK (run_assign rfl (ev.new 84 rfl) _) h84
    · intro fx w' hk hd
      have h9 : (SFact.vals 6 ([.int .i64 node, .int .i64 (-1), .int .i64 0, .int .i64 1, .int .i64 ((N : Int) - 1), .int .i64 (N : Int)]) : SFact).p (fx 9) w' := hd.1
      obtain ⟨A9, c9, e9, hc9, hr9⟩ := h9
      rw [e9]
      have HX9 := Lib.hid (show Rd w' w'.heap.size A9 ([node, -1, 0, 1, (N : Int) - 1, (N : Int)].map (.int .i64)) from hr9)
      have HXB := Lib.hid (show ∀ x ∈ [node, -1, 0, 1, (N : Int) - 1, (N : Int)], -9223372036854775808 ≤ x ∧ x ≤ 9223372036854775807 from by intro x hx; simp at hx; rcases hx with rfl | rfl | rfl | rfl | rfl | rfl <;> omega)
      have HK3 := Lib.hid (HK2.out.trans hk)
      obtain ⟨w3, hw3⟩ : ∃ w3, w3 = w' := ⟨_, rfl⟩
      clear hd hr9 e9 hk q42 HK2 hwr
      rw [← hw3] at HX9 HK3 ⊢
      clear hw3
      go_wp2_with fail
      go_loopw [10] (fun v wr => ∃ i : Nat, v = .int .i64 (i : Int) ∧ i ≤ 6 ∧ Hid (Kp [] w3 wr)) (fun v _ => 6 - (intOf v).toNat)
      case atStart => exact ⟨0, rfl, by omega, Lib.hid (Kp.refl _ _)⟩
      case round =>
        obtain ⟨i, rfl, hi, HKR⟩ := hrel
        by_cases hlt : i < 6
        · obtain ⟨x, ad, hxi, rfl, _, hcx⟩ := (HX9.out.kp0 HKR.out).ix (i := i) (by simpa using hlt)
          have hxb := HXB.out x (List.mem_of_getElem? hxi)
          obtain ⟨hx0, hx1⟩ := hxb
          have hi0 : (0 : Int) ≤ (i : Int) := by omega
          have hi1 : (i : Int) < 6 := by omega
          obtain ⟨k0, hk0⟩ : ∃ k0 : Int, k0 = ((kidV bs x 0 : Nat) : Int) := ⟨_, rfl⟩
          obtain ⟨k1, hk1⟩ : ∃ k1 : Int, k1 = ((kidV bs x 1 : Nat) : Int) := ⟨_, rfl⟩
          obtain ⟨k2, hk2⟩ : ∃ k2 : Int, k2 = ((kidV bs x 2 : Nat) : Int) := ⟨_, rfl⟩
          obtain ⟨k3, hk3⟩ : ∃ k3 : Int, k3 = ((kidV bs x 3 : Nat) : Int) := ⟨_, rfl⟩
          obtain ⟨b0, hb0⟩ : ∃ b0, b0 = thereV bs x 0 := ⟨_, rfl⟩
          obtain ⟨b1, hb1⟩ : ∃ b1, b1 = thereV bs x 1 := ⟨_, rfl⟩
          obtain ⟨b2, hb2⟩ : ∃ b2, b2 = thereV bs x 2 := ⟨_, rfl⟩
          obtain ⟨b3, hb3⟩ : ∃ b3, b3 = thereV bs x 3 := ⟨_, rfl⟩
          have HKX := Lib.hid (show Calls Try.prog 33 #[.pointer (some ⟨p, 0, none⟩), .int .i64 x] wr fun e w'' => e = .returned (.tuple #[.agg #[.int .i64 k0, .int .i64 k1, .int .i64 k2, .int .i64 k3], .agg #[.bool b0, .bool b1, .bool b2, .bool b3]]) ∧ Kp [] wr w'' from by
            have h9 := HKD.out wr x (HK3.out.trans HKR.out)
            rw [hk0, hk1, hk2, hk3, hb0, hb1, hb2, hb3]
            exact h9)
          have HKV := Lib.hid (show ∀ q, q < 4 → ∃ (W k : Int) (b : Bool), [k0, k1, k2, k3][q]? = some k ∧ [b0, b1, b2, b3][q]? = some b ∧ W = wantV bs x q ∧ b = decide (-2 < W) ∧ k = max W 0 from fun q hq => by
            rcases (show q = 0 ∨ q = 1 ∨ q = 2 ∨ q = 3 by omega) with rfl | rfl | rfl | rfl
            · exact ⟨_, k0, b0, rfl, rfl, rfl, by rw [hb0]; exact want_there bs x 0, by rw [hk0]; exact want_kid bs x 0⟩
            · exact ⟨_, k1, b1, rfl, rfl, rfl, by rw [hb1]; exact want_there bs x 1, by rw [hk1]; exact want_kid bs x 1⟩
            · exact ⟨_, k2, b2, rfl, rfl, rfl, by rw [hb2]; exact want_there bs x 2, by rw [hk2]; exact want_kid bs x 2⟩
            · exact ⟨_, k3, b3, rfl, rfl, rfl, by rw [hb3]; exact want_there bs x 3, by rw [hk3]; exact want_kid bs x 3⟩)
          clear hk0 hk1 hk2 hk3 hb0 hb1 hb2 hb3 hxi
          go_wp2_with fail
          refine HKX.out.mono ?_
          rintro e w4 ⟨rfl, hk4⟩
          have HK4 := Lib.hid (HKR.out.trans hk4)
          have hcx4 := hk4.cell hcx (by simp)
          clear hk4 hcx HKX HKR
          obtain ⟨G, hG⟩ : ∃ G, G = w4.heap.size := ⟨_, rfl⟩
          obtain ⟨w5, hw5⟩ : ∃ w5, w5 = ((w4.alloc (.cells #[.int .i64 k0, .int .i64 k1, .int .i64 k2, .int .i64 k3] 57)).alloc (.cells #[.bool b0, .bool b1, .bool b2, .bool b3] 58)).alloc (.cells #[.int .i64 (-2), .int .i64 (-2), .int .i64 (-2), .int .i64 (-2)] 57) := ⟨_, rfl⟩
          have hk5 : Kp [] w4 w5 := by rw [hw5]; exact (((Kp.refl [] w4).alloc _).alloc _).alloc _
          have b5 : Blk w5 G 57 [.int .i64 k0, .int .i64 k1, .int .i64 k2, .int .i64 k3] := by rw [hw5, hG]; exact ((Blk.new w4 _ _).alloc _).alloc _
          have b6 : Blk w5 (G + 1) 58 [.bool b0, .bool b1, .bool b2, .bool b3] := by
            rw [hw5, hG]
            have := (Blk.new (w4.alloc (.cells #[.int .i64 k0, .int .i64 k1, .int .i64 k2, .int .i64 k3] 57)) 58 [.bool b0, .bool b1, .bool b2, .bool b3]).alloc (.cells #[.int .i64 (-2), .int .i64 (-2), .int .i64 (-2), .int .i64 (-2)] 57)
            simpa using this
          have b7 : Blk w5 (G + 2) 57 [.int .i64 (-2), .int .i64 (-2), .int .i64 (-2), .int .i64 (-2)] := by
            rw [hw5, hG]
            have := Blk.new ((w4.alloc (.cells #[.int .i64 k0, .int .i64 k1, .int .i64 k2, .int .i64 k3] 57)).alloc (.cells #[.bool b0, .bool b1, .bool b2, .bool b3] 58)) 57 [.int .i64 (-2), .int .i64 (-2), .int .i64 (-2), .int .i64 (-2)]
            simpa using this
          have HGW := Lib.hid (show w3.heap.size ≤ G from by rw [hG]; exact HK4.out.size)
          have HK5 := Lib.hid (HK4.out.trans hk5)
          have hcx5 := hk5.cell hcx4 (by simp)
          have B5 := Lib.hid b5
          have B6 := Lib.hid b6
          have B7 := Lib.hid b7
          have HW5 := Lib.hid hw5
          have HGE := Lib.hid hG
          clear hk5 b5 b6 b7 hw5 hG hcx4 HK4
          go_upto_region 9 with (fail)
          rw [← HW5.out, ← HGE.out]
          clear HW5 HGE
          have hq45 : w5.cell? ⟨pr, 4, none⟩ = some (.slice Ak N ck) := (HK3.out.trans HK5.out).cell q4 (by simp)
          have HRK5 := Lib.hid (HRK.out.kp0 (HK3.out.trans HK5.out))
          by_cases hin : 0 ≤ x ∧ x < (N : Int)
          · obtain ⟨hin0, hin1⟩ := hin
            obtain ⟨y, rfl⟩ : ∃ y : Nat, x = (y : Int) := ⟨x.toNat, by omega⟩
            have hyN : y < N := by omega
            have hwant := Lib.hid (show ∀ q, q < 4 → ∃ ak, Ak = some ak ∧ w5.cell? (ak.add (y * 4 + q)) = some (.int .i64 (wantV bs (y : Int) q)) from fun q hq => by
              have hlt4 : 4 * y + q < 4 * N := by omega
              have hget : (kidsF bs N (4 * N))[y * 4 + q]? = some (wantV bs (y : Int) q) := by
                unfold kidsF wantV
                rw [List.getElem?_map, List.getElem?_range (by omega), ← HN.out, if_pos ⟨by omega, by omega⟩, Int.toNat_natCast]
                simp only [Option.map_some]
                rw [show y * 4 + q = 4 * y + q by omega]
              obtain ⟨ak, e, _, hc⟩ := HRK5.out (y * 4 + q) (.int .i64 (wantV bs (y : Int) q)) (by rw [List.getElem?_map, hget]; rfl)
              exact ⟨ak, e, hc⟩)
            obtain ⟨ak, hak, v0⟩ := hwant.out 0 (by omega)
            obtain ⟨ak1, hak1, v1⟩ := hwant.out 1 (by omega)
            obtain ⟨ak2, hak2, v2⟩ := hwant.out 2 (by omega)
            obtain ⟨ak3, hak3, v3⟩ := hwant.out 3 (by omega)
            subst hak
            injection hak1 with hak1
            injection hak2 with hak2
            injection hak3 with hak3
            subst hak1 hak2 hak3
            rw [Nat.add_zero] at v0
            rw [← addr_add_add, addr_fld _ (by omega)] at v1 v2 v3
            obtain ⟨x0, hx0'⟩ : ∃ x0, x0 = wantV bs (y : Int) 0 := ⟨_, rfl⟩
            obtain ⟨x1, hx1'⟩ : ∃ x1, x1 = wantV bs (y : Int) 1 := ⟨_, rfl⟩
            obtain ⟨x2, hx2'⟩ : ∃ x2, x2 = wantV bs (y : Int) 2 := ⟨_, rfl⟩
            obtain ⟨x3, hx3'⟩ : ∃ x3, x3 = wantV bs (y : Int) 3 := ⟨_, rfl⟩
            rw [← hx0'] at v0
            rw [← hx1'] at v1
            rw [← hx2'] at v2
            rw [← hx3'] at v3
            have HWX := Lib.hid (And.intro hx0' (And.intro hx1' (And.intro hx2' hx3')))
            clear hx0' hx1' hx2' hx3' hwant
            go_wp2_with fail
            refine wp_region_facts (by kernel_rfl) 150 [101, 102, 103, 104, 105, 106, 107, 108, 109, 110, 111, 112, 113, 114, 115, 116, 117] [[], [], [101, 102], [103], [104], [105], [106], [106], [107, 108, 106], [109, 106], [106], [111, 106], [112, 106], [113, 106], [114, 106], [110, 115, 106], [106, 116]] (by kernel_rfl) (by kernel_rfl) rfl (factOf [(101, .eq (.slice (some ad) 6 c9)), (102, .eq (.int .i64 (i : Int))), (103, .eq (.pointer (some (ad.add i)))), (104, .eq (.int .i64 (y : Int))), (105, .eq (.bool true)), (106, .eq (.bool true)), (107, .eq (.slice (some ad) 6 c9)), (108, .eq (.int .i64 (i : Int))), (109, .eq (.pointer (some (ad.add i)))), (110, .eq (.int .i64 (y : Int))), (111, .eq (.pointer (some ⟨pr, 0, none⟩))), (112, .eq (.pointer (some ⟨pr, 0, none⟩))), (113, .eq (.pointer (some ⟨pr, 4, none⟩))), (114, .eq (.slice (some ak) N ck)), (115, .eq (.int .i64 (N : Int))), (116, .eq (.bool true)), (117, .eq (.bool true))]) (factOf_stable _) _ (fun x => by simp only [fillL, Nat.reduceAdd, Nat.reduceEqDiff, ↓reduceIte]; rfl) ?_ ?_
            · refine ⟨?_, ?_, ?_, ?_, ?_, ?_, ?_, ?_, ?_, ?_, ?_, ?_, ?_, ?_, ?_, ?_, ?_, trivial⟩
              · intro fx w' fa hk hd ev  -- 101 = Op.move (Operand.tmp 9)
                have e9 : fa.tmps[9]?.getD undef = .slice (some ad) 6 c9 := ev.old 9 rfl
                refine stepF_un rfl (fun K hK => ?_)
                exact stepF_val _ hK (run_move rfl e9 _) rfl
              · intro fx w' fa hk hd ev  -- 102 = Op.move (Operand.tmp 10)
                have e10 : fa.tmps[10]?.getD undef = .int .i64 (i : Int) := ev.old 10 rfl
                refine stepF_un rfl (fun K hK => ?_)
                exact stepF_val _ hK (run_move rfl e10 _) rfl
              · intro fx w' fa hk hd ev  -- 103 = Op.indexAddr 83 (Operand.tmp 101) (Operand.tmp 102)
                have h101 : fx 101 = .slice (some ad) 6 c9 := hd.1
                have e101 : fa.tmps[101]?.getD undef = .slice (some ad) 6 c9 := (ev.new 101 rfl).trans h101
                have h102 : fx 102 = .int .i64 (i : Int) := hd.2.1
                have e102 : fa.tmps[102]?.getD undef = .int .i64 (i : Int) := (ev.new 102 rfl).trans h102
                refine stepF_un rfl (fun K hK => ?_)
                go_simp
                exact hK _ _ rfl (Kp.refl _ _)
              · intro fx w' fa hk hd ev  -- 104 = Op.load 3 (Operand.tmp 103)
                have h103 : fx 103 = .pointer (some (ad.add i)) := hd.1
                have e103 : fa.tmps[103]?.getD undef = .pointer (some (ad.add i)) := (ev.new 103 rfl).trans h103
                refine stepF_un rfl (fun K hK => ?_)
                have hc1 := hk.cell hcx5 (by simp)
                go_simp
                exact hK _ _ rfl (Kp.refl _ _)
              · intro fx w' fa hk hd ev  -- 105 = Op.binOp BinOp.geq 3 (Operand.tmp 104) (Operand.const (Value
                have h104 : fx 104 = .int .i64 (y : Int) := hd.1
                have e104 : fa.tmps[104]?.getD undef = .int .i64 (y : Int) := (ev.new 104 rfl).trans h104
                refine stepF_un rfl (fun K hK => ?_)
                go_simp
                exact hK _ _ rfl (Kp.refl _ _)
              · intro fx w' fa hk hd ev  -- 106 = Op.move (Operand.tmp 105)
                have h105 : fx 105 = .bool true := hd.1
                have e105 : fa.tmps[105]?.getD undef = .bool true := (ev.new 105 rfl).trans h105
                refine stepF_un rfl (fun K hK => ?_)
                exact stepF_val _ hK (run_move rfl e105 _) rfl
              · intro fx w' fa hk hd ev  -- 107 = Op.move (Operand.tmp 9)
                have h106 : fx 106 = .bool true := hd.1
                have e106 : fa.tmps[106]?.getD undef = .bool true := (ev.new 106 rfl).trans h106
                have e9 : fa.tmps[9]?.getD undef = .slice (some ad) 6 c9 := ev.old 9 rfl
                refine stepF_yes (i := 5) (g := 106) (b := true) rfl rfl rfl e106 (fun K hK => ?_)
                exact stepF_val _ hK (run_move rfl e9 _) rfl
              · intro fx w' fa hk hd ev  -- 108 = Op.move (Operand.tmp 10)
                have h106 : fx 106 = .bool true := hd.1
                have e106 : fa.tmps[106]?.getD undef = .bool true := (ev.new 106 rfl).trans h106
                have e10 : fa.tmps[10]?.getD undef = .int .i64 (i : Int) := ev.old 10 rfl
                refine stepF_yes (i := 5) (g := 106) (b := true) rfl rfl rfl e106 (fun K hK => ?_)
                exact stepF_val _ hK (run_move rfl e10 _) rfl
              · intro fx w' fa hk hd ev  -- 109 = Op.indexAddr 83 (Operand.tmp 107) (Operand.tmp 108)
                have h107 : fx 107 = .slice (some ad) 6 c9 := hd.1
                have e107 : fa.tmps[107]?.getD undef = .slice (some ad) 6 c9 := (ev.new 107 rfl).trans h107
                have h108 : fx 108 = .int .i64 (i : Int) := hd.2.1
                have e108 : fa.tmps[108]?.getD undef = .int .i64 (i : Int) := (ev.new 108 rfl).trans h108
                have h106 : fx 106 = .bool true := hd.2.2.1
                have e106 : fa.tmps[106]?.getD undef = .bool true := (ev.new 106 rfl).trans h106
                refine stepF_yes (i := 5) (g := 106) (b := true) rfl rfl rfl e106 (fun K hK => ?_)
                go_simp
                exact hK _ _ rfl (Kp.refl _ _)
              · intro fx w' fa hk hd ev  -- 110 = Op.load 3 (Operand.tmp 109)
                have h109 : fx 109 = .pointer (some (ad.add i)) := hd.1
                have e109 : fa.tmps[109]?.getD undef = .pointer (some (ad.add i)) := (ev.new 109 rfl).trans h109
                have h106 : fx 106 = .bool true := hd.2.1
                have e106 : fa.tmps[106]?.getD undef = .bool true := (ev.new 106 rfl).trans h106
                refine stepF_yes (i := 5) (g := 106) (b := true) rfl rfl rfl e106 (fun K hK => ?_)
                have hc1 := hk.cell hcx5 (by simp)
                go_simp
                exact hK _ _ rfl (Kp.refl _ _)
              · intro fx w' fa hk hd ev  -- 111 = Op.move (Operand.tmp 1)
                have h106 : fx 106 = .bool true := hd.1
                have e106 : fa.tmps[106]?.getD undef = .bool true := (ev.new 106 rfl).trans h106
                have e1 : fa.tmps[1]?.getD undef = .pointer (some ⟨pr, 0, none⟩) := ev.old 1 rfl
                refine stepF_yes (i := 5) (g := 106) (b := true) rfl rfl rfl e106 (fun K hK => ?_)
                exact stepF_val _ hK (run_move rfl e1 _) rfl
              · intro fx w' fa hk hd ev  -- 112 = Op.nilCheck (Operand.tmp 111)
                have h111 : fx 111 = .pointer (some ⟨pr, 0, none⟩) := hd.1
                have e111 : fa.tmps[111]?.getD undef = .pointer (some ⟨pr, 0, none⟩) := (ev.new 111 rfl).trans h111
                have h106 : fx 106 = .bool true := hd.2.1
                have e106 : fa.tmps[106]?.getD undef = .bool true := (ev.new 106 rfl).trans h106
                refine stepF_yes (i := 5) (g := 106) (b := true) rfl rfl rfl e106 (fun K hK => ?_)
                go_simp
                exact hK _ _ rfl (Kp.refl _ _)
              · intro fx w' fa hk hd ev  -- 113 = Op.fieldAddr 75 (Operand.tmp 112) 4
                have h112 : fx 112 = .pointer (some ⟨pr, 0, none⟩) := hd.1
                have e112 : fa.tmps[112]?.getD undef = .pointer (some ⟨pr, 0, none⟩) := (ev.new 112 rfl).trans h112
                have h106 : fx 106 = .bool true := hd.2.1
                have e106 : fa.tmps[106]?.getD undef = .bool true := (ev.new 106 rfl).trans h106
                refine stepF_yes (i := 5) (g := 106) (b := true) rfl rfl rfl e106 (fun K hK => ?_)
                go_simp
                exact hK _ _ rfl (Kp.refl _ _)
              · intro fx w' fa hk hd ev  -- 114 = Op.load 73 (Operand.tmp 113)
                have h113 : fx 113 = .pointer (some ⟨pr, 4, none⟩) := hd.1
                have e113 : fa.tmps[113]?.getD undef = .pointer (some ⟨pr, 4, none⟩) := (ev.new 113 rfl).trans h113
                have h106 : fx 106 = .bool true := hd.2.1
                have e106 : fa.tmps[106]?.getD undef = .bool true := (ev.new 106 rfl).trans h106
                refine stepF_yes (i := 5) (g := 106) (b := true) rfl rfl rfl e106 (fun K hK => ?_)
                have hc1 := hk.cell hq45 (by simp)
                go_simp
                exact hK _ _ rfl (Kp.refl _ _)
              · intro fx w' fa hk hd ev  -- 115 = Op.call { callee := Callee.builtin Builtin.len, args := #[Op
                have h114 : fx 114 = .slice (some ak) N ck := hd.1
                have e114 : fa.tmps[114]?.getD undef = .slice (some ak) N ck := (ev.new 114 rfl).trans h114
                have h106 : fx 106 = .bool true := hd.2.1
                have e106 : fa.tmps[106]?.getD undef = .bool true := (ev.new 106 rfl).trans h106
                refine stepF_yes (i := 5) (g := 106) (b := true) rfl rfl rfl e106 (fun K hK => ?_)
                go_simp
                exact hK _ _ rfl (Kp.refl _ _)
              · intro fx w' fa hk hd ev  -- 116 = Op.binOp BinOp.lss 3 (Operand.tmp 110) (Operand.tmp 115) 3
                have h110 : fx 110 = .int .i64 (y : Int) := hd.1
                have e110 : fa.tmps[110]?.getD undef = .int .i64 (y : Int) := (ev.new 110 rfl).trans h110
                have h115 : fx 115 = .int .i64 (N : Int) := hd.2.1
                have e115 : fa.tmps[115]?.getD undef = .int .i64 (N : Int) := (ev.new 115 rfl).trans h115
                have h106 : fx 106 = .bool true := hd.2.2.1
                have e106 : fa.tmps[106]?.getD undef = .bool true := (ev.new 106 rfl).trans h106
                refine stepF_yes (i := 5) (g := 106) (b := true) rfl rfl rfl e106 (fun K hK => ?_)
                go_simp
                exact hK _ _ rfl (Kp.refl _ _)
              · intro fx w' fa hk hd ev  -- 117 = Op.pick (Operand.tmp 106) (Operand.tmp 116) (Operand.const (
                have h106 : fx 106 = .bool true := hd.1
                have e106 : fa.tmps[106]?.getD undef = .bool true := (ev.new 106 rfl).trans h106
                have h116 : fx 116 = .bool true := hd.2.1
                have e116 : fa.tmps[116]?.getD undef = .bool true := (ev.new 116 rfl).trans h116
                refine stepF_un rfl (fun K hK => ?_)
                go_simp
                exact hK _ _ rfl (Kp.refl _ _)
            · intro fx w' hk hd
              have h117 : fx 117 = .bool true := hd.2.2.2.2.2.2.2.2.2.2.2.2.2.2.2.2.1
              rw [h117]
              obtain ⟨w6, hw6⟩ : ∃ w6, w6 = w' := ⟨_, rfl⟩
              have HK6 := Lib.hid hk
              have B76 := Lib.hid (B7.out.kp0 hk)
              replace hcx5 := hk.cell hcx5 (by simp)
              replace hq45 := hk.cell hq45 (by simp)
              replace v0 := hk.cell v0 (by simp)
              replace v1 := hk.cell v1 (by simp)
              replace v2 := hk.cell v2 (by simp)
              replace v3 := hk.cell v3 (by simp)
              rw [← hw6] at HK6 B76 hcx5 hq45 v0 v1 v2 v3 ⊢
              clear hk hd hw6
              go_wp2_with fail
              refine wp_region_tail (by kernel_rfl) 10 150 9 127 [118, 119, 120, 121, 122, 123, 124, 125, 126, 127] [[], [118], [118, 119], [118, 119, 120], [], [], [122, 123], [122, 123, 124], [118, 119, 120, 121, 122, 123, 124, 125], [118, 119, 120, 121, 122, 123, 124, 125, 126]] [118, 119, 120, 121, 122, 123, 124, 125, 126] [127] [.pointer (some ⟨pr, 0, none⟩), .pointer (some ⟨pr, 0, none⟩), .pointer (some ⟨pr, 4, none⟩), .slice (some ak) N ck, .slice (some ad) 6 c9, .int .i64 (i : Int), .pointer (some (ad.add i)), .int .i64 (y : Int), .pointer (some (ak.add (y * 4)))] [(118, .eq (.pointer (some ⟨pr, 0, none⟩))), (119, .eq (.pointer (some ⟨pr, 0, none⟩))), (120, .eq (.pointer (some ⟨pr, 4, none⟩))), (121, .eq (.slice (some ak) N ck)), (122, .eq (.slice (some ad) 6 c9)), (123, .eq (.int .i64 (i : Int))), (124, .eq (.pointer (some (ad.add i)))), (125, .eq (.int .i64 (y : Int))), (126, .eq (.pointer (some (ak.add (y * 4))))), (127, (⟨fun v wx => v = .agg #[.int .i64 x0, .int .i64 x1, .int .i64 x2, .int .i64 x3] ∧ Kp [] w6 wx, fun _ _ _ h hk => ⟨h.1, h.2.trans hk⟩⟩ : SFact))] rfl (by kernel_rfl) (by kernel_rfl) (by kernel_rfl) rfl rfl _ (fun x => by simp only [fillL, Nat.reduceAdd, Nat.reduceEqDiff, ↓reduceIte]; rfl) ?_ ?_ ?_
              · refine ⟨?_, ?_, ?_, ?_, ?_, ?_, ?_, ?_, ?_, ?_, trivial⟩
                · intro fx w' fa hk hd ev  -- 118 = Op.move (Operand.tmp 1)
                  have e1 : fa.tmps[1]?.getD undef = .pointer (some ⟨pr, 0, none⟩) := ev.old 1 rfl
                  refine stepF_un rfl (fun K hK => ?_)
                  exact stepF_val _ hK (run_move rfl e1 _) rfl
                · intro fx w' fa hk hd ev  -- 119 = Op.nilCheck (Operand.tmp 118)
                  have h118 : fx 118 = .pointer (some ⟨pr, 0, none⟩) := hd.1
                  have e118 : fa.tmps[118]?.getD undef = .pointer (some ⟨pr, 0, none⟩) := (ev.new 118 rfl).trans h118
                  refine stepF_un rfl (fun K hK => ?_)
                  go_simp
                  exact hK _ _ rfl (Kp.refl _ _)
                · intro fx w' fa hk hd ev  -- 120 = Op.fieldAddr 75 (Operand.tmp 119) 4
                  have h119 : fx 119 = .pointer (some ⟨pr, 0, none⟩) := hd.2.1
                  have e119 : fa.tmps[119]?.getD undef = .pointer (some ⟨pr, 0, none⟩) := (ev.new 119 rfl).trans h119
                  refine stepF_un rfl (fun K hK => ?_)
                  go_simp
                  exact hK _ _ rfl (Kp.refl _ _)
                · intro fx w' fa hk hd ev  -- 121 = Op.load 73 (Operand.tmp 120)
                  have h120 : fx 120 = .pointer (some ⟨pr, 4, none⟩) := hd.2.2.1
                  have e120 : fa.tmps[120]?.getD undef = .pointer (some ⟨pr, 4, none⟩) := (ev.new 120 rfl).trans h120
                  refine stepF_un rfl (fun K hK => ?_)
                  have hc1 := hk.cell hq45 (by simp)
                  go_simp
                  exact hK _ _ rfl (Kp.refl _ _)
                · intro fx w' fa hk hd ev  -- 122 = Op.move (Operand.tmp 9)
                  have e9 : fa.tmps[9]?.getD undef = .slice (some ad) 6 c9 := ev.old 9 rfl
                  refine stepF_un rfl (fun K hK => ?_)
                  exact stepF_val _ hK (run_move rfl e9 _) rfl
                · intro fx w' fa hk hd ev  -- 123 = Op.move (Operand.tmp 10)
                  have e10 : fa.tmps[10]?.getD undef = .int .i64 (i : Int) := ev.old 10 rfl
                  refine stepF_un rfl (fun K hK => ?_)
                  exact stepF_val _ hK (run_move rfl e10 _) rfl
                · intro fx w' fa hk hd ev  -- 124 = Op.indexAddr 83 (Operand.tmp 122) (Operand.tmp 123)
                  have h122 : fx 122 = .slice (some ad) 6 c9 := hd.1
                  have e122 : fa.tmps[122]?.getD undef = .slice (some ad) 6 c9 := (ev.new 122 rfl).trans h122
                  have h123 : fx 123 = .int .i64 (i : Int) := hd.2.1
                  have e123 : fa.tmps[123]?.getD undef = .int .i64 (i : Int) := (ev.new 123 rfl).trans h123
                  refine stepF_un rfl (fun K hK => ?_)
                  go_simp
                  exact hK _ _ rfl (Kp.refl _ _)
                · intro fx w' fa hk hd ev  -- 125 = Op.load 3 (Operand.tmp 124)
                  have h124 : fx 124 = .pointer (some (ad.add i)) := hd.2.2.1
                  have e124 : fa.tmps[124]?.getD undef = .pointer (some (ad.add i)) := (ev.new 124 rfl).trans h124
                  refine stepF_un rfl (fun K hK => ?_)
                  have hc1 := hk.cell hcx5 (by simp)
                  go_simp
                  exact hK _ _ rfl (Kp.refl _ _)
                · intro fx w' fa hk hd ev  -- 126 = Op.indexAddr 73 (Operand.tmp 121) (Operand.tmp 125)
                  have h121 : fx 121 = .slice (some ak) N ck := hd.2.2.2.1
                  have e121 : fa.tmps[121]?.getD undef = .slice (some ak) N ck := (ev.new 121 rfl).trans h121
                  have h125 : fx 125 = .int .i64 (y : Int) := hd.2.2.2.2.2.2.2.1
                  have e125 : fa.tmps[125]?.getD undef = .int .i64 (y : Int) := (ev.new 125 rfl).trans h125
                  refine stepF_un rfl (fun K hK => ?_)
                  go_simp
                  exact hK _ _ rfl (Kp.refl _ _)
                · exact trivial
              · intro o1 ho1 fx w' fa hk hd ev K hK  -- 127 = Op.load 57 (Operand.tmp 126)
                obtain rfl := Option.some.inj ho1
                have h126 : fx 126 = .pointer (some (ak.add (y * 4))) := hd.2.2.2.2.2.2.2.2.1
                have e126 : fa.tmps[126]?.getD undef = .pointer (some (ak.add (y * 4))) := (ev.new 126 rfl).trans h126
                have v01 := hk.cell v0 (by simp)
                have v11 := hk.cell v1 (by simp)
                have v21 := hk.cell v2 (by simp)
                have v31 := hk.cell v3 (by simp)
                go_simp
                exact hK _ _ ⟨rfl, hk⟩
              · intro fx w' hd
                have h118 : fx 118 = .pointer (some ⟨pr, 0, none⟩) := hd.1
                have h119 : fx 119 = .pointer (some ⟨pr, 0, none⟩) := hd.2.1
                have h120 : fx 120 = .pointer (some ⟨pr, 4, none⟩) := hd.2.2.1
                have h121 : fx 121 = .slice (some ak) N ck := hd.2.2.2.1
                have h122 : fx 122 = .slice (some ad) 6 c9 := hd.2.2.2.2.1
                have h123 : fx 123 = .int .i64 (i : Int) := hd.2.2.2.2.2.1
                have h124 : fx 124 = .pointer (some (ad.add i)) := hd.2.2.2.2.2.2.1
                have h125 : fx 125 = .int .i64 (y : Int) := hd.2.2.2.2.2.2.2.1
                have h126 : fx 126 = .pointer (some (ak.add (y * 4))) := hd.2.2.2.2.2.2.2.2.1
                have hP : (fun v wx => v = .agg #[.int .i64 x0, .int .i64 x1, .int .i64 x2, .int .i64 x3] ∧ Kp [] w6 wx) (fx 127) w' := hd.2.2.2.2.2.2.2.2.2.1
                change Oper.wp _ _ _ _ _ _
                obtain ⟨h127, hk7⟩ := hP
                rw [h127]
                have b77 := B76.out.kp0 hk7
                have y0 : w'.cell? ⟨G + 2, 0, none⟩ = some (.int .i64 (-2)) := by rw [b77.cell]; rfl
                have y1 : w'.cell? ⟨G + 2, 1, none⟩ = some (.int .i64 (-2)) := by rw [b77.cell]; rfl
                have y2 : w'.cell? ⟨G + 2, 2, none⟩ = some (.int .i64 (-2)) := by rw [b77.cell]; rfl
                have y3 : w'.cell? ⟨G + 2, 3, none⟩ = some (.int .i64 (-2)) := by rw [b77.cell]; rfl
                have f0 := b77.free 0
                have f1 := b77.free 1
                have f2 := b77.free 2
                have f3 := b77.free 3
                have HB9 := Lib.hid ((((b77.set_ 0 (.int .i64 x0)).set_ 1 (.int .i64 x1)).set_ 2 (.int .i64 x2)).set_ 3 (.int .i64 x3))
                have hk9 : Kp [G + 2] w5 ((((w'.setCell ⟨G + 2, 0, none⟩ (.int .i64 x0)).setCell ⟨G + 2, 1, none⟩ (.int .i64 x1)).setCell ⟨G + 2, 2, none⟩ (.int .i64 x2)).setCell ⟨G + 2, 3, none⟩ (.int .i64 x3)) := (((((HK6.out.trans hk7).nil (T := [G + 2])).setCell (p := ⟨G + 2, 0, none⟩) (.inl (by simp)) (.int .i64 x0)).setCell (p := ⟨G + 2, 1, none⟩) (.inl (by simp)) (.int .i64 x1)).setCell (p := ⟨G + 2, 2, none⟩) (.inl (by simp)) (.int .i64 x2)).setCell (p := ⟨G + 2, 3, none⟩) (.inl (by simp)) (.int .i64 x3)
                have b8z := HB9.out
                simp only [List.set_cons_zero, List.set_cons_succ] at b8z
                obtain ⟨wz, hwz⟩ : ∃ wz, wz = (((w'.setCell ⟨G + 2, 0, none⟩ (.int .i64 x0)).setCell ⟨G + 2, 1, none⟩ (.int .i64 x1)).setCell ⟨G + 2, 2, none⟩ (.int .i64 x2)).setCell ⟨G + 2, 3, none⟩ (.int .i64 x3) := ⟨_, rfl⟩
                rw [← hwz] at b8z hk9
                rw [HWX.out.1, HWX.out.2.1, HWX.out.2.2.1, HWX.out.2.2.2] at b8z
                have HKZ := Lib.hid (HK5.out.trans' hk9 (fun y hy => .inr (by simp only [List.mem_singleton] at hy; have := HGW.out; omega)))
                have B5Z := Lib.hid (B5.out.kp hk9 (by simp))
                have B6Z := Lib.hid (B6.out.kp hk9 (by simp))
                have B8Z := Lib.hid b8z
                have HWZ := Lib.hid hwz
                clear hd hk7 b77 hk9 b8z HB9 hwz HWX HRK5 HK6 B76 hcx5 hq45 v0 v1 v2 v3
                go_simp
                rw [← HWZ.out]
                clear HWZ y0 y1 y2 y3 f0 f1 f2 f3
                go_wp2_with fail
                go_loopw [14] (fun v wq => ∃ q : Nat, v = .int .i64 (q : Int) ∧ q ≤ 4 ∧ Hid (Kp [] wz wq)) (fun v _ => 4 - (intOf v).toNat)
                case atStart => exact ⟨0, rfl, by omega, Lib.hid (Kp.refl _ _)⟩
                case round =>
                  obtain ⟨q, rfl, hq, HKQ⟩ := hrel
                  by_cases hq4 : q < 4
                  · obtain ⟨W, kq, b, hkq, hbq, hW, hb, hkm⟩ := HKV.out q hq4
                    have m0 : wr.cell? ⟨G, q, none⟩ = some (.int .i64 kq) := by
                      rw [(B5Z.out.kp0 HKQ.out).cell]
                      rcases (show q = 0 ∨ q = 1 ∨ q = 2 ∨ q = 3 by omega) with rfl | rfl | rfl | rfl <;> (injection hkq with hkq; subst hkq; rfl)
                    have m1 : wr.cell? ⟨G + 1, q, none⟩ = some (.bool b) := by
                      rw [(B6Z.out.kp0 HKQ.out).cell]
                      rcases (show q = 0 ∨ q = 1 ∨ q = 2 ∨ q = 3 by omega) with rfl | rfl | rfl | rfl <;> (injection hbq with hbq; subst hbq; rfl)
                    have m2 : wr.cell? ⟨G + 2, q, none⟩ = some (.int .i64 W) := by rw [(B8Z.out.kp0 HKQ.out).cell, hW]; rcases (show q = 0 ∨ q = 1 ∨ q = 2 ∨ q = 3 by omega) with rfl | rfl | rfl | rfl <;> rfl
                    have hdb : decide (-2 < W) = b := hb.symm
                    have hmx : (if W < 0 then 0 else W) = kq := by rw [hkm]; split <;> omega
                    have hj0 : (0 : Int) ≤ (q : Int) := by omega
                    have hj1 : (q : Int) < 4 := by omega
                    clear hkq hbq hW hb hkm
                    go_wp2_with fail
                    refine wp_region_facts (by kernel_rfl) 150 [132, 133, 134, 135, 136, 137, 138, 139, 140, 141, 142, 143, 144, 145, 146, 147, 148, 149] [[], [132], [133], [], [135], [136], [137], [134, 138], [139], [140], [141, 140], [142, 140], [140], [144, 140], [145, 140], [146, 140], [143, 147, 140], [140, 148]] (by kernel_rfl) (by kernel_rfl) rfl (factOf [(132, .eq (.int .i64 (q : Int))), (133, .eq (.pointer (some ⟨G + 1, q, none⟩))), (134, .eq (.bool b)), (135, .eq (.int .i64 (q : Int))), (136, .eq (.pointer (some ⟨G + 2, q, none⟩))), (137, .eq (.int .i64 W)), (138, .eq (.bool b)), (139, .eq (.bool false)), (140, .eq (.bool false)), (141, .eq (.int .i64 (q : Int))), (142, .eq (.pointer (some ⟨G, q, none⟩))), (143, .eq (.int .i64 kq)), (144, .eq (.int .i64 (q : Int))), (145, .eq (.pointer (some ⟨G + 2, q, none⟩))), (146, .eq (.int .i64 W)), (147, .eq (.int .i64 kq)), (148, .eq (.bool false)), (149, .eq (.bool false))]) (factOf_stable _) _ (fun x => by simp only [fillL, Nat.reduceAdd, Nat.reduceEqDiff, ↓reduceIte]; rfl) ?_ ?_
                    · refine ⟨?_, ?_, ?_, ?_, ?_, ?_, ?_, ?_, ?_, ?_, ?_, ?_, ?_, ?_, ?_, ?_, ?_, ?_, trivial⟩
                      · intro fx w' fa hk hd ev  -- 132 = Op.move (Operand.tmp 14)
                        have e14 : fa.tmps[14]?.getD undef = .int .i64 (q : Int) := ev.old 14 rfl
                        refine stepF_un rfl (fun K hK => ?_)
                        exact stepF_val _ hK (run_move rfl e14 _) rfl
                      · intro fx w' fa hk hd ev  -- 133 = Op.indexAddr 58 (Operand.tmp 12) (Operand.tmp 132)
                        have h132 : fx 132 = .int .i64 (q : Int) := hd.1
                        have e132 : fa.tmps[132]?.getD undef = .int .i64 (q : Int) := (ev.new 132 rfl).trans h132
                        have e12 : fa.tmps[12]?.getD undef = .pointer (some ⟨G + 1, 0, none⟩) := ev.old 12 rfl
                        refine stepF_un rfl (fun K hK => ?_)
                        go_simp
                        exact hK _ _ rfl (Kp.refl _ _)
                      · intro fx w' fa hk hd ev  -- 134 = Op.load 4 (Operand.tmp 133)
                        have h133 : fx 133 = .pointer (some ⟨G + 1, q, none⟩) := hd.1
                        have e133 : fa.tmps[133]?.getD undef = .pointer (some ⟨G + 1, q, none⟩) := (ev.new 133 rfl).trans h133
                        refine stepF_un rfl (fun K hK => ?_)
                        have c1 := hk.cell m1 (by simp)
                        go_simp
                        exact hK _ _ rfl (Kp.refl _ _)
                      · intro fx w' fa hk hd ev  -- 135 = Op.move (Operand.tmp 14)
                        have e14 : fa.tmps[14]?.getD undef = .int .i64 (q : Int) := ev.old 14 rfl
                        refine stepF_un rfl (fun K hK => ?_)
                        exact stepF_val _ hK (run_move rfl e14 _) rfl
                      · intro fx w' fa hk hd ev  -- 136 = Op.indexAddr 57 (Operand.tmp 13) (Operand.tmp 135)
                        have h135 : fx 135 = .int .i64 (q : Int) := hd.1
                        have e135 : fa.tmps[135]?.getD undef = .int .i64 (q : Int) := (ev.new 135 rfl).trans h135
                        have e13 : fa.tmps[13]?.getD undef = .pointer (some ⟨G + 2, 0, none⟩) := ev.old 13 rfl
                        refine stepF_un rfl (fun K hK => ?_)
                        go_simp
                        exact hK _ _ rfl (Kp.refl _ _)
                      · intro fx w' fa hk hd ev  -- 137 = Op.load 3 (Operand.tmp 136)
                        have h136 : fx 136 = .pointer (some ⟨G + 2, q, none⟩) := hd.1
                        have e136 : fa.tmps[136]?.getD undef = .pointer (some ⟨G + 2, q, none⟩) := (ev.new 136 rfl).trans h136
                        refine stepF_un rfl (fun K hK => ?_)
                        have c1 := hk.cell m2 (by simp)
                        go_simp
                        exact hK _ _ rfl (Kp.refl _ _)
                      · intro fx w' fa hk hd ev  -- 138 = Op.binOp BinOp.gtr 3 (Operand.tmp 137) (Operand.const (Value
                        have h137 : fx 137 = .int .i64 W := hd.1
                        have e137 : fa.tmps[137]?.getD undef = .int .i64 W := (ev.new 137 rfl).trans h137
                        refine stepF_un rfl (fun K hK => ?_)
                        go_simp
                        exact hK _ _ rfl (Kp.refl _ _)
                      · intro fx w' fa hk hd ev  -- 139 = Op.binOp BinOp.neq 4 (Operand.tmp 134) (Operand.tmp 138) 4
                        have h134 : fx 134 = .bool b := hd.1
                        have e134 : fa.tmps[134]?.getD undef = .bool b := (ev.new 134 rfl).trans h134
                        have h138 : fx 138 = .bool b := hd.2.1
                        have e138 : fa.tmps[138]?.getD undef = .bool b := (ev.new 138 rfl).trans h138
                        refine stepF_un rfl (fun K hK => ?_)
                        go_simp
                        exact hK _ _ rfl (Kp.refl _ _)
                      · intro fx w' fa hk hd ev  -- 140 = Op.move (Operand.tmp 139)
                        have h139 : fx 139 = .bool false := hd.1
                        have e139 : fa.tmps[139]?.getD undef = .bool false := (ev.new 139 rfl).trans h139
                        refine stepF_un rfl (fun K hK => ?_)
                        exact stepF_val _ hK (run_move rfl e139 _) rfl
                      · intro fx w' fa hk hd ev  -- 141 = Op.move (Operand.tmp 14)
                        have h140 : fx 140 = .bool false := hd.1
                        have e140 : fa.tmps[140]?.getD undef = .bool false := (ev.new 140 rfl).trans h140
                        have e14 : fa.tmps[14]?.getD undef = .int .i64 (q : Int) := ev.old 14 rfl
                        refine stepF_yes (i := 8) (g := 140) (b := false) rfl rfl rfl e140 (fun K hK => ?_)
                        exact stepF_val _ hK (run_move rfl e14 _) rfl
                      · intro fx w' fa hk hd ev  -- 142 = Op.indexAddr 57 (Operand.tmp 11) (Operand.tmp 141)
                        have h141 : fx 141 = .int .i64 (q : Int) := hd.1
                        have e141 : fa.tmps[141]?.getD undef = .int .i64 (q : Int) := (ev.new 141 rfl).trans h141
                        have h140 : fx 140 = .bool false := hd.2.1
                        have e140 : fa.tmps[140]?.getD undef = .bool false := (ev.new 140 rfl).trans h140
                        have e11 : fa.tmps[11]?.getD undef = .pointer (some ⟨G, 0, none⟩) := ev.old 11 rfl
                        refine stepF_yes (i := 8) (g := 140) (b := false) rfl rfl rfl e140 (fun K hK => ?_)
                        go_simp
                        exact hK _ _ rfl (Kp.refl _ _)
                      · intro fx w' fa hk hd ev  -- 143 = Op.load 3 (Operand.tmp 142)
                        have h142 : fx 142 = .pointer (some ⟨G, q, none⟩) := hd.1
                        have e142 : fa.tmps[142]?.getD undef = .pointer (some ⟨G, q, none⟩) := (ev.new 142 rfl).trans h142
                        have h140 : fx 140 = .bool false := hd.2.1
                        have e140 : fa.tmps[140]?.getD undef = .bool false := (ev.new 140 rfl).trans h140
                        refine stepF_yes (i := 8) (g := 140) (b := false) rfl rfl rfl e140 (fun K hK => ?_)
                        have c1 := hk.cell m0 (by simp)
                        go_simp
                        exact hK _ _ rfl (Kp.refl _ _)
                      · intro fx w' fa hk hd ev  -- 144 = Op.move (Operand.tmp 14)
                        have h140 : fx 140 = .bool false := hd.1
                        have e140 : fa.tmps[140]?.getD undef = .bool false := (ev.new 140 rfl).trans h140
                        have e14 : fa.tmps[14]?.getD undef = .int .i64 (q : Int) := ev.old 14 rfl
                        refine stepF_yes (i := 8) (g := 140) (b := false) rfl rfl rfl e140 (fun K hK => ?_)
                        exact stepF_val _ hK (run_move rfl e14 _) rfl
                      · intro fx w' fa hk hd ev  -- 145 = Op.indexAddr 57 (Operand.tmp 13) (Operand.tmp 144)
                        have h144 : fx 144 = .int .i64 (q : Int) := hd.1
                        have e144 : fa.tmps[144]?.getD undef = .int .i64 (q : Int) := (ev.new 144 rfl).trans h144
                        have h140 : fx 140 = .bool false := hd.2.1
                        have e140 : fa.tmps[140]?.getD undef = .bool false := (ev.new 140 rfl).trans h140
                        have e13 : fa.tmps[13]?.getD undef = .pointer (some ⟨G + 2, 0, none⟩) := ev.old 13 rfl
                        refine stepF_yes (i := 8) (g := 140) (b := false) rfl rfl rfl e140 (fun K hK => ?_)
                        go_simp
                        exact hK _ _ rfl (Kp.refl _ _)
                      · intro fx w' fa hk hd ev  -- 146 = Op.load 3 (Operand.tmp 145)
                        have h145 : fx 145 = .pointer (some ⟨G + 2, q, none⟩) := hd.1
                        have e145 : fa.tmps[145]?.getD undef = .pointer (some ⟨G + 2, q, none⟩) := (ev.new 145 rfl).trans h145
                        have h140 : fx 140 = .bool false := hd.2.1
                        have e140 : fa.tmps[140]?.getD undef = .bool false := (ev.new 140 rfl).trans h140
                        refine stepF_yes (i := 8) (g := 140) (b := false) rfl rfl rfl e140 (fun K hK => ?_)
                        have c1 := hk.cell m2 (by simp)
                        go_simp
                        exact hK _ _ rfl (Kp.refl _ _)
                      · intro fx w' fa hk hd ev  -- 147 = Op.call { callee := Callee.builtin Builtin.max, args := #[Op
                        have h146 : fx 146 = .int .i64 W := hd.1
                        have e146 : fa.tmps[146]?.getD undef = .int .i64 W := (ev.new 146 rfl).trans h146
                        have h140 : fx 140 = .bool false := hd.2.1
                        have e140 : fa.tmps[140]?.getD undef = .bool false := (ev.new 140 rfl).trans h140
                        refine stepF_yes (i := 8) (g := 140) (b := false) rfl rfl rfl e140 (fun K hK => ?_)
                        go_simp
                        exact hK _ _ rfl (Kp.refl _ _)
                      · intro fx w' fa hk hd ev  -- 148 = Op.binOp BinOp.neq 3 (Operand.tmp 143) (Operand.tmp 147) 3
                        have h143 : fx 143 = .int .i64 kq := hd.1
                        have e143 : fa.tmps[143]?.getD undef = .int .i64 kq := (ev.new 143 rfl).trans h143
                        have h147 : fx 147 = .int .i64 kq := hd.2.1
                        have e147 : fa.tmps[147]?.getD undef = .int .i64 kq := (ev.new 147 rfl).trans h147
                        have h140 : fx 140 = .bool false := hd.2.2.1
                        have e140 : fa.tmps[140]?.getD undef = .bool false := (ev.new 140 rfl).trans h140
                        refine stepF_yes (i := 8) (g := 140) (b := false) rfl rfl rfl e140 (fun K hK => ?_)
                        go_simp
                        exact hK _ _ rfl (Kp.refl _ _)
                      · intro fx w' fa hk hd ev  -- 149 = Op.pick (Operand.tmp 140) (Operand.const (Value.bool true)) 
                        have h140 : fx 140 = .bool false := hd.1
                        have e140 : fa.tmps[140]?.getD undef = .bool false := (ev.new 140 rfl).trans h140
                        have h148 : fx 148 = .bool false := hd.2.1
                        have e148 : fa.tmps[148]?.getD undef = .bool false := (ev.new 148 rfl).trans h148
                        refine stepF_un rfl (fun K hK => ?_)
                        go_simp
                        exact hK _ _ rfl (Kp.refl _ _)
                    · intro fx w' hk hd
                      have h149 : fx 149 = .bool false := hd.2.2.2.2.2.2.2.2.2.2.2.2.2.2.2.2.2.1
                      rw [h149]
                      have HKQ2 := Lib.hid (HKQ.out.trans hk)
                      clear hk hd m0 m1 m2 hdb hmx
                      go_wp2_with fail
                      exact ⟨⟨q + 1, by go_num, by omega, HKQ2⟩, by simp [intOf]; omega⟩
                  · obtain rfl : q = 4 := by omega
                    have HKE := Lib.hid (HKZ.out.trans HKQ.out)
                    go_wp2_with fail
                    exact ⟨⟨i + 1, by go_num, by omega, HKE⟩, by simp [intOf]; omega⟩
          · have HBW := Lib.hid (show ([.int .i64 (-2), .int .i64 (-2), .int .i64 (-2), .int .i64 (-2)] : List Value) = [.int .i64 (wantV bs x 0), .int .i64 (wantV bs x 1), .int .i64 (wantV bs x 2), .int .i64 (wantV bs x 3)] from by
              unfold wantV
              rw [← HN.out, if_neg hin, if_neg hin, if_neg hin, if_neg hin])
            by_cases hx2 : 0 ≤ x
            · have hx3 : decide (x < (N : Int)) = false := decide_eq_false (fun h => hin ⟨hx2, h⟩)
              clear hin
              go_wp2_with fail
              refine wp_region_facts (by kernel_rfl) 150 [101, 102, 103, 104, 105, 106, 107, 108, 109, 110, 111, 112, 113, 114, 115, 116, 117] [[], [], [101, 102], [103], [104], [105], [106], [106], [107, 108, 106], [109, 106], [106], [111, 106], [112, 106], [113, 106], [114, 106], [110, 115, 106], [106, 116]] (by kernel_rfl) (by kernel_rfl) rfl (factOf [(101, .eq (.slice (some ad) 6 c9)), (102, .eq (.int .i64 (i : Int))), (103, .eq (.pointer (some (ad.add i)))), (104, .eq (.int .i64 x)), (105, .eq (.bool true)), (106, .eq (.bool true)), (107, .eq (.slice (some ad) 6 c9)), (108, .eq (.int .i64 (i : Int))), (109, .eq (.pointer (some (ad.add i)))), (110, .eq (.int .i64 x)), (111, .eq (.pointer (some ⟨pr, 0, none⟩))), (112, .eq (.pointer (some ⟨pr, 0, none⟩))), (113, .eq (.pointer (some ⟨pr, 4, none⟩))), (114, .eq (.slice Ak N ck)), (115, .eq (.int .i64 (N : Int))), (116, .eq (.bool false)), (117, .eq (.bool false))]) (factOf_stable _) _ (fun x => by simp only [fillL, Nat.reduceAdd, Nat.reduceEqDiff, ↓reduceIte]; rfl) ?_ ?_
              · refine ⟨?_, ?_, ?_, ?_, ?_, ?_, ?_, ?_, ?_, ?_, ?_, ?_, ?_, ?_, ?_, ?_, ?_, trivial⟩
                · intro fx w' fa hk hd ev  -- 101 = Op.move (Operand.tmp 9)
                  have e9 : fa.tmps[9]?.getD undef = .slice (some ad) 6 c9 := ev.old 9 rfl
                  refine stepF_un rfl (fun K hK => ?_)
                  exact stepF_val _ hK (run_move rfl e9 _) rfl
                · intro fx w' fa hk hd ev  -- 102 = Op.move (Operand.tmp 10)
                  have e10 : fa.tmps[10]?.getD undef = .int .i64 (i : Int) := ev.old 10 rfl
                  refine stepF_un rfl (fun K hK => ?_)
                  exact stepF_val _ hK (run_move rfl e10 _) rfl
                · intro fx w' fa hk hd ev  -- 103 = Op.indexAddr 83 (Operand.tmp 101) (Operand.tmp 102)
                  have h101 : fx 101 = .slice (some ad) 6 c9 := hd.1
                  have e101 : fa.tmps[101]?.getD undef = .slice (some ad) 6 c9 := (ev.new 101 rfl).trans h101
                  have h102 : fx 102 = .int .i64 (i : Int) := hd.2.1
                  have e102 : fa.tmps[102]?.getD undef = .int .i64 (i : Int) := (ev.new 102 rfl).trans h102
                  refine stepF_un rfl (fun K hK => ?_)
                  go_simp
                  exact hK _ _ rfl (Kp.refl _ _)
                · intro fx w' fa hk hd ev  -- 104 = Op.load 3 (Operand.tmp 103)
                  have h103 : fx 103 = .pointer (some (ad.add i)) := hd.1
                  have e103 : fa.tmps[103]?.getD undef = .pointer (some (ad.add i)) := (ev.new 103 rfl).trans h103
                  refine stepF_un rfl (fun K hK => ?_)
                  have hc1 := hk.cell hcx5 (by simp)
                  go_simp
                  exact hK _ _ rfl (Kp.refl _ _)
                · intro fx w' fa hk hd ev  -- 105 = Op.binOp BinOp.geq 3 (Operand.tmp 104) (Operand.const (Value
                  have h104 : fx 104 = .int .i64 x := hd.1
                  have e104 : fa.tmps[104]?.getD undef = .int .i64 x := (ev.new 104 rfl).trans h104
                  refine stepF_un rfl (fun K hK => ?_)
                  go_simp
                  exact hK _ _ rfl (Kp.refl _ _)
                · intro fx w' fa hk hd ev  -- 106 = Op.move (Operand.tmp 105)
                  have h105 : fx 105 = .bool true := hd.1
                  have e105 : fa.tmps[105]?.getD undef = .bool true := (ev.new 105 rfl).trans h105
                  refine stepF_un rfl (fun K hK => ?_)
                  exact stepF_val _ hK (run_move rfl e105 _) rfl
                · intro fx w' fa hk hd ev  -- 107 = Op.move (Operand.tmp 9)
                  have h106 : fx 106 = .bool true := hd.1
                  have e106 : fa.tmps[106]?.getD undef = .bool true := (ev.new 106 rfl).trans h106
                  have e9 : fa.tmps[9]?.getD undef = .slice (some ad) 6 c9 := ev.old 9 rfl
                  refine stepF_yes (i := 5) (g := 106) (b := true) rfl rfl rfl e106 (fun K hK => ?_)
                  exact stepF_val _ hK (run_move rfl e9 _) rfl
                · intro fx w' fa hk hd ev  -- 108 = Op.move (Operand.tmp 10)
                  have h106 : fx 106 = .bool true := hd.1
                  have e106 : fa.tmps[106]?.getD undef = .bool true := (ev.new 106 rfl).trans h106
                  have e10 : fa.tmps[10]?.getD undef = .int .i64 (i : Int) := ev.old 10 rfl
                  refine stepF_yes (i := 5) (g := 106) (b := true) rfl rfl rfl e106 (fun K hK => ?_)
                  exact stepF_val _ hK (run_move rfl e10 _) rfl
                · intro fx w' fa hk hd ev  -- 109 = Op.indexAddr 83 (Operand.tmp 107) (Operand.tmp 108)
                  have h107 : fx 107 = .slice (some ad) 6 c9 := hd.1
                  have e107 : fa.tmps[107]?.getD undef = .slice (some ad) 6 c9 := (ev.new 107 rfl).trans h107
                  have h108 : fx 108 = .int .i64 (i : Int) := hd.2.1
                  have e108 : fa.tmps[108]?.getD undef = .int .i64 (i : Int) := (ev.new 108 rfl).trans h108
                  have h106 : fx 106 = .bool true := hd.2.2.1
                  have e106 : fa.tmps[106]?.getD undef = .bool true := (ev.new 106 rfl).trans h106
                  refine stepF_yes (i := 5) (g := 106) (b := true) rfl rfl rfl e106 (fun K hK => ?_)
                  go_simp
                  exact hK _ _ rfl (Kp.refl _ _)
                · intro fx w' fa hk hd ev  -- 110 = Op.load 3 (Operand.tmp 109)
                  have h109 : fx 109 = .pointer (some (ad.add i)) := hd.1
                  have e109 : fa.tmps[109]?.getD undef = .pointer (some (ad.add i)) := (ev.new 109 rfl).trans h109
                  have h106 : fx 106 = .bool true := hd.2.1
                  have e106 : fa.tmps[106]?.getD undef = .bool true := (ev.new 106 rfl).trans h106
                  refine stepF_yes (i := 5) (g := 106) (b := true) rfl rfl rfl e106 (fun K hK => ?_)
                  have hc1 := hk.cell hcx5 (by simp)
                  go_simp
                  exact hK _ _ rfl (Kp.refl _ _)
                · intro fx w' fa hk hd ev  -- 111 = Op.move (Operand.tmp 1)
                  have h106 : fx 106 = .bool true := hd.1
                  have e106 : fa.tmps[106]?.getD undef = .bool true := (ev.new 106 rfl).trans h106
                  have e1 : fa.tmps[1]?.getD undef = .pointer (some ⟨pr, 0, none⟩) := ev.old 1 rfl
                  refine stepF_yes (i := 5) (g := 106) (b := true) rfl rfl rfl e106 (fun K hK => ?_)
                  exact stepF_val _ hK (run_move rfl e1 _) rfl
                · intro fx w' fa hk hd ev  -- 112 = Op.nilCheck (Operand.tmp 111)
                  have h111 : fx 111 = .pointer (some ⟨pr, 0, none⟩) := hd.1
                  have e111 : fa.tmps[111]?.getD undef = .pointer (some ⟨pr, 0, none⟩) := (ev.new 111 rfl).trans h111
                  have h106 : fx 106 = .bool true := hd.2.1
                  have e106 : fa.tmps[106]?.getD undef = .bool true := (ev.new 106 rfl).trans h106
                  refine stepF_yes (i := 5) (g := 106) (b := true) rfl rfl rfl e106 (fun K hK => ?_)
                  go_simp
                  exact hK _ _ rfl (Kp.refl _ _)
                · intro fx w' fa hk hd ev  -- 113 = Op.fieldAddr 75 (Operand.tmp 112) 4
                  have h112 : fx 112 = .pointer (some ⟨pr, 0, none⟩) := hd.1
                  have e112 : fa.tmps[112]?.getD undef = .pointer (some ⟨pr, 0, none⟩) := (ev.new 112 rfl).trans h112
                  have h106 : fx 106 = .bool true := hd.2.1
                  have e106 : fa.tmps[106]?.getD undef = .bool true := (ev.new 106 rfl).trans h106
                  refine stepF_yes (i := 5) (g := 106) (b := true) rfl rfl rfl e106 (fun K hK => ?_)
                  go_simp
                  exact hK _ _ rfl (Kp.refl _ _)
                · intro fx w' fa hk hd ev  -- 114 = Op.load 73 (Operand.tmp 113)
                  have h113 : fx 113 = .pointer (some ⟨pr, 4, none⟩) := hd.1
                  have e113 : fa.tmps[113]?.getD undef = .pointer (some ⟨pr, 4, none⟩) := (ev.new 113 rfl).trans h113
                  have h106 : fx 106 = .bool true := hd.2.1
                  have e106 : fa.tmps[106]?.getD undef = .bool true := (ev.new 106 rfl).trans h106
                  refine stepF_yes (i := 5) (g := 106) (b := true) rfl rfl rfl e106 (fun K hK => ?_)
                  have hc1 := hk.cell hq45 (by simp)
                  go_simp
                  exact hK _ _ rfl (Kp.refl _ _)
                · intro fx w' fa hk hd ev  -- 115 = Op.call { callee := Callee.builtin Builtin.len, args := #[Op
                  have h114 : fx 114 = .slice Ak N ck := hd.1
                  have e114 : fa.tmps[114]?.getD undef = .slice Ak N ck := (ev.new 114 rfl).trans h114
                  have h106 : fx 106 = .bool true := hd.2.1
                  have e106 : fa.tmps[106]?.getD undef = .bool true := (ev.new 106 rfl).trans h106
                  refine stepF_yes (i := 5) (g := 106) (b := true) rfl rfl rfl e106 (fun K hK => ?_)
                  go_simp
                  exact hK _ _ rfl (Kp.refl _ _)
                · intro fx w' fa hk hd ev  -- 116 = Op.binOp BinOp.lss 3 (Operand.tmp 110) (Operand.tmp 115) 3
                  have h110 : fx 110 = .int .i64 x := hd.1
                  have e110 : fa.tmps[110]?.getD undef = .int .i64 x := (ev.new 110 rfl).trans h110
                  have h115 : fx 115 = .int .i64 (N : Int) := hd.2.1
                  have e115 : fa.tmps[115]?.getD undef = .int .i64 (N : Int) := (ev.new 115 rfl).trans h115
                  have h106 : fx 106 = .bool true := hd.2.2.1
                  have e106 : fa.tmps[106]?.getD undef = .bool true := (ev.new 106 rfl).trans h106
                  refine stepF_yes (i := 5) (g := 106) (b := true) rfl rfl rfl e106 (fun K hK => ?_)
                  go_simp
                  exact hK _ _ rfl (Kp.refl _ _)
                · intro fx w' fa hk hd ev  -- 117 = Op.pick (Operand.tmp 106) (Operand.tmp 116) (Operand.const (
                  have h106 : fx 106 = .bool true := hd.1
                  have e106 : fa.tmps[106]?.getD undef = .bool true := (ev.new 106 rfl).trans h106
                  have h116 : fx 116 = .bool false := hd.2.1
                  have e116 : fa.tmps[116]?.getD undef = .bool false := (ev.new 116 rfl).trans h116
                  refine stepF_un rfl (fun K hK => ?_)
                  go_simp
                  exact hK _ _ rfl (Kp.refl _ _)
              · intro fx w' hk hd
                have h117 : fx 117 = .bool false := hd.2.2.2.2.2.2.2.2.2.2.2.2.2.2.2.2.1
                rw [h117]
                have HKZ := Lib.hid (HK5.out.trans hk)
                have B5Z := Lib.hid (B5.out.kp0 hk)
                have B6Z := Lib.hid (B6.out.kp0 hk)
                have b8z := B7.out.kp0 hk
                rw [HBW.out] at b8z
                have B8Z := Lib.hid b8z
                obtain ⟨wz, hwz⟩ : ∃ wz, wz = w' := ⟨_, rfl⟩
                rw [← hwz] at HKZ B5Z B6Z B8Z ⊢
                clear hk hd hwz b8z HRK5 HBW B5 B6 B7 hx3
                go_wp2_with fail
                go_loopw [14] (fun v wq => ∃ q : Nat, v = .int .i64 (q : Int) ∧ q ≤ 4 ∧ Hid (Kp [] wz wq)) (fun v _ => 4 - (intOf v).toNat)
                case atStart => exact ⟨0, rfl, by omega, Lib.hid (Kp.refl _ _)⟩
                case round =>
                  obtain ⟨q, rfl, hq, HKQ⟩ := hrel
                  by_cases hq4 : q < 4
                  · obtain ⟨W, kq, b, hkq, hbq, hW, hb, hkm⟩ := HKV.out q hq4
                    have m0 : wr.cell? ⟨G, q, none⟩ = some (.int .i64 kq) := by
                      rw [(B5Z.out.kp0 HKQ.out).cell]
                      rcases (show q = 0 ∨ q = 1 ∨ q = 2 ∨ q = 3 by omega) with rfl | rfl | rfl | rfl <;> (injection hkq with hkq; subst hkq; rfl)
                    have m1 : wr.cell? ⟨G + 1, q, none⟩ = some (.bool b) := by
                      rw [(B6Z.out.kp0 HKQ.out).cell]
                      rcases (show q = 0 ∨ q = 1 ∨ q = 2 ∨ q = 3 by omega) with rfl | rfl | rfl | rfl <;> (injection hbq with hbq; subst hbq; rfl)
                    have m2 : wr.cell? ⟨G + 2, q, none⟩ = some (.int .i64 W) := by rw [(B8Z.out.kp0 HKQ.out).cell, hW]; rcases (show q = 0 ∨ q = 1 ∨ q = 2 ∨ q = 3 by omega) with rfl | rfl | rfl | rfl <;> rfl
                    have hdb : decide (-2 < W) = b := hb.symm
                    have hmx : (if W < 0 then 0 else W) = kq := by rw [hkm]; split <;> omega
                    have hj0 : (0 : Int) ≤ (q : Int) := by omega
                    have hj1 : (q : Int) < 4 := by omega
                    clear hkq hbq hW hb hkm
                    go_wp2_with fail
                    refine wp_region_facts (by kernel_rfl) 150 [132, 133, 134, 135, 136, 137, 138, 139, 140, 141, 142, 143, 144, 145, 146, 147, 148, 149] [[], [132], [133], [], [135], [136], [137], [134, 138], [139], [140], [141, 140], [142, 140], [140], [144, 140], [145, 140], [146, 140], [143, 147, 140], [140, 148]] (by kernel_rfl) (by kernel_rfl) rfl (factOf [(132, .eq (.int .i64 (q : Int))), (133, .eq (.pointer (some ⟨G + 1, q, none⟩))), (134, .eq (.bool b)), (135, .eq (.int .i64 (q : Int))), (136, .eq (.pointer (some ⟨G + 2, q, none⟩))), (137, .eq (.int .i64 W)), (138, .eq (.bool b)), (139, .eq (.bool false)), (140, .eq (.bool false)), (141, .eq (.int .i64 (q : Int))), (142, .eq (.pointer (some ⟨G, q, none⟩))), (143, .eq (.int .i64 kq)), (144, .eq (.int .i64 (q : Int))), (145, .eq (.pointer (some ⟨G + 2, q, none⟩))), (146, .eq (.int .i64 W)), (147, .eq (.int .i64 kq)), (148, .eq (.bool false)), (149, .eq (.bool false))]) (factOf_stable _) _ (fun x => by simp only [fillL, Nat.reduceAdd, Nat.reduceEqDiff, ↓reduceIte]; rfl) ?_ ?_
                    · refine ⟨?_, ?_, ?_, ?_, ?_, ?_, ?_, ?_, ?_, ?_, ?_, ?_, ?_, ?_, ?_, ?_, ?_, ?_, trivial⟩
                      · intro fx w' fa hk hd ev  -- 132 = Op.move (Operand.tmp 14)
                        have e14 : fa.tmps[14]?.getD undef = .int .i64 (q : Int) := ev.old 14 rfl
                        refine stepF_un rfl (fun K hK => ?_)
                        exact stepF_val _ hK (run_move rfl e14 _) rfl
                      · intro fx w' fa hk hd ev  -- 133 = Op.indexAddr 58 (Operand.tmp 12) (Operand.tmp 132)
                        have h132 : fx 132 = .int .i64 (q : Int) := hd.1
                        have e132 : fa.tmps[132]?.getD undef = .int .i64 (q : Int) := (ev.new 132 rfl).trans h132
                        have e12 : fa.tmps[12]?.getD undef = .pointer (some ⟨G + 1, 0, none⟩) := ev.old 12 rfl
                        refine stepF_un rfl (fun K hK => ?_)
                        go_simp
                        exact hK _ _ rfl (Kp.refl _ _)
                      · intro fx w' fa hk hd ev  -- 134 = Op.load 4 (Operand.tmp 133)
                        have h133 : fx 133 = .pointer (some ⟨G + 1, q, none⟩) := hd.1
                        have e133 : fa.tmps[133]?.getD undef = .pointer (some ⟨G + 1, q, none⟩) := (ev.new 133 rfl).trans h133
                        refine stepF_un rfl (fun K hK => ?_)
                        have c1 := hk.cell m1 (by simp)
                        go_simp
                        exact hK _ _ rfl (Kp.refl _ _)
                      · intro fx w' fa hk hd ev  -- 135 = Op.move (Operand.tmp 14)
                        have e14 : fa.tmps[14]?.getD undef = .int .i64 (q : Int) := ev.old 14 rfl
                        refine stepF_un rfl (fun K hK => ?_)
                        exact stepF_val _ hK (run_move rfl e14 _) rfl
                      · intro fx w' fa hk hd ev  -- 136 = Op.indexAddr 57 (Operand.tmp 13) (Operand.tmp 135)
                        have h135 : fx 135 = .int .i64 (q : Int) := hd.1
                        have e135 : fa.tmps[135]?.getD undef = .int .i64 (q : Int) := (ev.new 135 rfl).trans h135
                        have e13 : fa.tmps[13]?.getD undef = .pointer (some ⟨G + 2, 0, none⟩) := ev.old 13 rfl
                        refine stepF_un rfl (fun K hK => ?_)
                        go_simp
                        exact hK _ _ rfl (Kp.refl _ _)
                      · intro fx w' fa hk hd ev  -- 137 = Op.load 3 (Operand.tmp 136)
                        have h136 : fx 136 = .pointer (some ⟨G + 2, q, none⟩) := hd.1
                        have e136 : fa.tmps[136]?.getD undef = .pointer (some ⟨G + 2, q, none⟩) := (ev.new 136 rfl).trans h136
                        refine stepF_un rfl (fun K hK => ?_)
                        have c1 := hk.cell m2 (by simp)
                        go_simp
                        exact hK _ _ rfl (Kp.refl _ _)
                      · intro fx w' fa hk hd ev  -- 138 = Op.binOp BinOp.gtr 3 (Operand.tmp 137) (Operand.const (Value
                        have h137 : fx 137 = .int .i64 W := hd.1
                        have e137 : fa.tmps[137]?.getD undef = .int .i64 W := (ev.new 137 rfl).trans h137
                        refine stepF_un rfl (fun K hK => ?_)
                        go_simp
                        exact hK _ _ rfl (Kp.refl _ _)
                      · intro fx w' fa hk hd ev  -- 139 = Op.binOp BinOp.neq 4 (Operand.tmp 134) (Operand.tmp 138) 4
                        have h134 : fx 134 = .bool b := hd.1
                        have e134 : fa.tmps[134]?.getD undef = .bool b := (ev.new 134 rfl).trans h134
                        have h138 : fx 138 = .bool b := hd.2.1
                        have e138 : fa.tmps[138]?.getD undef = .bool b := (ev.new 138 rfl).trans h138
                        refine stepF_un rfl (fun K hK => ?_)
                        go_simp
                        exact hK _ _ rfl (Kp.refl _ _)
                      · intro fx w' fa hk hd ev  -- 140 = Op.move (Operand.tmp 139)
                        have h139 : fx 139 = .bool false := hd.1
                        have e139 : fa.tmps[139]?.getD undef = .bool false := (ev.new 139 rfl).trans h139
                        refine stepF_un rfl (fun K hK => ?_)
                        exact stepF_val _ hK (run_move rfl e139 _) rfl
                      · intro fx w' fa hk hd ev  -- 141 = Op.move (Operand.tmp 14)
                        have h140 : fx 140 = .bool false := hd.1
                        have e140 : fa.tmps[140]?.getD undef = .bool false := (ev.new 140 rfl).trans h140
                        have e14 : fa.tmps[14]?.getD undef = .int .i64 (q : Int) := ev.old 14 rfl
                        refine stepF_yes (i := 8) (g := 140) (b := false) rfl rfl rfl e140 (fun K hK => ?_)
                        exact stepF_val _ hK (run_move rfl e14 _) rfl
                      · intro fx w' fa hk hd ev  -- 142 = Op.indexAddr 57 (Operand.tmp 11) (Operand.tmp 141)
                        have h141 : fx 141 = .int .i64 (q : Int) := hd.1
                        have e141 : fa.tmps[141]?.getD undef = .int .i64 (q : Int) := (ev.new 141 rfl).trans h141
                        have h140 : fx 140 = .bool false := hd.2.1
                        have e140 : fa.tmps[140]?.getD undef = .bool false := (ev.new 140 rfl).trans h140
                        have e11 : fa.tmps[11]?.getD undef = .pointer (some ⟨G, 0, none⟩) := ev.old 11 rfl
                        refine stepF_yes (i := 8) (g := 140) (b := false) rfl rfl rfl e140 (fun K hK => ?_)
                        go_simp
                        exact hK _ _ rfl (Kp.refl _ _)
                      · intro fx w' fa hk hd ev  -- 143 = Op.load 3 (Operand.tmp 142)
                        have h142 : fx 142 = .pointer (some ⟨G, q, none⟩) := hd.1
                        have e142 : fa.tmps[142]?.getD undef = .pointer (some ⟨G, q, none⟩) := (ev.new 142 rfl).trans h142
                        have h140 : fx 140 = .bool false := hd.2.1
                        have e140 : fa.tmps[140]?.getD undef = .bool false := (ev.new 140 rfl).trans h140
                        refine stepF_yes (i := 8) (g := 140) (b := false) rfl rfl rfl e140 (fun K hK => ?_)
                        have c1 := hk.cell m0 (by simp)
                        go_simp
                        exact hK _ _ rfl (Kp.refl _ _)
                      · intro fx w' fa hk hd ev  -- 144 = Op.move (Operand.tmp 14)
                        have h140 : fx 140 = .bool false := hd.1
                        have e140 : fa.tmps[140]?.getD undef = .bool false := (ev.new 140 rfl).trans h140
                        have e14 : fa.tmps[14]?.getD undef = .int .i64 (q : Int) := ev.old 14 rfl
                        refine stepF_yes (i := 8) (g := 140) (b := false) rfl rfl rfl e140 (fun K hK => ?_)
                        exact stepF_val _ hK (run_move rfl e14 _) rfl
                      · intro fx w' fa hk hd ev  -- 145 = Op.indexAddr 57 (Operand.tmp 13) (Operand.tmp 144)
                        have h144 : fx 144 = .int .i64 (q : Int) := hd.1
                        have e144 : fa.tmps[144]?.getD undef = .int .i64 (q : Int) := (ev.new 144 rfl).trans h144
                        have h140 : fx 140 = .bool false := hd.2.1
                        have e140 : fa.tmps[140]?.getD undef = .bool false := (ev.new 140 rfl).trans h140
                        have e13 : fa.tmps[13]?.getD undef = .pointer (some ⟨G + 2, 0, none⟩) := ev.old 13 rfl
                        refine stepF_yes (i := 8) (g := 140) (b := false) rfl rfl rfl e140 (fun K hK => ?_)
                        go_simp
                        exact hK _ _ rfl (Kp.refl _ _)
                      · intro fx w' fa hk hd ev  -- 146 = Op.load 3 (Operand.tmp 145)
                        have h145 : fx 145 = .pointer (some ⟨G + 2, q, none⟩) := hd.1
                        have e145 : fa.tmps[145]?.getD undef = .pointer (some ⟨G + 2, q, none⟩) := (ev.new 145 rfl).trans h145
                        have h140 : fx 140 = .bool false := hd.2.1
                        have e140 : fa.tmps[140]?.getD undef = .bool false := (ev.new 140 rfl).trans h140
                        refine stepF_yes (i := 8) (g := 140) (b := false) rfl rfl rfl e140 (fun K hK => ?_)
                        have c1 := hk.cell m2 (by simp)
                        go_simp
                        exact hK _ _ rfl (Kp.refl _ _)
                      · intro fx w' fa hk hd ev  -- 147 = Op.call { callee := Callee.builtin Builtin.max, args := #[Op
                        have h146 : fx 146 = .int .i64 W := hd.1
                        have e146 : fa.tmps[146]?.getD undef = .int .i64 W := (ev.new 146 rfl).trans h146
                        have h140 : fx 140 = .bool false := hd.2.1
                        have e140 : fa.tmps[140]?.getD undef = .bool false := (ev.new 140 rfl).trans h140
                        refine stepF_yes (i := 8) (g := 140) (b := false) rfl rfl rfl e140 (fun K hK => ?_)
                        go_simp
                        exact hK _ _ rfl (Kp.refl _ _)
                      · intro fx w' fa hk hd ev  -- 148 = Op.binOp BinOp.neq 3 (Operand.tmp 143) (Operand.tmp 147) 3
                        have h143 : fx 143 = .int .i64 kq := hd.1
                        have e143 : fa.tmps[143]?.getD undef = .int .i64 kq := (ev.new 143 rfl).trans h143
                        have h147 : fx 147 = .int .i64 kq := hd.2.1
                        have e147 : fa.tmps[147]?.getD undef = .int .i64 kq := (ev.new 147 rfl).trans h147
                        have h140 : fx 140 = .bool false := hd.2.2.1
                        have e140 : fa.tmps[140]?.getD undef = .bool false := (ev.new 140 rfl).trans h140
                        refine stepF_yes (i := 8) (g := 140) (b := false) rfl rfl rfl e140 (fun K hK => ?_)
                        go_simp
                        exact hK _ _ rfl (Kp.refl _ _)
                      · intro fx w' fa hk hd ev  -- 149 = Op.pick (Operand.tmp 140) (Operand.const (Value.bool true)) 
                        have h140 : fx 140 = .bool false := hd.1
                        have e140 : fa.tmps[140]?.getD undef = .bool false := (ev.new 140 rfl).trans h140
                        have h148 : fx 148 = .bool false := hd.2.1
                        have e148 : fa.tmps[148]?.getD undef = .bool false := (ev.new 148 rfl).trans h148
                        refine stepF_un rfl (fun K hK => ?_)
                        go_simp
                        exact hK _ _ rfl (Kp.refl _ _)
                    · intro fx w' hk hd
                      have h149 : fx 149 = .bool false := hd.2.2.2.2.2.2.2.2.2.2.2.2.2.2.2.2.2.1
                      rw [h149]
                      have HKQ2 := Lib.hid (HKQ.out.trans hk)
                      clear hk hd m0 m1 m2 hdb hmx
                      go_wp2_with fail
                      exact ⟨⟨q + 1, by go_num, by omega, HKQ2⟩, by simp [intOf]; omega⟩
                  · obtain rfl : q = 4 := by omega
                    have HKE := Lib.hid (HKZ.out.trans HKQ.out)
                    go_wp2_with fail
                    exact ⟨⟨i + 1, by go_num, by omega, HKE⟩, by simp [intOf]; omega⟩
            · have hx3 : decide (0 ≤ x) = false := decide_eq_false hx2
              clear hin
              go_wp2_with fail
              refine wp_region_facts (by kernel_rfl) 150 [101, 102, 103, 104, 105, 106, 107, 108, 109, 110, 111, 112, 113, 114, 115, 116, 117] [[], [], [101, 102], [103], [104], [105], [106], [106], [107, 108, 106], [109, 106], [106], [111, 106], [112, 106], [113, 106], [114, 106], [110, 115, 106], [106, 116]] (by kernel_rfl) (by kernel_rfl) rfl (factOf [(101, .eq (.slice (some ad) 6 c9)), (102, .eq (.int .i64 (i : Int))), (103, .eq (.pointer (some (ad.add i)))), (104, .eq (.int .i64 x)), (105, .eq (.bool false)), (106, .eq (.bool false)), (107, .eq (undef)), (108, .eq (undef)), (109, .eq (undef)), (110, .eq (undef)), (111, .eq (undef)), (112, .eq (undef)), (113, .eq (undef)), (114, .eq (undef)), (115, .eq (undef)), (116, .eq (undef)), (117, .eq (.bool false))]) (factOf_stable _) _ (fun x => by simp only [fillL, Nat.reduceAdd, Nat.reduceEqDiff, ↓reduceIte]; rfl) ?_ ?_
              · refine ⟨?_, ?_, ?_, ?_, ?_, ?_, ?_, ?_, ?_, ?_, ?_, ?_, ?_, ?_, ?_, ?_, ?_, trivial⟩
                · intro fx w' fa hk hd ev  -- 101 = Op.move (Operand.tmp 9)
                  have e9 : fa.tmps[9]?.getD undef = .slice (some ad) 6 c9 := ev.old 9 rfl
                  refine stepF_un rfl (fun K hK => ?_)
                  exact stepF_val _ hK (run_move rfl e9 _) rfl
                · intro fx w' fa hk hd ev  -- 102 = Op.move (Operand.tmp 10)
                  have e10 : fa.tmps[10]?.getD undef = .int .i64 (i : Int) := ev.old 10 rfl
                  refine stepF_un rfl (fun K hK => ?_)
                  exact stepF_val _ hK (run_move rfl e10 _) rfl
                · intro fx w' fa hk hd ev  -- 103 = Op.indexAddr 83 (Operand.tmp 101) (Operand.tmp 102)
                  have h101 : fx 101 = .slice (some ad) 6 c9 := hd.1
                  have e101 : fa.tmps[101]?.getD undef = .slice (some ad) 6 c9 := (ev.new 101 rfl).trans h101
                  have h102 : fx 102 = .int .i64 (i : Int) := hd.2.1
                  have e102 : fa.tmps[102]?.getD undef = .int .i64 (i : Int) := (ev.new 102 rfl).trans h102
                  refine stepF_un rfl (fun K hK => ?_)
                  go_simp
                  exact hK _ _ rfl (Kp.refl _ _)
                · intro fx w' fa hk hd ev  -- 104 = Op.load 3 (Operand.tmp 103)
                  have h103 : fx 103 = .pointer (some (ad.add i)) := hd.1
                  have e103 : fa.tmps[103]?.getD undef = .pointer (some (ad.add i)) := (ev.new 103 rfl).trans h103
                  refine stepF_un rfl (fun K hK => ?_)
                  have hc1 := hk.cell hcx5 (by simp)
                  go_simp
                  exact hK _ _ rfl (Kp.refl _ _)
                · intro fx w' fa hk hd ev  -- 105 = Op.binOp BinOp.geq 3 (Operand.tmp 104) (Operand.const (Value
                  have h104 : fx 104 = .int .i64 x := hd.1
                  have e104 : fa.tmps[104]?.getD undef = .int .i64 x := (ev.new 104 rfl).trans h104
                  refine stepF_un rfl (fun K hK => ?_)
                  go_simp
                  exact hK _ _ rfl (Kp.refl _ _)
                · intro fx w' fa hk hd ev  -- 106 = Op.move (Operand.tmp 105)
                  have h105 : fx 105 = .bool false := hd.1
                  have e105 : fa.tmps[105]?.getD undef = .bool false := (ev.new 105 rfl).trans h105
                  refine stepF_un rfl (fun K hK => ?_)
                  exact stepF_val _ hK (run_move rfl e105 _) rfl
                · intro fx w' fa hk hd ev  -- 107 = Op.move (Operand.tmp 9)
                  have h106 : fx 106 = .bool false := hd.1
                  have e106 : fa.tmps[106]?.getD undef = .bool false := (ev.new 106 rfl).trans h106
                  refine stepF_no (i := 5) (g := 106) (b := true) rfl rfl rfl e106 rfl
                · intro fx w' fa hk hd ev  -- 108 = Op.move (Operand.tmp 10)
                  have h106 : fx 106 = .bool false := hd.1
                  have e106 : fa.tmps[106]?.getD undef = .bool false := (ev.new 106 rfl).trans h106
                  refine stepF_no (i := 5) (g := 106) (b := true) rfl rfl rfl e106 rfl
                · intro fx w' fa hk hd ev  -- 109 = Op.indexAddr 83 (Operand.tmp 107) (Operand.tmp 108)
                  have h106 : fx 106 = .bool false := hd.2.2.1
                  have e106 : fa.tmps[106]?.getD undef = .bool false := (ev.new 106 rfl).trans h106
                  refine stepF_no (i := 5) (g := 106) (b := true) rfl rfl rfl e106 rfl
                · intro fx w' fa hk hd ev  -- 110 = Op.load 3 (Operand.tmp 109)
                  have h106 : fx 106 = .bool false := hd.2.1
                  have e106 : fa.tmps[106]?.getD undef = .bool false := (ev.new 106 rfl).trans h106
                  refine stepF_no (i := 5) (g := 106) (b := true) rfl rfl rfl e106 rfl
                · intro fx w' fa hk hd ev  -- 111 = Op.move (Operand.tmp 1)
                  have h106 : fx 106 = .bool false := hd.1
                  have e106 : fa.tmps[106]?.getD undef = .bool false := (ev.new 106 rfl).trans h106
                  refine stepF_no (i := 5) (g := 106) (b := true) rfl rfl rfl e106 rfl
                · intro fx w' fa hk hd ev  -- 112 = Op.nilCheck (Operand.tmp 111)
                  have h106 : fx 106 = .bool false := hd.2.1
                  have e106 : fa.tmps[106]?.getD undef = .bool false := (ev.new 106 rfl).trans h106
                  refine stepF_no (i := 5) (g := 106) (b := true) rfl rfl rfl e106 rfl
                · intro fx w' fa hk hd ev  -- 113 = Op.fieldAddr 75 (Operand.tmp 112) 4
                  have h106 : fx 106 = .bool false := hd.2.1
                  have e106 : fa.tmps[106]?.getD undef = .bool false := (ev.new 106 rfl).trans h106
                  refine stepF_no (i := 5) (g := 106) (b := true) rfl rfl rfl e106 rfl
                · intro fx w' fa hk hd ev  -- 114 = Op.load 73 (Operand.tmp 113)
                  have h106 : fx 106 = .bool false := hd.2.1
                  have e106 : fa.tmps[106]?.getD undef = .bool false := (ev.new 106 rfl).trans h106
                  refine stepF_no (i := 5) (g := 106) (b := true) rfl rfl rfl e106 rfl
                · intro fx w' fa hk hd ev  -- 115 = Op.call { callee := Callee.builtin Builtin.len, args := #[Op
                  have h106 : fx 106 = .bool false := hd.2.1
                  have e106 : fa.tmps[106]?.getD undef = .bool false := (ev.new 106 rfl).trans h106
                  refine stepF_no (i := 5) (g := 106) (b := true) rfl rfl rfl e106 rfl
                · intro fx w' fa hk hd ev  -- 116 = Op.binOp BinOp.lss 3 (Operand.tmp 110) (Operand.tmp 115) 3
                  have h106 : fx 106 = .bool false := hd.2.2.1
                  have e106 : fa.tmps[106]?.getD undef = .bool false := (ev.new 106 rfl).trans h106
                  refine stepF_no (i := 5) (g := 106) (b := true) rfl rfl rfl e106 rfl
                · intro fx w' fa hk hd ev  -- 117 = Op.pick (Operand.tmp 106) (Operand.tmp 116) (Operand.const (
                  have h106 : fx 106 = .bool false := hd.1
                  have e106 : fa.tmps[106]?.getD undef = .bool false := (ev.new 106 rfl).trans h106
                  have h116 : fx 116 = undef := hd.2.1
                  have e116 : fa.tmps[116]?.getD undef = undef := (ev.new 116 rfl).trans h116
                  refine stepF_un rfl (fun K hK => ?_)
                  go_simp
                  exact hK _ _ rfl (Kp.refl _ _)
              · intro fx w' hk hd
                have h117 : fx 117 = .bool false := hd.2.2.2.2.2.2.2.2.2.2.2.2.2.2.2.2.1
                rw [h117]
                have HKZ := Lib.hid (HK5.out.trans hk)
                have B5Z := Lib.hid (B5.out.kp0 hk)
                have B6Z := Lib.hid (B6.out.kp0 hk)
                have b8z := B7.out.kp0 hk
                rw [HBW.out] at b8z
                have B8Z := Lib.hid b8z
                obtain ⟨wz, hwz⟩ : ∃ wz, wz = w' := ⟨_, rfl⟩
                rw [← hwz] at HKZ B5Z B6Z B8Z ⊢
                clear hk hd hwz b8z HRK5 HBW B5 B6 B7 hx3
                go_wp2_with fail
                go_loopw [14] (fun v wq => ∃ q : Nat, v = .int .i64 (q : Int) ∧ q ≤ 4 ∧ Hid (Kp [] wz wq)) (fun v _ => 4 - (intOf v).toNat)
                case atStart => exact ⟨0, rfl, by omega, Lib.hid (Kp.refl _ _)⟩
                case round =>
                  obtain ⟨q, rfl, hq, HKQ⟩ := hrel
                  by_cases hq4 : q < 4
                  · obtain ⟨W, kq, b, hkq, hbq, hW, hb, hkm⟩ := HKV.out q hq4
                    have m0 : wr.cell? ⟨G, q, none⟩ = some (.int .i64 kq) := by
                      rw [(B5Z.out.kp0 HKQ.out).cell]
                      rcases (show q = 0 ∨ q = 1 ∨ q = 2 ∨ q = 3 by omega) with rfl | rfl | rfl | rfl <;> (injection hkq with hkq; subst hkq; rfl)
                    have m1 : wr.cell? ⟨G + 1, q, none⟩ = some (.bool b) := by
                      rw [(B6Z.out.kp0 HKQ.out).cell]
                      rcases (show q = 0 ∨ q = 1 ∨ q = 2 ∨ q = 3 by omega) with rfl | rfl | rfl | rfl <;> (injection hbq with hbq; subst hbq; rfl)
                    have m2 : wr.cell? ⟨G + 2, q, none⟩ = some (.int .i64 W) := by rw [(B8Z.out.kp0 HKQ.out).cell, hW]; rcases (show q = 0 ∨ q = 1 ∨ q = 2 ∨ q = 3 by omega) with rfl | rfl | rfl | rfl <;> rfl
                    have hdb : decide (-2 < W) = b := hb.symm
                    have hmx : (if W < 0 then 0 else W) = kq := by rw [hkm]; split <;> omega
                    have hj0 : (0 : Int) ≤ (q : Int) := by omega
                    have hj1 : (q : Int) < 4 := by omega
                    clear hkq hbq hW hb hkm
                    go_wp2_with fail
                    refine wp_region_facts (by kernel_rfl) 150 [132, 133, 134, 135, 136, 137, 138, 139, 140, 141, 142, 143, 144, 145, 146, 147, 148, 149] [[], [132], [133], [], [135], [136], [137], [134, 138], [139], [140], [141, 140], [142, 140], [140], [144, 140], [145, 140], [146, 140], [143, 147, 140], [140, 148]] (by kernel_rfl) (by kernel_rfl) rfl (factOf [(132, .eq (.int .i64 (q : Int))), (133, .eq (.pointer (some ⟨G + 1, q, none⟩))), (134, .eq (.bool b)), (135, .eq (.int .i64 (q : Int))), (136, .eq (.pointer (some ⟨G + 2, q, none⟩))), (137, .eq (.int .i64 W)), (138, .eq (.bool b)), (139, .eq (.bool false)), (140, .eq (.bool false)), (141, .eq (.int .i64 (q : Int))), (142, .eq (.pointer (some ⟨G, q, none⟩))), (143, .eq (.int .i64 kq)), (144, .eq (.int .i64 (q : Int))), (145, .eq (.pointer (some ⟨G + 2, q, none⟩))), (146, .eq (.int .i64 W)), (147, .eq (.int .i64 kq)), (148, .eq (.bool false)), (149, .eq (.bool false))]) (factOf_stable _) _ (fun x => by simp only [fillL, Nat.reduceAdd, Nat.reduceEqDiff, ↓reduceIte]; rfl) ?_ ?_
                    · refine ⟨?_, ?_, ?_, ?_, ?_, ?_, ?_, ?_, ?_, ?_, ?_, ?_, ?_, ?_, ?_, ?_, ?_, ?_, trivial⟩
                      · intro fx w' fa hk hd ev  -- 132 = Op.move (Operand.tmp 14)
                        have e14 : fa.tmps[14]?.getD undef = .int .i64 (q : Int) := ev.old 14 rfl
                        refine stepF_un rfl (fun K hK => ?_)
                        exact stepF_val _ hK (run_move rfl e14 _) rfl
                      · intro fx w' fa hk hd ev  -- 133 = Op.indexAddr 58 (Operand.tmp 12) (Operand.tmp 132)
                        have h132 : fx 132 = .int .i64 (q : Int) := hd.1
                        have e132 : fa.tmps[132]?.getD undef = .int .i64 (q : Int) := (ev.new 132 rfl).trans h132
                        have e12 : fa.tmps[12]?.getD undef = .pointer (some ⟨G + 1, 0, none⟩) := ev.old 12 rfl
                        refine stepF_un rfl (fun K hK => ?_)
                        go_simp
                        exact hK _ _ rfl (Kp.refl _ _)
                      · intro fx w' fa hk hd ev  -- 134 = Op.load 4 (Operand.tmp 133)
                        have h133 : fx 133 = .pointer (some ⟨G + 1, q, none⟩) := hd.1
                        have e133 : fa.tmps[133]?.getD undef = .pointer (some ⟨G + 1, q, none⟩) := (ev.new 133 rfl).trans h133
                        refine stepF_un rfl (fun K hK => ?_)
                        have c1 := hk.cell m1 (by simp)
                        go_simp
                        exact hK _ _ rfl (Kp.refl _ _)
                      · intro fx w' fa hk hd ev  -- 135 = Op.move (Operand.tmp 14)
                        have e14 : fa.tmps[14]?.getD undef = .int .i64 (q : Int) := ev.old 14 rfl
                        refine stepF_un rfl (fun K hK => ?_)
                        exact stepF_val _ hK (run_move rfl e14 _) rfl
                      · intro fx w' fa hk hd ev  -- 136 = Op.indexAddr 57 (Operand.tmp 13) (Operand.tmp 135)
                        have h135 : fx 135 = .int .i64 (q : Int) := hd.1
                        have e135 : fa.tmps[135]?.getD undef = .int .i64 (q : Int) := (ev.new 135 rfl).trans h135
                        have e13 : fa.tmps[13]?.getD undef = .pointer (some ⟨G + 2, 0, none⟩) := ev.old 13 rfl
                        refine stepF_un rfl (fun K hK => ?_)
                        go_simp
                        exact hK _ _ rfl (Kp.refl _ _)
                      · intro fx w' fa hk hd ev  -- 137 = Op.load 3 (Operand.tmp 136)
                        have h136 : fx 136 = .pointer (some ⟨G + 2, q, none⟩) := hd.1
                        have e136 : fa.tmps[136]?.getD undef = .pointer (some ⟨G + 2, q, none⟩) := (ev.new 136 rfl).trans h136
                        refine stepF_un rfl (fun K hK => ?_)
                        have c1 := hk.cell m2 (by simp)
                        go_simp
                        exact hK _ _ rfl (Kp.refl _ _)
                      · intro fx w' fa hk hd ev  -- 138 = Op.binOp BinOp.gtr 3 (Operand.tmp 137) (Operand.const (Value
                        have h137 : fx 137 = .int .i64 W := hd.1
                        have e137 : fa.tmps[137]?.getD undef = .int .i64 W := (ev.new 137 rfl).trans h137
                        refine stepF_un rfl (fun K hK => ?_)
                        go_simp
                        exact hK _ _ rfl (Kp.refl _ _)
                      · intro fx w' fa hk hd ev  -- 139 = Op.binOp BinOp.neq 4 (Operand.tmp 134) (Operand.tmp 138) 4
                        have h134 : fx 134 = .bool b := hd.1
                        have e134 : fa.tmps[134]?.getD undef = .bool b := (ev.new 134 rfl).trans h134
                        have h138 : fx 138 = .bool b := hd.2.1
                        have e138 : fa.tmps[138]?.getD undef = .bool b := (ev.new 138 rfl).trans h138
                        refine stepF_un rfl (fun K hK => ?_)
                        go_simp
                        exact hK _ _ rfl (Kp.refl _ _)
                      · intro fx w' fa hk hd ev  -- 140 = Op.move (Operand.tmp 139)
                        have h139 : fx 139 = .bool false := hd.1
                        have e139 : fa.tmps[139]?.getD undef = .bool false := (ev.new 139 rfl).trans h139
                        refine stepF_un rfl (fun K hK => ?_)
                        exact stepF_val _ hK (run_move rfl e139 _) rfl
                      · intro fx w' fa hk hd ev  -- 141 = Op.move (Operand.tmp 14)
                        have h140 : fx 140 = .bool false := hd.1
                        have e140 : fa.tmps[140]?.getD undef = .bool false := (ev.new 140 rfl).trans h140
                        have e14 : fa.tmps[14]?.getD undef = .int .i64 (q : Int) := ev.old 14 rfl
                        refine stepF_yes (i := 8) (g := 140) (b := false) rfl rfl rfl e140 (fun K hK => ?_)
                        exact stepF_val _ hK (run_move rfl e14 _) rfl
                      · intro fx w' fa hk hd ev  -- 142 = Op.indexAddr 57 (Operand.tmp 11) (Operand.tmp 141)
                        have h141 : fx 141 = .int .i64 (q : Int) := hd.1
                        have e141 : fa.tmps[141]?.getD undef = .int .i64 (q : Int) := (ev.new 141 rfl).trans h141
                        have h140 : fx 140 = .bool false := hd.2.1
                        have e140 : fa.tmps[140]?.getD undef = .bool false := (ev.new 140 rfl).trans h140
                        have e11 : fa.tmps[11]?.getD undef = .pointer (some ⟨G, 0, none⟩) := ev.old 11 rfl
                        refine stepF_yes (i := 8) (g := 140) (b := false) rfl rfl rfl e140 (fun K hK => ?_)
                        go_simp
                        exact hK _ _ rfl (Kp.refl _ _)
                      · intro fx w' fa hk hd ev  -- 143 = Op.load 3 (Operand.tmp 142)
                        have h142 : fx 142 = .pointer (some ⟨G, q, none⟩) := hd.1
                        have e142 : fa.tmps[142]?.getD undef = .pointer (some ⟨G, q, none⟩) := (ev.new 142 rfl).trans h142
                        have h140 : fx 140 = .bool false := hd.2.1
                        have e140 : fa.tmps[140]?.getD undef = .bool false := (ev.new 140 rfl).trans h140
                        refine stepF_yes (i := 8) (g := 140) (b := false) rfl rfl rfl e140 (fun K hK => ?_)
                        have c1 := hk.cell m0 (by simp)
                        go_simp
                        exact hK _ _ rfl (Kp.refl _ _)
                      · intro fx w' fa hk hd ev  -- 144 = Op.move (Operand.tmp 14)
                        have h140 : fx 140 = .bool false := hd.1
                        have e140 : fa.tmps[140]?.getD undef = .bool false := (ev.new 140 rfl).trans h140
                        have e14 : fa.tmps[14]?.getD undef = .int .i64 (q : Int) := ev.old 14 rfl
                        refine stepF_yes (i := 8) (g := 140) (b := false) rfl rfl rfl e140 (fun K hK => ?_)
                        exact stepF_val _ hK (run_move rfl e14 _) rfl
                      · intro fx w' fa hk hd ev  -- 145 = Op.indexAddr 57 (Operand.tmp 13) (Operand.tmp 144)
                        have h144 : fx 144 = .int .i64 (q : Int) := hd.1
                        have e144 : fa.tmps[144]?.getD undef = .int .i64 (q : Int) := (ev.new 144 rfl).trans h144
                        have h140 : fx 140 = .bool false := hd.2.1
                        have e140 : fa.tmps[140]?.getD undef = .bool false := (ev.new 140 rfl).trans h140
                        have e13 : fa.tmps[13]?.getD undef = .pointer (some ⟨G + 2, 0, none⟩) := ev.old 13 rfl
                        refine stepF_yes (i := 8) (g := 140) (b := false) rfl rfl rfl e140 (fun K hK => ?_)
                        go_simp
                        exact hK _ _ rfl (Kp.refl _ _)
                      · intro fx w' fa hk hd ev  -- 146 = Op.load 3 (Operand.tmp 145)
                        have h145 : fx 145 = .pointer (some ⟨G + 2, q, none⟩) := hd.1
                        have e145 : fa.tmps[145]?.getD undef = .pointer (some ⟨G + 2, q, none⟩) := (ev.new 145 rfl).trans h145
                        have h140 : fx 140 = .bool false := hd.2.1
                        have e140 : fa.tmps[140]?.getD undef = .bool false := (ev.new 140 rfl).trans h140
                        refine stepF_yes (i := 8) (g := 140) (b := false) rfl rfl rfl e140 (fun K hK => ?_)
                        have c1 := hk.cell m2 (by simp)
                        go_simp
                        exact hK _ _ rfl (Kp.refl _ _)
                      · intro fx w' fa hk hd ev  -- 147 = Op.call { callee := Callee.builtin Builtin.max, args := #[Op
                        have h146 : fx 146 = .int .i64 W := hd.1
                        have e146 : fa.tmps[146]?.getD undef = .int .i64 W := (ev.new 146 rfl).trans h146
                        have h140 : fx 140 = .bool false := hd.2.1
                        have e140 : fa.tmps[140]?.getD undef = .bool false := (ev.new 140 rfl).trans h140
                        refine stepF_yes (i := 8) (g := 140) (b := false) rfl rfl rfl e140 (fun K hK => ?_)
                        go_simp
                        exact hK _ _ rfl (Kp.refl _ _)
                      · intro fx w' fa hk hd ev  -- 148 = Op.binOp BinOp.neq 3 (Operand.tmp 143) (Operand.tmp 147) 3
                        have h143 : fx 143 = .int .i64 kq := hd.1
                        have e143 : fa.tmps[143]?.getD undef = .int .i64 kq := (ev.new 143 rfl).trans h143
                        have h147 : fx 147 = .int .i64 kq := hd.2.1
                        have e147 : fa.tmps[147]?.getD undef = .int .i64 kq := (ev.new 147 rfl).trans h147
                        have h140 : fx 140 = .bool false := hd.2.2.1
                        have e140 : fa.tmps[140]?.getD undef = .bool false := (ev.new 140 rfl).trans h140
                        refine stepF_yes (i := 8) (g := 140) (b := false) rfl rfl rfl e140 (fun K hK => ?_)
                        go_simp
                        exact hK _ _ rfl (Kp.refl _ _)
                      · intro fx w' fa hk hd ev  -- 149 = Op.pick (Operand.tmp 140) (Operand.const (Value.bool true)) 
                        have h140 : fx 140 = .bool false := hd.1
                        have e140 : fa.tmps[140]?.getD undef = .bool false := (ev.new 140 rfl).trans h140
                        have h148 : fx 148 = .bool false := hd.2.1
                        have e148 : fa.tmps[148]?.getD undef = .bool false := (ev.new 148 rfl).trans h148
                        refine stepF_un rfl (fun K hK => ?_)
                        go_simp
                        exact hK _ _ rfl (Kp.refl _ _)
                    · intro fx w' hk hd
                      have h149 : fx 149 = .bool false := hd.2.2.2.2.2.2.2.2.2.2.2.2.2.2.2.2.2.1
                      rw [h149]
                      have HKQ2 := Lib.hid (HKQ.out.trans hk)
                      clear hk hd m0 m1 m2 hdb hmx
                      go_wp2_with fail
                      exact ⟨⟨q + 1, by go_num, by omega, HKQ2⟩, by simp [intOf]; omega⟩
                  · obtain rfl : q = 4 := by omega
                    have HKE := Lib.hid (HKZ.out.trans HKQ.out)
                    go_wp2_with fail
                    exact ⟨⟨i + 1, by go_num, by omega, HKE⟩, by simp [intOf]; omega⟩
        · obtain rfl : i = 6 := by omega
          go_wp2_with fail
          go_ret
          exact ⟨rfl, HK1.out.trans (HK3.out.trans HKR.out)⟩
end Go.Proofs.Ytldmabkilgpgcaa
