/-
  LAYER 15 (tree), the document's: Bytes, Has; kids' numbers.
  CONDITIONS: as each says.
-/
import Derived.Test.YtldmabkilgpgcaaRt5
import Derived.Test.YtldmabkilgpgcaaBof
import Derived.Test.YtldmabkilgpgcaaBref2
import Derived.Test.YtldmabkilgpgcaaGopen
namespace Go.Proofs.Ytldmabkilgpgcaa
open Go.RowKit

/-- The document's kid of a node, the number as any. -/
def wantV (bs : List Bool) (node : Int) (q : Nat) : Int := if 0 ≤ node ∧ node < ((bs.length / 4 : Nat) : Int) then kidJ bs (bs.length / 4) (4 * node.toNat + q) else -2
theorem want_there (bs : List Bool) (node : Int) (q : Nat) : thereV bs node q = decide (-2 < wantV bs node q) := by
  unfold thereV wantV
  by_cases h : 0 ≤ node ∧ node < ((bs.length / 4 : Nat) : Int)
  · rw [if_pos h, if_pos h]
    unfold kidJ
    cases bs.getD (4 * node.toNat + q) false
    · simp
    · simp only [if_true]
      split
      · symm; rw [decide_eq_true_iff]; omega
      · rfl
  · rw [if_neg h, if_neg h]; rfl
theorem want_kid (bs : List Bool) (node : Int) (q : Nat) : ((kidV bs node q : Nat) : Int) = max (wantV bs node q) 0 := by
  unfold kidV
  by_cases h : 0 ≤ node ∧ node < ((bs.length / 4 : Nat) : Int)
  · unfold thereV wantV
    rw [if_pos h, if_pos h]
    unfold kidJ cntI
    cases bs.getD (4 * node.toNat + q) false
    · rfl
    · simp only [if_true]
      rw [Nat.add_comm]
      by_cases h2 : 1 + List.count true (List.take (4 * node.toNat + q) bs) < bs.length / 4
      · rw [if_pos h2, if_neg (by omega)]; omega
      · rw [if_neg h2, if_pos (by omega)]; rfl
  · unfold thereV wantV
    rw [if_neg h, if_neg h]
    rfl
theorem RTree.lt {w : World} {lo p h : Nat} {L : List (Nat × Nat)} {bs : List Bool} (ht : RTree w lo p h L bs) : p < w.heap.size := by
  obtain ⟨AL, Ab, Ak, nL, cL, nb, cb, nk, ck, h1, _⟩ := ht
  exact h1.lt
theorem RTree.cells {w : World} {lo p h : Nat} {L : List (Nat × Nat)} {bs : List Bool} (ht : RTree w lo p h L bs) : ∃ (AL Ab Ak : Option Addr) (cL cb ck : Nat), w.cell? ⟨p, 0, none⟩ = some (.int .i64 ((2 ^ h : Nat) : Int)) ∧ w.cell? ⟨p, 1, none⟩ = some (.int .i64 (h : Int)) ∧ w.cell? ⟨p, 2, none⟩ = some (.slice AL L.length cL) ∧ w.cell? ⟨p, 3, none⟩ = some (.slice Ab bs.length cb) ∧ w.cell? ⟨p, 4, none⟩ = some (.slice Ak (bs.length / 4) ck) ∧
    L.length ≤ cL ∧ Rd w w.heap.size AL (pc L) ∧ Rd w w.heap.size Ab (bs.map .bool) ∧ Rd w w.heap.size Ak ((kidsF bs (bs.length / 4) (4 * (bs.length / 4))).map (.int .i64)) ∧ 4 * (bs.length / 4) = bs.length := by
  obtain ⟨AL, Ab, Ak, nL, cL, nb, cb, nk, ck, h1, h2, h3, h4, h5, h6, h7, h8, h9, h10, _⟩ := ht
  have hq : bs.length / 4 = nk := by omega
  refine ⟨AL, Ab, Ak, cL, cb, ck, by rw [h1.cell]; rfl, by rw [h1.cell]; rfl, by rw [h1.cell, h2]; rfl, by rw [h1.cell, h5]; rfl, by rw [h1.cell, hq]; rfl, by omega, h4, h7, by rw [hq]; exact h10, by omega⟩
set_option maxRecDepth 100000 in
set_option maxHeartbeats 4000000 in
theorem rhas_any (lo p h : Nat) (L : List (Nat × Nat)) (bs : List Bool) (r cc : Int) (w : World) (ht : RTree w lo p h L bs) (hL : L.length ≤ 1000000) :
    Calls Try.prog 47 #[.pointer (some ⟨p, 0, none⟩), .agg #[.int .i64 r, .int .i64 cc]] w fun e w' => e = .returned (.bool (decide ((r, cc) ∈ L.map upI))) ∧ Kp [] w w' := by
  obtain ⟨R, hR⟩ : ∃ R, R = decide ((r, cc) ∈ L.map upI) := ⟨_, rfl⟩
  rw [← hR]
  obtain ⟨w1, hw1⟩ : ∃ w1, w1 = w.alloc (.cells #[.int .i64 r, .int .i64 cc] 71) := ⟨_, rfl⟩
  obtain ⟨g, hg⟩ : ∃ g, g = w.heap.size := ⟨_, rfl⟩
  have hk1 : Kp [] w w1 := by rw [hw1]; exact (Kp.refl [] w).alloc _
  have hb1 : Blk w1 g 71 [.int .i64 r, .int .i64 cc] := by rw [hw1, hg]; exact Blk.new w _ _
  obtain ⟨AL, _, _, cL, _, _, _, _, c2, _, _, hcL, hrd, _⟩ := (ht.kp0 hk1).cells
  obtain ⟨n, hn⟩ : ∃ n, L.length = n := ⟨_, rfl⟩
  rw [hn] at c2 hcL hL
  have HK := Lib.hid hk1
  have HX := Lib.hid hrd
  have HB := Lib.hid hb1
  have HC2 := Lib.hid c2
  have HN := Lib.hid hn; clear hn
  have HR := Lib.hid hR; clear hR
  have HW1 := Lib.hid hw1; clear hw1
  have HG := Lib.hid hg; clear hg
  clear ht hrd hk1 hb1 c2
  go_enter Try.func47, Try.ntmps47
  go_wp2_with fail
  rw [← HW1.out, ← HG.out]
  go_loopw [5] (fun x wr => ∃ k : Nat, x = .int .i64 (k : Int) ∧ k ≤ n ∧ Hid (∀ y ∈ (L.map upI).take k, y ≠ (r, cc)) ∧ Hid (Kp [] w1 wr)) (fun x _ => n - (intOf x).toNat)
  case atStart => exact ⟨0, rfl, by omega, Lib.hid (by simp), Lib.hid (Kp.refl _ _)⟩
  case round =>
    obtain ⟨k, rfl, hk, HNO, HKR⟩ := hrel
    have hc2 := HKR.out.cell HC2.out (by simp)
    by_cases hlt : k < n
    · obtain ⟨a, b, ad, hxk, had, _, hcx, hcy⟩ := (HX.out.kp0 HKR.out).ixN (k := k) (by rw [HN.out]; exact hlt)
      subst had
      have hi0 : (0 : Int) ≤ (k : Int) := by omega
      have hi1 : (k : Int) < (n : Int) := by omega
      have hq0 : wr.cell? ⟨g, 0, none⟩ = some (.int .i64 r) := HKR.out.cell (by rw [HB.out.cell]; rfl) (by simp)
      have hq1 : wr.cell? ⟨g, 1, none⟩ = some (.int .i64 cc) := HKR.out.cell (by rw [HB.out.cell]; rfl) (by simp)
      have hpe := rpair_eq (a : Int) (b : Int) r cc
      have hxu : (L.map upI)[k]? = some ((a : Int), (b : Int)) := by rw [List.getElem?_map, hxk]; rfl
      by_cases he : (a : Int) = r ∧ (b : Int) = cc
      · have HR2 := Lib.hid (show R = true by rw [HR.out, decide_eq_true_iff, ← he.1, ← he.2]; exact List.mem_of_getElem? hxu)
        rw [decide_eq_true he] at hpe
        clear hxk hxu HNO he
        go_wp2_with fail
        go_quiet (fail)
        go_wp2_with fail
        go_ret
        exact ⟨by rw [HR2.out]; rfl, HK.out.trans (HKR.out.drewN _)⟩
      · have HNO2 := Lib.hid (show ∀ y ∈ (L.map upI).take (k + 1), y ≠ (r, cc) from fun y hy => by
          rw [g_take hxu] at hy
          rcases List.mem_append.1 hy with h | h
          · exact HNO.out y h
          · simp only [List.mem_singleton] at h
            subst h
            intro e
            injection e with e1 e2
            exact he ⟨e1, e2⟩)
        rw [decide_eq_false he] at hpe
        clear hxk hxu HNO he
        go_wp2_with fail
        go_quiet (fail)
        go_wp2_with fail
        exact ⟨⟨k + 1, by go_num, by omega, HNO2, Lib.hid (HKR.out.drewN _)⟩, by simp [intOf]; omega⟩
    · obtain rfl : n = k := by omega
      have HR2 := Lib.hid (show R = false by
        rw [HR.out, decide_eq_false_iff_not]
        intro hm
        exact HNO.out _ (by rw [List.take_of_length_le (by rw [List.length_map, HN.out]; exact Nat.le_refl _)]; exact hm) rfl)
      go_wp2_with fail
      go_ret
      exact ⟨by rw [HR2.out]; rfl, HK.out.trans HKR.out⟩
set_option maxRecDepth 100000 in
set_option maxHeartbeats 4000000 in
theorem rtbytes_any (lo p h : Nat) (L : List (Nat × Nat)) (bs : List Bool) (w : World) (ht : RTree w lo p h L bs) (hh : h ≤ 17) (hn16 : bs.length ≤ 16777216) :
    Calls Try.prog 26 #[.pointer (some ⟨p, 0, none⟩)] w fun e w' => ∃ A m c, m = 5 + (bs.length + 7) / 8 ∧ e = .returned (.slice A m c) ∧ w'.ownsRow w.heap.size 5 1 (.slice A m c) m ((treeB h bs).map (.int .u8)) ∧ Kp [] w w' := by
  obtain ⟨i0, hi, hz0, hz1, hz2⟩ := info_parts Try.info_gu8
  obtain ⟨n, hn⟩ : ∃ n, bs.length = n := ⟨_, rfl⟩
  rw [hn] at hn16
  obtain ⟨x1, hx1⟩ : ∃ x1, x1 = (n : Int) / 16777216 % 256 := ⟨_, rfl⟩
  obtain ⟨x2, hx2⟩ : ∃ x2, x2 = (n : Int) / 65536 % 256 := ⟨_, rfl⟩
  obtain ⟨x3, hx3⟩ : ∃ x3, x3 = (n : Int) / 256 % 256 := ⟨_, rfl⟩
  obtain ⟨x4, hx4⟩ : ∃ x4, x4 = (n : Int) % 256 := ⟨_, rfl⟩
  have HTB := Lib.hid (show treeB h bs = [(h : Int), x1, x2, x3, x4] ++ bytesN (bitN bs) ((n + 7) / 8) by unfold treeB headB; rw [hn, hx1, hx2, hx3, hx4])
  have hw0 : IntKind.wrap .u8 (h : Int) = (h : Int) := by rw [IntKind.wrap_u8]; omega
  have hw1 : IntKind.wrap .u8 ((n : Int) / 16777216) = x1 := by rw [IntKind.wrap_u8, hx1]
  have hw2 : IntKind.wrap .u8 ((n : Int) / 65536) = x2 := by rw [IntKind.wrap_u8, hx2]
  have hw3 : IntKind.wrap .u8 ((n : Int) / 256) = x3 := by rw [IntKind.wrap_u8, hx3]
  have hw4 : IntKind.wrap .u8 (n : Int) = x4 := by rw [IntKind.wrap_u8, hx4]
  obtain ⟨_, Ab, _, _, cb, _, _, c1, _, c3, _, _, _, hrb, _⟩ := ht.cells
  rw [hn] at c3
  have HRB := Lib.hid hrb
  have HN := Lib.hid hn
  clear hn ht hx1 hx2 hx3 hx4 hrb
  rw [HTB.out, HN.out]
  go_enter Try.func26, Try.ntmps26
  go_wp2_with fail
  refine (rbof_any Ab n cb _ bs w HRB.out HN.out hn16).mono ?_
  rintro e w1 ⟨S, v, rfl, hv, _, hk1⟩
  have HV := Lib.hid hv
  have HK1 := Lib.hid hk1
  have hc1 := hk1.cell c1 (by simp)
  have HBY := Lib.hid (show ∀ w', Kp [] w1 w' → Calls Try.prog 54 #[.pointer (some ⟨v, 0, none⟩)] w' fun e w'' => ∃ g m, m = (n + 7) / 8 ∧ e = .returned (.slice (some ⟨g, 0, none⟩) m m) ∧ Blk w'' g 5 ((bytesN (bitN bs) m).map (.int .u8)) ∧ w'.heap.size ≤ g ∧ Kp [] w' w'' from fun w' hk => by
    have := rbbytes_any S v bs w' (HV.out.kp0 hk) (by rw [HN.out]; exact hn16)
    rw [HN.out] at this
    exact this)
  obtain ⟨mb, hmb⟩ : ∃ mb, mb = (n + 7) / 8 := ⟨_, rfl⟩
  rw [← hmb] at HBY
  have hmbb : mb ≤ 3000000 := by omega
  have HMB := Lib.hid hmb
  clear hv hk1 hmb c1 c3
  go_wp2_with fail
  refine wp_region_tail (by kernel_rfl) 21 39 19 38 [2, 19, 20, 21, 22, 23, 24, 25, 26, 27, 28, 29, 30, 31, 32, 33, 34, 35, 36, 37, 38] [[], [19], [19, 20], [19, 20, 21], [19, 20, 21, 22], [], [24], [24, 25], [], [27], [27, 28], [], [30], [30, 31], [], [33], [19, 20, 21, 22, 23, 24, 25, 26, 27, 28, 29, 30, 31, 32, 33, 34], [], [36], [19, 20, 21, 22, 23, 24, 25, 26, 27, 28, 29, 30, 31, 32, 33, 34, 35, 36, 37], [19, 20, 21, 22, 23, 24, 25, 26, 27, 28, 29, 30, 31, 32, 33, 34, 36, 38]] [19, 20, 21, 22, 23, 24, 25, 26, 27, 28, 29, 30, 31, 32, 33, 34, 36] [38, 2] [.pointer (some ⟨p, 0, none⟩), .pointer (some ⟨p, 0, none⟩), .pointer (some ⟨p, 1, none⟩), .int .i64 (h : Int), .int .u8 (h : Int), .int .i64 (n : Int), .int .i64 ((n : Int) / 16777216), .int .u8 x1, .int .i64 (n : Int), .int .i64 ((n : Int) / 65536), .int .u8 x2, .int .i64 (n : Int), .int .i64 ((n : Int) / 256), .int .u8 x3, .int .i64 (n : Int), .int .u8 x4, .pointer (some ⟨v, 0, none⟩)] [(19, .eq (.pointer (some ⟨p, 0, none⟩))), (20, .eq (.pointer (some ⟨p, 0, none⟩))), (21, .eq (.pointer (some ⟨p, 1, none⟩))), (22, .eq (.int .i64 (h : Int))), (23, .eq (.int .u8 (h : Int))), (24, .eq (.int .i64 (n : Int))), (25, .eq (.int .i64 ((n : Int) / 16777216))), (26, .eq (.int .u8 x1)), (27, .eq (.int .i64 (n : Int))), (28, .eq (.int .i64 ((n : Int) / 65536))), (29, .eq (.int .u8 x2)), (30, .eq (.int .i64 (n : Int))), (31, .eq (.int .i64 ((n : Int) / 256))), (32, .eq (.int .u8 x3)), (33, .eq (.int .i64 (n : Int))), (34, .eq (.int .u8 x4)), (35, SFact.own (w1.heap.size) 5 1 5 ([.int .u8 (h : Int), .int .u8 x1, .int .u8 x2, .int .u8 x3, .int .u8 x4])), (36, .eq (.pointer (some ⟨v, 0, none⟩))), (37, SFact.vals mb ((bytesN (bitN bs) mb).map (.int .u8))), (38, (⟨AppN w1 w1.heap.size 5 1 (5 + mb) ([.int .u8 (h : Int), .int .u8 x1, .int .u8 x2, .int .u8 x3, .int .u8 x4] ++ (bytesN (bitN bs) mb).map (.int .u8)), AppN.st⟩ : SFact)), (2, (⟨AppN w1 w1.heap.size 5 1 (5 + mb) ([.int .u8 (h : Int), .int .u8 x1, .int .u8 x2, .int .u8 x3, .int .u8 x4] ++ (bytesN (bitN bs) mb).map (.int .u8)), AppN.st⟩ : SFact))] rfl (by kernel_rfl) (by kernel_rfl) (by kernel_rfl) rfl rfl _ (fun x => by simp only [fillL, Nat.reduceAdd, Nat.reduceEqDiff, ↓reduceIte]; rfl) ?_ ?_ ?_
  · refine ⟨?_, ?_, ?_, ?_, ?_, ?_, ?_, ?_, ?_, ?_, ?_, ?_, ?_, ?_, ?_, ?_, ?_, ?_, ?_, ?_, ?_, trivial⟩
    · intro fx w' fa hk hd ev  -- 19 = Op.move (Operand.tmp 0)
      have e0 : fa.tmps[0]?.getD undef = .pointer (some ⟨p, 0, none⟩) := ev.old 0 rfl
      refine stepF_un rfl (fun K hK => ?_)
      exact stepF_val _ hK (run_move rfl e0 _) rfl
    · intro fx w' fa hk hd ev  -- 20 = Op.nilCheck (Operand.tmp 19)
      have h19 : fx 19 = .pointer (some ⟨p, 0, none⟩) := hd.1
      have e19 : fa.tmps[19]?.getD undef = .pointer (some ⟨p, 0, none⟩) := (ev.new 19 rfl).trans h19
      refine stepF_un rfl (fun K hK => ?_)
      go_simp
      exact hK _ _ rfl (Kp.refl _ _)
    · intro fx w' fa hk hd ev  -- 21 = Op.fieldAddr 75 (Operand.tmp 20) 1
      have h20 : fx 20 = .pointer (some ⟨p, 0, none⟩) := hd.2.1
      have e20 : fa.tmps[20]?.getD undef = .pointer (some ⟨p, 0, none⟩) := (ev.new 20 rfl).trans h20
      refine stepF_un rfl (fun K hK => ?_)
      go_simp
      exact hK _ _ rfl (Kp.refl _ _)
    · intro fx w' fa hk hd ev  -- 22 = Op.load 3 (Operand.tmp 21)
      have h21 : fx 21 = .pointer (some ⟨p, 1, none⟩) := hd.2.2.1
      have e21 : fa.tmps[21]?.getD undef = .pointer (some ⟨p, 1, none⟩) := (ev.new 21 rfl).trans h21
      refine stepF_un rfl (fun K hK => ?_)
      have hc11 := hk.cell hc1 (by simp)
      go_simp
      exact hK _ _ rfl (Kp.refl _ _)
    · intro fx w' fa hk hd ev  -- 23 = Op.convert 3 5 (Operand.tmp 22)
      have h22 : fx 22 = .int .i64 (h : Int) := hd.2.2.2.1
      have e22 : fa.tmps[22]?.getD undef = .int .i64 (h : Int) := (ev.new 22 rfl).trans h22
      refine stepF_un rfl (fun K hK => ?_)
      go_simp
      exact hK _ _ rfl (Kp.refl _ _)
    · intro fx w' fa hk hd ev  -- 24 = Op.move (Operand.tmp 3)
      have e3 : fa.tmps[3]?.getD undef = .int .i64 (n : Int) := ev.old 3 rfl
      refine stepF_un rfl (fun K hK => ?_)
      exact stepF_val _ hK (run_move rfl e3 _) rfl
    · intro fx w' fa hk hd ev  -- 25 = Op.binOp BinOp.shr 3 (Operand.tmp 24) (Operand.const (Value.
      have h24 : fx 24 = .int .i64 (n : Int) := hd.1
      have e24 : fa.tmps[24]?.getD undef = .int .i64 (n : Int) := (ev.new 24 rfl).trans h24
      refine stepF_un rfl (fun K hK => ?_)
      go_simp
      exact hK _ _ rfl (Kp.refl _ _)
    · intro fx w' fa hk hd ev  -- 26 = Op.convert 3 5 (Operand.tmp 25)
      have h25 : fx 25 = .int .i64 ((n : Int) / 16777216) := hd.2.1
      have e25 : fa.tmps[25]?.getD undef = .int .i64 ((n : Int) / 16777216) := (ev.new 25 rfl).trans h25
      refine stepF_un rfl (fun K hK => ?_)
      go_simp
      exact hK _ _ rfl (Kp.refl _ _)
    · intro fx w' fa hk hd ev  -- 27 = Op.move (Operand.tmp 3)
      have e3 : fa.tmps[3]?.getD undef = .int .i64 (n : Int) := ev.old 3 rfl
      refine stepF_un rfl (fun K hK => ?_)
      exact stepF_val _ hK (run_move rfl e3 _) rfl
    · intro fx w' fa hk hd ev  -- 28 = Op.binOp BinOp.shr 3 (Operand.tmp 27) (Operand.const (Value.
      have h27 : fx 27 = .int .i64 (n : Int) := hd.1
      have e27 : fa.tmps[27]?.getD undef = .int .i64 (n : Int) := (ev.new 27 rfl).trans h27
      refine stepF_un rfl (fun K hK => ?_)
      go_simp
      exact hK _ _ rfl (Kp.refl _ _)
    · intro fx w' fa hk hd ev  -- 29 = Op.convert 3 5 (Operand.tmp 28)
      have h28 : fx 28 = .int .i64 ((n : Int) / 65536) := hd.2.1
      have e28 : fa.tmps[28]?.getD undef = .int .i64 ((n : Int) / 65536) := (ev.new 28 rfl).trans h28
      refine stepF_un rfl (fun K hK => ?_)
      go_simp
      exact hK _ _ rfl (Kp.refl _ _)
    · intro fx w' fa hk hd ev  -- 30 = Op.move (Operand.tmp 3)
      have e3 : fa.tmps[3]?.getD undef = .int .i64 (n : Int) := ev.old 3 rfl
      refine stepF_un rfl (fun K hK => ?_)
      exact stepF_val _ hK (run_move rfl e3 _) rfl
    · intro fx w' fa hk hd ev  -- 31 = Op.binOp BinOp.shr 3 (Operand.tmp 30) (Operand.const (Value.
      have h30 : fx 30 = .int .i64 (n : Int) := hd.1
      have e30 : fa.tmps[30]?.getD undef = .int .i64 (n : Int) := (ev.new 30 rfl).trans h30
      refine stepF_un rfl (fun K hK => ?_)
      go_simp
      exact hK _ _ rfl (Kp.refl _ _)
    · intro fx w' fa hk hd ev  -- 32 = Op.convert 3 5 (Operand.tmp 31)
      have h31 : fx 31 = .int .i64 ((n : Int) / 256) := hd.2.1
      have e31 : fa.tmps[31]?.getD undef = .int .i64 ((n : Int) / 256) := (ev.new 31 rfl).trans h31
      refine stepF_un rfl (fun K hK => ?_)
      go_simp
      exact hK _ _ rfl (Kp.refl _ _)
    · intro fx w' fa hk hd ev  -- 33 = Op.move (Operand.tmp 3)
      have e3 : fa.tmps[3]?.getD undef = .int .i64 (n : Int) := ev.old 3 rfl
      refine stepF_un rfl (fun K hK => ?_)
      exact stepF_val _ hK (run_move rfl e3 _) rfl
    · intro fx w' fa hk hd ev  -- 34 = Op.convert 3 5 (Operand.tmp 33)
      have h33 : fx 33 = .int .i64 (n : Int) := hd.1
      have e33 : fa.tmps[33]?.getD undef = .int .i64 (n : Int) := (ev.new 33 rfl).trans h33
      refine stepF_un rfl (fun K hK => ?_)
      go_simp
      exact hK _ _ rfl (Kp.refl _ _)
    · intro fx w' fa hk hd ev  -- 35 = Op.buildSlice 38 5 #[(0, Operand.tmp 23), (1, Operand.tmp 26
      have h23 : fx 23 = .int .u8 (h : Int) := hd.2.2.2.2.1
      have e23 : fa.tmps[23]?.getD undef = .int .u8 (h : Int) := (ev.new 23 rfl).trans h23
      have h26 : fx 26 = .int .u8 x1 := hd.2.2.2.2.2.2.2.1
      have e26 : fa.tmps[26]?.getD undef = .int .u8 x1 := (ev.new 26 rfl).trans h26
      have h29 : fx 29 = .int .u8 x2 := hd.2.2.2.2.2.2.2.2.2.2.1
      have e29 : fa.tmps[29]?.getD undef = .int .u8 x2 := (ev.new 29 rfl).trans h29
      have h32 : fx 32 = .int .u8 x3 := hd.2.2.2.2.2.2.2.2.2.2.2.2.2.1
      have e32 : fa.tmps[32]?.getD undef = .int .u8 x3 := (ev.new 32 rfl).trans h32
      have h34 : fx 34 = .int .u8 x4 := hd.2.2.2.2.2.2.2.2.2.2.2.2.2.2.2.1
      have e34 : fa.tmps[34]?.getD undef = .int .u8 x4 := (ev.new 34 rfl).trans h34
      refine stepF_un rfl (fun K hK => ?_)
      go_simp
      exact hK _ _ (own_build w' (w1.heap.size) 5 1 5 ([.int .u8 (h : Int), .int .u8 x1, .int .u8 x2, .int .u8 x3, .int .u8 x4]) (by have := hk.size; omega) rfl (by decide)) ((Kp.refl _ _).alloc _)
    · intro fx w' fa hk hd ev  -- 36 = Op.move (Operand.tmp 4)
      have e4 : fa.tmps[4]?.getD undef = .pointer (some ⟨v, 0, none⟩) := ev.old 4 rfl
      refine stepF_un rfl (fun K hK => ?_)
      exact stepF_val _ hK (run_move rfl e4 _) rfl
    · intro fx w' fa hk hd ev  -- 37 = Op.call { callee := Callee.value (Operand.func 54), args := 
      have h36 : fx 36 = .pointer (some ⟨v, 0, none⟩) := hd.1
      have e36 : fa.tmps[36]?.getD undef = .pointer (some ⟨v, 0, none⟩) := (ev.new 36 rfl).trans h36
      refine stepF_un rfl (fun K hK => ?_)
      go_simp
      refine (HBY.out w' hk).mono ?_
      rintro e w2 ⟨g2, m2, rfl, rfl, hb2, _, hk2⟩
      exact hK _ _ ⟨_, _, rfl, Nat.le_refl _, hb2.rd hb2.lt⟩ hk2
    · exact trivial
    · intro fx w' fa hd ev  -- 2 = Op.assign (Operand.tmp 38)
      have h38 : ((⟨AppN w1 w1.heap.size 5 1 (5 + mb) ([.int .u8 (h : Int), .int .u8 x1, .int .u8 x2, .int .u8 x3, .int .u8 x4] ++ (bytesN (bitN bs) mb).map (.int .u8)), AppN.st⟩ : SFact) : SFact).p (fx 38) w' := hd.2.2.2.2.2.2.2.2.2.2.2.2.2.2.2.2.2.1
      refine stepF_un rfl (fun K hK => ?_)
      exact stepF_val _ hK (run_assign rfl (ev.new 38 rfl) _) h38
  · intro o1 ho1 fx w' fa hk hd ev K hK  -- 38 = Op.call { callee := Callee.builtin Builtin.append, args := #
    obtain rfl := Option.some.inj ho1
    have h35 : (SFact.own (w1.heap.size) 5 1 5 ([.int .u8 (h : Int), .int .u8 x1, .int .u8 x2, .int .u8 x3, .int .u8 x4]) : SFact).p (fx 35) w' := hd.2.2.2.2.2.2.2.2.2.2.2.2.2.2.2.2.1
    have o35 : w'.ownsRow (w1.heap.size) 5 1 (fx 35) 5 ([.int .u8 (h : Int), .int .u8 x1, .int .u8 x2, .int .u8 x3, .int .u8 x4]) := h35
    obtain ⟨A35, c35, v35, _⟩ := own_form o35
    have e35 : fa.tmps[35]?.getD undef = .slice A35 5 c35 := (ev.new 35 rfl).trans v35
    rw [v35] at o35
    have h37 : (SFact.vals mb ((bytesN (bitN bs) mb).map (.int .u8)) : SFact).p (fx 37) w' := hd.2.2.2.2.2.2.2.2.2.2.2.2.2.2.2.2.2.2.1
    obtain ⟨A37, c37, v37, hc37, hr37⟩ := h37
    have e37 : fa.tmps[37]?.getD undef = .slice A37 mb c37 := (ev.new 37 rfl).trans v37
    exact wp_append_in 35 37 38 rfl _ 5 i0 (.int .u8 0) 1 1 Try.underlying38 hi hz0 hz1 hz2 rfl (by decide) _ 5 _ e35 o35 hk _ A37 mb c37 _ e37 (by simp [bytesN]) hr37 (oc_ints _ _) (by unfold maxLen; omega) (by omega) rfl hK
  · intro fx w' hd
    have h2 : ((⟨AppN w1 w1.heap.size 5 1 (5 + mb) ([.int .u8 (h : Int), .int .u8 x1, .int .u8 x2, .int .u8 x3, .int .u8 x4] ++ (bytesN (bitN bs) mb).map (.int .u8)), AppN.st⟩ : SFact) : SFact).p (fx 2) w' := hd.1
    have h19 : fx 19 = .pointer (some ⟨p, 0, none⟩) := hd.2.1
    have h20 : fx 20 = .pointer (some ⟨p, 0, none⟩) := hd.2.2.1
    have h21 : fx 21 = .pointer (some ⟨p, 1, none⟩) := hd.2.2.2.1
    have h22 : fx 22 = .int .i64 (h : Int) := hd.2.2.2.2.1
    have h23 : fx 23 = .int .u8 (h : Int) := hd.2.2.2.2.2.1
    have h24 : fx 24 = .int .i64 (n : Int) := hd.2.2.2.2.2.2.1
    have h25 : fx 25 = .int .i64 ((n : Int) / 16777216) := hd.2.2.2.2.2.2.2.1
    have h26 : fx 26 = .int .u8 x1 := hd.2.2.2.2.2.2.2.2.1
    have h27 : fx 27 = .int .i64 (n : Int) := hd.2.2.2.2.2.2.2.2.2.1
    have h28 : fx 28 = .int .i64 ((n : Int) / 65536) := hd.2.2.2.2.2.2.2.2.2.2.1
    have h29 : fx 29 = .int .u8 x2 := hd.2.2.2.2.2.2.2.2.2.2.2.1
    have h30 : fx 30 = .int .i64 (n : Int) := hd.2.2.2.2.2.2.2.2.2.2.2.2.1
    have h31 : fx 31 = .int .i64 ((n : Int) / 256) := hd.2.2.2.2.2.2.2.2.2.2.2.2.2.1
    have h32 : fx 32 = .int .u8 x3 := hd.2.2.2.2.2.2.2.2.2.2.2.2.2.2.1
    have h33 : fx 33 = .int .i64 (n : Int) := hd.2.2.2.2.2.2.2.2.2.2.2.2.2.2.2.1
    have h34 : fx 34 = .int .u8 x4 := hd.2.2.2.2.2.2.2.2.2.2.2.2.2.2.2.2.1
    have h36 : fx 36 = .pointer (some ⟨v, 0, none⟩) := hd.2.2.2.2.2.2.2.2.2.2.2.2.2.2.2.2.2.1
    have hP : (AppN w1 w1.heap.size 5 1 (5 + mb) ([.int .u8 (h : Int), .int .u8 x1, .int .u8 x2, .int .u8 x3, .int .u8 x4] ++ (bytesN (bitN bs) mb).map (.int .u8))) (fx 38) w' := hd.2.2.2.2.2.2.2.2.2.2.2.2.2.2.2.2.2.2.1
    refine endT_none ?_
    obtain ⟨A8, c8, e2, ho8, hk8⟩ := h2
    have H8 := Lib.hid ho8
    have HK8 := Lib.hid (HK1.out.trans hk8)
    rw [e2]
    clear hP hd ho8 hk8
    go_wp2_with fail
    go_ret
    refine ⟨A8, 5 + mb, c8, by rw [HMB.out], rfl, ?_, HK8.out⟩
    rw [← HMB.out]
    exact own_base H8.out HK1.out.size

theorem pcI_snoc (l : List (Int × Int)) (p : Int × Int) : pcI (l ++ [p]) = pcI l ++ [.int .i64 p.1, .int .i64 p.2] := by simp [pcI]
theorem pcI_append (l m : List (Int × Int)) : pcI (l ++ m) = pcI l ++ pcI m := by simp [pcI]
set_option maxRecDepth 100000 in
set_option maxHeartbeats 4000000 in
theorem pairs_any (A : Option Addr) (n c B : Nat) (l : List (Int × Int)) (w : World) (hx : Rd w B A (pcI l)) (hB : B ≤ w.heap.size) (hn : l.length = n) (hb : n ≤ 1000) :
    Calls Try.prog 12 #[.slice A n c] w fun e w' => ∃ (Ao : Option Addr) (co : Nat), e = .returned (.slice Ao n co) ∧ w'.ownsRow w.heap.size 71 2 (.slice Ao n co) n (pcI l) ∧ Kp [] w w' := by
  obtain ⟨i0, hi, hz0, hz1, hz2⟩ := info_parts Try.info_rpair
  have HX := Lib.hid hx
  have HB := Lib.hid hB
  have HN := Lib.hid hn; clear hn
  clear hx hB
  go_enter Try.func12, Try.ntmps12
  go_wp2_with fail
  go_loopw [3, 4] (fun v x wr => ∃ (k co : Nat) (Ao : Option Addr), x = .int .i64 (k : Int) ∧ v = .slice Ao k co ∧ k ≤ n ∧ Hid (wr.ownsRow w.heap.size 71 2 (.slice Ao k co) k (pcI (l.take k))) ∧ Hid (Kp [] w wr)) (fun _ x _ => n - (intOf x).toNat)
  case atStart => exact ⟨0, 0, none, rfl, rfl, by omega, Lib.hid (World.ownsRow_nil _ _ _ 2), Lib.hid (Kp.refl _ _)⟩
  case round =>
    obtain ⟨k, co, Ao, rfl, rfl, hk, HO, HK⟩ := hrel
    by_cases hlt : k < n
    · obtain ⟨a, b, ad, hxk, had, _, hcx, hcy⟩ := (HX.out.kp0 HK.out).ixI (k := k) (by rw [HN.out]; exact hlt)
      subst had
      have HT := Lib.hid (show pcI (l.take (k + 1)) = pcI (l.take k) ++ [.int .i64 a, .int .i64 b] by rw [g_take hxk, pcI_snoc])
      have HZ := Lib.hid HK.out.size
      have hi0 : (0 : Int) ≤ (k : Int) := by omega
      have hi1 : (k : Int) < (n : Int) := by omega
      clear hxk
      go_wp2_with fail
      refine wp_region_tail (by kernel_rfl) 14 26 13 24 [11, 12, 13, 14, 15, 16, 17, 18, 19, 20, 21, 22, 23, 24] [[], [], [], [12, 13], [12, 13, 14], [12, 13, 14, 15], [], [], [17, 18], [17, 18, 19], [17, 18, 19, 20], [12, 13, 14, 15, 16, 17, 18, 19, 20, 21], [12, 13, 14, 15, 16, 17, 18, 19, 20, 21, 22], [11, 12, 13, 14, 15, 16, 17, 18, 19, 20, 21, 22, 23]] [11, 12, 13, 14, 15, 16, 17, 18, 19, 20, 21, 22] [24] [.slice Ao k co, .slice (some ad) n c, .int .i64 (k : Int), .pointer (some (ad.add (k * 2))), .pointer (some (ad.add (k * 2))), .int .i64 a, .slice (some ad) n c, .int .i64 (k : Int), .pointer (some (ad.add (k * 2))), .pointer (some ⟨(ad.add (k * 2)).block, (ad.add (k * 2)).off + 1, none⟩), .int .i64 b, .agg #[.int .i64 a, .int .i64 b]] [(11, .eq (.slice Ao k co)), (12, .eq (.slice (some ad) n c)), (13, .eq (.int .i64 (k : Int))), (14, .eq (.pointer (some (ad.add (k * 2))))), (15, .eq (.pointer (some (ad.add (k * 2))))), (16, .eq (.int .i64 a)), (17, .eq (.slice (some ad) n c)), (18, .eq (.int .i64 (k : Int))), (19, .eq (.pointer (some (ad.add (k * 2))))), (20, .eq (.pointer (some ⟨(ad.add (k * 2)).block, (ad.add (k * 2)).off + 1, none⟩))), (21, .eq (.int .i64 b)), (22, .eq (.agg #[.int .i64 a, .int .i64 b])), (23, SFact.vals 1 ([.int .i64 a, .int .i64 b])), (24, (⟨AppP wr w.heap.size 71 2 (k + 1) (.slice Ao k co) (pcI (l.take k) ++ [.int .i64 a, .int .i64 b]), AppP.st⟩ : SFact))] rfl (by kernel_rfl) (by kernel_rfl) (by kernel_rfl) rfl rfl _ (fun x => by simp only [fillL, Nat.reduceAdd, Nat.reduceEqDiff, ↓reduceIte]; rfl) ?_ ?_ ?_
      · refine ⟨?_, ?_, ?_, ?_, ?_, ?_, ?_, ?_, ?_, ?_, ?_, ?_, ?_, ?_, trivial⟩
        · intro fx w' fa hk hd ev  -- 11 = Op.move (Operand.tmp 3)
          have e3 : fa.tmps[3]?.getD undef = .slice Ao k co := ev.old 3 rfl
          refine stepF_un rfl (fun K hK => ?_)
          exact stepF_val _ hK (run_move rfl e3 _) rfl
        · intro fx w' fa hk hd ev  -- 12 = Op.move (Operand.tmp 0)
          have e0 : fa.tmps[0]?.getD undef = .slice (some ad) n c := ev.old 0 rfl
          refine stepF_un rfl (fun K hK => ?_)
          exact stepF_val _ hK (run_move rfl e0 _) rfl
        · intro fx w' fa hk hd ev  -- 13 = Op.move (Operand.tmp 4)
          have e4 : fa.tmps[4]?.getD undef = .int .i64 (k : Int) := ev.old 4 rfl
          refine stepF_un rfl (fun K hK => ?_)
          exact stepF_val _ hK (run_move rfl e4 _) rfl
        · intro fx w' fa hk hd ev  -- 14 = Op.indexAddr 22 (Operand.tmp 12) (Operand.tmp 13)
          have h12 : fx 12 = .slice (some ad) n c := hd.1
          have e12 : fa.tmps[12]?.getD undef = .slice (some ad) n c := (ev.new 12 rfl).trans h12
          have h13 : fx 13 = .int .i64 (k : Int) := hd.2.1
          have e13 : fa.tmps[13]?.getD undef = .int .i64 (k : Int) := (ev.new 13 rfl).trans h13
          refine stepF_un rfl (fun K hK => ?_)
          go_simp
          exact hK _ _ rfl (Kp.refl _ _)
        · intro fx w' fa hk hd ev  -- 15 = Op.fieldAddr 24 (Operand.tmp 14) 0
          have h14 : fx 14 = .pointer (some (ad.add (k * 2))) := hd.2.2.1
          have e14 : fa.tmps[14]?.getD undef = .pointer (some (ad.add (k * 2))) := (ev.new 14 rfl).trans h14
          refine stepF_un rfl (fun K hK => ?_)
          go_simp
          exact hK _ _ rfl (Kp.refl _ _)
        · intro fx w' fa hk hd ev  -- 16 = Op.load 3 (Operand.tmp 15)
          have h15 : fx 15 = .pointer (some (ad.add (k * 2))) := hd.2.2.2.1
          have e15 : fa.tmps[15]?.getD undef = .pointer (some (ad.add (k * 2))) := (ev.new 15 rfl).trans h15
          refine stepF_un rfl (fun K hK => ?_)
          have hcx1 := hk.cell hcx (by simp)
          go_simp
          exact hK _ _ rfl (Kp.refl _ _)
        · intro fx w' fa hk hd ev  -- 17 = Op.move (Operand.tmp 0)
          have e0 : fa.tmps[0]?.getD undef = .slice (some ad) n c := ev.old 0 rfl
          refine stepF_un rfl (fun K hK => ?_)
          exact stepF_val _ hK (run_move rfl e0 _) rfl
        · intro fx w' fa hk hd ev  -- 18 = Op.move (Operand.tmp 4)
          have e4 : fa.tmps[4]?.getD undef = .int .i64 (k : Int) := ev.old 4 rfl
          refine stepF_un rfl (fun K hK => ?_)
          exact stepF_val _ hK (run_move rfl e4 _) rfl
        · intro fx w' fa hk hd ev  -- 19 = Op.indexAddr 22 (Operand.tmp 17) (Operand.tmp 18)
          have h17 : fx 17 = .slice (some ad) n c := hd.1
          have e17 : fa.tmps[17]?.getD undef = .slice (some ad) n c := (ev.new 17 rfl).trans h17
          have h18 : fx 18 = .int .i64 (k : Int) := hd.2.1
          have e18 : fa.tmps[18]?.getD undef = .int .i64 (k : Int) := (ev.new 18 rfl).trans h18
          refine stepF_un rfl (fun K hK => ?_)
          go_simp
          exact hK _ _ rfl (Kp.refl _ _)
        · intro fx w' fa hk hd ev  -- 20 = Op.fieldAddr 24 (Operand.tmp 19) 1
          have h19 : fx 19 = .pointer (some (ad.add (k * 2))) := hd.2.2.1
          have e19 : fa.tmps[19]?.getD undef = .pointer (some (ad.add (k * 2))) := (ev.new 19 rfl).trans h19
          refine stepF_un rfl (fun K hK => ?_)
          go_simp
          exact hK _ _ rfl (Kp.refl _ _)
        · intro fx w' fa hk hd ev  -- 21 = Op.load 3 (Operand.tmp 20)
          have h20 : fx 20 = .pointer (some ⟨(ad.add (k * 2)).block, (ad.add (k * 2)).off + 1, none⟩) := hd.2.2.2.1
          have e20 : fa.tmps[20]?.getD undef = .pointer (some ⟨(ad.add (k * 2)).block, (ad.add (k * 2)).off + 1, none⟩) := (ev.new 20 rfl).trans h20
          refine stepF_un rfl (fun K hK => ?_)
          have hcy1 := hk.cell hcy (by simp)
          go_simp
          exact hK _ _ rfl (Kp.refl _ _)
        · intro fx w' fa hk hd ev  -- 22 = Op.build 71 #[(0, Operand.tmp 16), (1, Operand.tmp 21)]
          have h16 : fx 16 = .int .i64 a := hd.2.2.2.2.1
          have e16 : fa.tmps[16]?.getD undef = .int .i64 a := (ev.new 16 rfl).trans h16
          have h21 : fx 21 = .int .i64 b := hd.2.2.2.2.2.2.2.2.2.1
          have e21 : fa.tmps[21]?.getD undef = .int .i64 b := (ev.new 21 rfl).trans h21
          refine stepF_un rfl (fun K hK => ?_)
          go_simp
          exact hK _ _ rfl (Kp.refl _ _)
        · intro fx w' fa hk hd ev  -- 23 = Op.buildSlice 34 1 #[(0, Operand.tmp 22)]
          have h22 : fx 22 = .agg #[.int .i64 a, .int .i64 b] := hd.2.2.2.2.2.2.2.2.2.2.1
          have e22 : fa.tmps[22]?.getD undef = .agg #[.int .i64 a, .int .i64 b] := (ev.new 22 rfl).trans h22
          refine stepF_un rfl (fun K hK => ?_)
          go_simp
          exact hK _ _ (vals_new w' ([.int .i64 a, .int .i64 b]) 71 1) ((Kp.refl _ _).alloc _)
        · exact trivial
      · intro o1 ho1 fx w' fa hk hd ev K hK  -- 24 = Op.call { callee := Callee.builtin Builtin.append, args := #
        obtain rfl := Option.some.inj ho1
        have h11 : fx 11 = .slice Ao k co := hd.1
        have e11 : fa.tmps[11]?.getD undef = .slice Ao k co := (ev.new 11 rfl).trans h11
        have h23 : (SFact.vals 1 ([.int .i64 a, .int .i64 b]) : SFact).p (fx 23) w' := hd.2.2.2.2.2.2.2.2.2.2.2.2.1
        obtain ⟨A23, c23, v23, hc23, hr23⟩ := h23
        have e23 : fa.tmps[23]?.getD undef = .slice A23 1 c23 := (ev.new 23 rfl).trans v23
        exact wp_append_app 11 23 34 rfl w.heap.size 71 i0 (.agg #[.int .i64 0, .int .i64 0]) 2 16 Try.underlying34 hi hz0 hz1 hz2 rfl (by decide) (.slice Ao k co) k _ e11 HO.out hk _ A23 1 c23 _ e23 rfl hr23 (by intro u hu; simp at hu; rcases hu with rfl | rfl <;> rfl) (by unfold maxLen; omega) (by omega) HZ.out hK
      · intro fx w' hd
        have h11 : fx 11 = .slice Ao k co := hd.1
        have h12 : fx 12 = .slice (some ad) n c := hd.2.1
        have h13 : fx 13 = .int .i64 (k : Int) := hd.2.2.1
        have h14 : fx 14 = .pointer (some (ad.add (k * 2))) := hd.2.2.2.1
        have h15 : fx 15 = .pointer (some (ad.add (k * 2))) := hd.2.2.2.2.1
        have h16 : fx 16 = .int .i64 a := hd.2.2.2.2.2.1
        have h17 : fx 17 = .slice (some ad) n c := hd.2.2.2.2.2.2.1
        have h18 : fx 18 = .int .i64 (k : Int) := hd.2.2.2.2.2.2.2.1
        have h19 : fx 19 = .pointer (some (ad.add (k * 2))) := hd.2.2.2.2.2.2.2.2.1
        have h20 : fx 20 = .pointer (some ⟨(ad.add (k * 2)).block, (ad.add (k * 2)).off + 1, none⟩) := hd.2.2.2.2.2.2.2.2.2.1
        have h21 : fx 21 = .int .i64 b := hd.2.2.2.2.2.2.2.2.2.2.1
        have h22 : fx 22 = .agg #[.int .i64 a, .int .i64 b] := hd.2.2.2.2.2.2.2.2.2.2.2.1
        have hP : (AppP wr w.heap.size 71 2 (k + 1) (.slice Ao k co) (pcI (l.take k) ++ [.int .i64 a, .int .i64 b])) (fx 24) w' := hd.2.2.2.2.2.2.2.2.2.2.2.2.1
        change Oper.wp _ _ _ _ _ _
        obtain ⟨A7, c7, e24, hown7, hk7, _⟩ := hP
        rw [← HT.out] at hown7
        have HO7 := Lib.hid hown7
        have HK7 := Lib.hid (HK.out.trans' hk7 (fun x hx => .inr (own_ge HO.out (mem_ownL.1 hx)).1))
        rw [e24]
        clear hd hown7 hk7
        go_simp
        go_wp2_with fail
        exact ⟨⟨k + 1, c7, A7, by go_num, rfl, by omega, HO7, HK7⟩, by simp [intOf]; omega⟩
    · obtain rfl : n = k := by omega
      rw [List.take_of_length_le (Nat.le_of_eq HN.out)] at HO
      go_wp2_with fail
      go_ret
      exact ⟨Ao, co, rfl, HO.out, HK.out⟩
set_option maxRecDepth 100000 in
set_option maxHeartbeats 4000000 in
theorem lentP_any (A : Option Addr) (n c B : Nat) (l : List (Int × Int)) (w : World) (hx : Rd w B A (pcI l)) (hn : l.length = n) (hb : n ≤ 1000) :
    Calls Try.prog 9 #[.slice A n c] w fun e w' => e = .returned (.slice (some ⟨w.heap.size, 0, none⟩) n (n + 2)) ∧ w'.ownsRow w.heap.size 24 2 (.slice (some ⟨w.heap.size, 0, none⟩) (n + 1) (n + 2)) (n + 1) (pcI l ++ [.int .i64 7, .int .i64 7]) ∧ Kp [] w w' := by
  obtain ⟨i0, hi, hz0, hz1, hz2⟩ := info_parts Try.info_pair
  have HX := Lib.hid hx
  have HN := Lib.hid hn; clear hn
  have HPL := Lib.hid (show (pcI l).length = n * 2 by rw [pcI_len, HN.out])
  clear hx
  have h1 : (0 : Int) ≤ (n : Int) := by omega
  have h2 : (n : Int) ≤ (n : Int) + 2 := by omega
  have h3 : n ≤ n + 2 := by omega
  go_enter Try.func9, Try.ntmps9
  go_wp2_with (first | (at_make; refine wpList_make_own _ rfl _ _ 22 rfl w.heap.size 24 i0 (.agg #[.int .i64 0, .int .i64 0]) 2 Try.underlying22 hi hz0 hz1 .i64 .i64 _ (n + 2) rfl rfl (by simp) (by rw [hz2]; omega) (by unfold maxLen; omega) (Nat.le_refl _) ?_; intro w1 hown1 hgrow1) | (at_builtin; refine wpList_append_fits_rd rfl (.tmp 6) (.tmp 7) 22 rfl w.heap.size 24 i0 2 Try.underlying22 hi hz1 (by omega) w.heap.size 0 (n + 2) [] rfl hown1 B A n c (pcI l) rfl HPL.out (HX.out.kp0 ((Kp.refl [] w).grown hgrow1 (by simp))) (oc_pcI _) (by omega) ?_; intro w2 hown2 hgrow2; simp only [Nat.zero_add, List.nil_append] at hown2) | (at_builtin; go_loud (refine wpList_append_fits_rd rfl (.tmp 8) (.tmp 10) 22 rfl w.heap.size 24 i0 2 Try.underlying22 hi hz1 (by omega) w.heap.size n (n + 2) _ rfl (hown2.alloc _) _ (some ⟨w2.heap.size, 0, none⟩) 1 1 [.int .i64 7, .int .i64 7] rfl rfl (rd_new' w2 #[.int .i64 7, .int .i64 7] 24 rfl) (by intro u hu; simp at hu; subst hu; rfl) (by omega) ?_); intro w3 hown3 hgrow3))
  go_ret
  exact ⟨rfl, hown3, ((((Kp.refl [] w).grown hgrow1 (by simp)).trans' ((Kp.refl [w.heap.size] w1).grown hgrow2 (by simp)) (by simp)).alloc _).trans' ((Kp.refl [w.heap.size] _).grown hgrow3 (by simp)) (by simp)⟩
end Go.Proofs.Ytldmabkilgpgcaa
