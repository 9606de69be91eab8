/-
  LAYER 15 (tree): the chapter's example.
  CONDITIONS: none.
-/
import Derived.Test.YtldmabkilgpgcaaGby
namespace Go.Proofs.Ytldmabkilgpgcaa
open Go.RowKit

def awB : List Bool := [true, false, false, true, false, true, false, false, false, false, false, true]
theorem aw_bits : levL 2 [[(0, 1), (3, 3)]] = awB := by decide
theorem aw_bytes : treeB 2 awB = [2, 0, 0, 0, 12, 41, 8] := by decide
theorem aw_kids : kidsA awB ((0 : Nat) : Int) = .agg #[.int .i64 1, .int .i64 0, .int .i64 0, .int .i64 2] ∧ thereA awB ((0 : Nat) : Int) = .agg #[.bool true, .bool false, .bool false, .bool true] := ⟨rfl, rfl⟩
theorem aw_k : kOf awB = 2 := by decide
theorem aw_h1 : hasW awB 2 0 (3, 3) = true := by decide
theorem aw_h2 : hasW awB 2 0 (0, 3) = false := by decide
set_option maxRecDepth 100000 in
set_option maxHeartbeats 4000000 in
theorem tawake_any (w : World) : Calls Try.prog 8 #[] w fun e w' => e = .returned (.bool true) ∧ Kp [] w w' := by
  have HRD := Lib.hid (rd_new' w #[.int .i64 0, .int .i64 1, .int .i64 3, .int .i64 3] 24 rfl)
  have HK := Lib.hid ((Kp.refl [] w).alloc (.cells #[.int .i64 0, .int .i64 1, .int .i64 3, .int .i64 3] 24))
  have HOF := Lib.hid (tof_ok 2 2 2 _ (some ⟨w.heap.size, 0, none⟩) [(0, 1), (3, 3)] _ (by omega) (by omega) HRD.out rfl (by omega) (by decide) (by decide))
  go_enter Try.func8, Try.ntmps8
  go_wp2_with fail
  refine HOF.out.mono ?_
  rw [aw_bits, aw_k]
  rintro e w1 ⟨S, p, q, rfl, ht, hS, hp, hk⟩
  have HT := Lib.hid ht
  replace HK := Lib.hid (HK.out.trans hk)
  clear ht hS hp hk HOF HRD
  go_wp2_with fail
  refine (tnodes_any S p q 2 2 12 awB true w1 HT.out rfl).mono ?_
  rintro e w2 ⟨rfl, rfl⟩
  go_wp2_with fail
  refine (tlen_any S p q 2 2 awB true w1 HT.out).mono ?_
  rintro e w2 ⟨rfl, rfl⟩
  go_wp2_with fail
  refine (theight_any S p q 2 2 awB true w1 HT.out).mono ?_
  rintro e w2 ⟨rfl, rfl⟩
  go_wp2_with fail
  refine (tkids_any S p q 2 2 0 awB w1 HT.out).mono ?_
  rw [show kidsA awB 0 = .agg #[.int .i64 1, .int .i64 0, .int .i64 0, .int .i64 2] from rfl, show thereA awB 0 = .agg #[.bool true, .bool false, .bool false, .bool true] from rfl]
  rintro e w2 ⟨rfl, hk2⟩
  have HT2 := Lib.hid (HT.out.kp0 hk2)
  have HK2 := Lib.hid (HK.out.trans hk2)
  clear hk2
  go_upto_region 5 with fail
  have p9 := (Blk.new w2 57 [.int .i64 1, .int .i64 0, .int .i64 0, .int .i64 2]).alloc (.cells #[.bool true, .bool false, .bool false, .bool true] 58)
  have q9 := Blk.new (w2.alloc (.cells #[.int .i64 1, .int .i64 0, .int .i64 0, .int .i64 2] 57)) 58 [.bool true, .bool false, .bool false, .bool true]
  rw [show (w2.alloc (.cells #[.int .i64 1, .int .i64 0, .int .i64 0, .int .i64 2] 57)).heap.size = w2.heap.size + 1 by simp] at q9
  have hk3 : Kp [] w2 ((w2.alloc (.cells #[.int .i64 1, .int .i64 0, .int .i64 0, .int .i64 2] 57)).alloc (.cells #[.bool true, .bool false, .bool false, .bool true] 58)) := ((Kp.refl [] w2).alloc _).alloc _
  obtain ⟨w3, hw3⟩ : ∃ w3, w3 = (w2.alloc (.cells #[.int .i64 1, .int .i64 0, .int .i64 0, .int .i64 2] 57)).alloc (.cells #[.bool true, .bool false, .bool false, .bool true] 58) := ⟨_, rfl⟩
  obtain ⟨ga, hga⟩ : ∃ ga, ga = w2.heap.size := ⟨_, rfl⟩
  replace p9 : Blk w3 ga 57 [.int .i64 1, .int .i64 0, .int .i64 0, .int .i64 2] := by rw [hw3, hga]; exact p9
  replace q9 : Blk w3 (ga + 1) 58 [.bool true, .bool false, .bool false, .bool true] := by rw [hw3, hga]; exact q9
  replace hk3 : Kp [] w2 w3 := by rw [hw3]; exact hk3
  rw [← hw3, ← hga]
  have HT3 := Lib.hid (HT2.out.kp0 hk3)
  have HK3 := Lib.hid (HK2.out.trans hk3)
  have HP9 := Lib.hid p9
  have HQ9 := Lib.hid q9
  clear hw3 hga hk3 p9 q9 HT HK HT2 HK2
  go_wp2_with fail
  refine (tbytes_any S p q 2 2 awB w3 HT3.out (by omega)).mono ?_
  rw [aw_bytes]
  rintro e w4 ⟨A4, m4, c4, hm4, rfl, ho4, hk4⟩
  obtain rfl : m4 = 7 := hm4
  have HR4 := Lib.hid ((own_rd ho4).kp0 ((Kp.refl [] w4).alloc (.cells #[.int .u8 2, .int .u8 0, .int .u8 0, .int .u8 0, .int .u8 12, .int .u8 41, .int .u8 8] 5)))
  have HR5 := Lib.hid (rd_new' w4 #[.int .u8 2, .int .u8 0, .int .u8 0, .int .u8 0, .int .u8 12, .int .u8 41, .int .u8 8] 5 rfl)
  have HT4 := Lib.hid (HT3.out.kp0 hk4)
  have HK4 := Lib.hid (HK3.out.trans hk4)
  have HP4 := Lib.hid (HP9.out.kp0 hk4)
  have HQ4 := Lib.hid (HQ9.out.kp0 hk4)
  clear ho4 hk4 HT3 HK3 HP9 HQ9
  go_wp2_with fail
  refine (sameB A4 _ 7 7 c4 _ _ _ [2, 0, 0, 0, 12, 41, 8] [2, 0, 0, 0, 12, 41, 8] _ HR4.out HR5.out rfl rfl (by omega) (by omega)).mono ?_
  rw [decide_eq_true rfl]
  rintro e w5 ⟨rfl, hd5⟩
  have hk5 : Kp [] w4 w5 := ((Kp.refl [] w4).alloc _).trans (hd5.kp [])
  have hp5 := HP4.out.kp0 hk5
  have hq5 := HQ4.out.kp0 hk5
  have c0 : w5.cell? ⟨ga, 0, none⟩ = some (.int .i64 1) := by rw [hp5.cell]; rfl
  have c1 : w5.cell? ⟨ga, 1, none⟩ = some (.int .i64 0) := by rw [hp5.cell]; rfl
  have c2 : w5.cell? ⟨ga, 2, none⟩ = some (.int .i64 0) := by rw [hp5.cell]; rfl
  have c3 : w5.cell? ⟨ga, 3, none⟩ = some (.int .i64 2) := by rw [hp5.cell]; rfl
  have d0 : w5.cell? ⟨ga + 1, 0, none⟩ = some (.bool true) := by rw [hq5.cell]; rfl
  have d1 : w5.cell? ⟨ga + 1, 1, none⟩ = some (.bool false) := by rw [hq5.cell]; rfl
  have d2 : w5.cell? ⟨ga + 1, 2, none⟩ = some (.bool false) := by rw [hq5.cell]; rfl
  have d3 : w5.cell? ⟨ga + 1, 3, none⟩ = some (.bool true) := by rw [hq5.cell]; rfl
  have HT5 := Lib.hid (HT4.out.kp0 hk5)
  have HK5 := Lib.hid (HK4.out.trans hk5)
  have hz1 : ∀ w, (Op.equalIn 10000 57 (.agg #[.int .i64 1, .int .i64 0, .int .i64 0, .int .i64 2]) (.agg #[.int .i64 1, .int .i64 0, .int .i64 0, .int .i64 2])).run Try.prog w = .ok true w := fun _ => by kernel_rfl
  have hz2 : ∀ w, (Op.equalIn 10000 58 (.agg #[.bool true, .bool false, .bool false, .bool true]) (.agg #[.bool true, .bool false, .bool false, .bool true])).run Try.prog w = .ok true w := fun _ => by kernel_rfl
  clear hd5 hk5 hp5 hq5 HT4 HK4 HP4 HQ4 HR4 HR5
  go_wp2_with fail
  refine (thas_in S p q 2 2 3 3 awB w5 HT5.out (by omega) (by omega) (by omega)).mono ?_
  rw [aw_h1]
  rintro e w6 ⟨rfl, hk6⟩
  have HT6 := Lib.hid (HT5.out.kp0 hk6)
  have HK6 := Lib.hid (HK5.out.trans hk6)
  clear hk6
  go_wp2_with fail
  refine (thas_in S p q 2 2 0 3 awB w6 HT6.out (by omega) (by omega) (by omega)).mono ?_
  rw [aw_h2]
  rintro e w7 ⟨rfl, hk7⟩
  have HK7 := Lib.hid (HK6.out.trans hk7)
  clear hk7
  go_wp2_with fail
  go_ret
  exact ⟨rfl, HK7.out⟩
end Go.Proofs.Ytldmabkilgpgcaa
