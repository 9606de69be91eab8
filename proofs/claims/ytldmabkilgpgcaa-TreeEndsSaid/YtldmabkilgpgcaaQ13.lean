/-
  LAYER 15 (tree): no tree.
  CONDITIONS: none.
-/
import Derived.Test.YtldmabkilgpgcaaQ12
import Derived.Test.YtldmabkilgpgcaaQ01
namespace Go.Proofs.Ytldmabkilgpgcaa
open Go.RowKit

/-- No tree: nil, or one that nothing made. -/
def NoT (w : World) (v : Value) : Prop := v = .pointer none ∨ ∃ p, v = .pointer (some ⟨p, 0, none⟩) ∧ Blk w p 70 [.pointer none, .int .i64 0, .int .i64 0]
theorem NoT.kp0 {w w' : World} {v : Value} (h : NoT w v) (hk : Kp [] w w') : NoT w' v := by
  rcases h with h | ⟨p, h, hb⟩
  · exact .inl h
  · exact .inr ⟨p, h, hb.kp0 hk⟩
theorem Calls.kp_of {P : Program} {f : FuncId} {args : Array Value} {w : World} {r : Ending} (h : Calls P f args w fun e w' => e = r ∧ w = w') : Calls P f args w fun e w' => e = r ∧ Kp [] w w' :=
  h.mono fun _ _ ⟨a, b⟩ => ⟨a, by rw [b]; exact Kp.refl _ _⟩
set_option maxRecDepth 100000 in
set_option maxHeartbeats 4000000 in
theorem ntthere_any (v : Value) (w : World) (h : NoT w v) : Calls Try.prog 44 #[v] w fun e w' => e = .returned (.bool false) ∧ w = w' := by
  rcases h with rfl | ⟨p, rfl, hb⟩
  · go_enter Try.func44, Try.ntmps44
    go_wp2_with fail
    go_ret
    exact ⟨rfl, rfl⟩
  · have c0 : w.cell? ⟨p, 0, none⟩ = some (.pointer none) := by rw [hb.cell]; rfl
    clear hb
    go_enter Try.func44, Try.ntmps44
    go_wp2_with fail
    go_ret
    exact ⟨rfl, rfl⟩
set_option maxRecDepth 100000 in
set_option maxHeartbeats 4000000 in
theorem ntside_any (v : Value) (w : World) (h : NoT w v) : Calls Try.prog 18 #[v] w fun e w' => e = .returned (.int .i64 0) ∧ w = w' := by
  have H := Lib.hid h
  clear h
  go_enter Try.func18, Try.ntmps18
  go_wp2_with fail
  refine (ntthere_any v w H.out).mono ?_
  rintro e w1 ⟨rfl, rfl⟩
  go_wp2_with fail
  go_ret
  exact ⟨rfl, rfl⟩
set_option maxRecDepth 100000 in
set_option maxHeartbeats 4000000 in
theorem ntheight_any (v : Value) (w : World) (h : NoT w v) : Calls Try.prog 21 #[v] w fun e w' => e = .returned (.int .i64 0) ∧ w = w' := by
  have H := Lib.hid h
  clear h
  go_enter Try.func21, Try.ntmps21
  go_wp2_with fail
  refine (ntthere_any v w H.out).mono ?_
  rintro e w1 ⟨rfl, rfl⟩
  go_wp2_with fail
  go_ret
  exact ⟨rfl, rfl⟩
set_option maxRecDepth 100000 in
set_option maxHeartbeats 4000000 in
theorem ntlen_any (v : Value) (w : World) (h : NoT w v) : Calls Try.prog 19 #[v] w fun e w' => e = .returned (.int .i64 0) ∧ w = w' := by
  have H := Lib.hid h
  clear h
  go_enter Try.func19, Try.ntmps19
  go_wp2_with fail
  refine (ntthere_any v w H.out).mono ?_
  rintro e w1 ⟨rfl, rfl⟩
  go_wp2_with fail
  go_ret
  exact ⟨rfl, rfl⟩
set_option maxRecDepth 100000 in
set_option maxHeartbeats 4000000 in
theorem ntnodes_any (v : Value) (w : World) (h : NoT w v) : Calls Try.prog 20 #[v] w fun e w' => e = .returned (.int .i64 0) ∧ w = w' := by
  have H := Lib.hid h
  clear h
  go_enter Try.func20, Try.ntmps20
  go_wp2_with fail
  refine (ntthere_any v w H.out).mono ?_
  rintro e w1 ⟨rfl, rfl⟩
  go_wp2_with fail
  go_ret
  exact ⟨rfl, rfl⟩
set_option maxRecDepth 100000 in
set_option maxHeartbeats 4000000 in
theorem ntbytes_any (v : Value) (w : World) (h : NoT w v) : Calls Try.prog 16 #[v] w fun e w' => e = .returned (.slice none 0 0) ∧ w = w' := by
  have H := Lib.hid h
  clear h
  go_enter Try.func16, Try.ntmps16
  go_wp2_with fail
  refine (ntthere_any v w H.out).mono ?_
  rintro e w1 ⟨rfl, rfl⟩
  go_wp2_with fail
  go_ret
  exact ⟨rfl, rfl⟩
set_option maxRecDepth 100000 in
set_option maxHeartbeats 4000000 in
theorem nthas_any (v : Value) (r c : Int) (w : World) (h : NoT w v) : Calls Try.prog 32 #[v, .agg #[.int .i64 r, .int .i64 c]] w fun e w' => e = .returned (.bool false) ∧ Kp [] w w' := by
  have hk0 := (Kp.refl [] w).alloc (.cells #[.int .i64 r, .int .i64 c] 24)
  have HN := Lib.hid (h.kp0 hk0)
  have HK := Lib.hid hk0
  clear h hk0
  obtain ⟨w0, hw0⟩ : ∃ w0, w0 = w.alloc (.cells #[.int .i64 r, .int .i64 c] 24) := ⟨_, rfl⟩
  rw [← hw0] at HN HK
  go_enter Try.func32, Try.ntmps32
  go_wp2_with fail
  rw [← hw0]
  clear hw0
  refine wp_region_facts (by kernel_rfl) 44 [10, 11, 12, 13, 14, 15, 16, 17, 18] [[], [10], [11], [12], [13], [14, 13], [13], [15, 16, 13], [13, 17]] (by kernel_rfl) (by kernel_rfl) rfl (factOf [(10, .eq (v)), (11, .eq (.bool false)), (12, .eq (.bool true)), (13, .eq (.bool true)), (14, .eq (undef)), (15, .eq (undef)), (16, .eq (undef)), (17, .eq (undef)), (18, .eq (.bool true))]) (factOf_stable _) _ (fun x => by simp only [fillL, Nat.reduceAdd, Nat.reduceEqDiff, ↓reduceIte]; rfl) ?_ ?_
  · refine ⟨?_, ?_, ?_, ?_, ?_, ?_, ?_, ?_, ?_, trivial⟩
    · intro fx w' fa hk hd ev  -- 10 = Op.move (Operand.tmp 0)
      have e0 : fa.tmps[0]?.getD undef = v := ev.old 0 rfl
      refine stepF_un rfl (fun K hK => ?_)
      exact stepF_val _ hK (run_move rfl e0 _) rfl
    · intro fx w' fa hk hd ev  -- 11 = Op.call { callee := Callee.value (Operand.func 44), args := 
      have h10 : fx 10 = v := hd.1
      have e10 : fa.tmps[10]?.getD undef = v := (ev.new 10 rfl).trans h10
      refine stepF_un rfl (fun K hK => ?_)
      go_simp
      refine (Calls.kp_of (ntthere_any v w' (HN.out.kp0 hk))).mono ?_
      rintro e w1 ⟨rfl, hk1⟩
      exact hK _ _ rfl hk1
    · intro fx w' fa hk hd ev  -- 12 = Op.unOp UnOp.not 4 (Operand.tmp 11)
      have h11 : fx 11 = .bool false := hd.1
      have e11 : fa.tmps[11]?.getD undef = .bool false := (ev.new 11 rfl).trans h11
      refine stepF_un rfl (fun K hK => ?_)
      go_simp
      exact hK _ _ rfl (Kp.refl _ _)
    · intro fx w' fa hk hd ev  -- 13 = Op.move (Operand.tmp 12)
      have h12 : fx 12 = .bool true := hd.1
      have e12 : fa.tmps[12]?.getD undef = .bool true := (ev.new 12 rfl).trans h12
      refine stepF_un rfl (fun K hK => ?_)
      exact stepF_val _ hK (run_move rfl e12 _) rfl
    · intro fx w' fa hk hd ev  -- 14 = Op.move (Operand.tmp 0)
      have h13 : fx 13 = .bool true := hd.1
      have e13 : fa.tmps[13]?.getD undef = .bool true := (ev.new 13 rfl).trans h13
      refine stepF_no (i := 3) (g := 13) (b := false) rfl rfl rfl e13 rfl
    · intro fx w' fa hk hd ev  -- 15 = Op.call { callee := Callee.value (Operand.func 18), args := 
      have h13 : fx 13 = .bool true := hd.2.1
      have e13 : fa.tmps[13]?.getD undef = .bool true := (ev.new 13 rfl).trans h13
      refine stepF_no (i := 3) (g := 13) (b := false) rfl rfl rfl e13 rfl
    · intro fx w' fa hk hd ev  -- 16 = Op.load 24 (Operand.tmp 3)
      have h13 : fx 13 = .bool true := hd.1
      have e13 : fa.tmps[13]?.getD undef = .bool true := (ev.new 13 rfl).trans h13
      refine stepF_no (i := 3) (g := 13) (b := false) rfl rfl rfl e13 rfl
    · intro fx w' fa hk hd ev  -- 17 = Op.call { callee := Callee.value (Operand.func 37), args := 
      have h13 : fx 13 = .bool true := hd.2.2.1
      have e13 : fa.tmps[13]?.getD undef = .bool true := (ev.new 13 rfl).trans h13
      refine stepF_no (i := 3) (g := 13) (b := false) rfl rfl rfl e13 rfl
    · intro fx w' fa hk hd ev  -- 18 = Op.pick (Operand.tmp 13) (Operand.const (Value.bool true)) (
      have h13 : fx 13 = .bool true := hd.1
      have e13 : fa.tmps[13]?.getD undef = .bool true := (ev.new 13 rfl).trans h13
      have h17 : fx 17 = undef := hd.2.1
      have e17 : fa.tmps[17]?.getD undef = undef := (ev.new 17 rfl).trans h17
      refine stepF_un rfl (fun K hK => ?_)
      go_simp
      exact hK _ _ rfl (Kp.refl _ _)
  · intro fx w' hk hd
    have h18 : fx 18 = .bool true := hd.2.2.2.2.2.2.2.2.1
    rw [h18]
    have HK1 := Lib.hid (HK.out.trans hk)
    clear hk hd
    go_wp2_with fail
    go_ret
    exact ⟨rfl, HK1.out⟩
set_option maxRecDepth 100000 in
set_option maxHeartbeats 4000000 in
theorem ntkids_any (v : Value) (w : World) (h : NoT w v) : Calls Try.prog 33 #[v, .int .i64 0] w fun e w' => e = .returned (.tuple #[.agg #[.int .i64 0, .int .i64 0, .int .i64 0, .int .i64 0], .agg #[.bool false, .bool false, .bool false, .bool false]]) ∧ Kp [] w w' := by
  have HT := Lib.hid h
  clear h
  go_enter Try.func33, Try.ntmps33
  have hkk := ((Kp.refl [] w).alloc (.cells #[.int .i64 0, .int .i64 0, .int .i64 0, .int .i64 0] 57)).alloc (.cells #[.bool false, .bool false, .bool false, .bool false] 58)
  have hb4 := (Blk.new w 57 [.int .i64 0, .int .i64 0, .int .i64 0, .int .i64 0]).alloc (.cells #[.bool false, .bool false, .bool false, .bool false] 58)
  have hb5 := Blk.new (w.alloc (.cells #[.int .i64 0, .int .i64 0, .int .i64 0, .int .i64 0] 57)) 58 [.bool false, .bool false, .bool false, .bool false]
  obtain ⟨W, hW⟩ : ∃ W, W = (w.alloc (.cells #[.int .i64 0, .int .i64 0, .int .i64 0, .int .i64 0] 57)).alloc (.cells #[.bool false, .bool false, .bool false, .bool false] 58) := ⟨_, rfl⟩
  obtain ⟨ga, hga⟩ : ∃ ga, ga = w.heap.size := ⟨_, rfl⟩
  obtain ⟨gb, hgb⟩ : ∃ gb, gb = w.heap.size + 1 := ⟨_, rfl⟩
  rw [show (w.alloc (.cells #[.int .i64 0, .int .i64 0, .int .i64 0, .int .i64 0] 57)).heap.size = w.heap.size + 1 by simp] at hb5
  rw [← hga] at hb4
  rw [← hgb] at hb5
  rw [← hW] at hkk
  replace hb4 : Blk W ga 57 [.int .i64 0, .int .i64 0, .int .i64 0, .int .i64 0] := by rw [hW]; exact hb4
  replace hb5 : Blk W gb 58 [.bool false, .bool false, .bool false, .bool false] := by rw [hW]; exact hb5
  have HWW := Lib.hid hW
  have HGA := Lib.hid hga
  have HGB := Lib.hid hgb
  have HKK := Lib.hid hkk
  have hne : ga ≠ gb := by have := HGA.out; have := HGB.out; omega
  have hne' : gb ≠ ga := Ne.symm hne
  clear hW hga hgb hkk
  have HT1 := Lib.hid (HT.out.kp0 HKK.out)
  go_wp2_with fail
  rw [← HWW.out, ← HGA.out, show ga + 1 = gb by rw [HGA.out, HGB.out]]
  refine (ntnodes_any v W HT1.out).mono ?_
  rintro e w1 ⟨rfl, rfl⟩
  go_wp2_with fail
  have c0 : W.cell? ⟨ga, 0, none⟩ = some (.int .i64 0) := by rw [hb4.cell]; rfl
  have c1 : W.cell? ⟨ga, 1, none⟩ = some (.int .i64 0) := by rw [hb4.cell]; rfl
  have c2 : W.cell? ⟨ga, 2, none⟩ = some (.int .i64 0) := by rw [hb4.cell]; rfl
  have c3 : W.cell? ⟨ga, 3, none⟩ = some (.int .i64 0) := by rw [hb4.cell]; rfl
  have d0 : W.cell? ⟨gb, 0, none⟩ = some (.bool false) := by rw [hb5.cell]; rfl
  have d1 : W.cell? ⟨gb, 1, none⟩ = some (.bool false) := by rw [hb5.cell]; rfl
  have d2 : W.cell? ⟨gb, 2, none⟩ = some (.bool false) := by rw [hb5.cell]; rfl
  have d3 : W.cell? ⟨gb, 3, none⟩ = some (.bool false) := by rw [hb5.cell]; rfl
  have f0 := hb4.free 0
  have f1 := hb4.free 1
  have f2 := hb4.free 2
  have f3 := hb4.free 3
  have e0 := hb5.free 0
  have e1 := hb5.free 1
  have e2 := hb5.free 2
  have e3 := hb5.free 3
  go_region
  obtain ⟨w9, hw9, p9, q9, k9⟩ := put8 W ga gb 57 58 (.int .i64 0) (.int .i64 0) (.int .i64 0) (.int .i64 0) (.bool false) (.bool false) (.bool false) (.bool false) hb4 hb5 hne
  go_wp2_with fail
  rw [← hw9]
  have r0 : w9.cell? ⟨ga, 0, none⟩ = some (.int .i64 0) := by rw [p9.cell]; rfl
  have r1 : w9.cell? ⟨ga, 1, none⟩ = some (.int .i64 0) := by rw [p9.cell]; rfl
  have r2 : w9.cell? ⟨ga, 2, none⟩ = some (.int .i64 0) := by rw [p9.cell]; rfl
  have r3 : w9.cell? ⟨ga, 3, none⟩ = some (.int .i64 0) := by rw [p9.cell]; rfl
  have s0 : w9.cell? ⟨gb, 0, none⟩ = some (.bool false) := by rw [q9.cell]; rfl
  have s1 : w9.cell? ⟨gb, 1, none⟩ = some (.bool false) := by rw [q9.cell]; rfl
  have s2 : w9.cell? ⟨gb, 2, none⟩ = some (.bool false) := by rw [q9.cell]; rfl
  have s3 : w9.cell? ⟨gb, 3, none⟩ = some (.bool false) := by rw [q9.cell]; rfl
  refine bodyPost_ret (v := .tuple #[.agg #[.int .i64 0, .int .i64 0, .int .i64 0, .int .i64 0], .agg #[.bool false, .bool false, .bool false, .bool false]]) (by simp [results, Try.results33, go_sem, r0, r1, r2, r3, s0, s1, s2, s3]) rfl ⟨rfl, HKK.out.trans' k9 (fun x hx => .inr (by
    have := HGA.out
    have := HGB.out
    simp only [List.mem_cons, List.not_mem_nil, or_false] at hx
    rcases hx with rfl | rfl <;> omega))⟩
set_option maxRecDepth 100000 in
set_option maxHeartbeats 4000000 in
theorem tnone_any (w : World) : Calls Try.prog 27 #[] w fun e w' => e = .returned (.bool true) ∧ Kp [] w w' := by
  have hk0 := ((Kp.refl [] w).alloc (.cells #[.pointer none, .int .i64 0, .int .i64 0] 70)).alloc (.cells #[.pointer none, .pointer (some ⟨w.heap.size, 0, none⟩)] 27)
  have hb0 := (Blk.new w 70 [.pointer none, .int .i64 0, .int .i64 0]).alloc (.cells #[.pointer none, .pointer (some ⟨w.heap.size, 0, none⟩)] 27)
  have hb1 := Blk.new (w.alloc (.cells #[.pointer none, .int .i64 0, .int .i64 0] 70)) 27 [.pointer none, .pointer (some ⟨w.heap.size, 0, none⟩)]
  rw [show (w.alloc (.cells #[.pointer none, .int .i64 0, .int .i64 0] 70)).heap.size = w.heap.size + 1 by simp] at hb1
  obtain ⟨w0, hw0⟩ : ∃ w0, w0 = (w.alloc (.cells #[.pointer none, .int .i64 0, .int .i64 0] 70)).alloc (.cells #[.pointer none, .pointer (some ⟨w.heap.size, 0, none⟩)] 27) := ⟨_, rfl⟩
  obtain ⟨p, hp⟩ : ∃ p, p = w.heap.size := ⟨_, rfl⟩
  rw [← hp] at hk0 hb0 hb1 hw0
  rw [← hw0] at hk0
  replace hb0 : Blk w0 p 70 [.pointer none, .int .i64 0, .int .i64 0] := by rw [hw0]; exact hb0
  replace hb1 : Blk w0 (p + 1) 27 [.pointer none, .pointer (some ⟨p, 0, none⟩)] := by rw [hw0]; exact hb1
  have HK := Lib.hid hk0
  have HB0 := Lib.hid hb0
  have HB1 := Lib.hid hb1
  have HP := Lib.hid hp
  have HW := Lib.hid hw0
  obtain ⟨g, hg⟩ : ∃ g, g = p + 1 := ⟨_, rfl⟩
  rw [← hg] at HB1
  clear hk0 hb0 hb1 hp hw0
  go_enter Try.func27, Try.ntmps27
  go_wp2_with fail
  rw [← HP.out, ← HW.out, ← hg]
  clear HW HP hg
  go_loopw [2] (fun x wr => ∃ k : Nat, x = .int .i64 (k : Int) ∧ k ≤ 2 ∧ Hid (Kp [] w0 wr)) (fun x _ => 2 - (intOf x).toNat)
  case atStart => exact ⟨0, rfl, by omega, Lib.hid (Kp.refl _ _)⟩
  case round =>
    obtain ⟨k, rfl, hk, HKR⟩ := hrel
    by_cases hlt : k < 2
    · obtain ⟨v, hv, hnv⟩ : ∃ v, wr.cell? ⟨g, k, none⟩ = some v ∧ NoT wr v := by
        have hb := HB1.out.kp0 HKR.out
        rcases (show k = 0 ∨ k = 1 by omega) with rfl | rfl
        · exact ⟨.pointer none, by rw [hb.cell]; rfl, .inl rfl⟩
        · exact ⟨.pointer (some ⟨p, 0, none⟩), by rw [hb.cell]; rfl, .inr ⟨p, rfl, HB0.out.kp0 HKR.out⟩⟩
      have HNV := Lib.hid hnv
      have hi0 : (0 : Int) ≤ (k : Int) := by omega
      have hi1 : (k : Int) < 2 := by omega
      clear hnv
      go_wp2_with fail
      refine (ntkids_any v wr HNV.out).mono ?_
      rintro e w2 ⟨rfl, hk2⟩
      have hv2 := hk2.cell hv (by simp)
      have HNV2 := Lib.hid (HNV.out.kp0 hk2)
      have HK2 := Lib.hid (HKR.out.trans hk2)
      clear hk2 hv
      go_upto_region 6 with fail
      have p9 := (Blk.new w2 57 [.int .i64 0, .int .i64 0, .int .i64 0, .int .i64 0]).alloc (.cells #[.bool false, .bool false, .bool false, .bool false] 58)
      have q9 := Blk.new (w2.alloc (.cells #[.int .i64 0, .int .i64 0, .int .i64 0, .int .i64 0] 57)) 58 [.bool false, .bool false, .bool false, .bool false]
      rw [show (w2.alloc (.cells #[.int .i64 0, .int .i64 0, .int .i64 0, .int .i64 0] 57)).heap.size = w2.heap.size + 1 by simp] at q9
      have hk3 : Kp [] w2 ((w2.alloc (.cells #[.int .i64 0, .int .i64 0, .int .i64 0, .int .i64 0] 57)).alloc (.cells #[.bool false, .bool false, .bool false, .bool false] 58)) := ((Kp.refl [] w2).alloc _).alloc _
      obtain ⟨w3, hw3⟩ : ∃ w3, w3 = (w2.alloc (.cells #[.int .i64 0, .int .i64 0, .int .i64 0, .int .i64 0] 57)).alloc (.cells #[.bool false, .bool false, .bool false, .bool false] 58) := ⟨_, rfl⟩
      obtain ⟨ga, hga⟩ : ∃ ga, ga = w2.heap.size := ⟨_, rfl⟩
      replace p9 : Blk w3 ga 57 [.int .i64 0, .int .i64 0, .int .i64 0, .int .i64 0] := by rw [hw3, hga]; exact p9
      replace q9 : Blk w3 (ga + 1) 58 [.bool false, .bool false, .bool false, .bool false] := by rw [hw3, hga]; exact q9
      replace hk3 : Kp [] w2 w3 := by rw [hw3]; exact hk3
      rw [← hw3, ← hga]
      have HNV3 := Lib.hid (HNV2.out.kp0 hk3)
      have HK3 := Lib.hid (HK2.out.trans hk3)
      have hvw := hk3.cell hv2 (by simp)
      have c0 : w3.cell? ⟨ga, 0, none⟩ = some (.int .i64 0) := by rw [p9.cell]; rfl
      have c1 : w3.cell? ⟨ga, 1, none⟩ = some (.int .i64 0) := by rw [p9.cell]; rfl
      have c2 : w3.cell? ⟨ga, 2, none⟩ = some (.int .i64 0) := by rw [p9.cell]; rfl
      have c3 : w3.cell? ⟨ga, 3, none⟩ = some (.int .i64 0) := by rw [p9.cell]; rfl
      have d0 : w3.cell? ⟨ga + 1, 0, none⟩ = some (.bool false) := by rw [q9.cell]; rfl
      have d1 : w3.cell? ⟨ga + 1, 1, none⟩ = some (.bool false) := by rw [q9.cell]; rfl
      have d2 : w3.cell? ⟨ga + 1, 2, none⟩ = some (.bool false) := by rw [q9.cell]; rfl
      have d3 : w3.cell? ⟨ga + 1, 3, none⟩ = some (.bool false) := by rw [q9.cell]; rfl
      have hz1 : ∀ w, (Op.equalIn 10000 57 (.agg #[.int .i64 0, .int .i64 0, .int .i64 0, .int .i64 0]) (.agg #[.int .i64 0, .int .i64 0, .int .i64 0, .int .i64 0])).run Try.prog w = .ok true w := fun _ => by kernel_rfl
      have hz2 : ∀ w, (Op.equalIn 10000 58 (.agg #[.bool false, .bool false, .bool false, .bool false]) (.agg #[.bool false, .bool false, .bool false, .bool false])).run Try.prog w = .ok true w := fun _ => by kernel_rfl
      clear hw3 hga hk3 p9 q9 HNV2 HK2 hv2
      refine wp_region_facts (by kernel_rfl) 69 [20, 21, 22, 23, 24, 25, 26, 27, 28, 29, 30, 31, 32, 33, 34, 35, 36, 37, 38, 39, 40, 41, 42, 43, 44, 45, 46, 47, 48, 49, 50, 51, 52, 53, 54, 55, 56, 57, 58, 59, 60, 61, 62, 63, 64, 65, 66, 67, 68] [[], [], [20, 21], [22], [23], [], [], [25, 26], [27], [28], [24, 29], [], [], [31, 32], [33], [34], [30, 35], [], [], [37, 38], [39], [40], [36, 41], [], [], [43, 44], [45], [46], [47], [42, 48], [49], [50], [51], [51], [52, 53, 51], [54, 51], [51], [55, 56, 51], [51, 57], [58], [59], [59], [60, 61, 59], [59, 62], [63], [64], [64], [65, 66, 64], [64, 67]] (by kernel_rfl) (by kernel_rfl) rfl (factOf [(20, .eq (.slice (some ⟨g, 0, none⟩) 2 2)), (21, .eq (.int .i64 (k : Int))), (22, .eq (.pointer (some ⟨g, k, none⟩))), (23, .eq (v)), (24, .eq (.int .i64 0)), (25, .eq (.slice (some ⟨g, 0, none⟩) 2 2)), (26, .eq (.int .i64 (k : Int))), (27, .eq (.pointer (some ⟨g, k, none⟩))), (28, .eq (v)), (29, .eq (.int .i64 0)), (30, .eq (.int .i64 0)), (31, .eq (.slice (some ⟨g, 0, none⟩) 2 2)), (32, .eq (.int .i64 (k : Int))), (33, .eq (.pointer (some ⟨g, k, none⟩))), (34, .eq (v)), (35, .eq (.int .i64 0)), (36, .eq (.int .i64 0)), (37, .eq (.slice (some ⟨g, 0, none⟩) 2 2)), (38, .eq (.int .i64 (k : Int))), (39, .eq (.pointer (some ⟨g, k, none⟩))), (40, .eq (v)), (41, .eq (.int .i64 0)), (42, .eq (.int .i64 0)), (43, .eq (.slice (some ⟨g, 0, none⟩) 2 2)), (44, .eq (.int .i64 (k : Int))), (45, .eq (.pointer (some ⟨g, k, none⟩))), (46, .eq (v)), (47, .eq (.slice none 0 0)), (48, .eq (.int .i64 0)), (49, .eq (.int .i64 0)), (50, .eq (.bool false)), (51, .eq (.bool false)), (52, .eq (.slice (some ⟨g, 0, none⟩) 2 2)), (53, .eq (.int .i64 (k : Int))), (54, .eq (.pointer (some ⟨g, k, none⟩))), (55, .eq (v)), (56, .eq (.agg #[.int .i64 0, .int .i64 0])), (57, .eq (.bool false)), (58, .eq (.bool false)), (59, .eq (.bool false)), (60, .eq (.agg #[.int .i64 0, .int .i64 0, .int .i64 0, .int .i64 0])), (61, .eq (.agg #[.int .i64 0, .int .i64 0, .int .i64 0, .int .i64 0])), (62, .eq (.bool false)), (63, .eq (.bool false)), (64, .eq (.bool false)), (65, .eq (.agg #[.bool false, .bool false, .bool false, .bool false])), (66, .eq (.agg #[.bool false, .bool false, .bool false, .bool false])), (67, .eq (.bool false)), (68, .eq (.bool false))]) (factOf_stable _) _ (fun x => by simp only [fillL, Nat.reduceAdd, Nat.reduceEqDiff, ↓reduceIte]; rfl) ?_ ?_
      · refine ⟨?_, ?_, ?_, ?_, ?_, ?_, ?_, ?_, ?_, ?_, ?_, ?_, ?_, ?_, ?_, ?_, ?_, ?_, ?_, ?_, ?_, ?_, ?_, ?_, ?_, ?_, ?_, ?_, ?_, ?_, ?_, ?_, ?_, ?_, ?_, ?_, ?_, ?_, ?_, ?_, ?_, ?_, ?_, ?_, ?_, ?_, ?_, ?_, ?_, trivial⟩
        · intro fx w' fa hk hd ev  -- 20 = Op.move (Operand.tmp 1)
          have e1 : fa.tmps[1]?.getD undef = .slice (some ⟨g, 0, none⟩) 2 2 := ev.old 1 rfl
          refine stepF_un rfl (fun K hK => ?_)
          exact stepF_val _ hK (run_move rfl e1 _) rfl
        · intro fx w' fa hk hd ev  -- 21 = Op.move (Operand.tmp 2)
          have e2 : fa.tmps[2]?.getD undef = .int .i64 (k : Int) := ev.old 2 rfl
          refine stepF_un rfl (fun K hK => ?_)
          exact stepF_val _ hK (run_move rfl e2 _) rfl
        · intro fx w' fa hk hd ev  -- 22 = Op.indexAddr 94 (Operand.tmp 20) (Operand.tmp 21)
          have h20 : fx 20 = .slice (some ⟨g, 0, none⟩) 2 2 := hd.1
          have e20 : fa.tmps[20]?.getD undef = .slice (some ⟨g, 0, none⟩) 2 2 := (ev.new 20 rfl).trans h20
          have h21 : fx 21 = .int .i64 (k : Int) := hd.2.1
          have e21 : fa.tmps[21]?.getD undef = .int .i64 (k : Int) := (ev.new 21 rfl).trans h21
          refine stepF_un rfl (fun K hK => ?_)
          go_simp
          exact hK _ _ rfl (Kp.refl _ _)
        · intro fx w' fa hk hd ev  -- 23 = Op.load 27 (Operand.tmp 22)
          have h22 : fx 22 = .pointer (some ⟨g, k, none⟩) := hd.1
          have e22 : fa.tmps[22]?.getD undef = .pointer (some ⟨g, k, none⟩) := (ev.new 22 rfl).trans h22
          refine stepF_un rfl (fun K hK => ?_)
          have q9 := hk.cell hvw (by simp)
          go_simp
          exact hK _ _ rfl (Kp.refl _ _)
        · intro fx w' fa hk hd ev  -- 24 = Op.call { callee := Callee.value (Operand.func 18), args := 
          have h23 : fx 23 = v := hd.1
          have e23 : fa.tmps[23]?.getD undef = v := (ev.new 23 rfl).trans h23
          refine stepF_un rfl (fun K hK => ?_)
          go_simp
          refine (Calls.kp_of (ntside_any v w' (HNV3.out.kp0 hk))).mono ?_
          rintro e w1 ⟨rfl, hk1⟩
          exact hK _ _ rfl hk1
        · intro fx w' fa hk hd ev  -- 25 = Op.move (Operand.tmp 1)
          have e1 : fa.tmps[1]?.getD undef = .slice (some ⟨g, 0, none⟩) 2 2 := ev.old 1 rfl
          refine stepF_un rfl (fun K hK => ?_)
          exact stepF_val _ hK (run_move rfl e1 _) rfl
        · intro fx w' fa hk hd ev  -- 26 = Op.move (Operand.tmp 2)
          have e2 : fa.tmps[2]?.getD undef = .int .i64 (k : Int) := ev.old 2 rfl
          refine stepF_un rfl (fun K hK => ?_)
          exact stepF_val _ hK (run_move rfl e2 _) rfl
        · intro fx w' fa hk hd ev  -- 27 = Op.indexAddr 94 (Operand.tmp 25) (Operand.tmp 26)
          have h25 : fx 25 = .slice (some ⟨g, 0, none⟩) 2 2 := hd.1
          have e25 : fa.tmps[25]?.getD undef = .slice (some ⟨g, 0, none⟩) 2 2 := (ev.new 25 rfl).trans h25
          have h26 : fx 26 = .int .i64 (k : Int) := hd.2.1
          have e26 : fa.tmps[26]?.getD undef = .int .i64 (k : Int) := (ev.new 26 rfl).trans h26
          refine stepF_un rfl (fun K hK => ?_)
          go_simp
          exact hK _ _ rfl (Kp.refl _ _)
        · intro fx w' fa hk hd ev  -- 28 = Op.load 27 (Operand.tmp 27)
          have h27 : fx 27 = .pointer (some ⟨g, k, none⟩) := hd.1
          have e27 : fa.tmps[27]?.getD undef = .pointer (some ⟨g, k, none⟩) := (ev.new 27 rfl).trans h27
          refine stepF_un rfl (fun K hK => ?_)
          have q9 := hk.cell hvw (by simp)
          go_simp
          exact hK _ _ rfl (Kp.refl _ _)
        · intro fx w' fa hk hd ev  -- 29 = Op.call { callee := Callee.value (Operand.func 21), args := 
          have h28 : fx 28 = v := hd.1
          have e28 : fa.tmps[28]?.getD undef = v := (ev.new 28 rfl).trans h28
          refine stepF_un rfl (fun K hK => ?_)
          go_simp
          refine (Calls.kp_of (ntheight_any v w' (HNV3.out.kp0 hk))).mono ?_
          rintro e w1 ⟨rfl, hk1⟩
          exact hK _ _ rfl hk1
        · intro fx w' fa hk hd ev  -- 30 = Op.binOp BinOp.add 3 (Operand.tmp 24) (Operand.tmp 29) 3
          have h24 : fx 24 = .int .i64 0 := hd.1
          have e24 : fa.tmps[24]?.getD undef = .int .i64 0 := (ev.new 24 rfl).trans h24
          have h29 : fx 29 = .int .i64 0 := hd.2.1
          have e29 : fa.tmps[29]?.getD undef = .int .i64 0 := (ev.new 29 rfl).trans h29
          refine stepF_un rfl (fun K hK => ?_)
          go_simp
          exact hK _ _ rfl (Kp.refl _ _)
        · intro fx w' fa hk hd ev  -- 31 = Op.move (Operand.tmp 1)
          have e1 : fa.tmps[1]?.getD undef = .slice (some ⟨g, 0, none⟩) 2 2 := ev.old 1 rfl
          refine stepF_un rfl (fun K hK => ?_)
          exact stepF_val _ hK (run_move rfl e1 _) rfl
        · intro fx w' fa hk hd ev  -- 32 = Op.move (Operand.tmp 2)
          have e2 : fa.tmps[2]?.getD undef = .int .i64 (k : Int) := ev.old 2 rfl
          refine stepF_un rfl (fun K hK => ?_)
          exact stepF_val _ hK (run_move rfl e2 _) rfl
        · intro fx w' fa hk hd ev  -- 33 = Op.indexAddr 94 (Operand.tmp 31) (Operand.tmp 32)
          have h31 : fx 31 = .slice (some ⟨g, 0, none⟩) 2 2 := hd.1
          have e31 : fa.tmps[31]?.getD undef = .slice (some ⟨g, 0, none⟩) 2 2 := (ev.new 31 rfl).trans h31
          have h32 : fx 32 = .int .i64 (k : Int) := hd.2.1
          have e32 : fa.tmps[32]?.getD undef = .int .i64 (k : Int) := (ev.new 32 rfl).trans h32
          refine stepF_un rfl (fun K hK => ?_)
          go_simp
          exact hK _ _ rfl (Kp.refl _ _)
        · intro fx w' fa hk hd ev  -- 34 = Op.load 27 (Operand.tmp 33)
          have h33 : fx 33 = .pointer (some ⟨g, k, none⟩) := hd.1
          have e33 : fa.tmps[33]?.getD undef = .pointer (some ⟨g, k, none⟩) := (ev.new 33 rfl).trans h33
          refine stepF_un rfl (fun K hK => ?_)
          have q9 := hk.cell hvw (by simp)
          go_simp
          exact hK _ _ rfl (Kp.refl _ _)
        · intro fx w' fa hk hd ev  -- 35 = Op.call { callee := Callee.value (Operand.func 19), args := 
          have h34 : fx 34 = v := hd.1
          have e34 : fa.tmps[34]?.getD undef = v := (ev.new 34 rfl).trans h34
          refine stepF_un rfl (fun K hK => ?_)
          go_simp
          refine (Calls.kp_of (ntlen_any v w' (HNV3.out.kp0 hk))).mono ?_
          rintro e w1 ⟨rfl, hk1⟩
          exact hK _ _ rfl hk1
        · intro fx w' fa hk hd ev  -- 36 = Op.binOp BinOp.add 3 (Operand.tmp 30) (Operand.tmp 35) 3
          have h30 : fx 30 = .int .i64 0 := hd.1
          have e30 : fa.tmps[30]?.getD undef = .int .i64 0 := (ev.new 30 rfl).trans h30
          have h35 : fx 35 = .int .i64 0 := hd.2.1
          have e35 : fa.tmps[35]?.getD undef = .int .i64 0 := (ev.new 35 rfl).trans h35
          refine stepF_un rfl (fun K hK => ?_)
          go_simp
          exact hK _ _ rfl (Kp.refl _ _)
        · intro fx w' fa hk hd ev  -- 37 = Op.move (Operand.tmp 1)
          have e1 : fa.tmps[1]?.getD undef = .slice (some ⟨g, 0, none⟩) 2 2 := ev.old 1 rfl
          refine stepF_un rfl (fun K hK => ?_)
          exact stepF_val _ hK (run_move rfl e1 _) rfl
        · intro fx w' fa hk hd ev  -- 38 = Op.move (Operand.tmp 2)
          have e2 : fa.tmps[2]?.getD undef = .int .i64 (k : Int) := ev.old 2 rfl
          refine stepF_un rfl (fun K hK => ?_)
          exact stepF_val _ hK (run_move rfl e2 _) rfl
        · intro fx w' fa hk hd ev  -- 39 = Op.indexAddr 94 (Operand.tmp 37) (Operand.tmp 38)
          have h37 : fx 37 = .slice (some ⟨g, 0, none⟩) 2 2 := hd.1
          have e37 : fa.tmps[37]?.getD undef = .slice (some ⟨g, 0, none⟩) 2 2 := (ev.new 37 rfl).trans h37
          have h38 : fx 38 = .int .i64 (k : Int) := hd.2.1
          have e38 : fa.tmps[38]?.getD undef = .int .i64 (k : Int) := (ev.new 38 rfl).trans h38
          refine stepF_un rfl (fun K hK => ?_)
          go_simp
          exact hK _ _ rfl (Kp.refl _ _)
        · intro fx w' fa hk hd ev  -- 40 = Op.load 27 (Operand.tmp 39)
          have h39 : fx 39 = .pointer (some ⟨g, k, none⟩) := hd.1
          have e39 : fa.tmps[39]?.getD undef = .pointer (some ⟨g, k, none⟩) := (ev.new 39 rfl).trans h39
          refine stepF_un rfl (fun K hK => ?_)
          have q9 := hk.cell hvw (by simp)
          go_simp
          exact hK _ _ rfl (Kp.refl _ _)
        · intro fx w' fa hk hd ev  -- 41 = Op.call { callee := Callee.value (Operand.func 20), args := 
          have h40 : fx 40 = v := hd.1
          have e40 : fa.tmps[40]?.getD undef = v := (ev.new 40 rfl).trans h40
          refine stepF_un rfl (fun K hK => ?_)
          go_simp
          refine (Calls.kp_of (ntnodes_any v w' (HNV3.out.kp0 hk))).mono ?_
          rintro e w1 ⟨rfl, hk1⟩
          exact hK _ _ rfl hk1
        · intro fx w' fa hk hd ev  -- 42 = Op.binOp BinOp.add 3 (Operand.tmp 36) (Operand.tmp 41) 3
          have h36 : fx 36 = .int .i64 0 := hd.1
          have e36 : fa.tmps[36]?.getD undef = .int .i64 0 := (ev.new 36 rfl).trans h36
          have h41 : fx 41 = .int .i64 0 := hd.2.1
          have e41 : fa.tmps[41]?.getD undef = .int .i64 0 := (ev.new 41 rfl).trans h41
          refine stepF_un rfl (fun K hK => ?_)
          go_simp
          exact hK _ _ rfl (Kp.refl _ _)
        · intro fx w' fa hk hd ev  -- 43 = Op.move (Operand.tmp 1)
          have e1 : fa.tmps[1]?.getD undef = .slice (some ⟨g, 0, none⟩) 2 2 := ev.old 1 rfl
          refine stepF_un rfl (fun K hK => ?_)
          exact stepF_val _ hK (run_move rfl e1 _) rfl
        · intro fx w' fa hk hd ev  -- 44 = Op.move (Operand.tmp 2)
          have e2 : fa.tmps[2]?.getD undef = .int .i64 (k : Int) := ev.old 2 rfl
          refine stepF_un rfl (fun K hK => ?_)
          exact stepF_val _ hK (run_move rfl e2 _) rfl
        · intro fx w' fa hk hd ev  -- 45 = Op.indexAddr 94 (Operand.tmp 43) (Operand.tmp 44)
          have h43 : fx 43 = .slice (some ⟨g, 0, none⟩) 2 2 := hd.1
          have e43 : fa.tmps[43]?.getD undef = .slice (some ⟨g, 0, none⟩) 2 2 := (ev.new 43 rfl).trans h43
          have h44 : fx 44 = .int .i64 (k : Int) := hd.2.1
          have e44 : fa.tmps[44]?.getD undef = .int .i64 (k : Int) := (ev.new 44 rfl).trans h44
          refine stepF_un rfl (fun K hK => ?_)
          go_simp
          exact hK _ _ rfl (Kp.refl _ _)
        · intro fx w' fa hk hd ev  -- 46 = Op.load 27 (Operand.tmp 45)
          have h45 : fx 45 = .pointer (some ⟨g, k, none⟩) := hd.1
          have e45 : fa.tmps[45]?.getD undef = .pointer (some ⟨g, k, none⟩) := (ev.new 45 rfl).trans h45
          refine stepF_un rfl (fun K hK => ?_)
          have q9 := hk.cell hvw (by simp)
          go_simp
          exact hK _ _ rfl (Kp.refl _ _)
        · intro fx w' fa hk hd ev  -- 47 = Op.call { callee := Callee.value (Operand.func 16), args := 
          have h46 : fx 46 = v := hd.1
          have e46 : fa.tmps[46]?.getD undef = v := (ev.new 46 rfl).trans h46
          refine stepF_un rfl (fun K hK => ?_)
          go_simp
          refine (Calls.kp_of (ntbytes_any v w' (HNV3.out.kp0 hk))).mono ?_
          rintro e w1 ⟨rfl, hk1⟩
          exact hK _ _ rfl hk1
        · intro fx w' fa hk hd ev  -- 48 = Op.call { callee := Callee.builtin Builtin.len, args := #[Op
          have h47 : fx 47 = .slice none 0 0 := hd.1
          have e47 : fa.tmps[47]?.getD undef = .slice none 0 0 := (ev.new 47 rfl).trans h47
          refine stepF_un rfl (fun K hK => ?_)
          go_simp
          exact hK _ _ rfl (Kp.refl _ _)
        · intro fx w' fa hk hd ev  -- 49 = Op.binOp BinOp.add 3 (Operand.tmp 42) (Operand.tmp 48) 3
          have h42 : fx 42 = .int .i64 0 := hd.1
          have e42 : fa.tmps[42]?.getD undef = .int .i64 0 := (ev.new 42 rfl).trans h42
          have h48 : fx 48 = .int .i64 0 := hd.2.1
          have e48 : fa.tmps[48]?.getD undef = .int .i64 0 := (ev.new 48 rfl).trans h48
          refine stepF_un rfl (fun K hK => ?_)
          go_simp
          exact hK _ _ rfl (Kp.refl _ _)
        · intro fx w' fa hk hd ev  -- 50 = Op.binOp BinOp.neq 3 (Operand.tmp 49) (Operand.const (Value.
          have h49 : fx 49 = .int .i64 0 := hd.1
          have e49 : fa.tmps[49]?.getD undef = .int .i64 0 := (ev.new 49 rfl).trans h49
          refine stepF_un rfl (fun K hK => ?_)
          go_simp
          exact hK _ _ rfl (Kp.refl _ _)
        · intro fx w' fa hk hd ev  -- 51 = Op.move (Operand.tmp 50)
          have h50 : fx 50 = .bool false := hd.1
          have e50 : fa.tmps[50]?.getD undef = .bool false := (ev.new 50 rfl).trans h50
          refine stepF_un rfl (fun K hK => ?_)
          exact stepF_val _ hK (run_move rfl e50 _) rfl
        · intro fx w' fa hk hd ev  -- 52 = Op.move (Operand.tmp 1)
          have h51 : fx 51 = .bool false := hd.1
          have e51 : fa.tmps[51]?.getD undef = .bool false := (ev.new 51 rfl).trans h51
          have e1 : fa.tmps[1]?.getD undef = .slice (some ⟨g, 0, none⟩) 2 2 := ev.old 1 rfl
          refine stepF_yes (i := 31) (g := 51) (b := false) rfl rfl rfl e51 (fun K hK => ?_)
          exact stepF_val _ hK (run_move rfl e1 _) rfl
        · intro fx w' fa hk hd ev  -- 53 = Op.move (Operand.tmp 2)
          have h51 : fx 51 = .bool false := hd.1
          have e51 : fa.tmps[51]?.getD undef = .bool false := (ev.new 51 rfl).trans h51
          have e2 : fa.tmps[2]?.getD undef = .int .i64 (k : Int) := ev.old 2 rfl
          refine stepF_yes (i := 31) (g := 51) (b := false) rfl rfl rfl e51 (fun K hK => ?_)
          exact stepF_val _ hK (run_move rfl e2 _) rfl
        · intro fx w' fa hk hd ev  -- 54 = Op.indexAddr 94 (Operand.tmp 52) (Operand.tmp 53)
          have h52 : fx 52 = .slice (some ⟨g, 0, none⟩) 2 2 := hd.1
          have e52 : fa.tmps[52]?.getD undef = .slice (some ⟨g, 0, none⟩) 2 2 := (ev.new 52 rfl).trans h52
          have h53 : fx 53 = .int .i64 (k : Int) := hd.2.1
          have e53 : fa.tmps[53]?.getD undef = .int .i64 (k : Int) := (ev.new 53 rfl).trans h53
          have h51 : fx 51 = .bool false := hd.2.2.1
          have e51 : fa.tmps[51]?.getD undef = .bool false := (ev.new 51 rfl).trans h51
          refine stepF_yes (i := 31) (g := 51) (b := false) rfl rfl rfl e51 (fun K hK => ?_)
          go_simp
          exact hK _ _ rfl (Kp.refl _ _)
        · intro fx w' fa hk hd ev  -- 55 = Op.load 27 (Operand.tmp 54)
          have h54 : fx 54 = .pointer (some ⟨g, k, none⟩) := hd.1
          have e54 : fa.tmps[54]?.getD undef = .pointer (some ⟨g, k, none⟩) := (ev.new 54 rfl).trans h54
          have h51 : fx 51 = .bool false := hd.2.1
          have e51 : fa.tmps[51]?.getD undef = .bool false := (ev.new 51 rfl).trans h51
          refine stepF_yes (i := 31) (g := 51) (b := false) rfl rfl rfl e51 (fun K hK => ?_)
          have q9 := hk.cell hvw (by simp)
          go_simp
          exact hK _ _ rfl (Kp.refl _ _)
        · intro fx w' fa hk hd ev  -- 56 = Op.build 24 #[]
          have h51 : fx 51 = .bool false := hd.1
          have e51 : fa.tmps[51]?.getD undef = .bool false := (ev.new 51 rfl).trans h51
          refine stepF_yes (i := 31) (g := 51) (b := false) rfl rfl rfl e51 (fun K hK => ?_)
          go_simp
          exact hK _ _ rfl (Kp.refl _ _)
        · intro fx w' fa hk hd ev  -- 57 = Op.call { callee := Callee.value (Operand.func 32), args := 
          have h55 : fx 55 = v := hd.1
          have e55 : fa.tmps[55]?.getD undef = v := (ev.new 55 rfl).trans h55
          have h56 : fx 56 = .agg #[.int .i64 0, .int .i64 0] := hd.2.1
          have e56 : fa.tmps[56]?.getD undef = .agg #[.int .i64 0, .int .i64 0] := (ev.new 56 rfl).trans h56
          have h51 : fx 51 = .bool false := hd.2.2.1
          have e51 : fa.tmps[51]?.getD undef = .bool false := (ev.new 51 rfl).trans h51
          refine stepF_yes (i := 31) (g := 51) (b := false) rfl rfl rfl e51 (fun K hK => ?_)
          go_simp
          refine (nthas_any v 0 0 w' (HNV3.out.kp0 hk)).mono ?_
          rintro e w1 ⟨rfl, hk1⟩
          exact hK _ _ rfl hk1
        · intro fx w' fa hk hd ev  -- 58 = Op.pick (Operand.tmp 51) (Operand.const (Value.bool true)) (
          have h51 : fx 51 = .bool false := hd.1
          have e51 : fa.tmps[51]?.getD undef = .bool false := (ev.new 51 rfl).trans h51
          have h57 : fx 57 = .bool false := hd.2.1
          have e57 : fa.tmps[57]?.getD undef = .bool false := (ev.new 57 rfl).trans h57
          refine stepF_un rfl (fun K hK => ?_)
          go_simp
          exact hK _ _ rfl (Kp.refl _ _)
        · intro fx w' fa hk hd ev  -- 59 = Op.move (Operand.tmp 58)
          have h58 : fx 58 = .bool false := hd.1
          have e58 : fa.tmps[58]?.getD undef = .bool false := (ev.new 58 rfl).trans h58
          refine stepF_un rfl (fun K hK => ?_)
          exact stepF_val _ hK (run_move rfl e58 _) rfl
        · intro fx w' fa hk hd ev  -- 60 = Op.load 57 (Operand.tmp 3)
          have h59 : fx 59 = .bool false := hd.1
          have e59 : fa.tmps[59]?.getD undef = .bool false := (ev.new 59 rfl).trans h59
          have e3 : fa.tmps[3]?.getD undef = .pointer (some ⟨ga, 0, none⟩) := ev.old 3 rfl
          refine stepF_yes (i := 39) (g := 59) (b := false) rfl rfl rfl e59 (fun K hK => ?_)
          have x0 := hk.cell c0 (by simp)
          have x1 := hk.cell c1 (by simp)
          have x2 := hk.cell c2 (by simp)
          have x3 := hk.cell c3 (by simp)
          go_simp
          exact hK _ _ rfl (Kp.refl _ _)
        · intro fx w' fa hk hd ev  -- 61 = Op.build 57 #[]
          have h59 : fx 59 = .bool false := hd.1
          have e59 : fa.tmps[59]?.getD undef = .bool false := (ev.new 59 rfl).trans h59
          refine stepF_yes (i := 39) (g := 59) (b := false) rfl rfl rfl e59 (fun K hK => ?_)
          go_simp
          exact hK _ _ rfl (Kp.refl _ _)
        · intro fx w' fa hk hd ev  -- 62 = Op.binOp BinOp.neq 57 (Operand.tmp 60) (Operand.tmp 61) 57
          have h60 : fx 60 = .agg #[.int .i64 0, .int .i64 0, .int .i64 0, .int .i64 0] := hd.1
          have e60 : fa.tmps[60]?.getD undef = .agg #[.int .i64 0, .int .i64 0, .int .i64 0, .int .i64 0] := (ev.new 60 rfl).trans h60
          have h61 : fx 61 = .agg #[.int .i64 0, .int .i64 0, .int .i64 0, .int .i64 0] := hd.2.1
          have e61 : fa.tmps[61]?.getD undef = .agg #[.int .i64 0, .int .i64 0, .int .i64 0, .int .i64 0] := (ev.new 61 rfl).trans h61
          have h59 : fx 59 = .bool false := hd.2.2.1
          have e59 : fa.tmps[59]?.getD undef = .bool false := (ev.new 59 rfl).trans h59
          refine stepF_yes (i := 39) (g := 59) (b := false) rfl rfl rfl e59 (fun K hK => ?_)
          go_simp
          exact hK _ _ rfl (Kp.refl _ _)
        · intro fx w' fa hk hd ev  -- 63 = Op.pick (Operand.tmp 59) (Operand.const (Value.bool true)) (
          have h59 : fx 59 = .bool false := hd.1
          have e59 : fa.tmps[59]?.getD undef = .bool false := (ev.new 59 rfl).trans h59
          have h62 : fx 62 = .bool false := hd.2.1
          have e62 : fa.tmps[62]?.getD undef = .bool false := (ev.new 62 rfl).trans h62
          refine stepF_un rfl (fun K hK => ?_)
          go_simp
          exact hK _ _ rfl (Kp.refl _ _)
        · intro fx w' fa hk hd ev  -- 64 = Op.move (Operand.tmp 63)
          have h63 : fx 63 = .bool false := hd.1
          have e63 : fa.tmps[63]?.getD undef = .bool false := (ev.new 63 rfl).trans h63
          refine stepF_un rfl (fun K hK => ?_)
          exact stepF_val _ hK (run_move rfl e63 _) rfl
        · intro fx w' fa hk hd ev  -- 65 = Op.load 58 (Operand.tmp 4)
          have h64 : fx 64 = .bool false := hd.1
          have e64 : fa.tmps[64]?.getD undef = .bool false := (ev.new 64 rfl).trans h64
          have e4 : fa.tmps[4]?.getD undef = .pointer (some ⟨ga + 1, 0, none⟩) := ev.old 4 rfl
          refine stepF_yes (i := 44) (g := 64) (b := false) rfl rfl rfl e64 (fun K hK => ?_)
          have x0 := hk.cell d0 (by simp)
          have x1 := hk.cell d1 (by simp)
          have x2 := hk.cell d2 (by simp)
          have x3 := hk.cell d3 (by simp)
          go_simp
          exact hK _ _ rfl (Kp.refl _ _)
        · intro fx w' fa hk hd ev  -- 66 = Op.build 58 #[]
          have h64 : fx 64 = .bool false := hd.1
          have e64 : fa.tmps[64]?.getD undef = .bool false := (ev.new 64 rfl).trans h64
          refine stepF_yes (i := 44) (g := 64) (b := false) rfl rfl rfl e64 (fun K hK => ?_)
          go_simp
          exact hK _ _ rfl (Kp.refl _ _)
        · intro fx w' fa hk hd ev  -- 67 = Op.binOp BinOp.neq 58 (Operand.tmp 65) (Operand.tmp 66) 58
          have h65 : fx 65 = .agg #[.bool false, .bool false, .bool false, .bool false] := hd.1
          have e65 : fa.tmps[65]?.getD undef = .agg #[.bool false, .bool false, .bool false, .bool false] := (ev.new 65 rfl).trans h65
          have h66 : fx 66 = .agg #[.bool false, .bool false, .bool false, .bool false] := hd.2.1
          have e66 : fa.tmps[66]?.getD undef = .agg #[.bool false, .bool false, .bool false, .bool false] := (ev.new 66 rfl).trans h66
          have h64 : fx 64 = .bool false := hd.2.2.1
          have e64 : fa.tmps[64]?.getD undef = .bool false := (ev.new 64 rfl).trans h64
          refine stepF_yes (i := 44) (g := 64) (b := false) rfl rfl rfl e64 (fun K hK => ?_)
          go_simp
          exact hK _ _ rfl (Kp.refl _ _)
        · intro fx w' fa hk hd ev  -- 68 = Op.pick (Operand.tmp 64) (Operand.const (Value.bool true)) (
          have h64 : fx 64 = .bool false := hd.1
          have e64 : fa.tmps[64]?.getD undef = .bool false := (ev.new 64 rfl).trans h64
          have h67 : fx 67 = .bool false := hd.2.1
          have e67 : fa.tmps[67]?.getD undef = .bool false := (ev.new 67 rfl).trans h67
          refine stepF_un rfl (fun K hK => ?_)
          go_simp
          exact hK _ _ rfl (Kp.refl _ _)
      · intro fx w' hk hd
        have h68 : fx 68 = .bool false := hd.2.2.2.2.2.2.2.2.2.2.2.2.2.2.2.2.2.2.2.2.2.2.2.2.2.2.2.2.2.2.2.2.2.2.2.2.2.2.2.2.2.2.2.2.2.2.2.2.1
        rw [h68]
        have HK4 := Lib.hid (HK3.out.trans hk)
        clear hk hd
        go_wp2_with fail
        exact ⟨⟨k + 1, by go_num, by omega, HK4⟩, by simp [intOf]; omega⟩
    · obtain rfl : k = 2 := by omega
      have HK1 := Lib.hid (HK.out.trans HKR.out)
      go_wp2_with fail
      go_ret
      exact ⟨rfl, HK1.out⟩
end Go.Proofs.Ytldmabkilgpgcaa
