/-
  LAYER 15 (tree): Kids, Has, Bytes.
  CONDITIONS: as each says.
-/
import Derived.Test.YtldmabkilgpgcaaGof
import Derived.Test.YtldmabkilgpgcaaBrd
import Derived.Deep.RegionHeld3
namespace Go.Proofs.Ytldmabkilgpgcaa
open Go.RowKit

/-- Is a quarter of a node there; the kid's number. -/
def thereV (bs : List Bool) (node : Int) (q : Nat) : Bool := if 0 ≤ node ∧ node < ((bs.length / 4 : Nat) : Int) then bs.getD (4 * node.toNat + q) false else false
def kidV (bs : List Bool) (node : Int) (q : Nat) : Nat := if thereV bs node q = true then (if bs.length / 4 ≤ cntI bs (4 * node.toNat + q) + 1 then 0 else cntI bs (4 * node.toNat + q) + 1) else 0
def kidsA (bs : List Bool) (node : Int) : Value := .agg #[.int .i64 (kidV bs node 0 : Int), .int .i64 (kidV bs node 1 : Int), .int .i64 (kidV bs node 2 : Int), .int .i64 (kidV bs node 3 : Int)]
def thereA (bs : List Bool) (node : Int) : Value := .agg #[.bool (thereV bs node 0), .bool (thereV bs node 1), .bool (thereV bs node 2), .bool (thereV bs node 3)]
/-- Four cells, those below a place as they will be. -/
def upTo (z : Value) (f : Nat → Value) (q : Nat) : List Value := [(if 0 < q then f 0 else z), (if 1 < q then f 1 else z), (if 2 < q then f 2 else z), (if 3 < q then f 3 else z)]
theorem upTo_set (z : Value) (f : Nat → Value) {q : Nat} (hq : q < 4) : (upTo z f q).set q (f q) = upTo z f (q + 1) := by
  rcases (show q = 0 ∨ q = 1 ∨ q = 2 ∨ q = 3 by omega) with rfl | rfl | rfl | rfl <;> rfl
theorem upTo_at (z : Value) (f : Nat → Value) {q : Nat} (hq : q < 4) : (upTo z f q)[q]? = some z := by
  rcases (show q = 0 ∨ q = 1 ∨ q = 2 ∨ q = 3 by omega) with rfl | rfl | rfl | rfl <;> rfl
theorem upTo_set_z (z : Value) (f : Nat → Value) {q : Nat} (hq : q < 4) : (upTo z f q).set q z = upTo z f q := by
  rcases (show q = 0 ∨ q = 1 ∨ q = 2 ∨ q = 3 by omega) with rfl | rfl | rfl | rfl <;> rfl
theorem put8 (W : World) (ga gb : Nat) (Ta Tb : TypeId) (x0 x1 x2 x3 y0 y1 y2 y3 : Value) (ha : Blk W ga Ta [x0, x1, x2, x3]) (hb : Blk W gb Tb [y0, y1, y2, y3]) (hne : ga ≠ gb) :
    ∃ w9, w9 = ((((((((W.setCell ⟨ga, 0, none⟩ x0).setCell ⟨ga, 1, none⟩ x1).setCell ⟨ga, 2, none⟩ x2).setCell ⟨ga, 3, none⟩ x3).setCell ⟨gb, 0, none⟩ y0).setCell ⟨gb, 1, none⟩ y1).setCell ⟨gb, 2, none⟩ y2).setCell ⟨gb, 3, none⟩ y3).drew ∧
      Blk w9 ga Ta [x0, x1, x2, x3] ∧ Blk w9 gb Tb [y0, y1, y2, y3] ∧ Kp [ga, gb] W w9 := by
  have ka : Kp [ga] W ((((W.setCell ⟨ga, 0, none⟩ x0).setCell ⟨ga, 1, none⟩ x1).setCell ⟨ga, 2, none⟩ x2).setCell ⟨ga, 3, none⟩ x3) :=
    ((((Kp.refl [ga] W).setCell (.inl (by simp)) _).setCell (.inl (by simp)) _).setCell (.inl (by simp)) _).setCell (.inl (by simp)) _
  have ba := (((ha.set_ 0 x0).set_ 1 x1).set_ 2 x2).set_ 3 x3
  have bb := hb.kp ka (by simpa using Ne.symm hne)
  generalize (((W.setCell ⟨ga, 0, none⟩ x0).setCell ⟨ga, 1, none⟩ x1).setCell ⟨ga, 2, none⟩ x2).setCell ⟨ga, 3, none⟩ x3 = V at *
  have kb : Kp [gb] V ((((V.setCell ⟨gb, 0, none⟩ y0).setCell ⟨gb, 1, none⟩ y1).setCell ⟨gb, 2, none⟩ y2).setCell ⟨gb, 3, none⟩ y3) :=
    ((((Kp.refl [gb] V).setCell (.inl (by simp)) _).setCell (.inl (by simp)) _).setCell (.inl (by simp)) _).setCell (.inl (by simp)) _
  have cb := (((bb.set_ 0 y0).set_ 1 y1).set_ 2 y2).set_ 3 y3
  have ca := ba.kp kb (by simpa using hne)
  refine ⟨_, rfl, ca.drew, cb.drew, ((ka.mono (by simp)).trans (kb.mono (by simp))).drew⟩
set_option maxRecDepth 100000 in
set_option maxHeartbeats 4000000 in
theorem tkids_any (S : List Nat) (p q h k : Nat) (node : Int) (bs : List Bool) (w : World) (ht : TreeM w S p q h k bs true) :
    Calls Try.prog 33 #[.pointer (some ⟨p, 0, none⟩), .int .i64 node] w fun e w' => e = .returned (.tuple #[kidsA bs node, thereA bs node]) ∧ Kp [] w w' := by
  obtain ⟨n, hn⟩ : ∃ n, bs.length = n := ⟨_, rfl⟩
  have hn16 : n ≤ 16777216 := by rw [← hn]; exact ht.2.1.tail.2.2.2
  obtain ⟨M, hM⟩ : ∃ M, M = n / 4 := ⟨_, rfl⟩
  have HN := Lib.hid hn
  have HM := Lib.hid hM
  have HND := Lib.hid (show ∀ w', TreeM w' S p q h k bs true → Calls Try.prog 20 #[.pointer (some ⟨p, 0, none⟩)] w' fun e w'' => e = .returned (.int .i64 (M : Int)) ∧ w' = w'' from fun w' ht => by rw [hM]; exact tnodes_any S p q h k n bs true w' ht hn)
  have hMb : M ≤ 4194304 := by omega
  have h4 : 4 * M ≤ n := by omega
  clear hn hM
  have HT := Lib.hid ht
  have HSL := Lib.hid (show (∀ x ∈ S, x < w.heap.size) ∧ p < w.heap.size from ⟨ht.2.1.lt, ht.1.lt⟩)
  clear ht
  go_enter Try.func33, Try.ntmps33
  have hkk := ((Kp.refl [] w).alloc (.cells #[.int .i64 0, .int .i64 0, .int .i64 0, .int .i64 0] 57)).alloc (.cells #[.bool false, .bool false, .bool false, .bool false] 58)
  have hb4 := (Blk.new w 57 [.int .i64 0, .int .i64 0, .int .i64 0, .int .i64 0]).alloc (.cells #[.bool false, .bool false, .bool false, .bool false] 58)
  have hb5 := Blk.new (w.alloc (.cells #[.int .i64 0, .int .i64 0, .int .i64 0, .int .i64 0] 57)) 58 [.bool false, .bool false, .bool false, .bool false]
  obtain ⟨W, hW⟩ : ∃ W, W = (w.alloc (.cells #[.int .i64 0, .int .i64 0, .int .i64 0, .int .i64 0] 57)).alloc (.cells #[.bool false, .bool false, .bool false, .bool false] 58) := ⟨_, rfl⟩
  obtain ⟨ga, hga⟩ : ∃ ga, ga = w.heap.size := ⟨_, rfl⟩
  obtain ⟨gb, hgb⟩ : ∃ gb, gb = w.heap.size + 1 := ⟨_, rfl⟩
  rw [show (w.alloc (.cells #[.int .i64 0, .int .i64 0, .int .i64 0, .int .i64 0] 57)).heap.size = w.heap.size + 1 by simp] at hb5
  rw [← hga] at hb4
  rw [← hgb] at hb5
  rw [← hW] at hkk
  replace hb4 : Blk W ga 57 [.int .i64 0, .int .i64 0, .int .i64 0, .int .i64 0] := by rw [hW]; exact hb4
  replace hb5 : Blk W gb 58 [.bool false, .bool false, .bool false, .bool false] := by rw [hW]; exact hb5
  have HWW := Lib.hid hW
  have HGA := Lib.hid hga
  have HGB := Lib.hid hgb
  have HKK := Lib.hid hkk
  have hne : ga ≠ gb := by have := HGA.out; have := HGB.out; omega
  have hne' : gb ≠ ga := Ne.symm hne
  have HSG := Lib.hid (show (∀ x ∈ S, x ≠ ga ∧ x ≠ gb) ∧ p ≠ ga ∧ p ≠ gb from ⟨fun x hx => by have := HSL.out.1 x hx; omega, by have := HSL.out.2; omega, by have := HSL.out.2; omega⟩)
  clear hW hga hgb hkk
  by_cases hout : node < 0 ∨ (M : Int) ≤ node
  · have hu : kidsA bs node = .agg #[.int .i64 0, .int .i64 0, .int .i64 0, .int .i64 0] ∧ thereA bs node = .agg #[.bool false, .bool false, .bool false, .bool false] := by
      have h0 : ∀ q, thereV bs node q = false := fun q => by unfold thereV; rw [HN.out, ← HM.out, if_neg (by omega)]
      unfold kidsA thereA kidV
      simp [h0]
    rw [hu.1, hu.2]
    clear hu
    have HT1 := Lib.hid (HT.out.kp0 HKK.out)
    by_cases hneg : node < 0
    · go_wp2_with fail
      rw [← HWW.out, ← HGA.out, show ga + 1 = gb by rw [HGA.out, HGB.out]]
      have c0 : W.cell? ⟨ga, 0, none⟩ = some (.int .i64 0) := by rw [hb4.cell]; rfl
      have c1 : W.cell? ⟨ga, 1, none⟩ = some (.int .i64 0) := by rw [hb4.cell]; rfl
      have c2 : W.cell? ⟨ga, 2, none⟩ = some (.int .i64 0) := by rw [hb4.cell]; rfl
      have c3 : W.cell? ⟨ga, 3, none⟩ = some (.int .i64 0) := by rw [hb4.cell]; rfl
      have d0 : W.cell? ⟨gb, 0, none⟩ = some (.bool false) := by rw [hb5.cell]; rfl
      have d1 : W.cell? ⟨gb, 1, none⟩ = some (.bool false) := by rw [hb5.cell]; rfl
      have d2 : W.cell? ⟨gb, 2, none⟩ = some (.bool false) := by rw [hb5.cell]; rfl
      have d3 : W.cell? ⟨gb, 3, none⟩ = some (.bool false) := by rw [hb5.cell]; rfl
      have f0 := hb4.free 0
      have f1 := hb4.free 1
      have f2 := hb4.free 2
      have f3 := hb4.free 3
      have e0 := hb5.free 0
      have e1 := hb5.free 1
      have e2 := hb5.free 2
      have e3 := hb5.free 3
      go_region
      obtain ⟨w9, hw9, p9, q9, k9⟩ := put8 W ga gb 57 58 (.int .i64 0) (.int .i64 0) (.int .i64 0) (.int .i64 0) (.bool false) (.bool false) (.bool false) (.bool false) hb4 hb5 hne
      go_wp2_with fail
      rw [← hw9]
      have r0 : w9.cell? ⟨ga, 0, none⟩ = some (.int .i64 0) := by rw [p9.cell]; rfl
      have r1 : w9.cell? ⟨ga, 1, none⟩ = some (.int .i64 0) := by rw [p9.cell]; rfl
      have r2 : w9.cell? ⟨ga, 2, none⟩ = some (.int .i64 0) := by rw [p9.cell]; rfl
      have r3 : w9.cell? ⟨ga, 3, none⟩ = some (.int .i64 0) := by rw [p9.cell]; rfl
      have s0 : w9.cell? ⟨gb, 0, none⟩ = some (.bool false) := by rw [q9.cell]; rfl
      have s1 : w9.cell? ⟨gb, 1, none⟩ = some (.bool false) := by rw [q9.cell]; rfl
      have s2 : w9.cell? ⟨gb, 2, none⟩ = some (.bool false) := by rw [q9.cell]; rfl
      have s3 : w9.cell? ⟨gb, 3, none⟩ = some (.bool false) := by rw [q9.cell]; rfl
      refine bodyPost_ret (v := .tuple #[.agg #[.int .i64 0, .int .i64 0, .int .i64 0, .int .i64 0], .agg #[.bool false, .bool false, .bool false, .bool false]]) (by simp [results, Try.results33, go_sem, r0, r1, r2, r3, s0, s1, s2, s3]) rfl ⟨rfl, HKK.out.trans' k9 (fun x hx => .inr (by
        have := HGA.out
        have := HGB.out
        simp only [List.mem_cons, List.not_mem_nil, or_false] at hx
        rcases hx with rfl | rfl <;> omega))⟩
    · have hM1 : (M : Int) ≤ node := by omega
      go_wp2_with fail
      rw [← HWW.out, ← HGA.out, show ga + 1 = gb by rw [HGA.out, HGB.out]]
      refine (HND.out W HT1.out).mono ?_
      rintro e w1 ⟨rfl, rfl⟩
      go_wp2_with fail
      have c0 : W.cell? ⟨ga, 0, none⟩ = some (.int .i64 0) := by rw [hb4.cell]; rfl
      have c1 : W.cell? ⟨ga, 1, none⟩ = some (.int .i64 0) := by rw [hb4.cell]; rfl
      have c2 : W.cell? ⟨ga, 2, none⟩ = some (.int .i64 0) := by rw [hb4.cell]; rfl
      have c3 : W.cell? ⟨ga, 3, none⟩ = some (.int .i64 0) := by rw [hb4.cell]; rfl
      have d0 : W.cell? ⟨gb, 0, none⟩ = some (.bool false) := by rw [hb5.cell]; rfl
      have d1 : W.cell? ⟨gb, 1, none⟩ = some (.bool false) := by rw [hb5.cell]; rfl
      have d2 : W.cell? ⟨gb, 2, none⟩ = some (.bool false) := by rw [hb5.cell]; rfl
      have d3 : W.cell? ⟨gb, 3, none⟩ = some (.bool false) := by rw [hb5.cell]; rfl
      have f0 := hb4.free 0
      have f1 := hb4.free 1
      have f2 := hb4.free 2
      have f3 := hb4.free 3
      have e0 := hb5.free 0
      have e1 := hb5.free 1
      have e2 := hb5.free 2
      have e3 := hb5.free 3
      go_region
      obtain ⟨w9, hw9, p9, q9, k9⟩ := put8 W ga gb 57 58 (.int .i64 0) (.int .i64 0) (.int .i64 0) (.int .i64 0) (.bool false) (.bool false) (.bool false) (.bool false) hb4 hb5 hne
      go_wp2_with fail
      rw [← hw9]
      have r0 : w9.cell? ⟨ga, 0, none⟩ = some (.int .i64 0) := by rw [p9.cell]; rfl
      have r1 : w9.cell? ⟨ga, 1, none⟩ = some (.int .i64 0) := by rw [p9.cell]; rfl
      have r2 : w9.cell? ⟨ga, 2, none⟩ = some (.int .i64 0) := by rw [p9.cell]; rfl
      have r3 : w9.cell? ⟨ga, 3, none⟩ = some (.int .i64 0) := by rw [p9.cell]; rfl
      have s0 : w9.cell? ⟨gb, 0, none⟩ = some (.bool false) := by rw [q9.cell]; rfl
      have s1 : w9.cell? ⟨gb, 1, none⟩ = some (.bool false) := by rw [q9.cell]; rfl
      have s2 : w9.cell? ⟨gb, 2, none⟩ = some (.bool false) := by rw [q9.cell]; rfl
      have s3 : w9.cell? ⟨gb, 3, none⟩ = some (.bool false) := by rw [q9.cell]; rfl
      refine bodyPost_ret (v := .tuple #[.agg #[.int .i64 0, .int .i64 0, .int .i64 0, .int .i64 0], .agg #[.bool false, .bool false, .bool false, .bool false]]) (by simp [results, Try.results33, go_sem, r0, r1, r2, r3, s0, s1, s2, s3]) rfl ⟨rfl, HKK.out.trans' k9 (fun x hx => .inr (by
        have := HGA.out
        have := HGB.out
        simp only [List.mem_cons, List.not_mem_nil, or_false] at hx
        rcases hx with rfl | rfl <;> omega))⟩
  · obtain ⟨nd, rfl⟩ : ∃ nd : Nat, node = (nd : Int) := ⟨node.toNat, by omega⟩
    rw [show kidsA bs (nd : Int) = .agg #[.int .i64 (kidV bs (nd : Int) 0 : Int), .int .i64 (kidV bs (nd : Int) 1 : Int), .int .i64 (kidV bs (nd : Int) 2 : Int), .int .i64 (kidV bs (nd : Int) 3 : Int)] from rfl, show thereA bs (nd : Int) = .agg #[.bool (thereV bs (nd : Int) 0), .bool (thereV bs (nd : Int) 1), .bool (thereV bs (nd : Int) 2), .bool (thereV bs (nd : Int) 3)] from rfl]
    have hnd : nd < M := by omega
    have hnd' : (nd : Int) < (M : Int) := by omega
    have hdc1 : decide (M ≤ nd) = false := decide_eq_false (by omega)
    have hdc2 : decide ((nd : Int) < 0) = false := decide_eq_false (by omega)
    have HT1 := Lib.hid (HT.out.kp0 HKK.out)
    go_wp2_with fail
    rw [← HWW.out, ← HGA.out, show ga + 1 = gb by rw [HGA.out, HGB.out]]
    refine (HND.out W HT1.out).mono ?_
    rintro e w1 ⟨rfl, rfl⟩
    have HB4 := Lib.hid hb4
    have HB5 := Lib.hid hb5
    clear hb4 hb5 hout HWW
    go_wp2_with fail
    go_loopw [17] (fun x wr => ∃ j : Nat, x = .int .i64 (j : Int) ∧ j ≤ 4 ∧ Hid (Blk wr ga 57 (upTo (.int .i64 0) (fun i => .int .i64 (kidV bs (nd : Int) i : Int)) j)) ∧ Hid (Blk wr gb 58 (upTo (.bool false) (fun i => .bool (thereV bs (nd : Int) i)) j)) ∧ Hid (TreeM wr S p q h k bs true) ∧ Hid (Kp [] w wr)) (fun x _ => 4 - (intOf x).toNat)
    case atStart => exact ⟨0, rfl, by omega, HB4, HB5, HT1, HKK⟩
    case round =>
      clear HB4 HB5 HT1 HKK HT
      obtain ⟨j, rfl, hj, HB4, HB5, HT, HK⟩ := hrel
      by_cases hj4 : j < 4
      · obtain ⟨b, hb⟩ : ∃ b, b = thereV bs (nd : Int) j := ⟨_, rfl⟩
        have HBV := Lib.hid hb
        obtain ⟨i, hi⟩ : ∃ i, i = 4 * nd + j := ⟨_, rfl⟩
        have hgb' : getB bs (i : Int) = b := by
          rw [hb]
          unfold getB thereV
          rw [if_neg (by omega), if_pos ⟨Int.natCast_nonneg _, by rw [HN.out, ← HM.out]; exact hnd'⟩, Int.toNat_natCast, Int.toNat_natCast, hi]
        have HGV := Lib.hid hgb'
        have hq4 : 4 * (nd : Int) + (j : Int) = (i : Int) := by omega
        have hib : i ≤ 16777216 := by omega
        have hin : i ≤ n := by omega
        have HI := Lib.hid hi
        obtain ⟨c0, _, _⟩ := HT.out.cells
        have hj0 : (0 : Int) ≤ (j : Int) := by omega
        have hj1 : (j : Int) < 4 := by omega
        have hg5 : wr.cell? ⟨gb, j, none⟩ = some (.bool false) := by rw [HB5.out.cell, upTo_at _ _ hj4]
        have hg4 : wr.cell? ⟨ga, j, none⟩ = some (.int .i64 0) := by rw [HB4.out.cell, upTo_at _ _ hj4]
        have hf5 := HB5.out.free j
        have hf4 := HB4.out.free j
        clear hb hgb' hi
        go_wp2_with fail
        refine (vget_any S q (i : Int) bs true wr HT.out.2.1).mono ?_
        rw [HGV.out]
        rintro e w2 ⟨rfl, rfl⟩
        go_upto_region 7 with fail
        obtain ⟨w3, hw3⟩ : ∃ w3, w3 = wr.setCell ⟨gb, j, none⟩ (.bool b) := ⟨_, rfl⟩
        rw [← hw3]
        have hk3 : Kp [gb] wr w3 := by rw [hw3]; exact (Kp.refl [gb] wr).setCell (.inl (by simp)) _
        have hb3 : Blk w3 gb 58 (upTo (.bool false) (fun i => .bool (thereV bs (nd : Int) i)) (j + 1)) := by
          have := HB5.out.set_ j (.bool b)
          rw [hw3]
          rw [HBV.out] at this ⊢
          rw [← upTo_set (.bool false) (fun i => .bool (thereV bs (nd : Int) i)) hj4]
          exact this
        have hb3' := HB4.out.kp hk3 (by simpa using hne)
        have ht3 := HT.out.kp hk3 (fun x hx hm => (HSG.out.1 x hx).2 (by simpa using hm)) (by simpa using HSG.out.2.2)
        have c0' := ht3.cells.1
        have hg5' : w3.cell? ⟨gb, j, none⟩ = some (.bool b) := by
          rw [hb3.cell, ← upTo_set (.bool false) (fun i => .bool (thereV bs (nd : Int) i)) hj4, List.getElem?_set_self (by unfold upTo; exact hj4), HBV.out]
        have hg4' : w3.cell? ⟨ga, j, none⟩ = some (.int .i64 0) := hk3.cell hg4 (by simpa using hne)
        have hf4' := hb3'.free j
        have HT3 := Lib.hid ht3
        have HA3 := Lib.hid hb3'
        have HB3 := Lib.hid hb3
        have HK3 := Lib.hid (HK.out.trans' hk3 (fun x hx => .inr (by simp only [List.mem_singleton] at hx; subst hx; have := HGB.out; omega)))
        clear hw3 hk3 hb3 hb3' ht3 HB4 HB5 HT HK c0 hg5 hg4 hf5 hf4
        cases b with
        | false =>
          have HKV := Lib.hid (show kidV bs (nd : Int) j = 0 by unfold kidV; rw [← HBV.out]; rfl)
          have HA4 := Lib.hid (show Blk w3 ga 57 (upTo (.int .i64 0) (fun i => .int .i64 (kidV bs (nd : Int) i : Int)) (j + 1)) by
            rw [← upTo_set (.int .i64 0) (fun i => .int .i64 (kidV bs (nd : Int) i : Int)) hj4, HKV.out]
            rw [show (Value.int .i64 ((0 : Nat) : Int)) = .int .i64 0 from rfl, upTo_set_z _ _ hj4]
            exact HA3.out)
          have hM0 : ¬ ((M : Int) ≤ 0) := by omega
          go_wp2_with fail
          go_quiet ((go_at_call 20; exact quiet_eq (HND.out _ (HT3.out.kp0 ((Kp.refl [] w3).drewN _)))))
          go_wp2_with fail
          go_roundw
          case rel => exact ⟨j + 1, by go_num, by omega, Lib.hid (HA4.out.drewN _), Lib.hid (HB3.out.drewN _), Lib.hid (HT3.out.kp0 ((Kp.refl [] w3).drewN _)), Lib.hid (HK3.out.drewN _)⟩
          case measure => simp [intOf]; omega
        | true =>
          obtain ⟨R, hR⟩ : ∃ R, R = cntI bs i := ⟨_, rfl⟩
          have HRI := Lib.hid (show rankI bs (i : Int) = R by unfold rankI; rw [hR, show (min (max (i : Int) 0) (bs.length : Int)).toNat = i by rw [HN.out]; omega])
          have hRb : R ≤ i := by rw [hR]; unfold cntI; exact Nat.le_trans List.count_le_length (List.length_take_le _ _)
          have HKV := Lib.hid (show kidV bs (nd : Int) j = if M ≤ R + 1 then 0 else R + 1 by unfold kidV; rw [← HBV.out, if_pos rfl, HN.out, ← HM.out, Int.toNat_natCast, ← HI.out, ← hR])
          clear hR
          go_wp2_with fail
          refine (vrank_any S q (i : Int) bs true w3 HT3.out.2.1).mono ?_
          rw [HRI.out]
          rintro e w4 ⟨rfl, S4, hv4, hk4, hg4x, hS4⟩
          obtain ⟨rfl, hk4'⟩ := hS4 rfl
          have ht4 := HT3.out.kp0 hk4'
          have hb4 := HB3.out.kp0 hk4'
          have ha4 := HA3.out.kp0 hk4'
          have hg4' : w4.cell? ⟨ga, j, none⟩ = some (.int .i64 0) := by rw [ha4.cell, upTo_at _ _ hj4]
          have hf4' := ha4.free j
          have HK4 := Lib.hid (HK3.out.trans hk4')
          have HT4 := Lib.hid ht4
          have HA4 := Lib.hid ha4
          have HB4 := Lib.hid hb4
          clear hv4 hk4 hg4x hS4 hk4' ht4 hb4 ha4 HT3 HA3 HB3 HK3
          go_upto_region 9 with fail
          obtain ⟨w5, hw5⟩ : ∃ w5, w5 = w4.setCell ⟨ga, j, none⟩ (.int .i64 ((R : Int) + 1)) := ⟨_, rfl⟩
          rw [← hw5]
          have hk5 : Kp [ga] w4 w5 := by rw [hw5]; exact (Kp.refl [ga] w4).setCell (.inl (by simp)) _
          have ha5 : Blk w5 ga 57 ((upTo (.int .i64 0) (fun i => .int .i64 (kidV bs (nd : Int) i : Int)) j).set j (.int .i64 ((R : Int) + 1))) := by rw [hw5]; exact HA4.out.set_ j _
          have hb5 := HB4.out.kp hk5 (by simpa using hne')
          have ht5 := HT4.out.kp hk5 (fun x hx hm => (HSG.out.1 x hx).1 (by simpa using hm)) (by simpa using HSG.out.2.1)
          have hg5 : w5.cell? ⟨ga, j, none⟩ = some (.int .i64 ((R : Int) + 1)) := by rw [ha5.cell, List.getElem?_set_self (by unfold upTo; exact hj4)]
          have hf5 := ha5.free j
          have HT5 := Lib.hid ht5
          have HB5 := Lib.hid hb5
          have HA5 := Lib.hid ha5
          have HK5 := Lib.hid (HK4.out.trans' hk5 (fun x hx => .inr (by simp only [List.mem_singleton] at hx; subst hx; have := HGA.out; omega)))
          clear hw5 hk5 ha5 hb5 ht5 HT4 HB4 HA4 HK4
          by_cases hMR : M ≤ R + 1
          · have hMR' : (M : Int) ≤ (R : Int) + 1 := by omega
            have HKW := Lib.hid (show kidV bs (nd : Int) j = 0 by rw [HKV.out, if_pos hMR])
            go_wp2_with fail
            go_quiet ((go_at_call 20; exact quiet_eq (HND.out _ (HT5.out.kp0 ((Kp.refl [] w5).drewN _)))))
            go_wp2_with fail
            go_roundw
            case measure => simp [intOf]; omega
            refine ⟨j + 1, by go_num, by omega, Lib.hid ?_, Lib.hid ?_, Lib.hid ?_, Lib.hid ((HK5.out.drewN _).setCell (.inr (by rw [HGA.out]; exact Nat.le_refl _)) _)⟩
            · have h1 := (HA5.out.drewN nq).set_ j (.int .i64 0)
              rw [List.set_set, upTo_set_z _ _ hj4] at h1
              rw [← upTo_set (.int .i64 0) (fun i => .int .i64 (kidV bs (nd : Int) i : Int)) hj4, HKW.out, show (Value.int .i64 ((0 : Nat) : Int)) = .int .i64 0 from rfl, upTo_set_z _ _ hj4]
              exact h1
            · exact (HB5.out.drewN nq).kp ((Kp.refl [ga] _).setCell (.inl (by simp)) _) (by simpa using hne')
            · exact HT5.out.kp (((Kp.refl [ga] w5).drewN nq).setCell (.inl (by simp)) _) (fun x hx hm => (HSG.out.1 x hx).1 (by simpa using hm)) (by simpa using HSG.out.2.1)
          · have hMR' : ¬ (M : Int) ≤ (R : Int) + 1 := by omega
            have HKW := Lib.hid (show kidV bs (nd : Int) j = R + 1 by rw [HKV.out, if_neg hMR])
            go_wp2_with fail
            go_quiet ((go_at_call 20; exact quiet_eq (HND.out _ (HT5.out.kp0 ((Kp.refl [] w5).drewN _)))))
            go_wp2_with fail
            go_roundw
            case measure => simp [intOf]; omega
            refine ⟨j + 1, by go_num, by omega, Lib.hid ?_, Lib.hid (HB5.out.drewN _), Lib.hid (HT5.out.kp0 ((Kp.refl [] w5).drewN _)), Lib.hid (HK5.out.drewN _)⟩
            rw [← upTo_set (.int .i64 0) (fun i => .int .i64 (kidV bs (nd : Int) i : Int)) hj4, HKW.out]
            exact HA5.out.drewN _
      · obtain rfl : j = 4 := by omega
        have hB4 : Blk wr ga 57 [.int .i64 (kidV bs (nd : Int) 0 : Int), .int .i64 (kidV bs (nd : Int) 1 : Int), .int .i64 (kidV bs (nd : Int) 2 : Int), .int .i64 (kidV bs (nd : Int) 3 : Int)] := HB4.out
        have hB5 : Blk wr gb 58 [.bool (thereV bs (nd : Int) 0), .bool (thereV bs (nd : Int) 1), .bool (thereV bs (nd : Int) 2), .bool (thereV bs (nd : Int) 3)] := HB5.out
        go_wp2_with fail
        have c0 : wr.cell? ⟨ga, 0, none⟩ = some (.int .i64 (kidV bs (nd : Int) 0 : Int)) := by rw [hB4.cell]; rfl
        have c1 : wr.cell? ⟨ga, 1, none⟩ = some (.int .i64 (kidV bs (nd : Int) 1 : Int)) := by rw [hB4.cell]; rfl
        have c2 : wr.cell? ⟨ga, 2, none⟩ = some (.int .i64 (kidV bs (nd : Int) 2 : Int)) := by rw [hB4.cell]; rfl
        have c3 : wr.cell? ⟨ga, 3, none⟩ = some (.int .i64 (kidV bs (nd : Int) 3 : Int)) := by rw [hB4.cell]; rfl
        have d0 : wr.cell? ⟨gb, 0, none⟩ = some (.bool (thereV bs (nd : Int) 0)) := by rw [hB5.cell]; rfl
        have d1 : wr.cell? ⟨gb, 1, none⟩ = some (.bool (thereV bs (nd : Int) 1)) := by rw [hB5.cell]; rfl
        have d2 : wr.cell? ⟨gb, 2, none⟩ = some (.bool (thereV bs (nd : Int) 2)) := by rw [hB5.cell]; rfl
        have d3 : wr.cell? ⟨gb, 3, none⟩ = some (.bool (thereV bs (nd : Int) 3)) := by rw [hB5.cell]; rfl
        have f0 := hB4.free 0
        have f1 := hB4.free 1
        have f2 := hB4.free 2
        have f3 := hB4.free 3
        have e0 := hB5.free 0
        have e1 := hB5.free 1
        have e2 := hB5.free 2
        have e3 := hB5.free 3
        go_region
        obtain ⟨w9, hw9, p9, q9, k9⟩ := put8 wr ga gb 57 58 (.int .i64 (kidV bs (nd : Int) 0 : Int)) (.int .i64 (kidV bs (nd : Int) 1 : Int)) (.int .i64 (kidV bs (nd : Int) 2 : Int)) (.int .i64 (kidV bs (nd : Int) 3 : Int)) (.bool (thereV bs (nd : Int) 0)) (.bool (thereV bs (nd : Int) 1)) (.bool (thereV bs (nd : Int) 2)) (.bool (thereV bs (nd : Int) 3)) hB4 hB5 hne
        go_wp2_with fail
        rw [← hw9]
        have r0 : w9.cell? ⟨ga, 0, none⟩ = some (.int .i64 (kidV bs (nd : Int) 0 : Int)) := by rw [p9.cell]; rfl
        have r1 : w9.cell? ⟨ga, 1, none⟩ = some (.int .i64 (kidV bs (nd : Int) 1 : Int)) := by rw [p9.cell]; rfl
        have r2 : w9.cell? ⟨ga, 2, none⟩ = some (.int .i64 (kidV bs (nd : Int) 2 : Int)) := by rw [p9.cell]; rfl
        have r3 : w9.cell? ⟨ga, 3, none⟩ = some (.int .i64 (kidV bs (nd : Int) 3 : Int)) := by rw [p9.cell]; rfl
        have s0 : w9.cell? ⟨gb, 0, none⟩ = some (.bool (thereV bs (nd : Int) 0)) := by rw [q9.cell]; rfl
        have s1 : w9.cell? ⟨gb, 1, none⟩ = some (.bool (thereV bs (nd : Int) 1)) := by rw [q9.cell]; rfl
        have s2 : w9.cell? ⟨gb, 2, none⟩ = some (.bool (thereV bs (nd : Int) 2)) := by rw [q9.cell]; rfl
        have s3 : w9.cell? ⟨gb, 3, none⟩ = some (.bool (thereV bs (nd : Int) 3)) := by rw [q9.cell]; rfl
        refine bodyPost_ret (v := .tuple #[.agg #[.int .i64 (kidV bs (nd : Int) 0 : Int), .int .i64 (kidV bs (nd : Int) 1 : Int), .int .i64 (kidV bs (nd : Int) 2 : Int), .int .i64 (kidV bs (nd : Int) 3 : Int)], .agg #[.bool (thereV bs (nd : Int) 0), .bool (thereV bs (nd : Int) 1), .bool (thereV bs (nd : Int) 2), .bool (thereV bs (nd : Int) 3)]]) (by simp [results, Try.results33, go_sem, r0, r1, r2, r3, s0, s1, s2, s3]) rfl ⟨rfl, HK.out.trans' k9 (fun x hx => .inr (by
          have := HGA.out
          have := HGB.out
          simp only [List.mem_cons, List.not_mem_nil, or_false] at hx
          rcases hx with rfl | rfl <;> omega))⟩
end Go.Proofs.Ytldmabkilgpgcaa
