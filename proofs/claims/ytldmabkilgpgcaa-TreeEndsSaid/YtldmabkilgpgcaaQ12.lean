/-
  LAYER 15 (tree): Kids, Has, Bytes.
  LAYER 15 (tree): Has, Bytes.
  LAYER 15 (tree): Bytes.
  LAYER 15 (tree): the chapter's example.
  LAYER 15 (tree), plain: where the kids of a node stand; whether a pair is there; the pairs that bits are of.
  LAYER 15 (tree), plain: the pairs that bits are of, level by level; the bits hang on the set of pairs alone.
  LAYER 15 (tree): grown.
  PLAIN MATHEMATICS of the document's tree: pairs in order, quarters, nodes in the order in which they come, kids' numbers.
  CONDITIONS: as each lemma says.
-/
import Derived.Test.YtldmabkilgpgcaaQ11
import Derived.Test.YtldmabkilgpgcaaQ10
import Derived.Test.YtldmabkilgpgcaaQ06
import Derived.Deep.RegionHeld3
import Derived.Deep.DeepCutAuto
namespace Go.Proofs.Ytldmabkilgpgcaa
open Go.RowKit

/-- Is a quarter of a node there; the kid's number. -/
def thereV (bs : List Bool) (node : Int) (q : Nat) : Bool := if 0 ≤ node ∧ node < ((bs.length / 4 : Nat) : Int) then bs.getD (4 * node.toNat + q) false else false
def kidV (bs : List Bool) (node : Int) (q : Nat) : Nat := if thereV bs node q = true then (if bs.length / 4 ≤ cntI bs (4 * node.toNat + q) + 1 then 0 else cntI bs (4 * node.toNat + q) + 1) else 0
def kidsA (bs : List Bool) (node : Int) : Value := .agg #[.int .i64 (kidV bs node 0 : Int), .int .i64 (kidV bs node 1 : Int), .int .i64 (kidV bs node 2 : Int), .int .i64 (kidV bs node 3 : Int)]
def thereA (bs : List Bool) (node : Int) : Value := .agg #[.bool (thereV bs node 0), .bool (thereV bs node 1), .bool (thereV bs node 2), .bool (thereV bs node 3)]
/-- Four cells, those below a place as they will be. -/
def upTo (z : Value) (f : Nat → Value) (q : Nat) : List Value := [(if 0 < q then f 0 else z), (if 1 < q then f 1 else z), (if 2 < q then f 2 else z), (if 3 < q then f 3 else z)]
theorem upTo_set (z : Value) (f : Nat → Value) {q : Nat} (hq : q < 4) : (upTo z f q).set q (f q) = upTo z f (q + 1) := by
  rcases (show q = 0 ∨ q = 1 ∨ q = 2 ∨ q = 3 by omega) with rfl | rfl | rfl | rfl <;> rfl
theorem upTo_at (z : Value) (f : Nat → Value) {q : Nat} (hq : q < 4) : (upTo z f q)[q]? = some z := by
  rcases (show q = 0 ∨ q = 1 ∨ q = 2 ∨ q = 3 by omega) with rfl | rfl | rfl | rfl <;> rfl
theorem upTo_set_z (z : Value) (f : Nat → Value) {q : Nat} (hq : q < 4) : (upTo z f q).set q z = upTo z f q := by
  rcases (show q = 0 ∨ q = 1 ∨ q = 2 ∨ q = 3 by omega) with rfl | rfl | rfl | rfl <;> rfl
theorem put8 (W : World) (ga gb : Nat) (Ta Tb : TypeId) (x0 x1 x2 x3 y0 y1 y2 y3 : Value) (ha : Blk W ga Ta [x0, x1, x2, x3]) (hb : Blk W gb Tb [y0, y1, y2, y3]) (hne : ga ≠ gb) :
    ∃ w9, w9 = ((((((((W.setCell ⟨ga, 0, none⟩ x0).setCell ⟨ga, 1, none⟩ x1).setCell ⟨ga, 2, none⟩ x2).setCell ⟨ga, 3, none⟩ x3).setCell ⟨gb, 0, none⟩ y0).setCell ⟨gb, 1, none⟩ y1).setCell ⟨gb, 2, none⟩ y2).setCell ⟨gb, 3, none⟩ y3).drew ∧
      Blk w9 ga Ta [x0, x1, x2, x3] ∧ Blk w9 gb Tb [y0, y1, y2, y3] ∧ Kp [ga, gb] W w9 := by
  have ka : Kp [ga] W ((((W.setCell ⟨ga, 0, none⟩ x0).setCell ⟨ga, 1, none⟩ x1).setCell ⟨ga, 2, none⟩ x2).setCell ⟨ga, 3, none⟩ x3) :=
    ((((Kp.refl [ga] W).setCell (.inl (by simp)) _).setCell (.inl (by simp)) _).setCell (.inl (by simp)) _).setCell (.inl (by simp)) _
  have ba := (((ha.set_ 0 x0).set_ 1 x1).set_ 2 x2).set_ 3 x3
  have bb := hb.kp ka (by simpa using Ne.symm hne)
  generalize (((W.setCell ⟨ga, 0, none⟩ x0).setCell ⟨ga, 1, none⟩ x1).setCell ⟨ga, 2, none⟩ x2).setCell ⟨ga, 3, none⟩ x3 = V at *
  have kb : Kp [gb] V ((((V.setCell ⟨gb, 0, none⟩ y0).setCell ⟨gb, 1, none⟩ y1).setCell ⟨gb, 2, none⟩ y2).setCell ⟨gb, 3, none⟩ y3) :=
    ((((Kp.refl [gb] V).setCell (.inl (by simp)) _).setCell (.inl (by simp)) _).setCell (.inl (by simp)) _).setCell (.inl (by simp)) _
  have cb := (((bb.set_ 0 y0).set_ 1 y1).set_ 2 y2).set_ 3 y3
  have ca := ba.kp kb (by simpa using hne)
  refine ⟨_, rfl, ca.drew, cb.drew, ((ka.mono (by simp)).trans (kb.mono (by simp))).drew⟩
set_option maxRecDepth 100000 in
set_option maxHeartbeats 4000000 in
theorem tkids_any (S : List Nat) (p q h k : Nat) (node : Int) (bs : List Bool) (w : World) (ht : TreeM w S p q h k bs true) :
    Calls Try.prog 33 #[.pointer (some ⟨p, 0, none⟩), .int .i64 node] w fun e w' => e = .returned (.tuple #[kidsA bs node, thereA bs node]) ∧ Kp [] w w' := by
  obtain ⟨n, hn⟩ : ∃ n, bs.length = n := ⟨_, rfl⟩
  have hn16 : n ≤ 16777216 := by rw [← hn]; exact ht.2.1.tail.2.2.2
  obtain ⟨M, hM⟩ : ∃ M, M = n / 4 := ⟨_, rfl⟩
  have HN := Lib.hid hn
  have HM := Lib.hid hM
  have HND := Lib.hid (show ∀ w', TreeM w' S p q h k bs true → Calls Try.prog 20 #[.pointer (some ⟨p, 0, none⟩)] w' fun e w'' => e = .returned (.int .i64 (M : Int)) ∧ w' = w'' from fun w' ht => by rw [hM]; exact tnodes_any S p q h k n bs true w' ht hn)
  have hMb : M ≤ 4194304 := by omega
  have h4 : 4 * M ≤ n := by omega
  clear hn hM
  have HT := Lib.hid ht
  have HSL := Lib.hid (show (∀ x ∈ S, x < w.heap.size) ∧ p < w.heap.size from ⟨ht.2.1.lt, ht.1.lt⟩)
  clear ht
  go_enter Try.func33, Try.ntmps33
  have hkk := ((Kp.refl [] w).alloc (.cells #[.int .i64 0, .int .i64 0, .int .i64 0, .int .i64 0] 57)).alloc (.cells #[.bool false, .bool false, .bool false, .bool false] 58)
  have hb4 := (Blk.new w 57 [.int .i64 0, .int .i64 0, .int .i64 0, .int .i64 0]).alloc (.cells #[.bool false, .bool false, .bool false, .bool false] 58)
  have hb5 := Blk.new (w.alloc (.cells #[.int .i64 0, .int .i64 0, .int .i64 0, .int .i64 0] 57)) 58 [.bool false, .bool false, .bool false, .bool false]
  obtain ⟨W, hW⟩ : ∃ W, W = (w.alloc (.cells #[.int .i64 0, .int .i64 0, .int .i64 0, .int .i64 0] 57)).alloc (.cells #[.bool false, .bool false, .bool false, .bool false] 58) := ⟨_, rfl⟩
  obtain ⟨ga, hga⟩ : ∃ ga, ga = w.heap.size := ⟨_, rfl⟩
  obtain ⟨gb, hgb⟩ : ∃ gb, gb = w.heap.size + 1 := ⟨_, rfl⟩
  rw [show (w.alloc (.cells #[.int .i64 0, .int .i64 0, .int .i64 0, .int .i64 0] 57)).heap.size = w.heap.size + 1 by simp] at hb5
  rw [← hga] at hb4
  rw [← hgb] at hb5
  rw [← hW] at hkk
  replace hb4 : Blk W ga 57 [.int .i64 0, .int .i64 0, .int .i64 0, .int .i64 0] := by rw [hW]; exact hb4
  replace hb5 : Blk W gb 58 [.bool false, .bool false, .bool false, .bool false] := by rw [hW]; exact hb5
  have HWW := Lib.hid hW
  have HGA := Lib.hid hga
  have HGB := Lib.hid hgb
  have HKK := Lib.hid hkk
  have hne : ga ≠ gb := by have := HGA.out; have := HGB.out; omega
  have hne' : gb ≠ ga := Ne.symm hne
  have HSG := Lib.hid (show (∀ x ∈ S, x ≠ ga ∧ x ≠ gb) ∧ p ≠ ga ∧ p ≠ gb from ⟨fun x hx => by have := HSL.out.1 x hx; omega, by have := HSL.out.2; omega, by have := HSL.out.2; omega⟩)
  clear hW hga hgb hkk
  by_cases hout : node < 0 ∨ (M : Int) ≤ node
  · have hu : kidsA bs node = .agg #[.int .i64 0, .int .i64 0, .int .i64 0, .int .i64 0] ∧ thereA bs node = .agg #[.bool false, .bool false, .bool false, .bool false] := by
      have h0 : ∀ q, thereV bs node q = false := fun q => by unfold thereV; rw [HN.out, ← HM.out, if_neg (by omega)]
      unfold kidsA thereA kidV
      simp [h0]
    rw [hu.1, hu.2]
    clear hu
    have HT1 := Lib.hid (HT.out.kp0 HKK.out)
    by_cases hneg : node < 0
    · go_wp2_with fail
      rw [← HWW.out, ← HGA.out, show ga + 1 = gb by rw [HGA.out, HGB.out]]
      have c0 : W.cell? ⟨ga, 0, none⟩ = some (.int .i64 0) := by rw [hb4.cell]; rfl
      have c1 : W.cell? ⟨ga, 1, none⟩ = some (.int .i64 0) := by rw [hb4.cell]; rfl
      have c2 : W.cell? ⟨ga, 2, none⟩ = some (.int .i64 0) := by rw [hb4.cell]; rfl
      have c3 : W.cell? ⟨ga, 3, none⟩ = some (.int .i64 0) := by rw [hb4.cell]; rfl
      have d0 : W.cell? ⟨gb, 0, none⟩ = some (.bool false) := by rw [hb5.cell]; rfl
      have d1 : W.cell? ⟨gb, 1, none⟩ = some (.bool false) := by rw [hb5.cell]; rfl
      have d2 : W.cell? ⟨gb, 2, none⟩ = some (.bool false) := by rw [hb5.cell]; rfl
      have d3 : W.cell? ⟨gb, 3, none⟩ = some (.bool false) := by rw [hb5.cell]; rfl
      have f0 := hb4.free 0
      have f1 := hb4.free 1
      have f2 := hb4.free 2
      have f3 := hb4.free 3
      have e0 := hb5.free 0
      have e1 := hb5.free 1
      have e2 := hb5.free 2
      have e3 := hb5.free 3
      go_region
      obtain ⟨w9, hw9, p9, q9, k9⟩ := put8 W ga gb 57 58 (.int .i64 0) (.int .i64 0) (.int .i64 0) (.int .i64 0) (.bool false) (.bool false) (.bool false) (.bool false) hb4 hb5 hne
      go_wp2_with fail
      rw [← hw9]
      have r0 : w9.cell? ⟨ga, 0, none⟩ = some (.int .i64 0) := by rw [p9.cell]; rfl
      have r1 : w9.cell? ⟨ga, 1, none⟩ = some (.int .i64 0) := by rw [p9.cell]; rfl
      have r2 : w9.cell? ⟨ga, 2, none⟩ = some (.int .i64 0) := by rw [p9.cell]; rfl
      have r3 : w9.cell? ⟨ga, 3, none⟩ = some (.int .i64 0) := by rw [p9.cell]; rfl
      have s0 : w9.cell? ⟨gb, 0, none⟩ = some (.bool false) := by rw [q9.cell]; rfl
      have s1 : w9.cell? ⟨gb, 1, none⟩ = some (.bool false) := by rw [q9.cell]; rfl
      have s2 : w9.cell? ⟨gb, 2, none⟩ = some (.bool false) := by rw [q9.cell]; rfl
      have s3 : w9.cell? ⟨gb, 3, none⟩ = some (.bool false) := by rw [q9.cell]; rfl
      refine bodyPost_ret (v := .tuple #[.agg #[.int .i64 0, .int .i64 0, .int .i64 0, .int .i64 0], .agg #[.bool false, .bool false, .bool false, .bool false]]) (by simp [results, Try.results33, go_sem, r0, r1, r2, r3, s0, s1, s2, s3]) rfl ⟨rfl, HKK.out.trans' k9 (fun x hx => .inr (by
        have := HGA.out
        have := HGB.out
        simp only [List.mem_cons, List.not_mem_nil, or_false] at hx
        rcases hx with rfl | rfl <;> omega))⟩
    · have hM1 : (M : Int) ≤ node := by omega
      go_wp2_with fail
      rw [← HWW.out, ← HGA.out, show ga + 1 = gb by rw [HGA.out, HGB.out]]
      refine (HND.out W HT1.out).mono ?_
      rintro e w1 ⟨rfl, rfl⟩
      go_wp2_with fail
      have c0 : W.cell? ⟨ga, 0, none⟩ = some (.int .i64 0) := by rw [hb4.cell]; rfl
      have c1 : W.cell? ⟨ga, 1, none⟩ = some (.int .i64 0) := by rw [hb4.cell]; rfl
      have c2 : W.cell? ⟨ga, 2, none⟩ = some (.int .i64 0) := by rw [hb4.cell]; rfl
      have c3 : W.cell? ⟨ga, 3, none⟩ = some (.int .i64 0) := by rw [hb4.cell]; rfl
      have d0 : W.cell? ⟨gb, 0, none⟩ = some (.bool false) := by rw [hb5.cell]; rfl
      have d1 : W.cell? ⟨gb, 1, none⟩ = some (.bool false) := by rw [hb5.cell]; rfl
      have d2 : W.cell? ⟨gb, 2, none⟩ = some (.bool false) := by rw [hb5.cell]; rfl
      have d3 : W.cell? ⟨gb, 3, none⟩ = some (.bool false) := by rw [hb5.cell]; rfl
      have f0 := hb4.free 0
      have f1 := hb4.free 1
      have f2 := hb4.free 2
      have f3 := hb4.free 3
      have e0 := hb5.free 0
      have e1 := hb5.free 1
      have e2 := hb5.free 2
      have e3 := hb5.free 3
      go_region
      obtain ⟨w9, hw9, p9, q9, k9⟩ := put8 W ga gb 57 58 (.int .i64 0) (.int .i64 0) (.int .i64 0) (.int .i64 0) (.bool false) (.bool false) (.bool false) (.bool false) hb4 hb5 hne
      go_wp2_with fail
      rw [← hw9]
      have r0 : w9.cell? ⟨ga, 0, none⟩ = some (.int .i64 0) := by rw [p9.cell]; rfl
      have r1 : w9.cell? ⟨ga, 1, none⟩ = some (.int .i64 0) := by rw [p9.cell]; rfl
      have r2 : w9.cell? ⟨ga, 2, none⟩ = some (.int .i64 0) := by rw [p9.cell]; rfl
      have r3 : w9.cell? ⟨ga, 3, none⟩ = some (.int .i64 0) := by rw [p9.cell]; rfl
      have s0 : w9.cell? ⟨gb, 0, none⟩ = some (.bool false) := by rw [q9.cell]; rfl
      have s1 : w9.cell? ⟨gb, 1, none⟩ = some (.bool false) := by rw [q9.cell]; rfl
      have s2 : w9.cell? ⟨gb, 2, none⟩ = some (.bool false) := by rw [q9.cell]; rfl
      have s3 : w9.cell? ⟨gb, 3, none⟩ = some (.bool false) := by rw [q9.cell]; rfl
      refine bodyPost_ret (v := .tuple #[.agg #[.int .i64 0, .int .i64 0, .int .i64 0, .int .i64 0], .agg #[.bool false, .bool false, .bool false, .bool false]]) (by simp [results, Try.results33, go_sem, r0, r1, r2, r3, s0, s1, s2, s3]) rfl ⟨rfl, HKK.out.trans' k9 (fun x hx => .inr (by
        have := HGA.out
        have := HGB.out
        simp only [List.mem_cons, List.not_mem_nil, or_false] at hx
        rcases hx with rfl | rfl <;> omega))⟩
  · obtain ⟨nd, rfl⟩ : ∃ nd : Nat, node = (nd : Int) := ⟨node.toNat, by omega⟩
    rw [show kidsA bs (nd : Int) = .agg #[.int .i64 (kidV bs (nd : Int) 0 : Int), .int .i64 (kidV bs (nd : Int) 1 : Int), .int .i64 (kidV bs (nd : Int) 2 : Int), .int .i64 (kidV bs (nd : Int) 3 : Int)] from rfl, show thereA bs (nd : Int) = .agg #[.bool (thereV bs (nd : Int) 0), .bool (thereV bs (nd : Int) 1), .bool (thereV bs (nd : Int) 2), .bool (thereV bs (nd : Int) 3)] from rfl]
    have hnd : nd < M := by omega
    have hnd' : (nd : Int) < (M : Int) := by omega
    have hdc1 : decide (M ≤ nd) = false := decide_eq_false (by omega)
    have hdc2 : decide ((nd : Int) < 0) = false := decide_eq_false (by omega)
    have HT1 := Lib.hid (HT.out.kp0 HKK.out)
    go_wp2_with fail
    rw [← HWW.out, ← HGA.out, show ga + 1 = gb by rw [HGA.out, HGB.out]]
    refine (HND.out W HT1.out).mono ?_
    rintro e w1 ⟨rfl, rfl⟩
    have HB4 := Lib.hid hb4
    have HB5 := Lib.hid hb5
    clear hb4 hb5 hout HWW
    go_wp2_with fail
    go_loopw [17] (fun x wr => ∃ j : Nat, x = .int .i64 (j : Int) ∧ j ≤ 4 ∧ Hid (Blk wr ga 57 (upTo (.int .i64 0) (fun i => .int .i64 (kidV bs (nd : Int) i : Int)) j)) ∧ Hid (Blk wr gb 58 (upTo (.bool false) (fun i => .bool (thereV bs (nd : Int) i)) j)) ∧ Hid (TreeM wr S p q h k bs true) ∧ Hid (Kp [] w wr)) (fun x _ => 4 - (intOf x).toNat)
    case atStart => exact ⟨0, rfl, by omega, HB4, HB5, HT1, HKK⟩
    case round =>
      clear HB4 HB5 HT1 HKK HT
      obtain ⟨j, rfl, hj, HB4, HB5, HT, HK⟩ := hrel
      by_cases hj4 : j < 4
      · obtain ⟨b, hb⟩ : ∃ b, b = thereV bs (nd : Int) j := ⟨_, rfl⟩
        have HBV := Lib.hid hb
        obtain ⟨i, hi⟩ : ∃ i, i = 4 * nd + j := ⟨_, rfl⟩
        have hgb' : getB bs (i : Int) = b := by
          rw [hb]
          unfold getB thereV
          rw [if_neg (by omega), if_pos ⟨Int.natCast_nonneg _, by rw [HN.out, ← HM.out]; exact hnd'⟩, Int.toNat_natCast, Int.toNat_natCast, hi]
        have HGV := Lib.hid hgb'
        have hq4 : 4 * (nd : Int) + (j : Int) = (i : Int) := by omega
        have hib : i ≤ 16777216 := by omega
        have hin : i ≤ n := by omega
        have HI := Lib.hid hi
        obtain ⟨c0, _, _⟩ := HT.out.cells
        have hj0 : (0 : Int) ≤ (j : Int) := by omega
        have hj1 : (j : Int) < 4 := by omega
        have hg5 : wr.cell? ⟨gb, j, none⟩ = some (.bool false) := by rw [HB5.out.cell, upTo_at _ _ hj4]
        have hg4 : wr.cell? ⟨ga, j, none⟩ = some (.int .i64 0) := by rw [HB4.out.cell, upTo_at _ _ hj4]
        have hf5 := HB5.out.free j
        have hf4 := HB4.out.free j
        clear hb hgb' hi
        go_wp2_with fail
        refine (vget_any S q (i : Int) bs true wr HT.out.2.1).mono ?_
        rw [HGV.out]
        rintro e w2 ⟨rfl, rfl⟩
        go_upto_region 7 with fail
        obtain ⟨w3, hw3⟩ : ∃ w3, w3 = wr.setCell ⟨gb, j, none⟩ (.bool b) := ⟨_, rfl⟩
        rw [← hw3]
        have hk3 : Kp [gb] wr w3 := by rw [hw3]; exact (Kp.refl [gb] wr).setCell (.inl (by simp)) _
        have hb3 : Blk w3 gb 58 (upTo (.bool false) (fun i => .bool (thereV bs (nd : Int) i)) (j + 1)) := by
          have := HB5.out.set_ j (.bool b)
          rw [hw3]
          rw [HBV.out] at this ⊢
          rw [← upTo_set (.bool false) (fun i => .bool (thereV bs (nd : Int) i)) hj4]
          exact this
        have hb3' := HB4.out.kp hk3 (by simpa using hne)
        have ht3 := HT.out.kp hk3 (fun x hx hm => (HSG.out.1 x hx).2 (by simpa using hm)) (by simpa using HSG.out.2.2)
        have c0' := ht3.cells.1
        have hg5' : w3.cell? ⟨gb, j, none⟩ = some (.bool b) := by
          rw [hb3.cell, ← upTo_set (.bool false) (fun i => .bool (thereV bs (nd : Int) i)) hj4, List.getElem?_set_self (by unfold upTo; exact hj4), HBV.out]
        have hg4' : w3.cell? ⟨ga, j, none⟩ = some (.int .i64 0) := hk3.cell hg4 (by simpa using hne)
        have hf4' := hb3'.free j
        have HT3 := Lib.hid ht3
        have HA3 := Lib.hid hb3'
        have HB3 := Lib.hid hb3
        have HK3 := Lib.hid (HK.out.trans' hk3 (fun x hx => .inr (by simp only [List.mem_singleton] at hx; subst hx; have := HGB.out; omega)))
        clear hw3 hk3 hb3 hb3' ht3 HB4 HB5 HT HK c0 hg5 hg4 hf5 hf4
        cases b with
        | false =>
          have HKV := Lib.hid (show kidV bs (nd : Int) j = 0 by unfold kidV; rw [← HBV.out]; rfl)
          have HA4 := Lib.hid (show Blk w3 ga 57 (upTo (.int .i64 0) (fun i => .int .i64 (kidV bs (nd : Int) i : Int)) (j + 1)) by
            rw [← upTo_set (.int .i64 0) (fun i => .int .i64 (kidV bs (nd : Int) i : Int)) hj4, HKV.out]
            rw [show (Value.int .i64 ((0 : Nat) : Int)) = .int .i64 0 from rfl, upTo_set_z _ _ hj4]
            exact HA3.out)
          have hM0 : ¬ ((M : Int) ≤ 0) := by omega
          go_wp2_with fail
          go_quiet ((go_at_call 20; exact quiet_eq (HND.out _ (HT3.out.kp0 ((Kp.refl [] w3).drewN _)))))
          go_wp2_with fail
          go_roundw
          case rel => exact ⟨j + 1, by go_num, by omega, Lib.hid (HA4.out.drewN _), Lib.hid (HB3.out.drewN _), Lib.hid (HT3.out.kp0 ((Kp.refl [] w3).drewN _)), Lib.hid (HK3.out.drewN _)⟩
          case measure => simp [intOf]; omega
        | true =>
          obtain ⟨R, hR⟩ : ∃ R, R = cntI bs i := ⟨_, rfl⟩
          have HRI := Lib.hid (show rankI bs (i : Int) = R by unfold rankI; rw [hR, show (min (max (i : Int) 0) (bs.length : Int)).toNat = i by rw [HN.out]; omega])
          have hRb : R ≤ i := by rw [hR]; unfold cntI; exact Nat.le_trans List.count_le_length (List.length_take_le _ _)
          have HKV := Lib.hid (show kidV bs (nd : Int) j = if M ≤ R + 1 then 0 else R + 1 by unfold kidV; rw [← HBV.out, if_pos rfl, HN.out, ← HM.out, Int.toNat_natCast, ← HI.out, ← hR])
          clear hR
          go_wp2_with fail
          refine (vrank_any S q (i : Int) bs true w3 HT3.out.2.1).mono ?_
          rw [HRI.out]
          rintro e w4 ⟨rfl, S4, hv4, hk4, hg4x, hS4⟩
          obtain ⟨rfl, hk4'⟩ := hS4 rfl
          have ht4 := HT3.out.kp0 hk4'
          have hb4 := HB3.out.kp0 hk4'
          have ha4 := HA3.out.kp0 hk4'
          have hg4' : w4.cell? ⟨ga, j, none⟩ = some (.int .i64 0) := by rw [ha4.cell, upTo_at _ _ hj4]
          have hf4' := ha4.free j
          have HK4 := Lib.hid (HK3.out.trans hk4')
          have HT4 := Lib.hid ht4
          have HA4 := Lib.hid ha4
          have HB4 := Lib.hid hb4
          clear hv4 hk4 hg4x hS4 hk4' ht4 hb4 ha4 HT3 HA3 HB3 HK3
          go_upto_region 9 with fail
          obtain ⟨w5, hw5⟩ : ∃ w5, w5 = w4.setCell ⟨ga, j, none⟩ (.int .i64 ((R : Int) + 1)) := ⟨_, rfl⟩
          rw [← hw5]
          have hk5 : Kp [ga] w4 w5 := by rw [hw5]; exact (Kp.refl [ga] w4).setCell (.inl (by simp)) _
          have ha5 : Blk w5 ga 57 ((upTo (.int .i64 0) (fun i => .int .i64 (kidV bs (nd : Int) i : Int)) j).set j (.int .i64 ((R : Int) + 1))) := by rw [hw5]; exact HA4.out.set_ j _
          have hb5 := HB4.out.kp hk5 (by simpa using hne')
          have ht5 := HT4.out.kp hk5 (fun x hx hm => (HSG.out.1 x hx).1 (by simpa using hm)) (by simpa using HSG.out.2.1)
          have hg5 : w5.cell? ⟨ga, j, none⟩ = some (.int .i64 ((R : Int) + 1)) := by rw [ha5.cell, List.getElem?_set_self (by unfold upTo; exact hj4)]
          have hf5 := ha5.free j
          have HT5 := Lib.hid ht5
          have HB5 := Lib.hid hb5
          have HA5 := Lib.hid ha5
          have HK5 := Lib.hid (HK4.out.trans' hk5 (fun x hx => .inr (by simp only [List.mem_singleton] at hx; subst hx; have := HGA.out; omega)))
          clear hw5 hk5 ha5 hb5 ht5 HT4 HB4 HA4 HK4
          by_cases hMR : M ≤ R + 1
          · have hMR' : (M : Int) ≤ (R : Int) + 1 := by omega
            have HKW := Lib.hid (show kidV bs (nd : Int) j = 0 by rw [HKV.out, if_pos hMR])
            go_wp2_with fail
            go_quiet ((go_at_call 20; exact quiet_eq (HND.out _ (HT5.out.kp0 ((Kp.refl [] w5).drewN _)))))
            go_wp2_with fail
            go_roundw
            case measure => simp [intOf]; omega
            refine ⟨j + 1, by go_num, by omega, Lib.hid ?_, Lib.hid ?_, Lib.hid ?_, Lib.hid ((HK5.out.drewN _).setCell (.inr (by rw [HGA.out]; exact Nat.le_refl _)) _)⟩
            · have h1 := (HA5.out.drewN nq).set_ j (.int .i64 0)
              rw [List.set_set, upTo_set_z _ _ hj4] at h1
              rw [← upTo_set (.int .i64 0) (fun i => .int .i64 (kidV bs (nd : Int) i : Int)) hj4, HKW.out, show (Value.int .i64 ((0 : Nat) : Int)) = .int .i64 0 from rfl, upTo_set_z _ _ hj4]
              exact h1
            · exact (HB5.out.drewN nq).kp ((Kp.refl [ga] _).setCell (.inl (by simp)) _) (by simpa using hne')
            · exact HT5.out.kp (((Kp.refl [ga] w5).drewN nq).setCell (.inl (by simp)) _) (fun x hx hm => (HSG.out.1 x hx).1 (by simpa using hm)) (by simpa using HSG.out.2.1)
          · have hMR' : ¬ (M : Int) ≤ (R : Int) + 1 := by omega
            have HKW := Lib.hid (show kidV bs (nd : Int) j = R + 1 by rw [HKV.out, if_neg hMR])
            go_wp2_with fail
            go_quiet ((go_at_call 20; exact quiet_eq (HND.out _ (HT5.out.kp0 ((Kp.refl [] w5).drewN _)))))
            go_wp2_with fail
            go_roundw
            case measure => simp [intOf]; omega
            refine ⟨j + 1, by go_num, by omega, Lib.hid ?_, Lib.hid (HB5.out.drewN _), Lib.hid (HT5.out.kp0 ((Kp.refl [] w5).drewN _)), Lib.hid (HK5.out.drewN _)⟩
            rw [← upTo_set (.int .i64 0) (fun i => .int .i64 (kidV bs (nd : Int) i : Int)) hj4, HKW.out]
            exact HA5.out.drewN _
      · obtain rfl : j = 4 := by omega
        have hB4 : Blk wr ga 57 [.int .i64 (kidV bs (nd : Int) 0 : Int), .int .i64 (kidV bs (nd : Int) 1 : Int), .int .i64 (kidV bs (nd : Int) 2 : Int), .int .i64 (kidV bs (nd : Int) 3 : Int)] := HB4.out
        have hB5 : Blk wr gb 58 [.bool (thereV bs (nd : Int) 0), .bool (thereV bs (nd : Int) 1), .bool (thereV bs (nd : Int) 2), .bool (thereV bs (nd : Int) 3)] := HB5.out
        go_wp2_with fail
        have c0 : wr.cell? ⟨ga, 0, none⟩ = some (.int .i64 (kidV bs (nd : Int) 0 : Int)) := by rw [hB4.cell]; rfl
        have c1 : wr.cell? ⟨ga, 1, none⟩ = some (.int .i64 (kidV bs (nd : Int) 1 : Int)) := by rw [hB4.cell]; rfl
        have c2 : wr.cell? ⟨ga, 2, none⟩ = some (.int .i64 (kidV bs (nd : Int) 2 : Int)) := by rw [hB4.cell]; rfl
        have c3 : wr.cell? ⟨ga, 3, none⟩ = some (.int .i64 (kidV bs (nd : Int) 3 : Int)) := by rw [hB4.cell]; rfl
        have d0 : wr.cell? ⟨gb, 0, none⟩ = some (.bool (thereV bs (nd : Int) 0)) := by rw [hB5.cell]; rfl
        have d1 : wr.cell? ⟨gb, 1, none⟩ = some (.bool (thereV bs (nd : Int) 1)) := by rw [hB5.cell]; rfl
        have d2 : wr.cell? ⟨gb, 2, none⟩ = some (.bool (thereV bs (nd : Int) 2)) := by rw [hB5.cell]; rfl
        have d3 : wr.cell? ⟨gb, 3, none⟩ = some (.bool (thereV bs (nd : Int) 3)) := by rw [hB5.cell]; rfl
        have f0 := hB4.free 0
        have f1 := hB4.free 1
        have f2 := hB4.free 2
        have f3 := hB4.free 3
        have e0 := hB5.free 0
        have e1 := hB5.free 1
        have e2 := hB5.free 2
        have e3 := hB5.free 3
        go_region
        obtain ⟨w9, hw9, p9, q9, k9⟩ := put8 wr ga gb 57 58 (.int .i64 (kidV bs (nd : Int) 0 : Int)) (.int .i64 (kidV bs (nd : Int) 1 : Int)) (.int .i64 (kidV bs (nd : Int) 2 : Int)) (.int .i64 (kidV bs (nd : Int) 3 : Int)) (.bool (thereV bs (nd : Int) 0)) (.bool (thereV bs (nd : Int) 1)) (.bool (thereV bs (nd : Int) 2)) (.bool (thereV bs (nd : Int) 3)) hB4 hB5 hne
        go_wp2_with fail
        rw [← hw9]
        have r0 : w9.cell? ⟨ga, 0, none⟩ = some (.int .i64 (kidV bs (nd : Int) 0 : Int)) := by rw [p9.cell]; rfl
        have r1 : w9.cell? ⟨ga, 1, none⟩ = some (.int .i64 (kidV bs (nd : Int) 1 : Int)) := by rw [p9.cell]; rfl
        have r2 : w9.cell? ⟨ga, 2, none⟩ = some (.int .i64 (kidV bs (nd : Int) 2 : Int)) := by rw [p9.cell]; rfl
        have r3 : w9.cell? ⟨ga, 3, none⟩ = some (.int .i64 (kidV bs (nd : Int) 3 : Int)) := by rw [p9.cell]; rfl
        have s0 : w9.cell? ⟨gb, 0, none⟩ = some (.bool (thereV bs (nd : Int) 0)) := by rw [q9.cell]; rfl
        have s1 : w9.cell? ⟨gb, 1, none⟩ = some (.bool (thereV bs (nd : Int) 1)) := by rw [q9.cell]; rfl
        have s2 : w9.cell? ⟨gb, 2, none⟩ = some (.bool (thereV bs (nd : Int) 2)) := by rw [q9.cell]; rfl
        have s3 : w9.cell? ⟨gb, 3, none⟩ = some (.bool (thereV bs (nd : Int) 3)) := by rw [q9.cell]; rfl
        refine bodyPost_ret (v := .tuple #[.agg #[.int .i64 (kidV bs (nd : Int) 0 : Int), .int .i64 (kidV bs (nd : Int) 1 : Int), .int .i64 (kidV bs (nd : Int) 2 : Int), .int .i64 (kidV bs (nd : Int) 3 : Int)], .agg #[.bool (thereV bs (nd : Int) 0), .bool (thereV bs (nd : Int) 1), .bool (thereV bs (nd : Int) 2), .bool (thereV bs (nd : Int) 3)]]) (by simp [results, Try.results33, go_sem, r0, r1, r2, r3, s0, s1, s2, s3]) rfl ⟨rfl, HK.out.trans' k9 (fun x hx => .inr (by
          have := HGA.out
          have := HGB.out
          simp only [List.mem_cons, List.not_mem_nil, or_false] at hx
          rcases hx with rfl | rfl <;> omega))⟩
end Go.Proofs.Ytldmabkilgpgcaa
namespace Go.Proofs.Ytldmabkilgpgcaa
open Go.RowKit

/-- Is a pair there, from a node on. -/
def hasW (bs : List Bool) : Nat → Nat → Nat × Nat → Bool
  | 0, _, _ => true
  | a + 1, node, p => if thereV bs (node : Int) (qN a p) = true then hasW bs a (kidV bs (node : Int) (qN a p)) p else false
set_option maxRecDepth 100000 in
set_option maxHeartbeats 4000000 in
theorem thas_in (S : List Nat) (p q h k r c : Nat) (bs : List Bool) (w : World) (ht : TreeM w S p q h k bs true) (hh : h ≤ 17) (hr : r < 2 ^ h) (hc : c < 2 ^ h) :
    Calls Try.prog 32 #[.pointer (some ⟨p, 0, none⟩), .agg #[.int .i64 (r : Int), .int .i64 (c : Int)]] w fun e w' => e = .returned (.bool (hasW bs h 0 (r, c))) ∧ Kp [] w w' := by
  have hp17 : 2 ^ h ≤ 2 ^ 17 := Nat.pow_le_pow_right (by omega) hh
  have hr17 : r < 131072 := Nat.lt_of_lt_of_le hr hp17
  have hc17 : c < 131072 := Nat.lt_of_lt_of_le hc hp17
  have HOI := Lib.hid (show outI ((2 ^ h : Nat) : Int) (r : Int) (c : Int) = false by
    unfold outI
    rw [decide_eq_true ⟨Int.natCast_nonneg _, Int.ofNat_lt.2 hr, Int.natCast_nonneg _, Int.ofNat_lt.2 hc⟩]
    rfl)
  obtain ⟨s, hs⟩ : ∃ s : Int, s = ((2 ^ h : Nat) : Int) := ⟨_, rfl⟩
  have hs0 : 0 ≤ s := by rw [hs]; exact Int.natCast_nonneg _
  have hs1 : s ≤ 131072 := by rw [hs]; exact Int.ofNat_le.2 hp17
  have HSD := Lib.hid (show ∀ w', TreeM w' S p q h k bs true → Calls Try.prog 18 #[.pointer (some ⟨p, 0, none⟩)] w' fun e w'' => e = .returned (.int .i64 s) ∧ w' = w'' from fun w' ht => by rw [hs]; exact tside2_any S p q h k bs true w' ht hh)
  rw [← hs] at HOI
  obtain ⟨R, hR⟩ : ∃ R, R = hasW bs h 0 (r, c) := ⟨_, rfl⟩
  rw [← hR]
  obtain ⟨w1, hw1⟩ : ∃ w1, w1 = w.alloc (.cells #[.int .i64 (r : Int), .int .i64 (c : Int)] 24) := ⟨_, rfl⟩
  obtain ⟨g, hg⟩ : ∃ g, g = w.heap.size := ⟨_, rfl⟩
  have hk1 : Kp [] w w1 := by rw [hw1]; exact (Kp.refl [] w).alloc _
  have hb1 : Blk w1 g 24 [.int .i64 (r : Int), .int .i64 (c : Int)] := by rw [hw1, hg]; exact Blk.new w _ _
  have HT := Lib.hid (ht.kp0 hk1)
  have HK := Lib.hid hk1
  have HB := Lib.hid hb1
  have hq0 : w1.cell? ⟨g, 0, none⟩ = some (.int .i64 (r : Int)) := by rw [hb1.cell]; rfl
  have hq1 : w1.cell? ⟨g, 1, none⟩ = some (.int .i64 (c : Int)) := by rw [hb1.cell]; rfl
  have HR := Lib.hid hR; clear hR
  have HW1 := Lib.hid hw1; clear hw1
  have HG := Lib.hid hg; clear hg
  clear ht hk1 hb1 hs hp17
  go_enter Try.func32, Try.ntmps32
  go_wp2_with fail
  rw [← HW1.out, ← HG.out]
  go_region_held3 (fun w' => w'.cell? ⟨g, 0, none⟩ = some (.int .i64 (r : Int)) ∧ w'.cell? ⟨g, 1, none⟩ = some (.int .i64 (c : Int))) (go_keep)
    (first
     | (go_at_call 44
        refine (tthere_any S p q h k bs true _ (HT.out.kp0 ((Kp.refl [] w1).drew))).mono ?_
        rintro e w7 ⟨rfl, rfl⟩)
     | (go_at_call 18
        refine (HSD.out _ (HT.out.kp0 ((Kp.refl [] w1).drew))).mono ?_
        rintro e w7 ⟨rfl, rfl⟩)
     | (go_at_call 37
        refine (outside_any s (r : Int) (c : Int) _ hs0 hs1 (by omega) (by omega) (by omega) (by omega)).mono ?_
        rw [HOI.out]
        rintro e w7 ⟨rfl, hk7'⟩
        have hk7 : Kp [] w1 w7 := ((Kp.refl [] w1).drew).trans hk7'
        have hq07 := hk7.cell hq0 (by simp)
        have hq17 := hk7.cell hq1 (by simp)))
  have HT7 := Lib.hid (HT.out.kp0 hk7)
  have HB7 := Lib.hid (HB.out.kp0 hk7)
  have HK7 := Lib.hid (HK.out.trans hk7)
  obtain ⟨_, c1, _⟩ := HT7.out.cells
  clear hk7 hk7' hq07 hq17 hq0 hq1 HB HK HT HW1
  go_wp2_with fail
  go_loopw [5, 6] (fun nv x wr => ∃ (a nd : Nat) (y : Int), x = .int .i64 y ∧ nv = .int .i64 (nd : Int) ∧ y = (a : Int) - 1 ∧ a ≤ h ∧ Hid (R = hasW bs a nd (r, c)) ∧ Hid (TreeM wr S p q h k bs true) ∧ Hid (Blk wr g 24 [.int .i64 (r : Int), .int .i64 (c : Int)]) ∧ Hid (Kp [] w wr)) (fun _ x _ => (intOf x + 1).toNat)
  case atStart => exact ⟨h, 0, (h : Int) - 1, rfl, rfl, rfl, Nat.le_refl _, HR, HT7, HB7, HK7⟩
  case round =>
    clear HR HT7 HB7 HK7
    obtain ⟨a, nd, y, rfl, rfl, hya, ha, HR, HT, HB, HK⟩ := hrel
    rcases Nat.eq_zero_or_pos a with rfl | ha0
    · have hyn : y < 0 := by omega
      have HR2 := Lib.hid (show R = true from HR.out)
      clear hya
      go_wp2_with fail
      go_ret
      exact ⟨by rw [HR2.out]; rfl, HK.out⟩
    obtain ⟨i, rfl⟩ : ∃ i, a = i + 1 := ⟨a - 1, by omega⟩
    obtain rfl : y = (i : Int) := by omega
    obtain ⟨x, hx⟩ : ∃ x, x = qN i (r, c) := ⟨_, rfl⟩
    have HQX := Lib.hid hx
    have hx4 : x < 4 := by rw [hx]; exact qN_lt _ _
    have HR2 := Lib.hid (show R = if thereV bs (nd : Int) x = true then hasW bs i (kidV bs (nd : Int) x) (r, c) else false by rw [hx]; exact HR.out)
    have hq0 : wr.cell? ⟨g, 0, none⟩ = some (.int .i64 (r : Int)) := by rw [HB.out.cell]; rfl
    have hq1 : wr.cell? ⟨g, 1, none⟩ = some (.int .i64 (c : Int)) := by rw [HB.out.cell]; rfl
    clear hya ha0 HR hx
    go_wp2_with fail
    refine (quarter_any i r c wr (by omega) hr17 hc17).mono ?_
    rw [← HQX.out]
    rintro e w2 ⟨rfl, hk2⟩
    have HT2 := Lib.hid (HT.out.kp0 hk2)
    have HB2 := Lib.hid (HB.out.kp0 hk2)
    have HK2 := Lib.hid (HK.out.trans hk2)
    clear hk2 hq0 hq1 HT HB HK
    go_wp2_with fail
    refine (tkids_any S p q h k (nd : Int) bs w2 HT2.out).mono ?_
    rintro e w3 ⟨rfl, hk3⟩
    have HT3 := Lib.hid (HT2.out.kp0 hk3)
    have HB3 := Lib.hid (HB2.out.kp0 hk3)
    have HK3 := Lib.hid (HK2.out.trans hk3)
    clear hk3 HT2 HB2 HK2
    have hxi0 : (0 : Int) ≤ (x : Int) := by omega
    have hxi1 : (x : Int) < 4 := by omega
    rw [show kidsA bs (nd : Int) = .agg #[.int .i64 (kidV bs (nd : Int) 0 : Int), .int .i64 (kidV bs (nd : Int) 1 : Int), .int .i64 (kidV bs (nd : Int) 2 : Int), .int .i64 (kidV bs (nd : Int) 3 : Int)] from rfl, show thereA bs (nd : Int) = .agg #[.bool (thereV bs (nd : Int) 0), .bool (thereV bs (nd : Int) 1), .bool (thereV bs (nd : Int) 2), .bool (thereV bs (nd : Int) 3)] from rfl]
    go_upto_region 9 with fail
    have p9 := (Blk.new w3 57 [.int .i64 (kidV bs (nd : Int) 0 : Int), .int .i64 (kidV bs (nd : Int) 1 : Int), .int .i64 (kidV bs (nd : Int) 2 : Int), .int .i64 (kidV bs (nd : Int) 3 : Int)]).alloc (.cells #[.bool (thereV bs (nd : Int) 0), .bool (thereV bs (nd : Int) 1), .bool (thereV bs (nd : Int) 2), .bool (thereV bs (nd : Int) 3)] 58)
    have q9 := Blk.new (w3.alloc (.cells #[.int .i64 (kidV bs (nd : Int) 0 : Int), .int .i64 (kidV bs (nd : Int) 1 : Int), .int .i64 (kidV bs (nd : Int) 2 : Int), .int .i64 (kidV bs (nd : Int) 3 : Int)] 57)) 58 [.bool (thereV bs (nd : Int) 0), .bool (thereV bs (nd : Int) 1), .bool (thereV bs (nd : Int) 2), .bool (thereV bs (nd : Int) 3)]
    rw [show (w3.alloc (.cells #[.int .i64 (kidV bs (nd : Int) 0 : Int), .int .i64 (kidV bs (nd : Int) 1 : Int), .int .i64 (kidV bs (nd : Int) 2 : Int), .int .i64 (kidV bs (nd : Int) 3 : Int)] 57)).heap.size = w3.heap.size + 1 by simp] at q9
    have hk39 : Kp [] w3 ((w3.alloc (.cells #[.int .i64 (kidV bs (nd : Int) 0 : Int), .int .i64 (kidV bs (nd : Int) 1 : Int), .int .i64 (kidV bs (nd : Int) 2 : Int), .int .i64 (kidV bs (nd : Int) 3 : Int)] 57)).alloc (.cells #[.bool (thereV bs (nd : Int) 0), .bool (thereV bs (nd : Int) 1), .bool (thereV bs (nd : Int) 2), .bool (thereV bs (nd : Int) 3)] 58)) := ((Kp.refl [] w3).alloc _).alloc _
    obtain ⟨w9, hw9⟩ : ∃ w9, w9 = (w3.alloc (.cells #[.int .i64 (kidV bs (nd : Int) 0 : Int), .int .i64 (kidV bs (nd : Int) 1 : Int), .int .i64 (kidV bs (nd : Int) 2 : Int), .int .i64 (kidV bs (nd : Int) 3 : Int)] 57)).alloc (.cells #[.bool (thereV bs (nd : Int) 0), .bool (thereV bs (nd : Int) 1), .bool (thereV bs (nd : Int) 2), .bool (thereV bs (nd : Int) 3)] 58) := ⟨_, rfl⟩
    replace p9 : Blk w9 w3.heap.size 57 [.int .i64 (kidV bs (nd : Int) 0 : Int), .int .i64 (kidV bs (nd : Int) 1 : Int), .int .i64 (kidV bs (nd : Int) 2 : Int), .int .i64 (kidV bs (nd : Int) 3 : Int)] := by rw [hw9]; exact p9
    replace q9 : Blk w9 (w3.heap.size + 1) 58 [.bool (thereV bs (nd : Int) 0), .bool (thereV bs (nd : Int) 1), .bool (thereV bs (nd : Int) 2), .bool (thereV bs (nd : Int) 3)] := by rw [hw9]; exact q9
    replace hk39 : Kp [] w3 w9 := by rw [hw9]; exact hk39
    rw [← hw9]
    have HT9 := Lib.hid (HT3.out.kp0 hk39)
    have HB9 := Lib.hid (HB3.out.kp0 hk39)
    have HK9 := Lib.hid (HK3.out.trans hk39)
    have hcx : w9.cell? ⟨w3.heap.size, x, none⟩ = some (.int .i64 (kidV bs (nd : Int) x : Int)) := by
      rw [p9.cell]
      rcases (show x = 0 ∨ x = 1 ∨ x = 2 ∨ x = 3 by omega) with rfl | rfl | rfl | rfl <;> rfl
    have hcy : w9.cell? ⟨w3.heap.size + 1, x, none⟩ = some (.bool (thereV bs (nd : Int) x)) := by
      rw [q9.cell]
      rcases (show x = 0 ∨ x = 1 ∨ x = 2 ∨ x = 3 by omega) with rfl | rfl | rfl | rfl <;> rfl
    clear hw9 p9 q9 hk39 HT3 HB3 HK3
    obtain ⟨gk, hgk⟩ : ∃ gk, gk = w3.heap.size := ⟨_, rfl⟩
    rw [← hgk] at hcx hcy ⊢
    clear hgk
    obtain ⟨K1, hK1⟩ : ∃ K1, K1 = kidV bs (nd : Int) x := ⟨_, rfl⟩
    rw [← hK1] at hcx HR2
    clear hK1
    cases hT1 : thereV bs (nd : Int) x with
    | false =>
      rw [hT1] at hcy HR2
      have HR3 := Lib.hid (show R = false from HR2.out)
      clear hT1
      go_wp2_with fail
      go_ret
      exact ⟨by rw [HR3.out]; rfl, HK9.out⟩
    | true =>
      rw [hT1] at hcy HR2
      have HR3 := Lib.hid (show R = hasW bs i K1 (r, c) from HR2.out)
      clear hT1
      go_wp2_with fail
      exact ⟨⟨i, K1, (i : Int) - 1, by go_num, rfl, rfl, by omega, HR3, HT9, HB9, HK9⟩, by simp [intOf]⟩
set_option maxRecDepth 100000 in
set_option maxHeartbeats 4000000 in
theorem thas_out (S : List Nat) (p q h k : Nat) (r c : Int) (bs : List Bool) (w : World) (ht : TreeM w S p q h k bs true) (hh : h ≤ 17) (ho : outI ((2 ^ h : Nat) : Int) r c = true) (hr0 : -9223372036854775808 ≤ r) (hr1 : r ≤ 9223372036854775807) (hc0 : -9223372036854775808 ≤ c) (hc1 : c ≤ 9223372036854775807) :
    Calls Try.prog 32 #[.pointer (some ⟨p, 0, none⟩), .agg #[.int .i64 r, .int .i64 c]] w fun e w' => e = .returned (.bool false) ∧ Kp [] w w' := by
  have hp17 : 2 ^ h ≤ 2 ^ 17 := Nat.pow_le_pow_right (by omega) hh
  obtain ⟨s, hs⟩ : ∃ s : Int, s = ((2 ^ h : Nat) : Int) := ⟨_, rfl⟩
  have hs0 : 0 ≤ s := by rw [hs]; exact Int.natCast_nonneg _
  have hs1 : s ≤ 131072 := by rw [hs]; exact Int.ofNat_le.2 hp17
  have HSD := Lib.hid (show ∀ w', TreeM w' S p q h k bs true → Calls Try.prog 18 #[.pointer (some ⟨p, 0, none⟩)] w' fun e w'' => e = .returned (.int .i64 s) ∧ w' = w'' from fun w' ht => by rw [hs]; exact tside2_any S p q h k bs true w' ht hh)
  rw [← hs] at ho
  have HOI := Lib.hid ho
  obtain ⟨w1, hw1⟩ : ∃ w1, w1 = w.alloc (.cells #[.int .i64 r, .int .i64 c] 24) := ⟨_, rfl⟩
  obtain ⟨g, hg⟩ : ∃ g, g = w.heap.size := ⟨_, rfl⟩
  have hk1 : Kp [] w w1 := by rw [hw1]; exact (Kp.refl [] w).alloc _
  have hb1 : Blk w1 g 24 [.int .i64 r, .int .i64 c] := by rw [hw1, hg]; exact Blk.new w _ _
  have HT := Lib.hid (ht.kp0 hk1)
  have HK := Lib.hid hk1
  have hq0 : w1.cell? ⟨g, 0, none⟩ = some (.int .i64 r) := by rw [hb1.cell]; rfl
  have hq1 : w1.cell? ⟨g, 1, none⟩ = some (.int .i64 c) := by rw [hb1.cell]; rfl
  have HW1 := Lib.hid hw1; clear hw1
  have HG := Lib.hid hg; clear hg
  clear ht hk1 hb1 hs hp17 ho
  go_enter Try.func32, Try.ntmps32
  go_wp2_with fail
  rw [← HW1.out, ← HG.out]
  go_region_held3 (fun w' => w'.cell? ⟨g, 0, none⟩ = some (.int .i64 r) ∧ w'.cell? ⟨g, 1, none⟩ = some (.int .i64 c)) (go_keep)
    (first
     | (go_at_call 44
        refine (tthere_any S p q h k bs true _ (HT.out.kp0 ((Kp.refl [] w1).drew))).mono ?_
        rintro e w7 ⟨rfl, rfl⟩)
     | (go_at_call 18
        refine (HSD.out _ (HT.out.kp0 ((Kp.refl [] w1).drew))).mono ?_
        rintro e w7 ⟨rfl, rfl⟩)
     | (go_at_call 37
        refine (outside_any s r c _ hs0 hs1 hr0 hr1 hc0 hc1).mono ?_
        rw [HOI.out]
        rintro e w7 ⟨rfl, hk7'⟩
        have hk7 : Kp [] w1 w7 := ((Kp.refl [] w1).drew).trans hk7'
        have hq07 := hk7.cell hq0 (by simp)
        have hq17 := hk7.cell hq1 (by simp)))
  go_wp2_with fail
  go_ret
  exact ⟨rfl, HK.out.trans hk7⟩
end Go.Proofs.Ytldmabkilgpgcaa
namespace Go.Proofs.Ytldmabkilgpgcaa
open Go.RowKit

/-- A tree's first five bytes. -/
def headB (h n : Nat) : List Int := [(h : Int), (n : Int) / 16777216 % 256, (n : Int) / 65536 % 256, (n : Int) / 256 % 256, (n : Int) % 256]
/-- The bytes of a tree. -/
def treeB (h : Nat) (bs : List Bool) : List Int := headB h bs.length ++ bytesN (bitN bs) ((bs.length + 7) / 8)
theorem Try.info_gu8 : (Try.prog.info? 5).map (fun i => (i.zero, i.size, i.bytes)) = some (some (.int .u8 0), 1, 1) := by kernel_rfl
/-- A new row that is full. -/
theorem own_ful5 (w : World) (base : Nat) (e : TypeId) (l : List Value) (hb : base ≤ w.heap.size) (hm : l.length ≤ maxLen) : (w.alloc (.cells l.toArray e)).ownsRow base e 1 (.slice (some ⟨w.heap.size, 0, none⟩) l.length l.length) l.length l :=
  ⟨by simp, .inr ⟨_, _, l.toArray, rfl, hb, Blk.new w e l, Nat.le_refl _, hm, by simp, by simp⟩⟩
theorem grown1 {w w' : World} {g n c : Nat} (hg : w.grownBy w' (Value.slice (some ⟨g, 0, none⟩) n c).ownBlock) : Kp [g] w w' :=
  (Kp.refl _ w).grown hg (fun x hx => .inl (by simp [Value.ownBlock] at hx; simp [hx]))
set_option maxRecDepth 100000 in
set_option maxHeartbeats 4000000 in
theorem tbytes_any (S : List Nat) (p q h k : Nat) (bs : List Bool) (w : World) (ht : TreeM w S p q h k bs true) (hh : h ≤ 17) :
    Calls Try.prog 16 #[.pointer (some ⟨p, 0, none⟩)] w fun e w' => ∃ A m c, m = 5 + (bs.length + 7) / 8 ∧ e = .returned (.slice A m c) ∧ w'.ownsRow w.heap.size 5 1 (.slice A m c) m ((treeB h bs).map (.int .u8)) ∧ Kp [] w w' := by
  obtain ⟨i0, hi, hz0, hz1, hz2⟩ := info_parts Try.info_gu8
  obtain ⟨n, hn⟩ : ∃ n, bs.length = n := ⟨_, rfl⟩
  have hn16 : n ≤ 16777216 := by rw [← hn]; exact ht.2.1.tail.2.2.2
  obtain ⟨c0, c1, _⟩ := ht.cells
  obtain ⟨x1, hx1⟩ : ∃ x1, x1 = (n : Int) / 16777216 % 256 := ⟨_, rfl⟩
  obtain ⟨x2, hx2⟩ : ∃ x2, x2 = (n : Int) / 65536 % 256 := ⟨_, rfl⟩
  obtain ⟨x3, hx3⟩ : ∃ x3, x3 = (n : Int) / 256 % 256 := ⟨_, rfl⟩
  obtain ⟨x4, hx4⟩ : ∃ x4, x4 = (n : Int) % 256 := ⟨_, rfl⟩
  have HTB := Lib.hid (show treeB h bs = [(h : Int), x1, x2, x3, x4] ++ bytesN (bitN bs) ((n + 7) / 8) by unfold treeB headB; rw [hn, hx1, hx2, hx3, hx4])
  have hw0 : IntKind.wrap .u8 (h : Int) = (h : Int) := by rw [IntKind.wrap_u8]; omega
  have hw1 : IntKind.wrap .u8 ((n : Int) / 16777216) = x1 := by rw [IntKind.wrap_u8, hx1]
  have hw2 : IntKind.wrap .u8 ((n : Int) / 65536) = x2 := by rw [IntKind.wrap_u8, hx2]
  have hw3 : IntKind.wrap .u8 ((n : Int) / 256) = x3 := by rw [IntKind.wrap_u8, hx3]
  have hw4 : IntKind.wrap .u8 (n : Int) = x4 := by rw [IntKind.wrap_u8, hx4]
  have HN := Lib.hid hn
  have HT := Lib.hid ht
  have HPL := Lib.hid (show p < w.heap.size from ht.1.lt)
  have HPW := Lib.hid (show p ∉ [w.heap.size] from fun hm => by simp only [List.mem_singleton] at hm; have := ht.1.lt; omega)
  clear hn ht hx1 hx2 hx3 hx4
  rw [HTB.out, HN.out]
  go_enter Try.func16, Try.ntmps16
  go_wp2_with fail
  refine (tthere_any S p q h k bs true w HT.out).mono ?_
  rintro e w1 ⟨rfl, rfl⟩
  go_wp2_with fail
  refine (vlen_any S q n bs true w HT.out.2.1 HN.out).mono ?_
  rintro e w1 ⟨rfl, rfl⟩
  go_wp2_with fail
  have HO5 := Lib.hid (own_ful5 w w.heap.size 5 [.int .u8 (h : Int), .int .u8 x1, .int .u8 x2, .int .u8 x3, .int .u8 x4] (Nat.le_refl _) (by unfold maxLen; simp))
  go_region_held3 (fun w' => w'.cell? ⟨p, 0, none⟩ = some (.pointer (some ⟨q, 0, none⟩)) ∧ w'.cell? ⟨p, 1, none⟩ = some (.int .i64 (h : Int))) (go_keep)
    (first
     | (go_at_call 46
        refine (vbytes_any S q bs true _ (HT.out.2.1.kp0 (show Kp [] w _ from by first | exact ((Kp.refl _ _).alloc _).drew | exact (Kp.refl _ _).drew))).mono ?_
        rintro e w7 ⟨Ab, mb, cb, hmb, rfl, ho7, hk7'⟩
        have hk7 : Kp [] w w7 := (show Kp [] w _ from by first | exact ((Kp.refl _ _).alloc _).drew | exact (Kp.refl _ _).drew).trans hk7'
        have hq0 : w7.cell? ⟨p, 0, none⟩ = some (.pointer (some ⟨q, 0, none⟩)) := hk7.cell c0 (by simp)
        have hq1 : w7.cell? ⟨p, 1, none⟩ = some (.int .i64 (h : Int)) := hk7.cell c1 (by simp)
        have HO7 := Lib.hid (And.intro (own_rd ho7) hk7')
        have HMB := Lib.hid (show mb = (n + 7) / 8 by rw [hmb, HN.out])
        have hmbb : mb ≤ 3000000 := by rw [hmb, HN.out]; omega
        have HK7 := Lib.hid hk7
        clear hmb ho7 hk7 hk7')
     | ((refine step_append_rd rfl (.tmp 28) (.tmp 33) 38 rfl w.heap.size 5 i0 (.int .u8 0) 1 1 Try.underlying38 hi hz0 hz1 hz2 rfl (by decide) (.slice (some ⟨_, 0, none⟩) 5 5) 5 [.int .u8 (h : Int), .int .u8 x1, .int .u8 x2, .int .u8 x3, .int .u8 x4] (by rfl) (own_kp0 HO5.out (((Kp.refl [] _).drew).trans HO7.out.2)) _ Ab mb cb ((bytesN (bitN bs) mb).map (.int .u8)) (by rfl) (by simp [bytesN]) HO7.out.1 (oc_ints _ _) (by unfold maxLen; omega) (by omega) HK7.out.size ?_); intro v8 w8 hown8 hgrow8 hat8; obtain ⟨A8, c8, rfl, _⟩ := own_form hown8; have hk8 : Kp [w.heap.size] w7 w8 := grown1 hgrow8; have hr0 : w8.cell? ⟨p, 0, none⟩ = some (.pointer (some ⟨q, 0, none⟩)) := hk8.cell hq0 HPW.out; have hr1 : w8.cell? ⟨p, 1, none⟩ = some (.int .i64 (h : Int)) := hk8.cell hq1 HPW.out; have H8 := Lib.hid (And.intro hown8 (HK7.out.trans' hk8 (fun x hx => .inr (by simp only [List.mem_singleton] at hx; subst hx; exact Nat.le_refl _)))); clear hown8 hgrow8 hat8 hk8)
     | ((refine step_append_rd rfl (.tmp 28) (.tmp 33) 38 rfl w.heap.size 5 i0 (.int .u8 0) 1 1 Try.underlying38 hi hz0 hz1 hz2 rfl (by decide) (.slice (some ⟨w7.heap.size, 0, none⟩) 5 5) 5 [.int .u8 (h : Int), .int .u8 x1, .int .u8 x2, .int .u8 x3, .int .u8 x4] (by rfl) (own_ful5 w7 w.heap.size 5 [.int .u8 (h : Int), .int .u8 x1, .int .u8 x2, .int .u8 x3, .int .u8 x4] HK7.out.size (by unfold maxLen; simp)) _ Ab mb cb ((bytesN (bitN bs) mb).map (.int .u8)) (by rfl) (by simp [bytesN]) (HO7.out.1.kp0 ((Kp.refl [] w7).alloc _)) (oc_ints _ _) (by unfold maxLen; omega) (by omega) (Nat.le_trans HK7.out.size (by simp)) ?_); intro v8 w8 hown8 hgrow8 hat8; obtain ⟨A8, c8, rfl, _⟩ := own_form hown8; have hk8 : Kp [w7.heap.size] w7 w8 := ((Kp.refl _ w7).alloc _).trans (grown1 hgrow8); have hr0 : w8.cell? ⟨p, 0, none⟩ = some (.pointer (some ⟨q, 0, none⟩)) := hk8.cell hq0 (fun hm => HPW.out (by simp only [List.mem_singleton] at hm ⊢; have := HPL.out; have := HK7.out.size; omega)); have hr1 : w8.cell? ⟨p, 1, none⟩ = some (.int .i64 (h : Int)) := hk8.cell hq1 (fun hm => HPW.out (by simp only [List.mem_singleton] at hm ⊢; have := HPL.out; have := HK7.out.size; omega)); have H8 := Lib.hid (And.intro hown8 (HK7.out.trans' hk8 (fun x hx => .inr (by simp only [List.mem_singleton] at hx; subst hx; exact HK7.out.size)))); clear hown8 hgrow8 hat8 hk8))
  all_goals
    go_wp2_with fail
    go_ret
    refine ⟨A8, 5 + mb, c8, by rw [HMB.out], rfl, ?_, H8.out.2⟩
    rw [← HMB.out]
    exact H8.out.1
end Go.Proofs.Ytldmabkilgpgcaa
namespace Go.Proofs.Ytldmabkilgpgcaa
open Go.RowKit

def awB : List Bool := [true, false, false, true, false, true, false, false, false, false, false, true]
theorem aw_bits : levL 2 [[(0, 1), (3, 3)]] = awB := by decide
theorem aw_bytes : treeB 2 awB = [2, 0, 0, 0, 12, 41, 8] := by decide
theorem aw_kids : kidsA awB ((0 : Nat) : Int) = .agg #[.int .i64 1, .int .i64 0, .int .i64 0, .int .i64 2] ∧ thereA awB ((0 : Nat) : Int) = .agg #[.bool true, .bool false, .bool false, .bool true] := ⟨rfl, rfl⟩
theorem aw_k : kOf awB = 2 := by decide
theorem aw_h1 : hasW awB 2 0 (3, 3) = true := by decide
theorem aw_h2 : hasW awB 2 0 (0, 3) = false := by decide
set_option maxRecDepth 100000 in
set_option maxHeartbeats 4000000 in
theorem tawake_any (w : World) : Calls Try.prog 8 #[] w fun e w' => e = .returned (.bool true) ∧ Kp [] w w' := by
  have HRD := Lib.hid (rd_new' w #[.int .i64 0, .int .i64 1, .int .i64 3, .int .i64 3] 24 rfl)
  have HK := Lib.hid ((Kp.refl [] w).alloc (.cells #[.int .i64 0, .int .i64 1, .int .i64 3, .int .i64 3] 24))
  have HOF := Lib.hid (tof_ok 2 2 2 _ (some ⟨w.heap.size, 0, none⟩) [(0, 1), (3, 3)] _ (by omega) (by omega) HRD.out rfl (by omega) (by decide) (by decide))
  go_enter Try.func8, Try.ntmps8
  go_wp2_with fail
  refine HOF.out.mono ?_
  rw [aw_bits, aw_k]
  rintro e w1 ⟨S, p, q, rfl, ht, hS, hp, hk⟩
  have HT := Lib.hid ht
  replace HK := Lib.hid (HK.out.trans hk)
  clear ht hS hp hk HOF HRD
  go_wp2_with fail
  refine (tnodes_any S p q 2 2 12 awB true w1 HT.out rfl).mono ?_
  rintro e w2 ⟨rfl, rfl⟩
  go_wp2_with fail
  refine (tlen_any S p q 2 2 awB true w1 HT.out).mono ?_
  rintro e w2 ⟨rfl, rfl⟩
  go_wp2_with fail
  refine (theight_any S p q 2 2 awB true w1 HT.out).mono ?_
  rintro e w2 ⟨rfl, rfl⟩
  go_wp2_with fail
  refine (tkids_any S p q 2 2 0 awB w1 HT.out).mono ?_
  rw [show kidsA awB 0 = .agg #[.int .i64 1, .int .i64 0, .int .i64 0, .int .i64 2] from rfl, show thereA awB 0 = .agg #[.bool true, .bool false, .bool false, .bool true] from rfl]
  rintro e w2 ⟨rfl, hk2⟩
  have HT2 := Lib.hid (HT.out.kp0 hk2)
  have HK2 := Lib.hid (HK.out.trans hk2)
  clear hk2
  go_upto_region 5 with fail
  have p9 := (Blk.new w2 57 [.int .i64 1, .int .i64 0, .int .i64 0, .int .i64 2]).alloc (.cells #[.bool true, .bool false, .bool false, .bool true] 58)
  have q9 := Blk.new (w2.alloc (.cells #[.int .i64 1, .int .i64 0, .int .i64 0, .int .i64 2] 57)) 58 [.bool true, .bool false, .bool false, .bool true]
  rw [show (w2.alloc (.cells #[.int .i64 1, .int .i64 0, .int .i64 0, .int .i64 2] 57)).heap.size = w2.heap.size + 1 by simp] at q9
  have hk3 : Kp [] w2 ((w2.alloc (.cells #[.int .i64 1, .int .i64 0, .int .i64 0, .int .i64 2] 57)).alloc (.cells #[.bool true, .bool false, .bool false, .bool true] 58)) := ((Kp.refl [] w2).alloc _).alloc _
  obtain ⟨w3, hw3⟩ : ∃ w3, w3 = (w2.alloc (.cells #[.int .i64 1, .int .i64 0, .int .i64 0, .int .i64 2] 57)).alloc (.cells #[.bool true, .bool false, .bool false, .bool true] 58) := ⟨_, rfl⟩
  obtain ⟨ga, hga⟩ : ∃ ga, ga = w2.heap.size := ⟨_, rfl⟩
  replace p9 : Blk w3 ga 57 [.int .i64 1, .int .i64 0, .int .i64 0, .int .i64 2] := by rw [hw3, hga]; exact p9
  replace q9 : Blk w3 (ga + 1) 58 [.bool true, .bool false, .bool false, .bool true] := by rw [hw3, hga]; exact q9
  replace hk3 : Kp [] w2 w3 := by rw [hw3]; exact hk3
  rw [← hw3, ← hga]
  have HT3 := Lib.hid (HT2.out.kp0 hk3)
  have HK3 := Lib.hid (HK2.out.trans hk3)
  have HP9 := Lib.hid p9
  have HQ9 := Lib.hid q9
  clear hw3 hga hk3 p9 q9 HT HK HT2 HK2
  go_wp2_with fail
  refine (tbytes_any S p q 2 2 awB w3 HT3.out (by omega)).mono ?_
  rw [aw_bytes]
  rintro e w4 ⟨A4, m4, c4, hm4, rfl, ho4, hk4⟩
  obtain rfl : m4 = 7 := hm4
  have HR4 := Lib.hid ((own_rd ho4).kp0 ((Kp.refl [] w4).alloc (.cells #[.int .u8 2, .int .u8 0, .int .u8 0, .int .u8 0, .int .u8 12, .int .u8 41, .int .u8 8] 5)))
  have HR5 := Lib.hid (rd_new' w4 #[.int .u8 2, .int .u8 0, .int .u8 0, .int .u8 0, .int .u8 12, .int .u8 41, .int .u8 8] 5 rfl)
  have HT4 := Lib.hid (HT3.out.kp0 hk4)
  have HK4 := Lib.hid (HK3.out.trans hk4)
  have HP4 := Lib.hid (HP9.out.kp0 hk4)
  have HQ4 := Lib.hid (HQ9.out.kp0 hk4)
  clear ho4 hk4 HT3 HK3 HP9 HQ9
  go_wp2_with fail
  refine (sameB A4 _ 7 7 c4 _ _ _ [2, 0, 0, 0, 12, 41, 8] [2, 0, 0, 0, 12, 41, 8] _ HR4.out HR5.out rfl rfl (by omega) (by omega)).mono ?_
  rw [decide_eq_true rfl]
  rintro e w5 ⟨rfl, hd5⟩
  have hk5 : Kp [] w4 w5 := ((Kp.refl [] w4).alloc _).trans (hd5.kp [])
  have hp5 := HP4.out.kp0 hk5
  have hq5 := HQ4.out.kp0 hk5
  have c0 : w5.cell? ⟨ga, 0, none⟩ = some (.int .i64 1) := by rw [hp5.cell]; rfl
  have c1 : w5.cell? ⟨ga, 1, none⟩ = some (.int .i64 0) := by rw [hp5.cell]; rfl
  have c2 : w5.cell? ⟨ga, 2, none⟩ = some (.int .i64 0) := by rw [hp5.cell]; rfl
  have c3 : w5.cell? ⟨ga, 3, none⟩ = some (.int .i64 2) := by rw [hp5.cell]; rfl
  have d0 : w5.cell? ⟨ga + 1, 0, none⟩ = some (.bool true) := by rw [hq5.cell]; rfl
  have d1 : w5.cell? ⟨ga + 1, 1, none⟩ = some (.bool false) := by rw [hq5.cell]; rfl
  have d2 : w5.cell? ⟨ga + 1, 2, none⟩ = some (.bool false) := by rw [hq5.cell]; rfl
  have d3 : w5.cell? ⟨ga + 1, 3, none⟩ = some (.bool true) := by rw [hq5.cell]; rfl
  have HT5 := Lib.hid (HT4.out.kp0 hk5)
  have HK5 := Lib.hid (HK4.out.trans hk5)
  have hz1 : ∀ w, (Op.equalIn 10000 57 (.agg #[.int .i64 1, .int .i64 0, .int .i64 0, .int .i64 2]) (.agg #[.int .i64 1, .int .i64 0, .int .i64 0, .int .i64 2])).run Try.prog w = .ok true w := fun _ => by kernel_rfl
  have hz2 : ∀ w, (Op.equalIn 10000 58 (.agg #[.bool true, .bool false, .bool false, .bool true]) (.agg #[.bool true, .bool false, .bool false, .bool true])).run Try.prog w = .ok true w := fun _ => by kernel_rfl
  clear hd5 hk5 hp5 hq5 HT4 HK4 HP4 HQ4 HR4 HR5
  go_wp2_with fail
  refine (thas_in S p q 2 2 3 3 awB w5 HT5.out (by omega) (by omega) (by omega)).mono ?_
  rw [aw_h1]
  rintro e w6 ⟨rfl, hk6⟩
  have HT6 := Lib.hid (HT5.out.kp0 hk6)
  have HK6 := Lib.hid (HK5.out.trans hk6)
  clear hk6
  go_wp2_with fail
  refine (thas_in S p q 2 2 0 3 awB w6 HT6.out (by omega) (by omega) (by omega)).mono ?_
  rw [aw_h2]
  rintro e w7 ⟨rfl, hk7⟩
  have HK7 := Lib.hid (HK6.out.trans hk7)
  clear hk7
  go_wp2_with fail
  go_ret
  exact ⟨rfl, HK7.out⟩
end Go.Proofs.Ytldmabkilgpgcaa
namespace Go.Proofs.Ytldmabkilgpgcaa

theorem filt_idx {α : Type} {f : α → Bool} : ∀ {L : List α} {i : Nat} {x : α}, L[i]? = some x → f x = true → (L.filter f)[((L.map f).take i).count true]? = some x
  | [], _, _, h, _ => by simp at h
  | y :: L, 0, x, h, hf => by
    simp only [List.getElem?_cons_zero, Option.some.injEq] at h
    subst h
    rw [List.filter_cons, if_pos hf]
    rfl
  | y :: L, i + 1, x, h, hf => by
    simp only [List.getElem?_cons_succ] at h
    have ih := filt_idx h hf
    rw [List.filter_cons, List.map_cons, List.take_succ_cons, List.count_cons]
    by_cases hy : f y = true
    · rw [if_pos hy, hy]
      simpa using ih
    · rw [if_neg hy]
      simp only [Bool.not_eq_true] at hy
      rw [hy]
      simpa using ih
theorem flat4_at {α β : Type} {f : α → List β} (hf : ∀ x, (f x).length = 4) : ∀ {L : List α} {k q : Nat} {x : α}, L[k]? = some x → q < 4 → (L.flatMap f)[4 * k + q]? = (f x)[q]?
  | [], _, _, _, h, _ => by simp at h
  | y :: L, 0, q, x, h, hq => by
    simp only [List.getElem?_cons_zero, Option.some.injEq] at h
    subst h
    rw [List.flatMap_cons, List.getElem?_append_left (by rw [hf]; omega)]
    simp
  | y :: L, k + 1, q, x, h, hq => by
    simp only [List.getElem?_cons_succ] at h
    have ih := flat4_at hf h hq
    rw [List.flatMap_cons, List.getElem?_append_right (by rw [hf]; omega), hf, show 4 * (k + 1) + q - 4 = 4 * k + q by omega]
    exact ih
theorem parts_at (h : Nat) (l : List (Nat × Nat)) {q : Nat} (hq : q < 4) : (parts h l)[q]? = some (part h l q) := by
  rcases (show q = 0 ∨ q = 1 ∨ q = 2 ∨ q = 3 by omega) with rfl | rfl | rfl | rfl <;> rfl
theorem bits_at {a k q : Nat} {sq : List (List (Nat × Nat))} {l : List (Nat × Nat)} (h : sq[k]? = some l) (hq : q < 4) : (bitsL a sq)[4 * k + q]? = some (!(part a l q).isEmpty) := by
  unfold bitsL
  rw [List.getElem?_map, flat4_at (f := parts a) (fun x => rfl) h hq, parts_at a l hq]
  rfl
theorem next_at {a k q : Nat} {sq : List (List (Nat × Nat))} {l : List (Nat × Nat)} (h : sq[k]? = some l) (hq : q < 4) (hne : (part a l q).isEmpty = false) : (nextL a sq)[((bitsL a sq).take (4 * k + q)).count true]? = some (part a l q) := by
  unfold nextL bitsL
  exact filt_idx (by rw [flat4_at (f := parts a) (fun x => rfl) h hq, parts_at a l hq]) (by rw [hne]; rfl)
theorem bits_count (a : Nat) (sq : List (List (Nat × Nat))) : (bitsL a sq).count true = (nextL a sq).length := by
  unfold bitsL nextL
  generalize sq.flatMap (parts a) = L
  induction L with
  | nil => rfl
  | cons x L ih =>
    rw [List.map_cons, List.count_cons, ih, List.filter_cons]
    cases x.isEmpty <;> simp
/-- What stands behind some bits: nodes' bits, as many ones as there are nodes so far and at this level, but one. -/
def Ahead (pre : List Bool) (off n : Nat) : Prop := pre.length = 4 * off ∧ pre.count true + 1 = off + n
theorem Ahead.next {pre : List Bool} {off : Nat} {sq : List (List (Nat × Nat))} (a : Nat) (h : Ahead pre off sq.length) : Ahead (pre ++ bitsL a sq) (off + sq.length) (nextL a sq).length := by
  obtain ⟨h1, h2⟩ := h
  exact ⟨by rw [List.length_append, bitsL_len, h1]; omega, by rw [List.count_append, bits_count]; omega⟩
/-- A node's quarter: is it there, and its kid. -/
theorem node_at {pre : List Bool} {off a k q : Nat} {sq : List (List (Nat × Nat))} {l : List (Nat × Nat)} (hA : Ahead pre off sq.length) (h : sq[k]? = some l) (hq : q < 4) :
    thereV (pre ++ levL (a + 1) sq) ((off + k : Nat) : Int) q = !(part a l q).isEmpty ∧
    ((part a l q).isEmpty = false → ∃ c, (nextL a sq)[c]? = some (part a l q) ∧ kidV (pre ++ levL (a + 1) sq) ((off + k : Nat) : Int) q = if a = 0 then 0 else off + sq.length + c) := by
  obtain ⟨hA1, hA2⟩ := hA
  have hk : k < sq.length := (List.getElem?_eq_some_iff.1 h).1
  have hlev : levL (a + 1) sq = bitsL a sq ++ levL a (nextL a sq) := rfl
  have hbl := bitsL_len a sq
  have hlen : (pre ++ levL (a + 1) sq).length = 4 * off + (4 * sq.length + (levL a (nextL a sq)).length) := by rw [hlev, List.length_append, List.length_append, hbl, hA1]
  have hpos : (pre ++ levL (a + 1) sq)[4 * (off + k) + q]? = some (!(part a l q).isEmpty) := by
    rw [hlev, List.getElem?_append_right (by omega), hA1, show 4 * (off + k) + q - 4 * off = 4 * k + q by omega, List.getElem?_append_left (by omega)]
    exact bits_at h hq
  have hth : thereV (pre ++ levL (a + 1) sq) ((off + k : Nat) : Int) q = !(part a l q).isEmpty := by
    unfold thereV
    rw [hlen, if_pos ⟨Int.natCast_nonneg _, by omega⟩, Int.toNat_natCast, List.getD_eq_getElem?_getD, hpos]
    rfl
  refine ⟨hth, fun hne => ⟨_, next_at h hq hne, ?_⟩⟩
  unfold kidV
  rw [hth, hne]
  simp only [Bool.not_false, if_true, Int.toNat_natCast]
  have hcnt : cntI (pre ++ levL (a + 1) sq) (4 * (off + k) + q) + 1 = off + sq.length + ((bitsL a sq).take (4 * k + q)).count true := by
    unfold cntI
    rw [hlev, List.take_append, List.take_of_length_le (by omega), hA1, show 4 * (off + k) + q - 4 * off = 4 * k + q by omega, List.take_append_of_le_length (by omega), List.count_append]
    omega
  rw [hcnt, hlen]
  obtain ⟨hc, _⟩ := List.getElem?_eq_some_iff.1 (next_at h hq hne)
  rcases Nat.eq_zero_or_pos a with rfl | ha
  · rw [if_pos (by unfold levL; simp; omega), if_pos rfl]
  · obtain ⟨b, rfl⟩ : ∃ b, a = b + 1 := ⟨a - 1, by omega⟩
    have : (levL (b + 1) (nextL (b + 1) sq)).length ≥ 4 * (nextL (b + 1) sq).length := by
      unfold levL
      rw [List.length_append, bitsL_len]
      omega
    rw [if_neg (by omega), if_neg (by omega)]
/-- Do two pairs lie in the same square, so many halvings above cells? -/
def like (a : Nat) (p p' : Nat × Nat) : Prop := p'.1 % 2 ^ a = p.1 % 2 ^ a ∧ p'.2 % 2 ^ a = p.2 % 2 ^ a
theorem mod_succ (x y a : Nat) : x % 2 ^ (a + 1) = y % 2 ^ (a + 1) ↔ x / 2 ^ a % 2 = y / 2 ^ a % 2 ∧ x % 2 ^ a = y % 2 ^ a := by
  have e : ∀ z : Nat, z % 2 ^ (a + 1) = 2 ^ a * (z / 2 ^ a % 2) + z % 2 ^ a := fun z => by
    rw [Nat.pow_succ, Nat.mod_mul, Nat.add_comm]
  have hp : 0 < 2 ^ a := Nat.pow_pos (by omega)
  have hx := Nat.mod_lt x hp
  have hy := Nat.mod_lt y hp
  rw [e, e]
  constructor
  · intro h
    have h1 : (2 ^ a * (x / 2 ^ a % 2) + x % 2 ^ a) / 2 ^ a = (2 ^ a * (y / 2 ^ a % 2) + y % 2 ^ a) / 2 ^ a := by rw [h]
    rw [Nat.mul_add_div hp, Nat.mul_add_div hp, Nat.div_eq_of_lt hx, Nat.div_eq_of_lt hy] at h1
    refine ⟨by omega, ?_⟩
    rw [show x / 2 ^ a % 2 = y / 2 ^ a % 2 by omega] at h
    omega
  · rintro ⟨h1, h2⟩
    rw [h1, h2]
theorem like_succ {a : Nat} {p p' : Nat × Nat} : like (a + 1) p p' ↔ qN a p' = qN a p ∧ like a p p' := by
  unfold like qN
  rw [mod_succ, mod_succ]
  generalize p'.1 / 2 ^ a = u
  generalize p'.2 / 2 ^ a = v
  generalize p.1 / 2 ^ a = s
  generalize p.2 / 2 ^ a = t
  constructor
  · rintro ⟨⟨h1, h2⟩, h3, h4⟩
    exact ⟨by omega, h2, h4⟩
  · rintro ⟨h1, h2, h4⟩
    exact ⟨⟨by omega, h2⟩, by omega, h4⟩
/-- Has, from a node on. -/
theorem hasW_iff : ∀ (a : Nat) (pre : List Bool) (off k : Nat) (sq : List (List (Nat × Nat))) (l : List (Nat × Nat)) (p : Nat × Nat), Ahead pre off sq.length → sq[k]? = some l → l ≠ [] → (hasW (pre ++ levL a sq) a (off + k) p = true ↔ ∃ p' ∈ l, like a p p')
  | 0, pre, off, k, sq, l, p, _, _, hne => by
    obtain ⟨x, l', rfl⟩ := List.exists_cons_of_ne_nil hne
    exact ⟨fun _ => ⟨x, by simp, by unfold like; simp [Nat.mod_one]⟩, fun _ => rfl⟩
  | a + 1, pre, off, k, sq, l, p, hA, h, hne => by
    obtain ⟨h1, h2⟩ := node_at (a := a) hA h (qN_lt a p)
    unfold hasW
    rw [h1]
    by_cases he : (part a l (qN a p)).isEmpty = true
    · rw [he]
      simp only [Bool.not_true, Bool.false_eq_true, if_false, false_iff]
      rintro ⟨p', hp', hl⟩
      rw [like_succ] at hl
      rw [List.isEmpty_iff] at he
      have : p' ∈ part a l (qN a p) := List.mem_filter.2 ⟨hp', by simpa using hl.1⟩
      rw [he] at this
      cases this
    · simp only [Bool.not_eq_true] at he
      obtain ⟨c, hc, hk⟩ := h2 he
      have hne' : part a l (qN a p) ≠ [] := fun e => by rw [e] at he; simp at he
      rw [he, hk]
      simp only [Bool.not_false, if_true]
      have hmem : (∃ p' ∈ l, like (a + 1) p p') ↔ ∃ p' ∈ part a l (qN a p), like a p p' := by
        constructor
        · rintro ⟨p', hp', hl⟩
          rw [like_succ] at hl
          exact ⟨p', List.mem_filter.2 ⟨hp', by simpa using hl.1⟩, hl.2⟩
        · rintro ⟨p', hp', hl⟩
          obtain ⟨m1, m2⟩ := List.mem_filter.1 hp'
          exact ⟨p', m1, like_succ.2 ⟨by simpa using m2, hl⟩⟩
      rw [hmem]
      rcases Nat.eq_zero_or_pos a with rfl | ha
      · obtain ⟨x, l', e⟩ := List.exists_cons_of_ne_nil hne'
        exact ⟨fun _ => ⟨x, by rw [e]; simp, by unfold like; simp [Nat.mod_one]⟩, fun _ => rfl⟩
      · rw [if_neg (by omega), show pre ++ levL (a + 1) sq = (pre ++ bitsL a sq) ++ levL a (nextL a sq) by rw [List.append_assoc]; rfl]
        exact hasW_iff a _ _ c _ _ p (hA.next a) hc hne'
/-- Is a pair there: just if it is one of those. -/
theorem has_iff {h : Nat} {l : List (Nat × Nat)} {p : Nat × Nat} (hl : ∀ x ∈ l, x.1 < 2 ^ h ∧ x.2 < 2 ^ h) (hp : p.1 < 2 ^ h ∧ p.2 < 2 ^ h) (h1 : 1 ≤ h) : hasW (levL h [l]) h 0 p = true ↔ p ∈ l := by
  rcases l with _ | ⟨x, l'⟩
  · obtain ⟨a, rfl⟩ : ∃ a, h = a + 1 := ⟨h - 1, by omega⟩
    have hn := (node_at (a := a) (pre := []) (off := 0) (k := 0) (sq := [[]]) ⟨rfl, rfl⟩ rfl (qN_lt a p)).1
    unfold hasW
    rw [List.nil_append] at hn
    rw [show ((0 + 0 : Nat) : Int) = ((0 : Nat) : Int) from rfl] at hn
    rw [hn]
    simp [part]
  · have := hasW_iff h [] 0 0 [x :: l'] (x :: l') p ⟨rfl, rfl⟩ rfl (by simp)
    rw [List.nil_append] at this
    rw [this]
    constructor
    · rintro ⟨p', hp', h1, h2⟩
      obtain ⟨a, b⟩ := hl p' hp'
      rw [Nat.mod_eq_of_lt a, Nat.mod_eq_of_lt hp.1] at h1
      rw [Nat.mod_eq_of_lt b, Nat.mod_eq_of_lt hp.2] at h2
      rwa [show p = p' from Prod.ext h1.symm h2.symm]
    · exact fun hm => ⟨p, hm, rfl, rfl⟩
end Go.Proofs.Ytldmabkilgpgcaa
namespace Go.Proofs.Ytldmabkilgpgcaa

/-- Rows that go together. -/
inductive Tog {α β : Type} (R : α → β → Prop) : List α → List β → Prop
  | nil : Tog R [] []
  | cons {a b l m} : R a b → Tog R l m → Tog R (a :: l) (b :: m)
theorem Tog.app {α β : Type} {R : α → β → Prop} {l l' : List α} {m m' : List β} (h : Tog R l m) (h' : Tog R l' m') : Tog R (l ++ l') (m ++ m') := by
  induction h with
  | nil => exact h'
  | cons hr _ ih => exact .cons hr ih
theorem Tog.len {α β : Type} {R : α → β → Prop} {l : List α} {m : List β} (h : Tog R l m) : l.length = m.length := by
  induction h with
  | nil => rfl
  | cons _ _ ih => simp [ih]
theorem Tog.left {α β : Type} {R : α → β → Prop} {l : List α} {m : List β} (h : Tog R l m) {a : α} (ha : a ∈ l) : ∃ b ∈ m, R a b := by
  induction h with
  | nil => cases ha
  | cons hr _ ih =>
    rcases List.mem_cons.1 ha with rfl | ha
    · exact ⟨_, by simp, hr⟩
    · obtain ⟨b, hb, h⟩ := ih ha
      exact ⟨b, by simp [hb], h⟩
theorem Tog.right {α β : Type} {R : α → β → Prop} {l : List α} {m : List β} (h : Tog R l m) {b : β} (hb : b ∈ m) : ∃ a ∈ l, R a b := by
  induction h with
  | nil => cases hb
  | cons hr _ ih =>
    rcases List.mem_cons.1 hb with rfl | hb
    · exact ⟨_, by simp, hr⟩
    · obtain ⟨a, ha, h⟩ := ih hb
      exact ⟨a, by simp [ha], h⟩
/-- The same pairs, in whatever order, however often. -/
def SameS (l l' : List (Nat × Nat)) : Prop := ∀ p, p ∈ l ↔ p ∈ l'
theorem SameS.part {l l' : List (Nat × Nat)} (h : SameS l l') (a q : Nat) : SameS (part a l q) (part a l' q) := fun p => by
  unfold Go.Proofs.Ytldmabkilgpgcaa.part
  rw [List.mem_filter, List.mem_filter, h p]
theorem SameS.empty {l l' : List (Nat × Nat)} (h : SameS l l') : l.isEmpty = l'.isEmpty := by
  rcases l with _ | ⟨x, l⟩ <;> rcases l' with _ | ⟨y, l'⟩
  · rfl
  · exact absurd ((h y).2 (by simp)) (by simp)
  · exact absurd ((h x).1 (by simp)) (by simp)
  · rfl
theorem tog_flat {sq sq' : List (List (Nat × Nat))} (h : Tog SameS sq sq') (a : Nat) : Tog SameS (sq.flatMap (parts a)) (sq'.flatMap (parts a)) := by
  induction h with
  | nil => exact .nil
  | cons hr _ ih =>
    rw [List.flatMap_cons, List.flatMap_cons]
    exact Tog.app (.cons (hr.part a 0) (.cons (hr.part a 1) (.cons (hr.part a 2) (.cons (hr.part a 3) .nil)))) ih
theorem tog_next {sq sq' : List (List (Nat × Nat))} (h : Tog SameS sq sq') (a : Nat) : Tog SameS (nextL a sq) (nextL a sq') ∧ bitsL a sq = bitsL a sq' := by
  have := tog_flat h a
  unfold nextL bitsL
  generalize sq.flatMap (parts a) = L at this
  generalize sq'.flatMap (parts a) = L' at this
  induction this with
  | nil => exact ⟨.nil, rfl⟩
  | cons hr _ ih =>
    rw [List.filter_cons, List.filter_cons, List.map_cons, List.map_cons, hr.empty, ih.2]
    refine ⟨?_, rfl⟩
    split
    · exact .cons hr ih.1
    · exact ih.1
theorem lev_same : ∀ (h : Nat) {sq sq' : List (List (Nat × Nat))}, Tog SameS sq sq' → levL h sq = levL h sq'
  | 0, _, _, _ => rfl
  | h + 1, _, _, ht => by
    obtain ⟨h1, h2⟩ := tog_next ht h
    unfold levL
    rw [h2, lev_same h h1]
/-- A kid's place. -/
def kidC (c : Nat × Nat) (q : Nat) : Nat × Nat := (2 * c.1 + q / 2, 2 * c.2 + q % 2)
/-- The kids' places, of places and their bits. -/
def kidsC : List (Nat × Nat) → List Bool → List (Nat × Nat)
  | [], _ => []
  | c :: C, bs => (([0, 1, 2, 3].filter fun q => bs.getD q false).map (kidC c)) ++ kidsC C (bs.drop 4)
/-- The places that bits are of, so many levels. -/
def growB : Nat → List Bool → List (Nat × Nat) → Option (List (Nat × Nat))
  | 0, _, C => some C
  | a + 1, bs, C => if bs.length < 4 * C.length then none else growB a (bs.drop (4 * C.length)) (kidsC C bs)
/-- The last level's squares. -/
def sqF : Nat → List (List (Nat × Nat)) → List (List (Nat × Nat))
  | 0, sq => sq
  | a + 1, sq => sqF a (nextL a sq)
/-- All pairs of a square lie at its place. -/
def AtC (a : Nat) (c : Nat × Nat) (l : List (Nat × Nat)) : Prop := ∀ p ∈ l, p.1 / 2 ^ a = c.1 ∧ p.2 / 2 ^ a = c.2
theorem AtC.kid {a q : Nat} {c : Nat × Nat} {l : List (Nat × Nat)} (h : AtC (a + 1) c l) : AtC a (kidC c q) (part a l q) := fun p hp => by
  obtain ⟨hm, hqn⟩ := List.mem_filter.1 hp
  obtain ⟨h1, h2⟩ := h p hm
  rw [Nat.pow_succ, ← Nat.div_div_eq_div_mul] at h1 h2
  have hqn' : qN a p = q := by simpa using hqn
  unfold qN at hqn'
  unfold kidC
  generalize p.1 / 2 ^ a = u at *
  generalize p.2 / 2 ^ a = v at *
  simp only
  omega
theorem kids_tog {a : Nat} {r : List Bool} : ∀ {C : List (Nat × Nat)} {sq : List (List (Nat × Nat))}, Tog (AtC (a + 1)) C sq → Tog (AtC a) (kidsC C (bitsL a sq ++ r)) (nextL a sq)
  | _, _, .nil => .nil
  | _, _, .cons (a := c) (b := l) (l := C) (m := sq) hr ht => by
    have ih := kids_tog (r := r) ht
    have e0 := hr.kid (q := 0)
    have e1 := hr.kid (q := 1)
    have e2 := hr.kid (q := 2)
    have e3 := hr.kid (q := 3)
    rw [nextL_cons]
    have hb : bitsL a (l :: sq) ++ r = (!(part a l 0).isEmpty) :: (!(part a l 1).isEmpty) :: (!(part a l 2).isEmpty) :: (!(part a l 3).isEmpty) :: (bitsL a sq ++ r) := by
      unfold bitsL
      rw [List.flatMap_cons]
      rfl
    rw [hb]
    unfold kidsC parts
    refine Tog.app ?_ ih
    simp only [List.filter_cons, List.filter_nil, List.getD_cons_zero, List.getD_cons_succ]
    cases (part a l 0).isEmpty <;> cases (part a l 1).isEmpty <;> cases (part a l 2).isEmpty <;> cases (part a l 3).isEmpty <;> simp <;> first | exact .nil | exact .cons (by assumption) .nil | exact .cons (by assumption) (.cons (by assumption) .nil) | exact .cons (by assumption) (.cons (by assumption) (.cons (by assumption) .nil)) | exact .cons (by assumption) (.cons (by assumption) (.cons (by assumption) (.cons (by assumption) .nil)))
/-- The bits of a tree are those of its squares' places. -/
theorem grow_lev : ∀ (h : Nat) (C : List (Nat × Nat)) (sq : List (List (Nat × Nat))) (r : List Bool), Tog (AtC h) C sq → ∃ w, growB h (levL h sq ++ r) C = some w ∧ Tog (AtC 0) w (sqF h sq)
  | 0, C, sq, _, ht => ⟨C, rfl, ht⟩
  | h + 1, C, sq, r, ht => by
    have hl := bitsL_len h sq
    have hc := ht.len
    have e : levL (h + 1) sq ++ r = bitsL h sq ++ (levL h (nextL h sq) ++ r) := by rw [← List.append_assoc]; rfl
    obtain ⟨w, h1, h2⟩ := grow_lev h _ _ r (kids_tog (r := levL h (nextL h sq) ++ r) ht)
    refine ⟨w, ?_, h2⟩
    unfold growB
    rw [e, if_neg (by rw [List.length_append]; omega), show 4 * C.length = (bitsL h sq).length by omega, List.drop_left]
    exact h1
/-- The pairs in squares stay. -/
theorem next_mem (a : Nat) (sq : List (List (Nat × Nat))) (p : Nat × Nat) : (∃ l ∈ nextL a sq, p ∈ l) ↔ ∃ l ∈ sq, p ∈ l := by
  constructor
  · rintro ⟨m, hm, hp⟩
    obtain ⟨l, hl, h⟩ := mem_nextL hm
    exact ⟨l, hl, mem_parts h hp⟩
  · rintro ⟨l, hl, hp⟩
    have hm : p ∈ part a l (qN a p) := List.mem_filter.2 ⟨hp, by simp⟩
    refine ⟨part a l (qN a p), ?_, hm⟩
    unfold nextL
    rw [List.mem_filter, List.mem_flatMap]
    refine ⟨⟨l, hl, List.mem_of_getElem? (parts_at a l (qN_lt a p))⟩, ?_⟩
    cases h : (part a l (qN a p)).isEmpty
    · rfl
    · rw [List.isEmpty_iff] at h
      rw [h] at hm
      cases hm
theorem sqF_mem : ∀ (h : Nat) (sq : List (List (Nat × Nat))) (p : Nat × Nat), (∃ l ∈ sqF h sq, p ∈ l) ↔ ∃ l ∈ sq, p ∈ l
  | 0, _, _ => Iff.rfl
  | h + 1, sq, p => (sqF_mem h _ p).trans (next_mem h sq p)
theorem sqF_ne : ∀ (h : Nat) (sq : List (List (Nat × Nat))), (∀ l ∈ sq, l ≠ []) → ∀ l ∈ sqF h sq, l ≠ []
  | 0, _, h, l, hl => h l hl
  | h + 1, sq, _, l, hl => sqF_ne h (nextL h sq) (fun m hm => by
      unfold nextL at hm
      have := (List.mem_filter.1 hm).2
      intro e
      rw [e] at this
      cases this) l hl
theorem sqF_ne1 {h : Nat} (h1 : 1 ≤ h) (sq : List (List (Nat × Nat))) : ∀ l ∈ sqF h sq, l ≠ [] := by
  obtain ⟨a, rfl⟩ : ∃ a, h = a + 1 := ⟨h - 1, by omega⟩
  exact sqF_ne a (nextL a sq) (fun m hm => by
      unfold nextL at hm
      have := (List.mem_filter.1 hm).2
      intro e
      rw [e] at this
      cases this)
/-- How many ones there are. -/
theorem lev_count : ∀ (h : Nat) (sq : List (List (Nat × Nat))), (levL h sq).length % 4 = 0 ∧ (levL h sq).count true + sq.length = (levL h sq).length / 4 + (sqF h sq).length
  | 0, _ => ⟨rfl, by simp [levL, sqF]⟩
  | h + 1, sq => by
    obtain ⟨i1, i2⟩ := lev_count h (nextL h sq)
    unfold levL sqF
    rw [List.length_append, List.count_append, bitsL_len, bits_count]
    omega
theorem lev_len4 {h : Nat} (h1 : 1 ≤ h) (l : List (Nat × Nat)) : 4 ≤ (levL h [l]).length := by
  obtain ⟨a, rfl⟩ : ∃ a, h = a + 1 := ⟨h - 1, by omega⟩
  unfold levL
  rw [List.length_append, bitsL_len]
  simp
theorem k_all {h : Nat} (h1 : 1 ≤ h) (l : List (Nat × Nat)) : (levL h [l]).length / 4 - 1 ≤ (levL h [l]).count true ∧ kOf (levL h [l]) = (sqF h [l]).length := by
  obtain ⟨_, i2⟩ := lev_count h [l]
  have := lev_len4 h1 l
  unfold kOf
  simp only [List.length_cons, List.length_nil] at i2
  omega
theorem kids_mem : ∀ {C : List (Nat × Nat)} {bs : List Bool} {x : Nat × Nat}, x ∈ kidsC C bs → (x.1 / 2, x.2 / 2) ∈ C
  | [], _, _, h => by cases h
  | c :: C, bs, x, h => by
    unfold kidsC at h
    rcases List.mem_append.1 h with h | h
    · obtain ⟨q, hq, rfl⟩ := List.mem_map.1 h
      have hq4 : q < 4 := by
        have := (List.mem_filter.1 hq).1
        simp only [List.mem_cons, List.not_mem_nil, or_false] at this
        omega
      unfold kidC
      simp only [List.mem_cons]
      left
      apply Prod.ext <;> simp only <;> omega
    · exact List.mem_cons_of_mem _ (kids_mem h)
theorem kidC_inj {c : Nat × Nat} {q q' : Nat} (h : kidC c q = kidC c q') : q = q' := by
  unfold kidC at h
  injection h with h1 h2
  omega
theorem kids_nodup : ∀ {C : List (Nat × Nat)} {bs : List Bool}, C.Nodup → (kidsC C bs).Nodup
  | [], _, _ => List.nodup_nil
  | c :: C, bs, h => by
    rw [List.nodup_cons] at h
    unfold kidsC
    rw [List.nodup_append]
    refine ⟨?_, kids_nodup h.2, fun x hx y hy e => ?_⟩
    · have h4 : ([0, 1, 2, 3].filter fun q => bs.getD q false).Nodup := List.Pairwise.filter _ (show [0, 1, 2, 3].Nodup by decide)
      have hlt : ∀ q ∈ ([0, 1, 2, 3].filter fun q => bs.getD q false), q < 4 := fun q hq => by
        have := (List.mem_filter.1 hq).1
        simp only [List.mem_cons, List.not_mem_nil, or_false] at this
        omega
      generalize ([0, 1, 2, 3].filter fun q => bs.getD q false) = Q at h4 hlt
      induction Q with
      | nil => exact List.nodup_nil
      | cons q Q ih =>
        rw [List.nodup_cons] at h4
        rw [List.map_cons, List.nodup_cons]
        refine ⟨fun hm => ?_, ih h4.2 (fun x hx => hlt x (by simp [hx]))⟩
        obtain ⟨q', hq', e⟩ := List.mem_map.1 hm
        have := kidC_inj e
        exact h4.1 (this ▸ hq')
    · subst e
      have h1 := kids_mem hy
      obtain ⟨q, hq, rfl⟩ := List.mem_map.1 hx
      have hq4 : q < 4 := by
        have := (List.mem_filter.1 hq).1
        simp only [List.mem_cons, List.not_mem_nil, or_false] at this
        omega
      have : ((kidC c q).1 / 2, (kidC c q).2 / 2) = c := by
        unfold kidC
        apply Prod.ext <;> simp only <;> omega
      rw [this] at h1
      exact h.1 h1
theorem grow_nodup : ∀ {h : Nat} {bs : List Bool} {C w : List (Nat × Nat)}, growB h bs C = some w → C.Nodup → w.Nodup
  | 0, _, _, _, e, h => by unfold growB at e; injection e with e; exact e ▸ h
  | a + 1, bs, C, w, e, h => by
    unfold growB at e
    split at e
    · cases e
    · exact grow_nodup e (kids_nodup h)
/-- A TREE's BITS are those of just its pairs, each once. -/
theorem grow_tree {h : Nat} (h1 : 1 ≤ h) {l : List (Nat × Nat)} (hl : ∀ p ∈ l, p.1 < 2 ^ h ∧ p.2 < 2 ^ h) (r : List Bool) : ∃ w, growB h (levL h [l] ++ r) [(0, 0)] = some w ∧ SameS w l ∧ w.Nodup ∧ w.length = kOf (levL h [l]) := by
  obtain ⟨w, hw, ht⟩ := grow_lev h [(0, 0)] [l] r (.cons (fun p hp => ⟨Nat.div_eq_of_lt (hl p hp).1, Nat.div_eq_of_lt (hl p hp).2⟩) .nil)
  refine ⟨w, hw, fun p => ?_, grow_nodup hw (by simp), by rw [ht.len, (k_all h1 l).2]⟩
  have hm := sqF_mem h [l] p
  simp only [List.mem_singleton, exists_eq_left] at hm
  rw [← hm]
  constructor
  · intro hp
    obtain ⟨m, hm, ha⟩ := ht.left hp
    obtain ⟨x, m', rfl⟩ := List.exists_cons_of_ne_nil (sqF_ne1 h1 [l] m hm)
    have := ha x (by simp)
    simp only [Nat.pow_zero, Nat.div_one] at this
    exact ⟨_, hm, by rw [show p = x from Prod.ext this.1.symm this.2.symm]; simp⟩
  · rintro ⟨m, hm, hp⟩
    obtain ⟨c, hc, ha⟩ := ht.right hm
    have := ha p hp
    simp only [Nat.pow_zero, Nat.div_one] at this
    rwa [show p = c from Prod.ext this.1 this.2]
end Go.Proofs.Ytldmabkilgpgcaa
namespace Go.Proofs.Ytldmabkilgpgcaa
open Go.RowKit

/-- A place's kids among the first quarters. -/
def kidsQ (c : Nat × Nat) (bs : List Bool) (q : Nat) : List (Nat × Nat) := (([0, 1, 2, 3].take q).filter fun q => bs.getD q false).map (kidC c)
theorem take_q {q : Nat} (hq : q < 4) : [0, 1, 2, 3].take (q + 1) = [0, 1, 2, 3].take q ++ [q] := by
  rcases (show q = 0 ∨ q = 1 ∨ q = 2 ∨ q = 3 by omega) with rfl | rfl | rfl | rfl <;> rfl
theorem kidsQ_on {c : Nat × Nat} {bs : List Bool} {q : Nat} (hq : q < 4) (h : bs.getD q false = true) : kidsQ c bs (q + 1) = kidsQ c bs q ++ [kidC c q] := by
  unfold kidsQ
  rw [take_q hq, List.filter_append, List.map_append, List.filter_cons, if_pos h]
  rfl
theorem kidsQ_off {c : Nat × Nat} {bs : List Bool} {q : Nat} (hq : q < 4) (h : bs.getD q false = false) : kidsQ c bs (q + 1) = kidsQ c bs q := by
  unfold kidsQ
  rw [take_q hq, List.filter_append, List.map_append, List.filter_cons, if_neg (by rw [h]; simp)]
  simp
theorem kidsC_snoc : ∀ {C : List (Nat × Nat)} {bs : List Bool} {k : Nat} {c : Nat × Nat}, C[k]? = some c → kidsC (C.take (k + 1)) bs = kidsC (C.take k) bs ++ kidsQ c (bs.drop (4 * k)) 4
  | [], _, _, _, h => by simp at h
  | x :: C, bs, 0, c, h => by
    simp only [List.getElem?_cons_zero, Option.some.injEq] at h
    subst h
    simp only [List.take_succ_cons, List.take_zero]
    unfold kidsC kidsC
    rw [List.append_nil]
    rfl
  | x :: C, bs, k + 1, c, h => by
    simp only [List.getElem?_cons_succ] at h
    rw [List.take_succ_cons, List.take_succ_cons]
    unfold kidsC
    rw [kidsC_snoc (bs := bs.drop 4) h, List.append_assoc, List.drop_drop, show 4 + 4 * k = 4 * (k + 1) by omega]
theorem kidsC_len : ∀ {C : List (Nat × Nat)} {bs : List Bool}, (kidsC C bs).length ≤ 4 * C.length
  | [], _ => Nat.le_refl _
  | c :: C, bs => by
    unfold kidsC
    have := kidsC_len (C := C) (bs := bs.drop 4)
    have h2 := List.length_filter_le (fun q => bs.getD q false) [0, 1, 2, 3]
    rw [List.length_append, List.length_map, List.length_cons]
    simp only [List.length_cons, List.length_nil] at h2
    omega
theorem kids_lt {C : List (Nat × Nat)} {bs : List Bool} {i : Nat} (h : ∀ c ∈ C, c.1 < 2 ^ i ∧ c.2 < 2 ^ i) : ∀ c ∈ kidsC C bs, c.1 < 2 ^ (i + 1) ∧ c.2 < 2 ^ (i + 1) := fun c hc => by
  have := h _ (kids_mem hc)
  simp only at this
  rw [Nat.pow_succ]
  omega
/-- What grown gives. -/
def GrownP (h N : Nat) (bs : List Bool) (w : World) (e : Ending) (w' : World) : Prop := Kp [] w w' ∧ ((growB h bs [(0, 0)] = none ∧ e = .returned (.tuple #[.slice none 0 0, .bool false])) ∨
  ∃ (C : List (Nat × Nat)) (A : Option Addr) (n c : Nat), growB h bs [(0, 0)] = some C ∧ C.length = n ∧ n ≤ N + 1 ∧ e = .returned (.tuple #[.slice A n c, .bool true]) ∧ Rd w' w'.heap.size A (pc C) ∧ ∀ p ∈ C, p.1 < 2 ^ h ∧ p.2 < 2 ^ h)
set_option maxRecDepth 100000 in
set_option maxHeartbeats 4000000 in
theorem grown_any (S : List Nat) (q N h : Nat) (bs : List Bool) (c : Bool) (w : World) (hv : VecM w S q bs c) (hN : bs.length = N) (hh : h ≤ 17) :
    Calls Try.prog 49 #[.pointer (some ⟨q, 0, none⟩), .int .i64 (h : Int)] w (GrownP h N bs w) := by
  obtain ⟨i0, hi, hz0, hz1, hz2⟩ := info_parts Try.info_pair
  have hN16 : N ≤ 16777216 := by rw [← hN]; exact hv.tail.2.2.2
  obtain ⟨R, hR⟩ : ∃ R, R = growB h bs [(0, 0)] := ⟨_, rfl⟩
  have HRR := Lib.hid hR
  have HV := Lib.hid hv; clear hv
  have HN := Lib.hid hN; clear hN
  have HR := Lib.hid hR; clear hR
  go_enter Try.func49, Try.ntmps49
  go_wp2_with fail
  have HRF := Lib.hid (show RF (w.alloc (.cells #[.int .i64 0, .int .i64 0] 24)) [] (some ⟨w.heap.size, 0, none⟩) (pc [(0, 0)]) from ⟨rd_new' w #[.int .i64 0, .int .i64 0] 24 rfl, fun _ _ _ => by simp⟩)
  have HK0 := Lib.hid ((Kp.refl [] w).alloc (.cells #[.int .i64 0, .int .i64 0] 24))
  go_loopw [4, 6, 14] (fun lv av x wr => ∃ (i at_ n c : Nat) (A : Option Addr) (C : List (Nat × Nat)), x = .int .i64 (i : Int) ∧ lv = .slice A n c ∧ av = .int .i64 (at_ : Int) ∧ i ≤ h ∧ at_ ≤ N ∧ n ≤ N + 1 ∧ Hid (C.length = n) ∧ Hid (R = growB (h - i) (bs.drop at_) C) ∧ Hid (RF wr [] A (pc C)) ∧ Hid (∀ p ∈ C, p.1 < 2 ^ i ∧ p.2 < 2 ^ i) ∧ Hid (Kp [] w wr)) (fun _ _ x _ => h - (intOf x).toNat)
  case atStart => exact ⟨0, 0, 1, 1, _, [(0, 0)], rfl, rfl, rfl, by omega, by omega, by omega, Lib.hid rfl, HR, HRF, Lib.hid (by simp), HK0⟩
  case round =>
    clear HRF HK0 HR
    obtain ⟨i, at_, n, c, A, C, rfl, rfl, rfl, hih, hat, hn, HC, HR, HF, HB, HK⟩ := hrel
    by_cases hlt : i < h
    · have HV1 := Lib.hid (HV.out.kp0 HK.out)
      have hi17 : i ≤ 16 := by omega
      have HR2 := Lib.hid (show R = if (bs.drop at_).length < 4 * C.length then none else growB (h - (i + 1)) ((bs.drop at_).drop (4 * C.length)) (kidsC C (bs.drop at_)) by rw [HR.out, show h - i = (h - (i + 1)) + 1 by omega]; rfl)
      go_wp2_with fail
      refine (vlen_any S q N bs _ wr HV1.out HN.out).mono ?_
      rintro e w1 ⟨rfl, rfl⟩
      by_cases hbig : N < at_ + 4 * n
      · have HR3 := Lib.hid (show growB h bs [(0, 0)] = none by rw [← HRR.out, HR2.out, if_pos (by rw [List.length_drop, HN.out, HC.out]; omega)])
        have hbig' : (N : Int) < (at_ : Int) + 4 * (n : Int) := by omega
        go_wp2_with fail
        go_ret2
        exact ⟨HK.out, .inl ⟨HR3.out, rfl⟩⟩
      · have HR3 := Lib.hid (show R = growB (h - (i + 1)) (bs.drop (at_ + 4 * n)) (kidsC C (bs.drop at_)) by rw [HR2.out, if_neg (by rw [List.length_drop, HN.out, HC.out]; omega), List.drop_drop, HC.out])
        have hbig' : ¬ (N : Int) < (at_ : Int) + 4 * (n : Int) := by omega
        have hbN : at_ + 4 * n ≤ N := by omega
        clear HR HR2 hbig
        go_wp2_with fail
        have HN0 := Lib.hid (World.ownsRow_nil wr w.heap.size 24 2)
        have HF0 := Lib.hid (show RF wr (ownL (.slice none 0 0)) A (pc C) from HF.out)
        obtain ⟨a0, ha0⟩ : ∃ a0, a0 = at_ := ⟨_, rfl⟩
        have HA0 := Lib.hid ha0
        obtain ⟨wk, hwk⟩ : ∃ wk, wk = wr := ⟨_, rfl⟩
        rw [← ha0] at HR3 hbN
        clear HF ha0 hwk wk
        go_loopw [6, 7, 26] (fun av v x wr => ∃ (k at_ nn cn : Nat) (An : Option Addr) (D : List (Nat × Nat)), x = .int .i64 (k : Int) ∧ av = .int .i64 (at_ : Int) ∧ v = .slice An nn cn ∧ k ≤ n ∧ Hid (at_ = a0 + 4 * k) ∧ Hid (D = kidsC (C.take k) (bs.drop a0)) ∧ Hid (D.length = nn) ∧ Hid (wr.ownsRow w.heap.size 24 2 (.slice An nn cn) nn (pc D)) ∧ Hid (RF wr (ownL (.slice An nn cn)) A (pc C)) ∧ Hid (Kp [] w wr)) (fun _ _ x _ => n - (intOf x).toNat)
        case atStart => exact ⟨0, at_, 0, 0, none, [], rfl, rfl, rfl, by omega, Lib.hid (by rw [HA0.out]; omega), Lib.hid rfl, Lib.hid rfl, HN0, HF0, HK⟩
        case round =>
          clear HN0 HF0 HK HV1 HA0
          obtain ⟨k, at2, nn, cn, An, D, rfl, rfl, rfl, hk, HAT, HD, HDL, HO, HF, HK⟩ := hrel
          have hnnb : nn ≤ 4 * k := by rw [← HDL.out, HD.out]; exact Nat.le_trans kidsC_len (by rw [List.length_take]; omega)
          by_cases hkn : k < n
          · obtain ⟨r, cc, ad, hp, rfl, _, hq1, hq2⟩ := HF.out.1.ixP (k := k) (by rw [HC.out]; exact hkn)
            have hb2 := HB.out _ (List.mem_of_getElem? hp)
            have hp17 : 2 ^ i ≤ 2 ^ 17 := Nat.pow_le_pow_right (by omega) (by omega)
            have hrb : r < 131072 := Nat.lt_of_lt_of_le hb2.1 hp17
            have hcb : cc < 131072 := Nat.lt_of_lt_of_le hb2.2 hp17
            have HP := Lib.hid hp
            have hi0 : (0 : Int) ≤ (k : Int) := by omega
            have hi1 : (k : Int) < (n : Int) := by omega
            clear hp hb2 hp17
            go_upto_region 11 with fail
            obtain ⟨g, hg⟩ : ∃ g, g = wr.heap.size := ⟨_, rfl⟩
            have hk1 := (Kp.refl [] wr).alloc (.cells #[.int .i64 (r : Int), .int .i64 (cc : Int)] 24)
            have hb1 := Blk.new wr 24 [.int .i64 (r : Int), .int .i64 (cc : Int)]
            rw [← hg] at hb1 ⊢
            have HG := Lib.hid (show g ∉ ownL (.slice An nn cn) from fun hm => by have := (own_ge HO.out (mem_ownL.1 hm)).2; omega)
            have HB1 := Lib.hid hb1
            have HO1 := Lib.hid (own_kp0 HO.out hk1)
            have HF1 := Lib.hid (HF.out.step hk1 (by simp) (fun x hx => .inl hx))
            have HK1 := Lib.hid (HK.out.trans hk1)
            obtain ⟨D0, hD0⟩ : ∃ D0, D0 = D := ⟨_, rfl⟩
            have HD0 := Lib.hid hD0
            have hat2 : at2 + 4 ≤ N := by have := HAT.out; omega
            clear hq1 hq2 hk1 hb1 hg HO HF HK hD0
            go_wp2_with fail
            go_loopw [7, 30] (fun v x wr => ∃ (j nn cn : Nat) (An : Option Addr) (D : List (Nat × Nat)), x = .int .i64 (j : Int) ∧ v = .slice An nn cn ∧ j ≤ 4 ∧ nn ≤ 4 * k + j ∧ Hid (D = D0 ++ kidsQ (r, cc) (bs.drop at2) j) ∧ Hid (D.length = nn) ∧ Hid (wr.ownsRow w.heap.size 24 2 (.slice An nn cn) nn (pc D)) ∧ Hid (RF wr (ownL (.slice An nn cn)) (some ad) (pc C)) ∧ Hid (Blk wr g 24 [.int .i64 (r : Int), .int .i64 (cc : Int)]) ∧ Hid (g ∉ ownL (.slice An nn cn)) ∧ Hid (Kp [] w wr)) (fun _ x _ => 4 - (intOf x).toNat)
            case atStart => exact ⟨0, nn, cn, An, D, rfl, rfl, by omega, by omega, Lib.hid (by rw [HD0.out]; simp [kidsQ]), HDL, HO1, HF1, HB1, HG, HK1⟩
            case round =>
              clear HO1 HF1 HB1 HG HK1 hnnb
              obtain ⟨j, nn, cn, An, D, rfl, rfl, hj, hnn, HDQ, HDL, HO, HF, HBG, HG, HK⟩ := hrel
              by_cases hj4 : j < 4
              · obtain ⟨b, hb⟩ : ∃ b, b = (bs.drop at2).getD j false := ⟨_, rfl⟩
                have HBV := Lib.hid hb.symm
                have HV2 := Lib.hid (HV.out.kp0 HK.out)
                have HGB := Lib.hid (show getB bs ((at2 + j : Nat) : Int) = b by
                  rw [hb]
                  unfold getB
                  rw [if_neg (by omega), Int.toNat_natCast, List.getD_eq_getElem?_getD, List.getD_eq_getElem?_getD, List.getElem?_drop])
                have HSZ := Lib.hid HK.out.size
                have hq0 : wr.cell? ⟨g, 0, none⟩ = some (.int .i64 (r : Int)) := by rw [HBG.out.cell]; rfl
                have hq1 : wr.cell? ⟨g, 1, none⟩ = some (.int .i64 (cc : Int)) := by rw [HBG.out.cell]; rfl
                have hnb : nn ≤ 200000000 := by omega
                clear hb
                rcases (show j = 0 ∨ j = 1 ∨ j = 2 ∨ j = 3 by omega) with rfl | rfl | rfl | rfl
                · rw [Nat.add_zero] at HGB
                  have hzb : at2 ≤ 16777216 := by omega
                  go_wp2_with fail
                  refine (vget_any S q (at2 : Int) bs _ wr HV2.out).mono ?_
                  rw [HGB.out]
                  rintro e w1 ⟨rfl, rfl⟩
                  cases b with
                  | false =>
                    go_wp2_with fail
                    exact ⟨⟨0 + 1, nn, cn, An, D, by go_num, rfl, by omega, by omega, Lib.hid (by rw [HDQ.out, kidsQ_off (by omega) HBV.out]), HDL, HO, HF, HBG, HG, HK⟩, by simp [intOf]⟩
                  | true =>
                    obtain ⟨x0, hx0⟩ : ∃ x0, x0 = 2 * r + 0 := ⟨_, rfl⟩
                    obtain ⟨x1, hx1⟩ : ∃ x1, x1 = 2 * cc + 0 := ⟨_, rfl⟩
                    have hy0 : 2 * (r : Int) = (x0 : Int) := by omega
                    have hy1 : 2 * (cc : Int) = (x1 : Int) := by omega
                    have hb0 : x0 ≤ 262144 := by omega
                    have hb1 : x1 ≤ 262144 := by omega
                    have HKC := Lib.hid (show kidC (r, cc) 0 = (x0, x1) by unfold kidC; rw [hx0, hx1])
                    have hband : bits .and .i64 0 1 = 0 := by decide
                    clear hx0 hx1
                    go_wp2_with (at_builtin; go_loud (refine wpList_append_rd rfl (.tmp 38) (.tmp 52) 22 rfl w.heap.size 24 i0 (.agg #[.int .i64 0, .int .i64 0]) 2 16 Try.underlying22 hi hz0 hz1 hz2 rfl (by decide) (.slice An nn cn) nn _ rfl (own_kp0 HO.out ((Kp.refl [] _).alloc _)) _ _ 1 1 [.int .i64 (x0 : Int), .int .i64 (x1 : Int)] rfl rfl (Rd.new wr #[.int .i64 (x0 : Int), .int .i64 (x1 : Int)] 24 (0, 0)) (by intro u hu; simp at hu; rcases hu with rfl | rfl <;> rfl) (by unfold maxLen; omega) (by omega) (by have := HSZ.out; simp; omega) ?_); intro v3 w3 hown3 hgrow3 hat3
                                 obtain ⟨hka, hga⟩ := app_facts hgrow3 hat3
                                 obtain ⟨A3', ca', rfl, _⟩ := own_form hown3
                                 have HO3 := Lib.hid (show w3.ownsRow w.heap.size 24 2 (.slice A3' (nn + 1) ca') (nn + 1) (pc (D ++ [(x0, x1)])) from by rw [pc_append]; exact hown3)
                                 have HF3 := Lib.hid (HF.out.step hka (fun _ h => h) hga)
                                 have HG3 := Lib.hid (show g ∉ ownL (.slice A3' (nn + 1) ca') from fun hm => by rcases hga g hm with h | h; exact HG.out h; have := HBG.out.lt; omega)
                                 have HBG3 := Lib.hid (HBG.out.kp hka HG.out)
                                 have HK3 := Lib.hid (HK.out.trans' hka (fun x hx => .inr (own_ge HO.out (mem_ownL.1 hx)).1))
                                 clear hka hga hown3 hgrow3 hat3)
                    exact ⟨⟨0 + 1, nn + 1, ca', A3', D ++ [(x0, x1)], by go_num, rfl, by omega, by omega, Lib.hid (by rw [HDQ.out, kidsQ_on (by omega) HBV.out, List.append_assoc, HKC.out]), Lib.hid (by rw [List.length_append, HDL.out]; rfl), HO3, HF3, HBG3, HG3, HK3⟩, by simp [intOf]⟩
                · obtain ⟨z, hz⟩ : ∃ z, z = at2 + 1 := ⟨_, rfl⟩
                  rw [← hz] at HGB
                  have hgj : (at2 : Int) + 1 = (z : Int) := by omega
                  have hzb : z ≤ 16777216 := by omega
                  clear hz
                  go_wp2_with fail
                  refine (vget_any S q (z : Int) bs _ wr HV2.out).mono ?_
                  rw [HGB.out]
                  rintro e w1 ⟨rfl, rfl⟩
                  cases b with
                  | false =>
                    go_wp2_with fail
                    exact ⟨⟨1 + 1, nn, cn, An, D, by go_num, rfl, by omega, by omega, Lib.hid (by rw [HDQ.out, kidsQ_off (by omega) HBV.out]), HDL, HO, HF, HBG, HG, HK⟩, by simp [intOf]⟩
                  | true =>
                    obtain ⟨x0, hx0⟩ : ∃ x0, x0 = 2 * r + 0 := ⟨_, rfl⟩
                    obtain ⟨x1, hx1⟩ : ∃ x1, x1 = 2 * cc + 1 := ⟨_, rfl⟩
                    have hy0 : 2 * (r : Int) = (x0 : Int) := by omega
                    have hy1 : 2 * (cc : Int) + 1 = (x1 : Int) := by omega
                    have hb0 : x0 ≤ 262144 := by omega
                    have hb1 : x1 ≤ 262144 := by omega
                    have HKC := Lib.hid (show kidC (r, cc) 1 = (x0, x1) by unfold kidC; rw [hx0, hx1])
                    have hband : bits .and .i64 1 1 = 1 := by decide
                    clear hx0 hx1
                    go_wp2_with (at_builtin; go_loud (refine wpList_append_rd rfl (.tmp 38) (.tmp 52) 22 rfl w.heap.size 24 i0 (.agg #[.int .i64 0, .int .i64 0]) 2 16 Try.underlying22 hi hz0 hz1 hz2 rfl (by decide) (.slice An nn cn) nn _ rfl (own_kp0 HO.out ((Kp.refl [] _).alloc _)) _ _ 1 1 [.int .i64 (x0 : Int), .int .i64 (x1 : Int)] rfl rfl (Rd.new wr #[.int .i64 (x0 : Int), .int .i64 (x1 : Int)] 24 (0, 0)) (by intro u hu; simp at hu; rcases hu with rfl | rfl <;> rfl) (by unfold maxLen; omega) (by omega) (by have := HSZ.out; simp; omega) ?_); intro v3 w3 hown3 hgrow3 hat3
                                 obtain ⟨hka, hga⟩ := app_facts hgrow3 hat3
                                 obtain ⟨A3', ca', rfl, _⟩ := own_form hown3
                                 have HO3 := Lib.hid (show w3.ownsRow w.heap.size 24 2 (.slice A3' (nn + 1) ca') (nn + 1) (pc (D ++ [(x0, x1)])) from by rw [pc_append]; exact hown3)
                                 have HF3 := Lib.hid (HF.out.step hka (fun _ h => h) hga)
                                 have HG3 := Lib.hid (show g ∉ ownL (.slice A3' (nn + 1) ca') from fun hm => by rcases hga g hm with h | h; exact HG.out h; have := HBG.out.lt; omega)
                                 have HBG3 := Lib.hid (HBG.out.kp hka HG.out)
                                 have HK3 := Lib.hid (HK.out.trans' hka (fun x hx => .inr (own_ge HO.out (mem_ownL.1 hx)).1))
                                 clear hka hga hown3 hgrow3 hat3)
                    exact ⟨⟨1 + 1, nn + 1, ca', A3', D ++ [(x0, x1)], by go_num, rfl, by omega, by omega, Lib.hid (by rw [HDQ.out, kidsQ_on (by omega) HBV.out, List.append_assoc, HKC.out]), Lib.hid (by rw [List.length_append, HDL.out]; rfl), HO3, HF3, HBG3, HG3, HK3⟩, by simp [intOf]⟩
                · obtain ⟨z, hz⟩ : ∃ z, z = at2 + 2 := ⟨_, rfl⟩
                  rw [← hz] at HGB
                  have hgj : (at2 : Int) + 2 = (z : Int) := by omega
                  have hzb : z ≤ 16777216 := by omega
                  clear hz
                  go_wp2_with fail
                  refine (vget_any S q (z : Int) bs _ wr HV2.out).mono ?_
                  rw [HGB.out]
                  rintro e w1 ⟨rfl, rfl⟩
                  cases b with
                  | false =>
                    go_wp2_with fail
                    exact ⟨⟨2 + 1, nn, cn, An, D, by go_num, rfl, by omega, by omega, Lib.hid (by rw [HDQ.out, kidsQ_off (by omega) HBV.out]), HDL, HO, HF, HBG, HG, HK⟩, by simp [intOf]⟩
                  | true =>
                    obtain ⟨x0, hx0⟩ : ∃ x0, x0 = 2 * r + 1 := ⟨_, rfl⟩
                    obtain ⟨x1, hx1⟩ : ∃ x1, x1 = 2 * cc + 0 := ⟨_, rfl⟩
                    have hy0 : 2 * (r : Int) + 1 = (x0 : Int) := by omega
                    have hy1 : 2 * (cc : Int) = (x1 : Int) := by omega
                    have hb0 : x0 ≤ 262144 := by omega
                    have hb1 : x1 ≤ 262144 := by omega
                    have HKC := Lib.hid (show kidC (r, cc) 2 = (x0, x1) by unfold kidC; rw [hx0, hx1])
                    have hband : bits .and .i64 2 1 = 0 := by decide
                    clear hx0 hx1
                    go_wp2_with (at_builtin; go_loud (refine wpList_append_rd rfl (.tmp 38) (.tmp 52) 22 rfl w.heap.size 24 i0 (.agg #[.int .i64 0, .int .i64 0]) 2 16 Try.underlying22 hi hz0 hz1 hz2 rfl (by decide) (.slice An nn cn) nn _ rfl (own_kp0 HO.out ((Kp.refl [] _).alloc _)) _ _ 1 1 [.int .i64 (x0 : Int), .int .i64 (x1 : Int)] rfl rfl (Rd.new wr #[.int .i64 (x0 : Int), .int .i64 (x1 : Int)] 24 (0, 0)) (by intro u hu; simp at hu; rcases hu with rfl | rfl <;> rfl) (by unfold maxLen; omega) (by omega) (by have := HSZ.out; simp; omega) ?_); intro v3 w3 hown3 hgrow3 hat3
                                 obtain ⟨hka, hga⟩ := app_facts hgrow3 hat3
                                 obtain ⟨A3', ca', rfl, _⟩ := own_form hown3
                                 have HO3 := Lib.hid (show w3.ownsRow w.heap.size 24 2 (.slice A3' (nn + 1) ca') (nn + 1) (pc (D ++ [(x0, x1)])) from by rw [pc_append]; exact hown3)
                                 have HF3 := Lib.hid (HF.out.step hka (fun _ h => h) hga)
                                 have HG3 := Lib.hid (show g ∉ ownL (.slice A3' (nn + 1) ca') from fun hm => by rcases hga g hm with h | h; exact HG.out h; have := HBG.out.lt; omega)
                                 have HBG3 := Lib.hid (HBG.out.kp hka HG.out)
                                 have HK3 := Lib.hid (HK.out.trans' hka (fun x hx => .inr (own_ge HO.out (mem_ownL.1 hx)).1))
                                 clear hka hga hown3 hgrow3 hat3)
                    exact ⟨⟨2 + 1, nn + 1, ca', A3', D ++ [(x0, x1)], by go_num, rfl, by omega, by omega, Lib.hid (by rw [HDQ.out, kidsQ_on (by omega) HBV.out, List.append_assoc, HKC.out]), Lib.hid (by rw [List.length_append, HDL.out]; rfl), HO3, HF3, HBG3, HG3, HK3⟩, by simp [intOf]⟩
                · obtain ⟨z, hz⟩ : ∃ z, z = at2 + 3 := ⟨_, rfl⟩
                  rw [← hz] at HGB
                  have hgj : (at2 : Int) + 3 = (z : Int) := by omega
                  have hzb : z ≤ 16777216 := by omega
                  clear hz
                  go_wp2_with fail
                  refine (vget_any S q (z : Int) bs _ wr HV2.out).mono ?_
                  rw [HGB.out]
                  rintro e w1 ⟨rfl, rfl⟩
                  cases b with
                  | false =>
                    go_wp2_with fail
                    exact ⟨⟨3 + 1, nn, cn, An, D, by go_num, rfl, by omega, by omega, Lib.hid (by rw [HDQ.out, kidsQ_off (by omega) HBV.out]), HDL, HO, HF, HBG, HG, HK⟩, by simp [intOf]⟩
                  | true =>
                    obtain ⟨x0, hx0⟩ : ∃ x0, x0 = 2 * r + 1 := ⟨_, rfl⟩
                    obtain ⟨x1, hx1⟩ : ∃ x1, x1 = 2 * cc + 1 := ⟨_, rfl⟩
                    have hy0 : 2 * (r : Int) + 1 = (x0 : Int) := by omega
                    have hy1 : 2 * (cc : Int) + 1 = (x1 : Int) := by omega
                    have hb0 : x0 ≤ 262144 := by omega
                    have hb1 : x1 ≤ 262144 := by omega
                    have HKC := Lib.hid (show kidC (r, cc) 3 = (x0, x1) by unfold kidC; rw [hx0, hx1])
                    have hband : bits .and .i64 3 1 = 1 := by decide
                    clear hx0 hx1
                    go_wp2_with (at_builtin; go_loud (refine wpList_append_rd rfl (.tmp 38) (.tmp 52) 22 rfl w.heap.size 24 i0 (.agg #[.int .i64 0, .int .i64 0]) 2 16 Try.underlying22 hi hz0 hz1 hz2 rfl (by decide) (.slice An nn cn) nn _ rfl (own_kp0 HO.out ((Kp.refl [] _).alloc _)) _ _ 1 1 [.int .i64 (x0 : Int), .int .i64 (x1 : Int)] rfl rfl (Rd.new wr #[.int .i64 (x0 : Int), .int .i64 (x1 : Int)] 24 (0, 0)) (by intro u hu; simp at hu; rcases hu with rfl | rfl <;> rfl) (by unfold maxLen; omega) (by omega) (by have := HSZ.out; simp; omega) ?_); intro v3 w3 hown3 hgrow3 hat3
                                 obtain ⟨hka, hga⟩ := app_facts hgrow3 hat3
                                 obtain ⟨A3', ca', rfl, _⟩ := own_form hown3
                                 have HO3 := Lib.hid (show w3.ownsRow w.heap.size 24 2 (.slice A3' (nn + 1) ca') (nn + 1) (pc (D ++ [(x0, x1)])) from by rw [pc_append]; exact hown3)
                                 have HF3 := Lib.hid (HF.out.step hka (fun _ h => h) hga)
                                 have HG3 := Lib.hid (show g ∉ ownL (.slice A3' (nn + 1) ca') from fun hm => by rcases hga g hm with h | h; exact HG.out h; have := HBG.out.lt; omega)
                                 have HBG3 := Lib.hid (HBG.out.kp hka HG.out)
                                 have HK3 := Lib.hid (HK.out.trans' hka (fun x hx => .inr (own_ge HO.out (mem_ownL.1 hx)).1))
                                 clear hka hga hown3 hgrow3 hat3)
                    exact ⟨⟨3 + 1, nn + 1, ca', A3', D ++ [(x0, x1)], by go_num, rfl, by omega, by omega, Lib.hid (by rw [HDQ.out, kidsQ_on (by omega) HBV.out, List.append_assoc, HKC.out]), Lib.hid (by rw [List.length_append, HDL.out]; rfl), HO3, HF3, HBG3, HG3, HK3⟩, by simp [intOf]⟩
              · obtain rfl : j = 4 := by omega
                have hat3 : at2 + 4 ≤ 16777216 := by omega
                go_wp2_with fail
                exact ⟨⟨k + 1, at2 + 4, nn, cn, An, D, by go_num, by go_num, rfl, by omega, Lib.hid (by have := HAT.out; omega), Lib.hid (by rw [HDQ.out, HD0.out, HD.out, kidsC_snoc HP.out, List.drop_drop, HAT.out]), HDL, HO, HF, HK⟩, by simp [intOf]; omega⟩
          · obtain rfl : k = n := by omega
            have hat4 : at2 = a0 + 4 * k := HAT.out
            have HC4 := Lib.hid (show C.take k = C from List.take_of_length_le (Nat.le_of_eq HC.out))
            have HR4 := Lib.hid (show R = growB (h - (i + 1)) (bs.drop at2) D by rw [HR3.out, HD.out, HC4.out, hat4])
            have hatN : at2 ≤ N := by omega
            have hnN : nn ≤ N + 1 := by omega
            clear hat4
            go_wp2_with fail
            exact ⟨⟨i + 1, at2, nn, cn, An, D, by go_num, rfl, rfl, by omega, hatN, hnN, HDL, HR4, Lib.hid ⟨own_rd HO.out, fun _ _ _ => by simp⟩, Lib.hid (by rw [HD.out, HC4.out]; exact kids_lt HB.out), HK⟩, by simp [intOf]; omega⟩
    · obtain rfl : i = h := by omega
      have HR2 := Lib.hid (show growB i bs [(0, 0)] = some C by rw [← HRR.out, HR.out, Nat.sub_self]; rfl)
      go_wp2_with fail
      go_ret2
      exact ⟨HK.out, .inr ⟨C, A, n, c, HR2.out, HC.out, hn, rfl, HF.out.1, HB.out⟩⟩
end Go.Proofs.Ytldmabkilgpgcaa
namespace Go.Proofs.Ytldmabkilgpgcaa

def lessN (a b : Nat × Nat) : Prop := a.1 < b.1 ∨ a.1 = b.1 ∧ a.2 < b.2
def lessB (a b : Nat × Nat) : Bool := decide (a.1 < b.1 ∨ a.1 = b.1 ∧ a.2 < b.2)
theorem lessB_iff {a b : Nat × Nat} : lessB a b = true ↔ lessN a b := decide_eq_true_iff
theorem lessB_not {a b : Nat × Nat} : lessB a b = false ↔ ¬ lessN a b := decide_eq_false_iff_not
theorem lessN_trans {a b c : Nat × Nat} (h : lessN a b) (k : lessN b c) : lessN a c := by unfold lessN at *; omega
theorem lessN_tri {a b : Nat × Nat} (h : ¬ lessN a b) (hne : a ≠ b) : lessN b a := by
  unfold lessN at *
  have : ¬ (a.1 = b.1 ∧ a.2 = b.2) := fun e => hne (Prod.ext e.1 e.2)
  omega
theorem lessN_ne {a b : Nat × Nat} (h : lessN a b) : a ≠ b := by rintro rfl; unfold lessN at h; omega
theorem sorted_nodup {l : List (Nat × Nat)} (h : l.Pairwise lessN) : l.Nodup := List.nodup_iff_pairwise_ne.2 (h.imp lessN_ne)
theorem take_drop_at {α : Type} {l : List α} {k : Nat} {x : α} (h : l[k]? = some x) : l = l.take k ++ x :: l.drop (k + 1) := by
  obtain ⟨hk, e⟩ := List.getElem?_eq_some_iff.1 h
  have := List.take_append_drop k l
  rw [List.drop_eq_getElem_cons hk, e] at this
  exact this.symm
theorem ins_sorted {out : List (Nat × Nat)} {x : Nat × Nat} {k : Nat} (h : out.Pairwise lessN) (h1 : ∀ y ∈ out.take k, lessN y x) (h2 : ∀ y, out[k]? = some y → ¬ lessN y x ∧ y ≠ x) : (out.take k ++ x :: out.drop k).Pairwise lessN := by
  have e := List.take_append_drop k out
  rw [← e, List.pairwise_append] at h
  obtain ⟨a, b, c⟩ := h
  have hd : ∀ z ∈ out.drop k, lessN x z := by
    intro z hz
    rcases Nat.lt_or_ge k out.length with hlt | hge
    · have hy := List.getElem?_eq_getElem hlt
      obtain ⟨n1, n2⟩ := h2 _ hy
      have hxy := lessN_tri n1 n2
      rw [List.drop_eq_getElem_cons hlt] at hz b
      rcases List.mem_cons.1 hz with rfl | hz
      · exact hxy
      · exact lessN_trans hxy ((List.pairwise_cons.1 b).1 z hz)
    · rw [List.drop_of_length_le hge] at hz
      cases hz
  rw [List.pairwise_append]
  refine ⟨a, List.pairwise_cons.2 ⟨hd, b⟩, fun y hy z hz => ?_⟩
  rcases List.mem_cons.1 hz with rfl | hz
  · exact h1 y hy
  · exact c y hy z hz
theorem ins_mem {out : List (Nat × Nat)} {x y : Nat × Nat} {k : Nat} : y ∈ out.take k ++ x :: out.drop k ↔ y ∈ out ∨ y = x := by
  conv => rhs; rw [← List.take_append_drop k out]
  simp only [List.mem_append, List.mem_cons]
  constructor
  · rintro (h | h | h)
    · exact .inl (.inl h)
    · exact .inr h
    · exact .inl (.inr h)
  · rintro ((h | h) | h)
    · exact .inl h
    · exact .inr (.inr h)
    · exact .inr (.inl h)
theorem same_len {l m : List (Nat × Nat)} (hl : l.Nodup) (hm : m.Nodup) (h : SameS l m) : l.length = m.length := ((List.perm_ext_iff_of_nodup hl hm).2 h).length_eq

/-- A square of the document: how many halvings above cells, its place, its pairs. -/
abbrev Ent := Nat × (Nat × Nat) × List (Nat × Nat)
/-- Is a pair in a square that begins at r, c and is so wide? -/
def inSq (r c s : Nat) (p : Nat × Nat) : Bool := decide (r ≤ p.1 ∧ p.1 < r + s ∧ c ≤ p.2 ∧ p.2 < c + s)
theorem div_in {x d R : Nat} (hd : 0 < d) : (R * d ≤ x ∧ x < R * d + d) ↔ x / d = R := by
  constructor
  · rintro ⟨h1, h2⟩
    refine Nat.div_eq_of_lt_le h1 ?_
    rw [Nat.succ_mul]
    exact h2
  · rintro rfl
    have h1 := Nat.div_mul_le_self x d
    have h2 := Nat.lt_div_mul_add (a := x) hd
    exact ⟨h1, h2⟩
theorem inSq_part {a q : Nat} {c : Nat × Nat} {l : List (Nat × Nat)} (h : AtC (a + 1) c l) : l.filter (inSq ((kidC c q).1 * 2 ^ a) ((kidC c q).2 * 2 ^ a) (2 ^ a)) = part a l q := by
  unfold part
  refine List.filter_congr fun p hp => ?_
  obtain ⟨h1, h2⟩ := h p hp
  have hd : 0 < 2 ^ a := Nat.pow_pos (by omega)
  rw [Nat.pow_succ, ← Nat.div_div_eq_div_mul] at h1 h2
  rw [Bool.eq_iff_iff, beq_iff_eq]
  unfold inSq
  rw [decide_eq_true_iff]
  have e1 := div_in (x := p.1) (R := (kidC c q).1) hd
  have e2 := div_in (x := p.2) (R := (kidC c q).2) hd
  unfold qN
  unfold kidC at e1 e2 ⊢
  simp only at e1 e2 ⊢
  constructor
  · rintro ⟨g1, g2, g3, g4⟩
    have f1 := e1.1 ⟨g1, g2⟩
    have f2 := e2.1 ⟨g3, g4⟩
    omega
  · intro hh
    have f1 := e1.2 (by omega)
    have f2 := e2.2 (by omega)
    exact ⟨f1.1, f1.2, f2.1, f2.2⟩
/-- The squares that are not empty, of one. -/
def entP (a : Nat) (e : Ent) (q : Nat) : List Ent := (([0, 1, 2, 3].take q).filter fun j => !(part a e.2.2 j).isEmpty).map fun j => (a, kidC e.2.1 j, part a e.2.2 j)
def entN (a : Nat) (e : Ent) : List Ent := entP a e 4
def bitP (a : Nat) (e : Ent) (q : Nat) : List Bool := ([0, 1, 2, 3].take q).map fun j => !(part a e.2.2 j).isEmpty
theorem bit_ent (a : Nat) (e : Ent) (q : Nat) : (bitP a e q).count true = (entP a e q).length := by
  unfold bitP entP
  generalize [0, 1, 2, 3].take q = l
  rw [List.length_map]
  induction l with
  | nil => rfl
  | cons x l ih =>
    rw [List.map_cons, List.filter_cons]
    cases (part a e.2.2 x).isEmpty <;> simp [ih]
theorem take4 {q : Nat} (hq : q < 4) : [0, 1, 2, 3].take (q + 1) = [0, 1, 2, 3].take q ++ [q] := by
  rcases (show q = 0 ∨ q = 1 ∨ q = 2 ∨ q = 3 by omega) with rfl | rfl | rfl | rfl <;> rfl
theorem entP_yes {a q : Nat} {e : Ent} (hq : q < 4) (h : (part a e.2.2 q).isEmpty = false) : entP a e (q + 1) = entP a e q ++ [(a, kidC e.2.1 q, part a e.2.2 q)] := by
  unfold entP
  rw [take4 hq, List.filter_append, List.map_append]
  simp [h]
theorem entP_no {a q : Nat} {e : Ent} (hq : q < 4) (h : (part a e.2.2 q).isEmpty = true) : entP a e (q + 1) = entP a e q := by
  unfold entP
  rw [take4 hq, List.filter_append, List.map_append]
  simp [h]
theorem bitP_succ {a q : Nat} {e : Ent} (hq : q < 4) : bitP a e (q + 1) = bitP a e q ++ [!(part a e.2.2 q).isEmpty] := by
  unfold bitP
  rw [take4 hq, List.map_append]
  rfl
theorem bitP_len {a q : Nat} {e : Ent} (hq : q ≤ 4) : (bitP a e q).length = q := by
  unfold bitP
  rw [List.length_map, List.length_take]
  simp
  omega
theorem bitP_four (a : Nat) (e : Ent) : bitP a e 4 = (parts a e.2.2).map fun l => !l.isEmpty := rfl
theorem entN_snd (a : Nat) (e : Ent) : (entN a e).map (·.2.2) = (parts a e.2.2).filter fun l => !l.isEmpty := by
  unfold entN entP parts
  simp only [List.take_succ_cons, List.take_zero, List.map_map]
  rcases h0 : (part a e.2.2 0).isEmpty <;> rcases h1 : (part a e.2.2 1).isEmpty <;> rcases h2 : (part a e.2.2 2).isEmpty <;> rcases h3 : (part a e.2.2 3).isEmpty <;> simp [h0, h1, h2, h3]
theorem next_ent (a : Nat) : ∀ cur : List Ent, nextL a (cur.map (·.2.2)) = (cur.flatMap (entN a)).map (·.2.2)
  | [] => rfl
  | e :: cur => by
    rw [List.map_cons, nextL_cons, List.flatMap_cons, List.map_append, entN_snd, next_ent a cur]
theorem mem_entN {a : Nat} {e x : Ent} (h : x ∈ entN a e) (ha : AtC (a + 1) e.2.1 e.2.2) : x.1 = a ∧ AtC a x.2.1 x.2.2 ∧ x.2.2.Sublist e.2.2 := by
  unfold entN entP at h
  obtain ⟨q, hq, rfl⟩ := List.mem_map.1 h
  exact ⟨rfl, ha.kid, List.filter_sublist⟩
/-- A node's square lies within the whole. -/
def FitC (h : Nat) (e : Ent) : Prop := (e.2.1.1 + 1) * 2 ^ e.1 ≤ 2 ^ h ∧ (e.2.1.2 + 1) * 2 ^ e.1 ≤ 2 ^ h
theorem FitC.kid {h a : Nat} {e x : Ent} (hx : x ∈ entN a e) (h1 : e.1 = a + 1) (hf : FitC h e) : FitC h x := by
  unfold entN entP at hx
  obtain ⟨q, hq, rfl⟩ := List.mem_map.1 hx
  have hq4 : q < 4 := by
    have := (List.mem_filter.1 hq).1
    simp at this
    omega
  obtain ⟨f1, f2⟩ := hf
  rw [h1, Nat.pow_succ] at f1 f2
  have g : ∀ c : Nat, (c + 1) * (2 ^ a * 2) ≤ 2 ^ h → ∀ r, r ≤ 1 → (2 * c + r + 1) * 2 ^ a ≤ 2 ^ h := fun c hc r hr =>
    Nat.le_trans (Nat.mul_le_mul_right _ (show 2 * c + r + 1 ≤ (c + 1) * 2 by omega)) (by rw [Nat.mul_assoc, Nat.mul_comm 2]; exact hc)
  exact ⟨g _ f1 _ (by omega), g _ f2 _ (by omega)⟩
theorem levL_nil : ∀ a, levL a [] = []
  | 0 => rfl
  | a + 1 => by unfold levL; show bitsL a [] ++ levL a (nextL a []) = []; rw [show nextL a [] = [] from rfl, levL_nil a]; rfl
/-- A kid's number as the document has it. -/
def kidJ (bs : List Bool) (M j : Nat) : Int := if bs.getD j false = true then (if 1 + (bs.take j).count true < M then ((1 + (bs.take j).count true : Nat) : Int) else -1) else -2
def kidsF (bs : List Bool) (M n : Nat) : List Int := (List.range n).map (kidJ bs M)
theorem kidsF_len (bs : List Bool) (M n : Nat) : (kidsF bs M n).length = n := by simp [kidsF]
theorem kidJ_pre {bs cs : List Bool} {M j : Nat} (h : j < bs.length) : kidJ (bs ++ cs) M j = kidJ bs M j := by
  unfold kidJ
  rw [List.take_append_of_le_length (by omega), List.getD_eq_getElem?_getD, List.getElem?_append_left h, ← List.getD_eq_getElem?_getD]
theorem kidsF_pre {bs cs : List Bool} {M n : Nat} (h : n ≤ bs.length) : kidsF (bs ++ cs) M n = kidsF bs M n :=
  List.map_congr_left fun j hj => kidJ_pre (by have := List.mem_range.1 hj; omega)
/-- The kid's number that is put: n0 nodes stand. -/
def kidV1 (a n0 : Nat) (e : Ent) (q : Nat) : Int := if (part a e.2.2 q).isEmpty then -2 else if a = 0 then -1 else ((n0 + (entP a e q).length : Nat) : Int)
theorem kidsF_four {bs : List Bool} {M n a n0 : Nat} {e : Ent} (hn : bs.length = n) (hM : if a = 0 then M ≤ 1 + bs.count true else (n0 = 1 + bs.count true ∧ n0 + (entN a e).length ≤ M)) :
    kidsF (bs ++ bitP a e 4) M (n + 4) = kidsF bs M n ++ [kidV1 a n0 e 0, kidV1 a n0 e 1, kidV1 a n0 e 2, kidV1 a n0 e 3] := by
  have step : ∀ q, q < 4 → kidJ (bs ++ bitP a e 4) M (n + q) = kidV1 a n0 e q := by
    intro q hq
    have hb : bitP a e 4 = bitP a e q ++ (!(part a e.2.2 q).isEmpty) :: (bitP a e 4).drop (q + 1) := by
      rcases (show q = 0 ∨ q = 1 ∨ q = 2 ∨ q = 3 by omega) with rfl | rfl | rfl | rfl <;> rfl
    have hl := bitP_len (a := a) (e := e) (q := q) (by omega)
    have hc := bit_ent a e q
    have hle : (entP a e q).length ≤ (entN a e).length := by
      unfold entN entP
      rw [List.length_map, List.length_map]
      exact (List.Sublist.filter _ (by rcases (show q = 0 ∨ q = 1 ∨ q = 2 ∨ q = 3 by omega) with rfl | rfl | rfl | rfl <;> decide)).length_le
    have hlt : (part a e.2.2 q).isEmpty = false → (entP a e q).length < (entN a e).length := by
      intro hne
      have h1 := entP_yes hq hne
      have h2 : (entP a e (q + 1)).length ≤ (entN a e).length := by
        unfold entN entP
        rw [List.length_map, List.length_map]
        exact (List.Sublist.filter _ (by rcases (show q = 0 ∨ q = 1 ∨ q = 2 ∨ q = 3 by omega) with rfl | rfl | rfl | rfl <;> decide)).length_le
      rw [h1, List.length_append] at h2
      simp at h2
      omega
    unfold kidJ kidV1
    have hg : (bs ++ bitP a e 4).getD (n + q) false = !(part a e.2.2 q).isEmpty := by
      rw [List.getD_eq_getElem?_getD, List.getElem?_append_right (by omega), hn, show n + q - n = q by omega, hb, List.getElem?_append_right (by omega), hl, Nat.sub_self]
      rfl
    have ht : ((bs ++ bitP a e 4).take (n + q)).count true = bs.count true + (entP a e q).length := by
      rw [List.take_append, List.take_of_length_le (by omega), hn, show n + q - n = q by omega, hb, List.take_append_of_le_length (by omega), List.take_of_length_le (by omega), List.count_append, hc]
    rw [hg, ht]
    cases he : (part a e.2.2 q).isEmpty
    · have := hlt he
      by_cases ha : a = 0
      · rw [if_pos ha] at hM
        simp [ha]
        omega
      · rw [if_neg ha] at hM
        simp [ha]
        rw [if_pos (by omega)]
        omega
    · simp
  unfold kidsF
  rw [show n + 4 = n + 1 + 1 + 1 + 1 from rfl, List.range_succ, List.range_succ, List.range_succ, List.range_succ]
  simp only [List.map_append, List.map_cons, List.map_nil, List.append_assoc, List.cons_append, List.nil_append]
  have h0 := step 0 (by omega)
  have h1 := step 1 (by omega)
  have h2 := step 2 (by omega)
  have h3 := step 3 (by omega)
  rw [Nat.add_zero] at h0
  rw [h0, h1, show n + 1 + 1 = n + 2 from rfl, h2, show n + 2 + 1 = n + 3 from rfl, h3]
  congr 1
  refine List.map_congr_left fun j hj => kidJ_pre (by have := List.mem_range.1 hj; omega)
/-- How far the document has come: i nodes are done; those that stand, the bits, the kids. -/
def Bfs (h : Nat) (L : List (Nat × Nat)) (i : Nat) (Q : List Ent) (bs : List Bool) (ks : List Int) : Prop :=
  ∃ (a : Nat) (pre : List Bool) (off k : Nat) (Q0 cur : List Ent), Q0.length = off ∧ i = off + k ∧ k ≤ cur.length ∧
    Q = Q0 ++ cur ++ (if a = 0 then [] else (cur.take k).flatMap (entN a)) ∧ bs = pre ++ bitsL a ((cur.take k).map (·.2.2)) ∧ levL h [L] = pre ++ levL (a + 1) (cur.map (·.2.2)) ∧
    (∀ e ∈ cur, e.1 = a + 1 ∧ AtC (a + 1) e.2.1 e.2.2 ∧ e.2.2.Sublist L ∧ FitC h e) ∧ Ahead pre off cur.length ∧ (∀ M, (if a = 0 then M = Q.length else Q.length ≤ M) → ks = kidsF bs M (4 * i)) ∧ a + 1 ≤ h
theorem Bfs.start {h : Nat} {L : List (Nat × Nat)} (h1 : 1 ≤ h) (hL : ∀ p ∈ L, p.1 < 2 ^ h ∧ p.2 < 2 ^ h) : Bfs h L 0 [(h, (0, 0), L)] [] [] := by
  obtain ⟨a, rfl⟩ : ∃ a, h = a + 1 := ⟨h - 1, by omega⟩
  refine ⟨a, [], 0, 0, [], [(a + 1, (0, 0), L)], rfl, rfl, by simp, ?_, rfl, rfl, fun e he => ?_, ⟨rfl, rfl⟩, fun M _ => rfl, Nat.le_refl _⟩
  · cases a <;> rfl
  · rw [List.mem_singleton] at he
    subst he
    exact ⟨rfl, fun p hp => ⟨Nat.div_eq_of_lt (hL p hp).1, Nat.div_eq_of_lt (hL p hp).2⟩, List.Sublist.refl _, by unfold FitC; simp⟩
/-- What a node is that is not done yet, and what is done then. -/
theorem Bfs.step {h i : Nat} {L : List (Nat × Nat)} {Q : List Ent} {bs : List Bool} {ks : List Int} (hB : Bfs h L i Q bs ks) (hi : i < Q.length) :
    ∃ (a : Nat) (e : Ent), Q[i]? = some e ∧ e.1 = a + 1 ∧ AtC (a + 1) e.2.1 e.2.2 ∧ e.2.2.Sublist L ∧ FitC h e ∧ a + 1 ≤ h ∧ bs.length = 4 * i ∧ bs.length + 4 ≤ (levL h [L]).length ∧ Q.length ≤ 1 + bs.count true ∧
      Bfs h L (i + 1) (Q ++ (if a = 0 then [] else entN a e)) (bs ++ bitP a e 4) (ks ++ [kidV1 a Q.length e 0, kidV1 a Q.length e 1, kidV1 a Q.length e 2, kidV1 a Q.length e 3]) := by
  -- a level that has nodes left
  have norm : ∃ (a : Nat) (pre : List Bool) (off k : Nat) (Q0 cur : List Ent), Q0.length = off ∧ i = off + k ∧ k < cur.length ∧
    Q = Q0 ++ cur ++ (if a = 0 then [] else (cur.take k).flatMap (entN a)) ∧ bs = pre ++ bitsL a ((cur.take k).map (·.2.2)) ∧ levL h [L] = pre ++ levL (a + 1) (cur.map (·.2.2)) ∧
    (∀ e ∈ cur, e.1 = a + 1 ∧ AtC (a + 1) e.2.1 e.2.2 ∧ e.2.2.Sublist L ∧ FitC h e) ∧ Ahead pre off cur.length ∧ (∀ M, (if a = 0 then M = Q.length else Q.length ≤ M) → ks = kidsF bs M (4 * i)) ∧ a + 1 ≤ h := by
    obtain ⟨a, pre, off, k, Q0, cur, h1, h2, h3, h4, h5, h6, h7, h8, h9, h10⟩ := hB
    rcases Nat.lt_or_ge k cur.length with hk | hk
    · exact ⟨a, pre, off, k, Q0, cur, h1, h2, hk, h4, h5, h6, h7, h8, h9, h10⟩
    · have hk' : k = cur.length := by omega
      have ha : a ≠ 0 := by
        rintro rfl
        rw [if_pos rfl, List.append_nil] at h4
        rw [h4, List.length_append] at hi
        omega
      obtain ⟨b, rfl⟩ : ∃ b, a = b + 1 := ⟨a - 1, by omega⟩
      rw [if_neg ha, hk', List.take_length] at h4
      rw [hk', List.take_length] at h5
      have hlen : Q.length = off + cur.length + (cur.flatMap (entN (b + 1))).length := by rw [h4, List.length_append, List.length_append, h1]
      refine ⟨b, bs, off + cur.length, 0, Q0 ++ cur, cur.flatMap (entN (b + 1)), by rw [List.length_append, h1], by omega, by omega, ?_, ?_, ?_, fun x hx => ?_, ?_, fun M hM => h9 M ?_, by omega⟩
      · rw [h4]; cases b <;> simp
      · show bs = bs ++ bitsL b []
        rw [show bitsL b [] = [] from rfl, List.append_nil]
      · rw [h6, h5, List.append_assoc]
        congr 1
        show bitsL (b + 1) _ ++ levL (b + 1) (nextL (b + 1) _) = _
        rw [next_ent]
      · obtain ⟨e, he, hxe⟩ := List.mem_flatMap.1 hx
        obtain ⟨g1, g2, g3, g4⟩ := h7 e he
        obtain ⟨f1, f2, f3⟩ := mem_entN hxe g2
        exact ⟨f1, f2, f3.trans g3, g4.kid hxe g1⟩
      · have := Ahead.next (b + 1) (sq := cur.map (·.2.2)) (by rw [List.length_map]; exact h8)
        rw [← h5, next_ent, List.length_map, List.length_map] at this
        exact this
      · rw [if_neg ha]
        split at hM <;> omega
  obtain ⟨a, pre, off, k, Q0, cur, h1, h2, h3, h4, h5, h6, h7, h8, h9, h10⟩ := norm
  obtain ⟨e, he⟩ : ∃ e, cur[k]? = some e := ⟨_, List.getElem?_eq_getElem h3⟩
  obtain ⟨g1, g2, g3, g4⟩ := h7 e (List.mem_of_getElem? he)
  have htk : cur.take (k + 1) = cur.take k ++ [e] := by rw [List.take_add_one, he]; rfl
  have hbl : bs.length = 4 * i := by
    rw [h5, List.length_append, bitsL_len, List.length_map, List.length_take, h8.1]
    omega
  have hcnt : bs.count true = pre.count true + ((cur.take k).flatMap (entN a)).length := by
    rw [h5, List.count_append, bits_count, next_ent, List.length_map]
  have hQl : Q.length = off + cur.length + (if a = 0 then 0 else ((cur.take k).flatMap (entN a)).length) := by
    rw [h4, List.length_append, List.length_append, h1]
    by_cases ha : a = 0
    · rw [if_pos ha, if_pos ha]; rfl
    · rw [if_neg ha, if_neg ha]
  have h82 := h8.2
  refine ⟨a, e, ?_, g1, g2, g3, g4, h10, hbl, ?_, ?_, a, pre, off, k + 1, Q0, cur, h1, by omega, by omega, ?_, ?_, h6, h7, h8, fun M hM => ?_, h10⟩
  · rw [h4, h2, List.append_assoc, List.getElem?_append_right (by omega), h1, show off + k - off = k by omega, List.getElem?_append_left h3]
    exact he
  · have e1 : levL (a + 1) (cur.map (·.2.2)) = bitsL a (cur.map (·.2.2)) ++ levL a (nextL a (cur.map (·.2.2))) := rfl
    rw [h6, e1, List.length_append, List.length_append, bitsL_len, List.length_map, hbl, h8.1]
    omega
  · split at hQl <;> omega
  · rw [htk, List.flatMap_append, h4]
    by_cases ha : a = 0
    · simp [ha]
    · simp [ha]
  · rw [htk, List.map_append, h5, List.append_assoc]
    congr 1
    unfold bitsL
    rw [List.flatMap_append, List.map_append]
    rw [bitP_four]
    simp
  · rw [show 4 * (i + 1) = 4 * i + 4 by omega, kidsF_four (n0 := Q.length) hbl, ← h9 M]
    · by_cases ha : a = 0
      · rw [if_pos ha] at hM ⊢
        rw [if_pos ha, List.append_nil] at hM
        exact hM
      · rw [if_neg ha] at hM ⊢
        rw [if_neg ha, List.length_append] at hM
        omega
    · by_cases ha : a = 0
      · rw [if_pos ha] at hM hQl ⊢
        rw [if_pos ha, List.append_nil] at hM
        omega
      · rw [if_neg ha] at hM hQl ⊢
        rw [if_neg ha, List.length_append] at hM
        omega
theorem Bfs.done {h i : Nat} {L : List (Nat × Nat)} {Q : List Ent} {bs : List Bool} {ks : List Int} (hB : Bfs h L i Q bs ks) (hi : i = Q.length) : bs = levL h [L] ∧ bs.length = 4 * i ∧ ks = kidsF bs i (4 * i) := by
  obtain ⟨a, pre, off, k, Q0, cur, h1, h2, h3, h4, h5, h6, h7, h8, h9, h10⟩ := hB
  have hQl : Q.length = off + cur.length + (if a = 0 then 0 else ((cur.take k).flatMap (entN a)).length) := by
    rw [h4, List.length_append, List.length_append, h1]
    by_cases ha : a = 0
    · rw [if_pos ha, if_pos ha]; rfl
    · rw [if_neg ha, if_neg ha]
  have hk : k = cur.length := by split at hQl <;> omega
  have hbl : bs.length = 4 * i := by
    rw [h5, List.length_append, bitsL_len, List.length_map, List.length_take, h8.1]
    omega
  refine ⟨?_, hbl, h9 i (by split <;> omega)⟩
  rw [hk, List.take_length] at h5
  rw [h5, h6]
  congr 1
  show _ = bitsL a _ ++ levL a (nextL a _)
  have : levL a (nextL a (cur.map (·.2.2))) = [] := by
    by_cases ha : a = 0
    · subst ha; rfl
    · rw [if_neg ha, hk, List.take_length] at hQl
      have hz : cur.flatMap (entN a) = [] := List.eq_nil_of_length_eq_zero (by omega)
      rw [next_ent, hz]
      exact levL_nil a
  rw [this, List.append_nil]
end Go.Proofs.Ytldmabkilgpgcaa
