/-
  LAYER 15 (tree): Has, Bytes.
  CONDITIONS: as each says.
-/
import Derived.Test.YtldmabkilgpgcaaGq
namespace Go.Proofs.Ytldmabkilgpgcaa
open Go.RowKit

/-- Is a pair there, from a node on. -/
def hasW (bs : List Bool) : Nat → Nat → Nat × Nat → Bool
  | 0, _, _ => true
  | a + 1, node, p => if thereV bs (node : Int) (qN a p) = true then hasW bs a (kidV bs (node : Int) (qN a p)) p else false
set_option maxRecDepth 100000 in
set_option maxHeartbeats 4000000 in
theorem thas_in (S : List Nat) (p q h k r c : Nat) (bs : List Bool) (w : World) (ht : TreeM w S p q h k bs true) (hh : h ≤ 17) (hr : r < 2 ^ h) (hc : c < 2 ^ h) :
    Calls Try.prog 32 #[.pointer (some ⟨p, 0, none⟩), .agg #[.int .i64 (r : Int), .int .i64 (c : Int)]] w fun e w' => e = .returned (.bool (hasW bs h 0 (r, c))) ∧ Kp [] w w' := by
  have hp17 : 2 ^ h ≤ 2 ^ 17 := Nat.pow_le_pow_right (by omega) hh
  have hr17 : r < 131072 := Nat.lt_of_lt_of_le hr hp17
  have hc17 : c < 131072 := Nat.lt_of_lt_of_le hc hp17
  have HOI := Lib.hid (show outI ((2 ^ h : Nat) : Int) (r : Int) (c : Int) = false by
    unfold outI
    rw [decide_eq_true ⟨Int.natCast_nonneg _, Int.ofNat_lt.2 hr, Int.natCast_nonneg _, Int.ofNat_lt.2 hc⟩]
    rfl)
  obtain ⟨s, hs⟩ : ∃ s : Int, s = ((2 ^ h : Nat) : Int) := ⟨_, rfl⟩
  have hs0 : 0 ≤ s := by rw [hs]; exact Int.natCast_nonneg _
  have hs1 : s ≤ 131072 := by rw [hs]; exact Int.ofNat_le.2 hp17
  have HSD := Lib.hid (show ∀ w', TreeM w' S p q h k bs true → Calls Try.prog 18 #[.pointer (some ⟨p, 0, none⟩)] w' fun e w'' => e = .returned (.int .i64 s) ∧ w' = w'' from fun w' ht => by rw [hs]; exact tside2_any S p q h k bs true w' ht hh)
  rw [← hs] at HOI
  obtain ⟨R, hR⟩ : ∃ R, R = hasW bs h 0 (r, c) := ⟨_, rfl⟩
  rw [← hR]
  obtain ⟨w1, hw1⟩ : ∃ w1, w1 = w.alloc (.cells #[.int .i64 (r : Int), .int .i64 (c : Int)] 24) := ⟨_, rfl⟩
  obtain ⟨g, hg⟩ : ∃ g, g = w.heap.size := ⟨_, rfl⟩
  have hk1 : Kp [] w w1 := by rw [hw1]; exact (Kp.refl [] w).alloc _
  have hb1 : Blk w1 g 24 [.int .i64 (r : Int), .int .i64 (c : Int)] := by rw [hw1, hg]; exact Blk.new w _ _
  have HT := Lib.hid (ht.kp0 hk1)
  have HK := Lib.hid hk1
  have HB := Lib.hid hb1
  have hq0 : w1.cell? ⟨g, 0, none⟩ = some (.int .i64 (r : Int)) := by rw [hb1.cell]; rfl
  have hq1 : w1.cell? ⟨g, 1, none⟩ = some (.int .i64 (c : Int)) := by rw [hb1.cell]; rfl
  have HR := Lib.hid hR; clear hR
  have HW1 := Lib.hid hw1; clear hw1
  have HG := Lib.hid hg; clear hg
  clear ht hk1 hb1 hs hp17
  go_enter Try.func32, Try.ntmps32
  go_wp2_with fail
  rw [← HW1.out, ← HG.out]
  go_region_held3 (fun w' => w'.cell? ⟨g, 0, none⟩ = some (.int .i64 (r : Int)) ∧ w'.cell? ⟨g, 1, none⟩ = some (.int .i64 (c : Int))) (go_keep)
    (first
     | (go_at_call 44
        refine (tthere_any S p q h k bs true _ (HT.out.kp0 ((Kp.refl [] w1).drew))).mono ?_
        rintro e w7 ⟨rfl, rfl⟩)
     | (go_at_call 18
        refine (HSD.out _ (HT.out.kp0 ((Kp.refl [] w1).drew))).mono ?_
        rintro e w7 ⟨rfl, rfl⟩)
     | (go_at_call 37
        refine (outside_any s (r : Int) (c : Int) _ hs0 hs1 (by omega) (by omega) (by omega) (by omega)).mono ?_
        rw [HOI.out]
        rintro e w7 ⟨rfl, hk7'⟩
        have hk7 : Kp [] w1 w7 := ((Kp.refl [] w1).drew).trans hk7'
        have hq07 := hk7.cell hq0 (by simp)
        have hq17 := hk7.cell hq1 (by simp)))
  have HT7 := Lib.hid (HT.out.kp0 hk7)
  have HB7 := Lib.hid (HB.out.kp0 hk7)
  have HK7 := Lib.hid (HK.out.trans hk7)
  obtain ⟨_, c1, _⟩ := HT7.out.cells
  clear hk7 hk7' hq07 hq17 hq0 hq1 HB HK HT HW1
  go_wp2_with fail
  go_loopw [5, 6] (fun nv x wr => ∃ (a nd : Nat) (y : Int), x = .int .i64 y ∧ nv = .int .i64 (nd : Int) ∧ y = (a : Int) - 1 ∧ a ≤ h ∧ Hid (R = hasW bs a nd (r, c)) ∧ Hid (TreeM wr S p q h k bs true) ∧ Hid (Blk wr g 24 [.int .i64 (r : Int), .int .i64 (c : Int)]) ∧ Hid (Kp [] w wr)) (fun _ x _ => (intOf x + 1).toNat)
  case atStart => exact ⟨h, 0, (h : Int) - 1, rfl, rfl, rfl, Nat.le_refl _, HR, HT7, HB7, HK7⟩
  case round =>
    clear HR HT7 HB7 HK7
    obtain ⟨a, nd, y, rfl, rfl, hya, ha, HR, HT, HB, HK⟩ := hrel
    rcases Nat.eq_zero_or_pos a with rfl | ha0
    · have hyn : y < 0 := by omega
      have HR2 := Lib.hid (show R = true from HR.out)
      clear hya
      go_wp2_with fail
      go_ret
      exact ⟨by rw [HR2.out]; rfl, HK.out⟩
    obtain ⟨i, rfl⟩ : ∃ i, a = i + 1 := ⟨a - 1, by omega⟩
    obtain rfl : y = (i : Int) := by omega
    obtain ⟨x, hx⟩ : ∃ x, x = qN i (r, c) := ⟨_, rfl⟩
    have HQX := Lib.hid hx
    have hx4 : x < 4 := by rw [hx]; exact qN_lt _ _
    have HR2 := Lib.hid (show R = if thereV bs (nd : Int) x = true then hasW bs i (kidV bs (nd : Int) x) (r, c) else false by rw [hx]; exact HR.out)
    have hq0 : wr.cell? ⟨g, 0, none⟩ = some (.int .i64 (r : Int)) := by rw [HB.out.cell]; rfl
    have hq1 : wr.cell? ⟨g, 1, none⟩ = some (.int .i64 (c : Int)) := by rw [HB.out.cell]; rfl
    clear hya ha0 HR hx
    go_wp2_with fail
    refine (quarter_any i r c wr (by omega) hr17 hc17).mono ?_
    rw [← HQX.out]
    rintro e w2 ⟨rfl, hk2⟩
    have HT2 := Lib.hid (HT.out.kp0 hk2)
    have HB2 := Lib.hid (HB.out.kp0 hk2)
    have HK2 := Lib.hid (HK.out.trans hk2)
    clear hk2 hq0 hq1 HT HB HK
    go_wp2_with fail
    refine (tkids_any S p q h k (nd : Int) bs w2 HT2.out).mono ?_
    rintro e w3 ⟨rfl, hk3⟩
    have HT3 := Lib.hid (HT2.out.kp0 hk3)
    have HB3 := Lib.hid (HB2.out.kp0 hk3)
    have HK3 := Lib.hid (HK2.out.trans hk3)
    clear hk3 HT2 HB2 HK2
    have hxi0 : (0 : Int) ≤ (x : Int) := by omega
    have hxi1 : (x : Int) < 4 := by omega
    rw [show kidsA bs (nd : Int) = .agg #[.int .i64 (kidV bs (nd : Int) 0 : Int), .int .i64 (kidV bs (nd : Int) 1 : Int), .int .i64 (kidV bs (nd : Int) 2 : Int), .int .i64 (kidV bs (nd : Int) 3 : Int)] from rfl, show thereA bs (nd : Int) = .agg #[.bool (thereV bs (nd : Int) 0), .bool (thereV bs (nd : Int) 1), .bool (thereV bs (nd : Int) 2), .bool (thereV bs (nd : Int) 3)] from rfl]
    go_upto_region 9 with fail
    have p9 := (Blk.new w3 57 [.int .i64 (kidV bs (nd : Int) 0 : Int), .int .i64 (kidV bs (nd : Int) 1 : Int), .int .i64 (kidV bs (nd : Int) 2 : Int), .int .i64 (kidV bs (nd : Int) 3 : Int)]).alloc (.cells #[.bool (thereV bs (nd : Int) 0), .bool (thereV bs (nd : Int) 1), .bool (thereV bs (nd : Int) 2), .bool (thereV bs (nd : Int) 3)] 58)
    have q9 := Blk.new (w3.alloc (.cells #[.int .i64 (kidV bs (nd : Int) 0 : Int), .int .i64 (kidV bs (nd : Int) 1 : Int), .int .i64 (kidV bs (nd : Int) 2 : Int), .int .i64 (kidV bs (nd : Int) 3 : Int)] 57)) 58 [.bool (thereV bs (nd : Int) 0), .bool (thereV bs (nd : Int) 1), .bool (thereV bs (nd : Int) 2), .bool (thereV bs (nd : Int) 3)]
    rw [show (w3.alloc (.cells #[.int .i64 (kidV bs (nd : Int) 0 : Int), .int .i64 (kidV bs (nd : Int) 1 : Int), .int .i64 (kidV bs (nd : Int) 2 : Int), .int .i64 (kidV bs (nd : Int) 3 : Int)] 57)).heap.size = w3.heap.size + 1 by simp] at q9
    have hk39 : Kp [] w3 ((w3.alloc (.cells #[.int .i64 (kidV bs (nd : Int) 0 : Int), .int .i64 (kidV bs (nd : Int) 1 : Int), .int .i64 (kidV bs (nd : Int) 2 : Int), .int .i64 (kidV bs (nd : Int) 3 : Int)] 57)).alloc (.cells #[.bool (thereV bs (nd : Int) 0), .bool (thereV bs (nd : Int) 1), .bool (thereV bs (nd : Int) 2), .bool (thereV bs (nd : Int) 3)] 58)) := ((Kp.refl [] w3).alloc _).alloc _
    obtain ⟨w9, hw9⟩ : ∃ w9, w9 = (w3.alloc (.cells #[.int .i64 (kidV bs (nd : Int) 0 : Int), .int .i64 (kidV bs (nd : Int) 1 : Int), .int .i64 (kidV bs (nd : Int) 2 : Int), .int .i64 (kidV bs (nd : Int) 3 : Int)] 57)).alloc (.cells #[.bool (thereV bs (nd : Int) 0), .bool (thereV bs (nd : Int) 1), .bool (thereV bs (nd : Int) 2), .bool (thereV bs (nd : Int) 3)] 58) := ⟨_, rfl⟩
    replace p9 : Blk w9 w3.heap.size 57 [.int .i64 (kidV bs (nd : Int) 0 : Int), .int .i64 (kidV bs (nd : Int) 1 : Int), .int .i64 (kidV bs (nd : Int) 2 : Int), .int .i64 (kidV bs (nd : Int) 3 : Int)] := by rw [hw9]; exact p9
    replace q9 : Blk w9 (w3.heap.size + 1) 58 [.bool (thereV bs (nd : Int) 0), .bool (thereV bs (nd : Int) 1), .bool (thereV bs (nd : Int) 2), .bool (thereV bs (nd : Int) 3)] := by rw [hw9]; exact q9
    replace hk39 : Kp [] w3 w9 := by rw [hw9]; exact hk39
    rw [← hw9]
    have HT9 := Lib.hid (HT3.out.kp0 hk39)
    have HB9 := Lib.hid (HB3.out.kp0 hk39)
    have HK9 := Lib.hid (HK3.out.trans hk39)
    have hcx : w9.cell? ⟨w3.heap.size, x, none⟩ = some (.int .i64 (kidV bs (nd : Int) x : Int)) := by
      rw [p9.cell]
      rcases (show x = 0 ∨ x = 1 ∨ x = 2 ∨ x = 3 by omega) with rfl | rfl | rfl | rfl <;> rfl
    have hcy : w9.cell? ⟨w3.heap.size + 1, x, none⟩ = some (.bool (thereV bs (nd : Int) x)) := by
      rw [q9.cell]
      rcases (show x = 0 ∨ x = 1 ∨ x = 2 ∨ x = 3 by omega) with rfl | rfl | rfl | rfl <;> rfl
    clear hw9 p9 q9 hk39 HT3 HB3 HK3
    obtain ⟨gk, hgk⟩ : ∃ gk, gk = w3.heap.size := ⟨_, rfl⟩
    rw [← hgk] at hcx hcy ⊢
    clear hgk
    obtain ⟨K1, hK1⟩ : ∃ K1, K1 = kidV bs (nd : Int) x := ⟨_, rfl⟩
    rw [← hK1] at hcx HR2
    clear hK1
    cases hT1 : thereV bs (nd : Int) x with
    | false =>
      rw [hT1] at hcy HR2
      have HR3 := Lib.hid (show R = false from HR2.out)
      clear hT1
      go_wp2_with fail
      go_ret
      exact ⟨by rw [HR3.out]; rfl, HK9.out⟩
    | true =>
      rw [hT1] at hcy HR2
      have HR3 := Lib.hid (show R = hasW bs i K1 (r, c) from HR2.out)
      clear hT1
      go_wp2_with fail
      exact ⟨⟨i, K1, (i : Int) - 1, by go_num, rfl, rfl, by omega, HR3, HT9, HB9, HK9⟩, by simp [intOf]⟩
set_option maxRecDepth 100000 in
set_option maxHeartbeats 4000000 in
theorem thas_out (S : List Nat) (p q h k : Nat) (r c : Int) (bs : List Bool) (w : World) (ht : TreeM w S p q h k bs true) (hh : h ≤ 17) (ho : outI ((2 ^ h : Nat) : Int) r c = true) (hr0 : -9223372036854775808 ≤ r) (hr1 : r ≤ 9223372036854775807) (hc0 : -9223372036854775808 ≤ c) (hc1 : c ≤ 9223372036854775807) :
    Calls Try.prog 32 #[.pointer (some ⟨p, 0, none⟩), .agg #[.int .i64 r, .int .i64 c]] w fun e w' => e = .returned (.bool false) ∧ Kp [] w w' := by
  have hp17 : 2 ^ h ≤ 2 ^ 17 := Nat.pow_le_pow_right (by omega) hh
  obtain ⟨s, hs⟩ : ∃ s : Int, s = ((2 ^ h : Nat) : Int) := ⟨_, rfl⟩
  have hs0 : 0 ≤ s := by rw [hs]; exact Int.natCast_nonneg _
  have hs1 : s ≤ 131072 := by rw [hs]; exact Int.ofNat_le.2 hp17
  have HSD := Lib.hid (show ∀ w', TreeM w' S p q h k bs true → Calls Try.prog 18 #[.pointer (some ⟨p, 0, none⟩)] w' fun e w'' => e = .returned (.int .i64 s) ∧ w' = w'' from fun w' ht => by rw [hs]; exact tside2_any S p q h k bs true w' ht hh)
  rw [← hs] at ho
  have HOI := Lib.hid ho
  obtain ⟨w1, hw1⟩ : ∃ w1, w1 = w.alloc (.cells #[.int .i64 r, .int .i64 c] 24) := ⟨_, rfl⟩
  obtain ⟨g, hg⟩ : ∃ g, g = w.heap.size := ⟨_, rfl⟩
  have hk1 : Kp [] w w1 := by rw [hw1]; exact (Kp.refl [] w).alloc _
  have hb1 : Blk w1 g 24 [.int .i64 r, .int .i64 c] := by rw [hw1, hg]; exact Blk.new w _ _
  have HT := Lib.hid (ht.kp0 hk1)
  have HK := Lib.hid hk1
  have hq0 : w1.cell? ⟨g, 0, none⟩ = some (.int .i64 r) := by rw [hb1.cell]; rfl
  have hq1 : w1.cell? ⟨g, 1, none⟩ = some (.int .i64 c) := by rw [hb1.cell]; rfl
  have HW1 := Lib.hid hw1; clear hw1
  have HG := Lib.hid hg; clear hg
  clear ht hk1 hb1 hs hp17 ho
  go_enter Try.func32, Try.ntmps32
  go_wp2_with fail
  rw [← HW1.out, ← HG.out]
  go_region_held3 (fun w' => w'.cell? ⟨g, 0, none⟩ = some (.int .i64 r) ∧ w'.cell? ⟨g, 1, none⟩ = some (.int .i64 c)) (go_keep)
    (first
     | (go_at_call 44
        refine (tthere_any S p q h k bs true _ (HT.out.kp0 ((Kp.refl [] w1).drew))).mono ?_
        rintro e w7 ⟨rfl, rfl⟩)
     | (go_at_call 18
        refine (HSD.out _ (HT.out.kp0 ((Kp.refl [] w1).drew))).mono ?_
        rintro e w7 ⟨rfl, rfl⟩)
     | (go_at_call 37
        refine (outside_any s r c _ hs0 hs1 hr0 hr1 hc0 hc1).mono ?_
        rw [HOI.out]
        rintro e w7 ⟨rfl, hk7'⟩
        have hk7 : Kp [] w1 w7 := ((Kp.refl [] w1).drew).trans hk7'
        have hq07 := hk7.cell hq0 (by simp)
        have hq17 := hk7.cell hq1 (by simp)))
  go_wp2_with fail
  go_ret
  exact ⟨rfl, HK.out.trans hk7⟩
end Go.Proofs.Ytldmabkilgpgcaa
