/-
  THE CONTRACTS OF LAYER 5's REFERENCE, first part: a matrix of numbers in memory; the lengths of a row, written out.
  CONDITIONS: as each says.
-/
import Derived.Test.YthidmpllganmnaaTuck6
namespace Go.Proofs.Ythidmpllganmnaa
open Go.RowKit

/-- A row of numbers. -/
def rowI (n : Nat) (f : Nat → Nat) : List Value := (List.range n).map fun j => .int .i64 ((f j : Nat) : Int)
theorem rowI_len (n : Nat) (f : Nat → Nat) : (rowI n f).length = n := by simp [rowI]
theorem rowI_get {n j : Nat} (f : Nat → Nat) (h : j < n) : (rowI n f)[j]? = some (.int .i64 ((f j : Nat) : Int)) := by simp [rowI, h]
theorem rowI_congr {n : Nat} {f g : Nat → Nat} (h : ∀ k, k < n → f k = g k) : rowI n f = rowI n g := List.map_congr_left fun k hk => by rw [h k (List.mem_range.1 hk)]
theorem rowI_set {n j : Nat} (f : Nat → Nat) (a : Nat) (h : j < n) : (rowI n f).set j (.int .i64 (a : Int)) = rowI n (fun m => if m = j then a else f m) := by
  apply List.ext_getElem?
  intro i
  rw [List.getElem?_set, rowI_len]
  by_cases hi : j = i
  · subst hi
    rw [if_pos rfl, if_pos h, rowI_get _ h, if_pos rfl]
  · rw [if_neg hi]
    by_cases hin : i < n
    · rw [rowI_get _ hin, rowI_get _ hin, if_neg (by omega)]
    · rw [List.getElem?_eq_none (by rw [rowI_len]; omega), List.getElem?_eq_none (by rw [rowI_len]; omega)]
theorem rowI_zero (n : Nat) : rowI n (fun _ => 0) = List.replicate n (.int .i64 0) := by
  refine List.eq_replicate_iff.2 ⟨rowI_len _ _, fun v hv => ?_⟩
  obtain ⟨k, _, rfl⟩ := List.mem_map.1 hv
  rfl

/-- A matrix of which k rows are made. -/
structure MatK (w : World) (b G n k : Nat) (R : Nat → Nat) (F : Nat → Nat → Nat) : Prop where
  rows : Blk w G 22 ((List.range n).map fun j => if j < k then .slice (some ⟨R j, 0, none⟩) n n else .slice none 0 0)
  row : ∀ j, j < k → Blk w (R j) 3 (rowI n (F j))
  apart : ∀ i j, i < k → j < k → R i = R j → i = j
  far : b ≤ G ∧ ∀ j, j < k → b ≤ R j
section
variable {w w' : World} {b G n k : Nat} {R : Nat → Nat} {F : Nat → Nat → Nat}
theorem MatK.kp {S : List Nat} (h : MatK w b G n k R F) (hk : Kp S w w') (hG : G ∉ S) (hR : ∀ j, j < k → R j ∉ S) : MatK w' b G n k R F :=
  ⟨h.rows.kp hk hG, fun j hj => (h.row j hj).kp hk (hR j hj), h.apart, h.far⟩
theorem MatK.kp0 (h : MatK w b G n k R F) (hk : Kp [] w w') : MatK w' b G n k R F := h.kp hk (by simp) (by simp)
theorem MatK.start (hG : b ≤ G) (h : Blk w G 22 (List.replicate n (.slice none 0 0))) : MatK w b G n 0 (fun _ => 0) F :=
  ⟨by
    have e : ((List.range n).map fun j => if j < 0 then Value.slice (some ⟨0, 0, none⟩) n n else .slice none 0 0) = List.replicate n (.slice none 0 0) :=
      List.eq_replicate_iff.2 ⟨by simp, fun v hv => by
        obtain ⟨k, _, rfl⟩ := List.mem_map.1 hv
        rfl⟩
    rw [e]; exact h, fun j h => by omega, fun i j h => by omega, hG, fun j h => by omega⟩
theorem MatK.ne (h : MatK w b G n k R F) : ∀ j, j < k → R j ≠ G := fun j hj => (h.row j hj).ne h.rows (by decide)
/-- One row more. -/
theorem MatK.made (h : MatK w b G n k R (fun _ _ => 0)) (hk : k < n) (hb : b ≤ w.heap.size) :
    MatK ((w.alloc (.cells (List.replicate n (.int .i64 0)).toArray 3)).setCell ⟨G, k, none⟩ (.slice (some ⟨w.heap.size, 0, none⟩) n n)) b G n (k + 1) (fun j => if j = k then w.heap.size else R j) (fun _ _ => 0) := by
  have hGl := h.rows.lt
  rw [← rowI_zero]
  refine ⟨?_, ?_, ?_, h.far.1, ?_⟩
  · have h1 := (h.rows.alloc (.cells (rowI n (fun _ => 0)).toArray 3)).set_ k (.slice (some ⟨w.heap.size, 0, none⟩) n n)
    have e : ((List.range n).map fun j => if j < k then Value.slice (some ⟨R j, 0, none⟩) n n else .slice none 0 0).set k (.slice (some ⟨w.heap.size, 0, none⟩) n n) =
        (List.range n).map fun j => if j < k + 1 then Value.slice (some ⟨if j = k then w.heap.size else R j, 0, none⟩) n n else .slice none 0 0 := by
      apply List.ext_getElem?
      intro i
      rw [List.getElem?_set]
      simp only [List.getElem?_map, List.length_map, List.length_range]
      by_cases hi : k = i
      · subst hi
        rw [if_pos rfl, if_pos hk]
        simp [hk]
      · rw [if_neg hi]
        by_cases hin : i < n
        · simp only [List.getElem?_range hin, Option.map_some, Option.some.injEq]
          by_cases hik : i < k
          · rw [if_pos hik, if_pos (by omega), if_neg (by omega)]
          · rw [if_neg hik, if_neg (by omega)]
        · simp [hin]
    rw [e] at h1
    exact h1
  · intro j hj
    by_cases hjk : j = k
    · subst hjk
      rw [if_pos rfl]
      exact (Blk.new w 3 (rowI n (fun _ => 0))).far (p := ⟨G, j, none⟩) (by show w.heap.size ≠ G; omega) _
    · rw [if_neg hjk]
      exact ((h.row j (by omega)).alloc _).far (p := ⟨G, k, none⟩) (h.ne j (by omega)) _
  · intro i j hi hj he
    by_cases hik : i = k
    · by_cases hjk : j = k
      · omega
      · rw [if_pos hik, if_neg hjk] at he
        have := (h.row j (by omega)).lt
        omega
    · by_cases hjk : j = k
      · rw [if_neg hik, if_pos hjk] at he
        have := (h.row i (by omega)).lt
        omega
      · rw [if_neg hik, if_neg hjk] at he
        exact h.apart i j (by omega) (by omega) he
  · intro j hj
    by_cases hjk : j = k
    · rw [if_pos hjk]; exact hb
    · rw [if_neg hjk]; exact h.far.2 j (by omega)
/-- A cell's facts. -/
theorem MatK.at_ {i j : Nat} (h : MatK w b G n n R F) (hi : i < n) (hj : j < n) :
    w.cell? ⟨G, i, none⟩ = some (.slice (some ⟨R i, 0, none⟩) n n) ∧ w.cell? ⟨R i, j, none⟩ = some (.int .i64 ((F i j : Nat) : Int)) ∧ w.frozen? ⟨R i, j, none⟩ = false := by
  refine ⟨?_, ?_, (h.row i hi).free j⟩
  · rw [h.rows.cell]; simp [hi]
  · rw [(h.row i hi).cell]; exact rowI_get _ hj
/-- A cell put. -/
theorem MatK.put {i j : Nat} (h : MatK w b G n n R F) (hi : i < n) (hj : j < n) (a : Nat) :
    MatK (w.setCell ⟨R i, j, none⟩ (.int .i64 (a : Int))) b G n n R (fun x y => if x = i ∧ y = j then a else F x y) := by
  refine ⟨h.rows.far (p := ⟨R i, j, none⟩) (Ne.symm (h.ne i hi)) _, ?_, h.apart, h.far⟩
  intro x hx
  by_cases hxi : x = i
  · subst hxi
    have h2 := (h.row x hx).set_ j (.int .i64 (a : Int))
    rw [rowI_set _ _ hj] at h2
    rw [rowI_congr (g := fun m => if m = j then a else F x m) (fun k _ => by simp)]
    exact h2
  · have hne : R x ≠ R i := fun he => hxi (h.apart x i hx hi he)
    rw [rowI_congr (g := F x) (fun k _ => by simp [hxi])]
    exact (h.row x hx).far (p := ⟨R i, j, none⟩) hne _
end

set_option maxHeartbeats 1000000 in
theorem rrow_any (b G n o co cG : Nat) (R : Nat → Nat) (F : Nat → Nat → Nat) (l : List Int) (hn : n ≤ 257) (hF : ∀ i j, i < j → j < n → F i j = K (wt l) i j - i) : ∀ (m i j deep : Nat) (xs : List Int) (w : World), j - i = m → i ≤ j → j < n → deep + m ≤ 1000 → MatK w b G n n R F →
    (∀ k, k < n → R k ≠ o) → Blk w o 3 (xs.map (.int .i64)) → xs.length = n →
    Calls Try.prog 26 #[.slice (some ⟨G, 0, none⟩) n cG, .slice (some ⟨o, 0, none⟩) n co, .int .i64 i, .int .i64 j, .int .i64 deep] w fun e w' => e = .returned (.tuple #[]) ∧ Blk w' o 3 ((laidAt xs i (lens (wt l) i j deep)).map (.int .i64)) ∧ Kp [o] w w' := by
  intro m
  induction m using Nat.strongRecOn with
  | ind m ih =>
    intro i j deep xs w hm hij hj hdp ht hro ho hxl
    have IH := Lib.hid ih; clear ih
    have HT := Lib.hid ht; clear ht
    have HRO := Lib.hid hro; clear hro
    have HM := Lib.hid hm; clear hm
    have HO := Lib.hid ho; clear ho
    have HXL := Lib.hid hxl; clear hxl
    rcases Nat.eq_or_lt_of_le hij with hij | hlt
    · subst hij
      obtain ⟨u, _, hc⟩ := HO.out.ix (i := i) (by rw [List.length_map, HXL.out]; exact hj)
      have hf := HO.out.free i
      go_enter Try.func26, Try.ntmps26
      go_wp2_with fail
      refine bodyPost_ret (results_none rfl _ _ _) rfl ⟨rfl, ?_, (Kp.refl [o] w).setCell (.inl (by simp)) _⟩
      rw [lens_self, laidAt_one _ (by rw [HXL.out]; exact hj), List.map_set]
      exact HO.out.set_ i _
    · obtain ⟨c1, c2, _⟩ := HT.out.at_ (i := i) (j := j) (by omega) hj
      rw [hF i j hlt hj] at c2
      have hKb := K_bound (wt l) hlt
      obtain ⟨q, hq⟩ : ∃ q, q = K (wt l) i j - i := ⟨_, rfl⟩
      rw [← hq] at c2
      obtain ⟨k, hk⟩ : ∃ k, k = K (wt l) i j := ⟨_, rfl⟩
      obtain ⟨k1, hk1⟩ : ∃ k1, k = k1 + 1 := ⟨k - 1, by omega⟩
      have hw1 : IntKind.i64.wrap ((i : Int) + (q : Int)) = (k : Int) := by rw [IntKind.wrap_i64]; omega
      have hw2 : IntKind.i64.wrap ((k : Int) - 1) = (k1 : Int) := by rw [IntKind.wrap_i64]; omega
      have hwd : IntKind.i64.wrap ((deep : Int) + 1) = ((deep + 1 : Nat) : Int) := by rw [IntKind.wrap_i64]; omega
      have hin : i < n := by omega
      have hne : ((i : Int) == (j : Int)) = false := by simp; omega
      have HKC := Lib.hid (show lens (wt l) i j deep = lens (wt l) i k1 (deep + 1) ++ lens (wt l) k j (deep + 1) by rw [lens_cut _ _ hlt, ← hk, hk1]; rfl)
      have HB := Lib.hid (show i ≤ k1 ∧ k1 < j ∧ k1 + 1 = k ∧ k ≤ j by omega)
      clear hk1 hk hq hKb
      go_enter Try.func26, Try.ntmps26
      go_wp2_with fail
      refine (IH.out (k1 - i) (by have := HM.out; have := HB.out; omega) i k1 (deep + 1) xs w rfl HB.out.1 (by have := HB.out; omega) (by have := HM.out; have := HB.out; omega) HT.out HRO.out HO.out HXL.out).mono ?_
      rintro e w1 ⟨rfl, ho1, hkp1⟩
      have hl1 : (lens (wt l) i k1 (deep + 1)).length = k1 - i + 1 := lens_len _ _ _ _ _ rfl HB.out.1
      have hl2 : (lens (wt l) k j (deep + 1)).length = j - k + 1 := lens_len _ _ _ _ _ rfl HB.out.2.2.2
      have HL1 := Lib.hid hl1; clear hl1
      have HL2 := Lib.hid hl2; clear hl2
      have HO1 := Lib.hid ho1; clear ho1
      have HP1 := Lib.hid hkp1; clear hkp1
      have HT1 := Lib.hid (HT.out.kp HP1.out (by simp only [List.mem_singleton]; exact HT.out.rows.ne HO.out (by decide)) (by simp only [List.mem_singleton]; exact HRO.out))
      go_wp2_with fail
      refine (IH.out (j - k) (by have := HM.out; have := HB.out; omega) k j (deep + 1) (laidAt xs i (lens (wt l) i k1 (deep + 1))) w1 rfl HB.out.2.2.2 hj (by have := HM.out; have := HB.out; omega) HT1.out HRO.out HO1.out (by rw [laidAt_len (by rw [HL1.out, HXL.out]; have := HB.out; omega), HXL.out])).mono ?_
      rintro e w2 ⟨rfl, ho2, hkp2⟩
      rw [laidAt_two (by rw [HL1.out]; have := HB.out; omega) (by rw [HL1.out, HL2.out, HXL.out]; have := HB.out; omega), ← HKC.out] at ho2
      have HO2 := Lib.hid ho2; clear ho2
      have HP2 := Lib.hid (HP1.out.trans hkp2); clear hkp2
      go_wp2_with fail
      go_end0
      exact ⟨rfl, HO2.out, HP2.out⟩
end Go.Proofs.Ythidmpllganmnaa
