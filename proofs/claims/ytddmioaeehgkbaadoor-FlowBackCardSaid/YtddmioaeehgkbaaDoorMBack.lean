/-
  FlowBack, plain: a deed's bits; that they are put; that they are read back.
  CONDITIONS: as each says.
-/
import Derived.Test.YtddmioaeehgkbaaDoorFput
namespace Go.Proofs.YtddmioaeehgkbaaDoor
open Go.RowKit

/-- A deed's bits. -/
def deedB (what wide : Int) (ones : List Bool) (nums : List Int) : List Bool := if pickI what 3 = 0 then ones else if pickI what 3 = 1 then numL wide.toNat nums else gamsL nums
/-- May a deed be put? -/
def deedOk (what wide : Int) (nums : List Int) : Prop := if pickI what 3 = 0 then True else if pickI what 3 = 1 then (0 ≤ wide ∧ wide ≤ 60) ∧ nums.all (okD wide) = true else nums.all okG = true
theorem wPut_ok {L l : List Bool} (h : (wPut (L, 0) l).2 = 0) : (wPut (L, 0) l).1 = L ++ l := by
  unfold wPut at h ⊢
  rw [if_neg (by simp)] at h ⊢
  by_cases hb : 16777216 < L.length + l.length
  · rw [if_pos (show 16777216 < (L, (0 : Int)).1.length + l.length from hb)] at h; simp at h
  · rw [if_neg (show ¬ 16777216 < (L, (0 : Int)).1.length + l.length from hb)]
theorem wPut_no {L l : List Bool} (h : (wPut (L, 0) l).2 ≠ 0) : (wPut (L, 0) l).1 = L := by
  unfold wPut at h ⊢
  rw [if_neg (by simp)] at h ⊢
  by_cases hb : 16777216 < L.length + l.length
  · rw [if_pos (show 16777216 < (L, (0 : Int)).1.length + l.length from hb)]
  · rw [if_neg (show ¬ 16777216 < (L, (0 : Int)).1.length + l.length from hb)] at h; simp at h
theorem wNum_ok {L : List Bool} {M : Int} {l : List Int} (h : (wNum (L, 0) M l).2 = 0) : (wNum (L, 0) M l).1 = L ++ numL M.toNat l ∧ (0 ≤ M ∧ M ≤ 60) ∧ l.all (okD M) = true := by
  unfold wNum at h ⊢
  rw [if_neg (by simp)] at h ⊢
  by_cases hw : M < 0 ∨ 60 < M
  · rw [if_pos hw] at h; simp at h
  rw [if_neg hw] at h ⊢
  by_cases ho : l.all (okD M) = true
  · rw [if_pos ho] at h ⊢
    exact ⟨wPut_ok h, by omega, ho⟩
  · rw [if_neg ho] at h; simp at h
theorem wNum_bad {L : List Bool} {M : Int} {l : List Int} (h : (wNum (L, 0) M l).2 ≠ 0) : (wNum (L, 0) M l).1 = L := by
  unfold wNum at h ⊢
  rw [if_neg (by simp)] at h ⊢
  by_cases hw : M < 0 ∨ 60 < M
  · rw [if_pos hw]
  rw [if_neg hw] at h ⊢
  by_cases ho : l.all (okD M) = true
  · rw [if_pos ho] at h ⊢
    exact wPut_no h
  · rw [if_neg ho]
theorem wGam_ok {L : List Bool} {l : List Int} (h : (wGam (L, 0) l).2 = 0) : (wGam (L, 0) l).1 = L ++ gamsL l ∧ l.all okG = true := by
  unfold wGam at h ⊢
  rw [if_neg (by simp)] at h ⊢
  by_cases ho : l.all okG = true
  · rw [if_pos ho] at h ⊢
    exact ⟨wPut_ok h, ho⟩
  · rw [if_neg ho] at h; simp at h
theorem wGam_bad {L : List Bool} {l : List Int} (h : (wGam (L, 0) l).2 ≠ 0) : (wGam (L, 0) l).1 = L := by
  unfold wGam at h ⊢
  rw [if_neg (by simp)] at h ⊢
  by_cases ho : l.all okG = true
  · rw [if_pos ho] at h ⊢
    exact wPut_no h
  · rw [if_neg ho]
theorem fputR_ok {L : List Bool} {what wide : Int} {ones : List Bool} {nums : List Int} (h : (fputR (L, 0) what wide ones nums).2 = 0) : (fputR (L, 0) what wide ones nums).1 = L ++ deedB what wide ones nums ∧ deedOk what wide nums := by
  unfold fputR at h ⊢
  unfold deedB deedOk
  by_cases h0 : pickI what 3 = 0
  · simp only [if_pos h0] at h ⊢
    exact ⟨wPut_ok h, trivial⟩
  · by_cases h1 : pickI what 3 = 1
    · simp only [if_neg h0, if_pos h1] at h ⊢
      exact wNum_ok h
    · simp only [if_neg h0, if_neg h1] at h ⊢
      exact wGam_ok h
theorem fputR_no {L : List Bool} {what wide : Int} {ones : List Bool} {nums : List Int} (h : (fputR (L, 0) what wide ones nums).2 ≠ 0) : (fputR (L, 0) what wide ones nums).1 = L := by
  unfold fputR at h ⊢
  by_cases h0 : pickI what 3 = 0
  · simp only [if_pos h0] at h ⊢
    exact wPut_no h
  · by_cases h1 : pickI what 3 = 1
    · simp only [if_neg h0, if_pos h1] at h ⊢
      exact wNum_bad h
    · simp only [if_neg h0, if_neg h1] at h ⊢
      exact wGam_bad h
theorem drop_next {L l r : List Bool} {a : Nat} (h : L.drop a = l ++ r) : L.drop (a + l.length) = r := by
  rw [← List.drop_drop, h, List.drop_left]
theorem drop_le {L l r : List Bool} {a : Nat} (h : L.drop a = l ++ r) (ha : a ≤ L.length) : a + l.length ≤ L.length := by
  have := congrArg List.length h
  rw [List.length_drop, List.length_append] at this
  omega
/-- A bit is read back. -/
theorem rBit_back {L : List Bool} {a : Nat} {b : Bool} {r : List Bool} (h : L.drop a = b :: r) (ha : a ≤ L.length) : rNum L a false 1 = (b.toNat, a + 1, false) := by
  have hl : L.length - a = r.length + 1 := by
    have := congrArg List.length h
    rwa [List.length_drop, List.length_cons] at this
  unfold rNum
  rw [if_neg (by simp; omega), h]
  cases b <;> rfl
theorem bit_one (b : Bool) : (b.toNat == 1) = b := by cases b <;> rfl
theorem numL_cons (M : Nat) (x : Int) (l : List Int) : numL M (x :: l) = digL M x.toNat ++ numL M l := rfl
theorem gamsL_cons (x : Int) (l : List Int) : gamsL (x :: l) = gamL x.toNat ++ gamsL l := rfl
end Go.Proofs.YtddmioaeehgkbaaDoor
