/-
  PLAIN MATHEMATICS OF LAYER 5: the least cost of a row over all cuts, the first cut that reaches it, and that this cut lies between those of the two shorter rows (the quadrangle inequality).
  CONDITIONS: none beyond each lemma's own.
-/
import Derived.Test.YthidmpllganmnaaBase
namespace Go.Proofs.Ythidmpllganmnaa

/-- The first place of 0 .. m where f is least. -/
def argm (f : Nat → Nat) : Nat → Nat
  | 0 => 0
  | m + 1 => if f (m + 1) < f (argm f m) then m + 1 else argm f m
theorem argm_le (f : Nat → Nat) (m : Nat) : argm f m ≤ m := by
  induction m with
  | zero => simp [argm]
  | succ m ih => unfold argm; split <;> omega
theorem argm_min (f : Nat → Nat) (m : Nat) : ∀ k, k ≤ m → f (argm f m) ≤ f k := by
  induction m with
  | zero => intro k hk; rw [show k = 0 from by omega]; simp [argm]
  | succ m ih =>
    intro k hk
    unfold argm
    split
    · rename_i h
      by_cases hkm : k = m + 1
      · rw [hkm]; omega
      · have := ih k (by omega); omega
    · rename_i h
      by_cases hkm : k = m + 1
      · rw [hkm]; omega
      · exact ih k (by omega)
theorem argm_first (f : Nat → Nat) (m : Nat) : ∀ k, k < argm f m → f (argm f m) < f k := by
  induction m with
  | zero => intro k hk; simp [argm] at hk
  | succ m ih =>
    intro k hk
    unfold argm at hk ⊢
    split
    · rename_i h
      rw [if_pos h] at hk
      have := argm_min f m k (by omega)
      omega
    · rename_i h
      rw [if_neg h] at hk
      exact ih k hk
theorem argm_unique {f : Nat → Nat} {m p : Nat} (hp : p ≤ m) (hmin : ∀ k, k ≤ m → f p ≤ f k) (hfst : ∀ k, k < p → f p < f k) : argm f m = p := by
  rcases Nat.lt_trichotomy (argm f m) p with h | h | h
  · have h1 := hfst _ h
    have h2 := argm_min f m p hp
    omega
  · exact h
  · have h1 := argm_first f m p h
    have h2 := hmin _ (argm_le f m)
    omega
theorem argm_congr {f g : Nat → Nat} {m : Nat} (h : ∀ k, k ≤ m → f k = g k) : argm f m = argm g m := by
  induction m with
  | zero => rfl
  | succ m ih =>
    have e := ih (fun k hk => h k (by omega))
    unfold argm
    rw [e, h (m + 1) (Nat.le_refl _), h (argm g m) (Nat.le_succ_of_le (argm_le g m))]

/-- The sum of the weights ahead of a place. -/
def pre (w : Nat → Nat) : Nat → Nat
  | 0 => 0
  | n + 1 => pre w n + w n
theorem pre_mono (w : Nat → Nat) {a b : Nat} (h : a ≤ b) : pre w a ≤ pre w b := by
  induction b with
  | zero => rw [show a = 0 from by omega]; exact Nat.le_refl _
  | succ b ih =>
    by_cases hab : a = b + 1
    · rw [hab]; exact Nat.le_refl _
    · have := ih (by omega)
      simp only [pre]
      omega

/-- What the row of n + 1 weights from i costs, at the least. -/
def cst (w : Nat → Nat) : Nat → Nat → Nat
  | 0, _ => 0
  | n + 1, i =>
    pre w (i + n + 2) - pre w i +
      (fun f : Nat → Nat => f (argm f n)) (fun k => if _h : k ≤ n then cst w k i + cst w (n - k) (i + k + 1) else 0)
termination_by n => n
/-- What it costs, cut behind k + 1 weights. -/
def spl (w : Nat → Nat) (n i k : Nat) : Nat := cst w k i + cst w (n - k) (i + k + 1)
/-- Where it is cut: behind so many weights and one. -/
def cut (w : Nat → Nat) (n i : Nat) : Nat := argm (spl w n i) n
theorem cst_zero (w : Nat → Nat) (i : Nat) : cst w 0 i = 0 := by unfold cst; rfl
theorem cst_succ (w : Nat → Nat) (n i : Nat) : cst w (n + 1) i = pre w (i + n + 2) - pre w i + spl w n i (cut w n i) := by
  rw [cst]
  have e : ∀ k, k ≤ n → (if _h : k ≤ n then cst w k i + cst w (n - k) (i + k + 1) else 0) = spl w n i k := fun k hk => by rw [dif_pos hk]; rfl
  show _ + (if _h : argm _ n ≤ n then _ else 0) = _
  rw [argm_congr e]
  congr 1
  exact e _ (argm_le _ _)

/-- The same, by the row's two ends. -/
def C (w : Nat → Nat) (i j : Nat) : Nat := cst w (j - i) i
def S (w : Nat → Nat) (i j : Nat) : Nat := pre w (j + 1) - pre w i
def K (w : Nat → Nat) (i j : Nat) : Nat := i + 1 + cut w (j - i - 1) i
theorem C_self (w : Nat → Nat) (i : Nat) : C w i i = 0 := by unfold C; rw [Nat.sub_self, cst_zero]
theorem K_bound (w : Nat → Nat) {i j : Nat} (h : i < j) : i < K w i j ∧ K w i j ≤ j := by
  have := argm_le (spl w (j - i - 1) i) (j - i - 1)
  unfold K cut
  omega
theorem spl_C (w : Nat → Nat) {i j k : Nat} (h : i < k) (hk : k ≤ j) : spl w (j - i - 1) i (k - i - 1) = C w i (k - 1) + C w k j := by
  unfold spl C
  rw [show k - 1 - i = k - i - 1 from by omega, show j - i - 1 - (k - i - 1) = j - k from by omega, show i + (k - i - 1) + 1 = k from by omega]
theorem C_eq (w : Nat → Nat) {i j : Nat} (h : i < j) : C w i j = S w i j + (C w i (K w i j - 1) + C w (K w i j) j) := by
  rw [← spl_C w (K_bound w h).1 (K_bound w h).2]
  have e : K w i j - i - 1 = cut w (j - i - 1) i := by unfold K; omega
  rw [e]
  unfold C S
  obtain ⟨n, hn⟩ : ∃ n, j - i = n + 1 := ⟨j - i - 1, by omega⟩
  rw [hn, cst_succ, show i + n + 2 = j + 1 from by omega, show n + 1 - 1 = n from rfl]
theorem K_min (w : Nat → Nat) {i j k : Nat} (h : i < k) (hk : k ≤ j) : C w i (K w i j - 1) + C w (K w i j) j ≤ C w i (k - 1) + C w k j := by
  rw [← spl_C w (K_bound w (by omega)).1 (K_bound w (by omega)).2, ← spl_C w h hk]
  have e : K w i j - i - 1 = cut w (j - i - 1) i := by unfold K; omega
  rw [e]
  exact argm_min _ _ _ (by omega)
theorem K_first (w : Nat → Nat) {i j k : Nat} (h : i < k) (hj : i < j) (hk : k < K w i j) : C w i (K w i j - 1) + C w (K w i j) j < C w i (k - 1) + C w k j := by
  have hb := K_bound w hj
  rw [← spl_C w hb.1 hb.2, ← spl_C w h (by omega)]
  have e : K w i j - i - 1 = cut w (j - i - 1) i := by unfold K; omega
  rw [e]
  exact argm_first _ _ _ (by unfold K cut at *; omega)
theorem C_le (w : Nat → Nat) {i j k : Nat} (h : i < k) (hk : k ≤ j) : C w i j ≤ S w i j + (C w i (k - 1) + C w k j) := by
  rw [C_eq w (by omega)]
  have := K_min w h hk
  omega

/-- THE QUADRANGLE INEQUALITY. -/
theorem C_quad (w : Nat → Nat) : ∀ (n i i' j j' : Nat), j' - i = n → i ≤ i' → i' ≤ j → j ≤ j' → C w i j + C w i' j' ≤ C w i j' + C w i' j := by
  intro n
  induction n using Nat.strongRecOn with
  | ind n ih =>
    intro i i' j j' hn h1 h2 h3
    rcases Nat.eq_or_lt_of_le h1 with h1 | h1
    · subst h1; omega
    rcases Nat.eq_or_lt_of_le h3 with h3 | h3
    · subst h3; omega
    have hS1 : S w i j ≤ S w i j' := by have := pre_mono w (show j + 1 ≤ j' + 1 by omega); unfold S; omega
    have hS2 : S w i' j' ≤ S w i j' := by have := pre_mono w (show i ≤ i' by omega); unfold S; omega
    have hS3 : S w i j + S w i' j' = S w i j' + S w i' j := by
      have a := pre_mono w (show j + 1 ≤ j' + 1 by omega)
      have b := pre_mono w (show i ≤ i' by omega)
      have c := pre_mono w (show i' ≤ j + 1 by omega)
      unfold S
      omega
    obtain ⟨z, hz⟩ : ∃ z, z = K w i j' := ⟨_, rfl⟩
    have hzb := K_bound w (show i < j' by omega)
    have hze := C_eq w (show i < j' by omega)
    rw [← hz] at hzb hze
    rcases Nat.eq_or_lt_of_le h2 with h2 | h2
    · subst h2
      rw [C_self]
      by_cases hzj : z ≤ i'
      · have a := C_le w hzb.1 hzj
        have b := ih (j' - z) (by omega) z i' i' j' rfl hzj (Nat.le_refl _) (by omega)
        rw [C_self] at b
        omega
      · have a := C_le w (show i' < z by omega) hzb.2
        have b := ih (z - 1 - i) (by omega) i i' i' (z - 1) rfl (by omega) (Nat.le_refl _) (by omega)
        rw [C_self] at b
        omega
    · obtain ⟨y, hy⟩ : ∃ y, y = K w i' j := ⟨_, rfl⟩
      have hyb := K_bound w h2
      have hye := C_eq w h2
      rw [← hy] at hyb hye
      by_cases hzy : z ≤ y
      · have a := C_le w hzb.1 (show z ≤ j by omega)
        have b := C_le w hyb.1 (show y ≤ j' by omega)
        have c := ih (j' - z) (by omega) z y j j' rfl hzy hyb.2 (by omega)
        omega
      · have a := C_le w (show i < y by omega) hyb.2
        have b := C_le w (show i' < z by omega) hzb.2
        have c := ih (z - 1 - i) (by omega) i i' (y - 1) (z - 1) rfl (by omega) (by omega) (by omega)
        omega
/-- Where a row is cut: not ahead of where the row without its last weight is. -/
theorem K_low (w : Nat → Nat) {i j : Nat} (h : i < j) : K w i j ≤ K w i (j + 1) := by
  rcases Nat.lt_or_ge (K w i (j + 1)) (K w i j) with hk | hk
  · have b1 := K_bound w h
    have b2 := K_bound w (show i < j + 1 by omega)
    have a := K_first w b2.1 h hk
    have b := K_min w b1.1 (show K w i j ≤ j + 1 by omega)
    have c := C_quad w _ (K w i (j + 1)) (K w i j) j (j + 1) rfl (by omega) b1.2 (by omega)
    omega
  · exact hk
/-- Nor behind where the row without its first weight is. -/
theorem K_high (w : Nat → Nat) {i j : Nat} (h : i + 1 < j) : K w i j ≤ K w (i + 1) j := by
  rcases Nat.lt_or_ge (K w (i + 1) j) (K w i j) with hk | hk
  · have b1 := K_bound w (show i < j by omega)
    have b2 := K_bound w h
    have a := K_first w (show i < K w (i + 1) j by omega) (show i < j by omega) hk
    have b := K_min w (i := i + 1) (show i + 1 < K w i j by omega) b1.2
    have c := C_quad w _ i (i + 1) (K w (i + 1) j - 1) (K w i j - 1) rfl (by omega) (by omega) (by omega)
    omega
  · exact hk
end Go.Proofs.Ythidmpllganmnaa
