/-
  LAYER 1's REFERENCE: the document's vector in memory; Get, Rank, Select, Bytes.
  LAYER 1's REFERENCE: Select, Bytes.
  LAYER 1's REFERENCE: New, Read.
  THE RELATION OF WORLDS ALONG A REGION THAT MAY COUNT A VECTOR.
  CONDITIONS: as each lemma says.
-/
import Derived.Test.YtpmdfklhgabfgaaQ18
import Derived.Test.YtpmdfklhgabfgaaQ04
namespace Go.Proofs.Ytpmdfklhgabfgaa
open Go.RowKit

end Go.Proofs.Ytpmdfklhgabfgaa
namespace Go.Proofs.Ytpmdfklhgabfgaa
open Go.RowKit

theorem selO_of_none {bs : List Bool} {k : Int} (h : ∀ j : Nat, bs[j]? = some true → ((cntI bs j : Nat) : Int) ≠ k) : selO bs k = none := by
  unfold selO
  by_cases h0 : k < 0
  · rw [if_pos h0]
  · rw [if_neg h0, List.find?_eq_none]
    intro i hi hc
    simp only [Bool.and_eq_true, beq_iff_eq] at hc
    exact h i hc.1 (by omega)
theorem cntI_next {bs : List Bool} {k : Nat} {b : Bool} (h : bs[k]? = some b) : cntI bs (k + 1) = cntI bs k + b.toNat := by
  unfold cntI
  rw [take_succ_of h, List.count_append]
  cases b <;> rfl

end Go.Proofs.Ytpmdfklhgabfgaa
namespace Go.Proofs.Ytpmdfklhgabfgaa
open Go.RowKit

theorem Try.info_bool_ : (Try.prog.info? 4).map (fun i => (i.zero, i.size, i.bytes)) = some (some (.bool false), 1, 1) := by kernel_rfl
theorem top_zero {N n : Nat} : ∀ {j : Nat}, n ≤ j → N < 2 ^ j → (∀ i, n ≤ i → i < j → N / 2 ^ i % 2 = 0) → N < 2 ^ n
  | 0, hj, h, _ => by
    obtain rfl : n = 0 := by omega
    exact h
  | j + 1, hj, h, hb => by
    by_cases hnj : n = j + 1
    · rw [hnj]; exact h
    · refine top_zero (j := j) (by omega) ?_ (fun i h1 h2 => hb i h1 (by omega))
      have h1 := hb j (by omega) (by omega)
      have h2 : N / 2 ^ j < 2 := by rw [Nat.div_lt_iff_lt_mul (Nat.two_pow_pos _), Nat.mul_comm, ← Nat.pow_succ]; exact h
      have h3 : N / 2 ^ j = 0 := by
        obtain ⟨z, hz⟩ : ∃ z, z = N / 2 ^ j := ⟨_, rfl⟩
        rw [← hz] at h1 h2 ⊢
        omega
      rw [Nat.div_eq_zero_iff] at h3
      have := Nat.two_pow_pos j
      omega

end Go.Proofs.Ytpmdfklhgabfgaa
namespace Go.Proofs.Ytpmdfklhgabfgaa
open Go.RowKit

/-- A vector, counted or not, whose blocks are those it had or new. -/
def VecI (S0 : List Nat) (B p : Nat) (bs : List Bool) (w : World) : Prop := ∃ S c, VecM w S p bs c ∧ (c = false → S = S0) ∧ B ≤ w.heap.size ∧ ∀ x ∈ S, x ∈ S0 ∨ B ≤ x
def VecC (S0 : List Nat) (B p : Nat) (bs : List Bool) (w : World) : Prop := ∃ S, VecM w S p bs true ∧ B ≤ w.heap.size ∧ ∀ x ∈ S, x ∈ S0 ∨ B ≤ x
theorem VecI.kp0 {S0 : List Nat} {B p : Nat} {bs : List Bool} {w w' : World} (h : VecI S0 B p bs w) (hk : Kp [] w w') : VecI S0 B p bs w' := by
  obtain ⟨S, c, h1, h2, h3, h4⟩ := h
  exact ⟨S, c, h1.kp0 hk, h2, Nat.le_trans h3 hk.size, h4⟩
theorem VecC.kp0 {S0 : List Nat} {B p : Nat} {bs : List Bool} {w w' : World} (h : VecC S0 B p bs w) (hk : Kp [] w w') : VecC S0 B p bs w' := by
  obtain ⟨S, h1, h3, h4⟩ := h
  exact ⟨S, h1.kp0 hk, Nat.le_trans h3 hk.size, h4⟩
def cntR (S0 : List Nat) (B p : Nat) (bs : List Bool) (w w' : World) : Prop := Kp S0 w w' ∧ (VecI S0 B p bs w → VecI S0 B p bs w') ∧ (VecC S0 B p bs w → VecC S0 B p bs w')
theorem cntR.of_kp {S0 : List Nat} {B p : Nat} {bs : List Bool} {w w' : World} (hk : Kp [] w w') : cntR S0 B p bs w w' := ⟨hk.mono (by simp), fun h => h.kp0 hk, fun h => h.kp0 hk⟩
@[reducible] def cntRel (S0 : List Nat) (B p : Nat) (bs : List Bool) : RG.Rel where
  R := cntR S0 B p bs
  refl w := cntR.of_kp (Kp.refl _ w)
  trans h k := ⟨h.1.trans k.1, fun x => k.2.1 (h.2.1 x), fun x => k.2.2 (h.2.2 x)⟩
  drew w := cntR.of_kp (Kp.refl [] w).drew
/-- Bytes whose block is none of the vector's. -/
def IsRdS (S0 : List Nat) (xs : List Int) (v : Value) (w : World) : Prop := ∃ A c, v = .slice A xs.length c ∧ xs.length ≤ c ∧ Rd w w.heap.size A (xs.map (.int .u8)) ∧ ∀ ad, A = some ad → ad.block ∉ S0
theorem IsRdS.kp {S0 : List Nat} {xs : List Int} {v : Value} {w w' : World} (h : IsRdS S0 xs v w) (hk : Kp S0 w w') : IsRdS S0 xs v w' := by
  obtain ⟨A, c, h1, h2, h3, h4⟩ := h
  exact ⟨A, c, h1, h2, (h3.kp_ne hk h4).here, h4⟩
theorem IsRdS.len {S0 : List Nat} {xs : List Int} {v : Value} {w : World} (h : IsRdS S0 xs v w) {n : Nat} (hn : xs.length = n) : ∃ A c, v = .slice A n c ∧ n ≤ c ∧ Rd w w.heap.size A (xs.map (.int .u8)) ∧ ∀ ad, A = some ad → ad.block ∉ S0 := by
  subst hn; exact h
@[reducible] def rdS (S0 : List Nat) (B p : Nat) (bs : List Bool) (xs : List Int) : @RG.GFact (cntRel S0 B p bs) := @RG.GFact.mk (cntRel S0 B p bs) (IsRdS S0 xs) (fun _ _ _ h (hk : cntR S0 B p bs _ _) => h.kp hk.1)
@[reducible] def cntF (S0 : List Nat) (B p : Nat) (bs : List Bool) (u : Value) : @RG.GFact (cntRel S0 B p bs) := @RG.GFact.mk (cntRel S0 B p bs) (fun v w => v = u ∧ VecC S0 B p bs w) (fun _ _ _ h (hk : cntR S0 B p bs _ _) => ⟨h.1, hk.2.2 h.2⟩)
end Go.Proofs.Ytpmdfklhgabfgaa
