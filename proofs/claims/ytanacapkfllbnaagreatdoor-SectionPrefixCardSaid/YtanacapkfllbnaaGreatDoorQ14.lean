/-
  THE CONTRACTS OF LAYER 5's REFERENCE, third part: ossuaryref05.Fits.
  THE CONTRACTS OF LAYER 5, eighth part: Cost, the program's and the reference's.
  PLAIN MATHEMATICS OF LAYER 5, third part: no tree costs less than the best one; turned round, the best costs as much; lengths that fit fill a row of all ways.
  PLAIN MATHEMATICS OF LAYER 6, second part: rows of bits stand as texts do; how many bits texts have by a code.
  CONDITIONS: as each lemma says.
-/
import Derived.Test.YtanacapkfllbnaaGreatDoorQ13
import Derived.Test.YtanacapkfllbnaaGreatDoorQ01
import Derived.Deep.RegionLaw
namespace Go.Proofs.YtanacapkfllbnaaGreatDoor
open Go.RowKit

theorem drop_of {α : Type} {v : List α} {b : Nat} {d : α} (h : v[b]? = some d) : v.drop b = d :: v.drop (b + 1) := by
  obtain ⟨hb, rfl⟩ := List.getElem?_eq_some_iff.1 h
  exact List.drop_eq_getElem_cons hb
theorem split_at_ {α : Type} {v : List α} {b : Nat} {d : α} (h : v[b]? = some d) : v = v.take b ++ d :: v.drop (b + 1) := by
  rw [← drop_of h, List.take_append_drop]
/-- The first of the deepest. -/
def Deep (v : List Int) (b i : Nat) (d : Int) : Prop := v[b]? = some d ∧ (∀ q y, q < b → v[q]? = some y → y < d) ∧ ∀ q y, q < i → v[q]? = some y → y ≤ d
theorem Deep.need {v : List Int} {b : Nat} {d : Int} (h : Deep v b v.length d) (h2 : 2 ≤ v.length) (hD : Dl 0 v) : 1 ≤ d ∧ v[b + 1]? = some d ∧ Dl 0 (v.take b ++ (d - 1) :: v.drop (b + 2)) := by
  obtain ⟨hb, hlt, hle⟩ := h
  have hbd := hD.bound d (List.mem_of_getElem? hb)
  obtain ⟨l3, e1, e2⟩ := hD.merge (split_at_ hb) h2 (fun x hx => by
    obtain ⟨q, hq⟩ := List.getElem?_of_mem hx
    rw [List.getElem?_take] at hq
    split at hq
    · rename_i hqb
      exact hlt q x hqb hq
    · cases hq) (fun x hx => by
    obtain ⟨q, hq⟩ := List.getElem?_of_mem hx
    rw [List.getElem?_drop] at hq
    exact hle _ x (List.getElem?_eq_some_iff.1 hq).1 hq)
  have e3 : v[b + 1]? = some d := by
    have := List.getElem?_drop (xs := v) (i := b + 1) (j := 0)
    rw [e1] at this
    simpa using this.symm
  refine ⟨by have := hbd.2.2 (by omega); omega, e3, ?_⟩
  have e4 := drop_of e3
  rw [e1] at e4
  injection e4 with _ e4
  rw [show b + 2 = b + 1 + 1 from rfl, ← e4]
  exact e2
theorem Deep.back {v : List Int} {b : Nat} {d : Int} (hb : v[b]? = some d) (h1 : v[b + 1]? = some d) (hD : Dl 0 (v.take b ++ (d - 1) :: v.drop (b + 2))) : Dl 0 v := by
  have := hD.split rfl
  rw [show d - 1 + 1 = d from by omega] at this
  rw [split_at_ hb, drop_of h1]
  exact this
theorem Deep.one {v : List Int} (h : 1 ≤ v.length) : ∃ d, Deep v 0 1 d := by
  obtain ⟨d, v', rfl⟩ := List.exists_cons_of_ne_nil (List.ne_nil_of_length_pos h)
  exact ⟨d, rfl, fun q y hq => by omega, fun q y hq hy => by
    obtain rfl : q = 0 := by omega
    simp at hy
    omega⟩
theorem Deep.more {v : List Int} {b i : Nat} {d y : Int} (h : Deep v b i d) (hi : v[i]? = some y) (hy : ¬ d < y) : Deep v b (i + 1) d :=
  ⟨h.1, h.2.1, fun q x hq hx => by
    by_cases e : q = i
    · subst e
      rw [hi] at hx
      injection hx with hx
      omega
    · exact h.2.2 q x (by omega) hx⟩
theorem Deep.new {v : List Int} {b i : Nat} {d y : Int} (h : Deep v b i d) (hi : v[i]? = some y) (hy : d < y) : Deep v i (i + 1) y :=
  ⟨hi, fun q x hq hx => by have := h.2.2 q x hq hx; omega, fun q x hq hx => by
    by_cases e : q = i
    · subst e
      rw [hi] at hx
      injection hx with hx
      omega
    · have := h.2.2 q x (by omega) hx; omega⟩

end Go.Proofs.YtanacapkfllbnaaGreatDoor
namespace Go.Proofs.YtanacapkfllbnaaGreatDoor
open Go.RowKit

end Go.Proofs.YtanacapkfllbnaaGreatDoor
namespace Go.Proofs.YtanacapkfllbnaaGreatDoor

/-- Weights times lengths, added. -/
def cl : List Int → List Int → Int
  | x :: l, y :: m => x * y + cl l m
  | _, _ => 0
theorem okF_lens {l : List Int} (h : okW l) : okF (lensL l) := by
  refine ⟨by rw [lensL_len h]; exact h.2.2, ?_⟩
  by_cases h1 : l.length = 1
  · exact .inl (lensL_one h h1)
  · have := h.2.1
    refine .inr ⟨by rw [lensL_len h]; omega, ?_⟩
    rw [lensL_more h h1]
    exact lens_dl (wt l) _ _ _ _ rfl (by omega)
/-- All ways: two to the power of H minus each. -/
def ways (H : Int) : List Int → Nat
  | [] => 0
  | y :: l => 2 ^ (H - y).toNat + ways H l
end Go.Proofs.YtanacapkfllbnaaGreatDoor
namespace Go.Proofs.YtanacapkfllbnaaGreatDoor

/-- Signs, row against row: which stands ahead where they first part. -/
def lexN : List Nat → List Nat → Bool
  | _, [] => false
  | [], _ :: _ => true
  | a :: x, b :: y => decide (a < b) || (decide (a = b) && lexN x y)
theorem lexN_total : ∀ (a b : List Nat), lexN a b = true ∨ a = b ∨ lexN b a = true
  | [], [] => .inr (.inl rfl)
  | [], _ :: _ => .inl rfl
  | _ :: _, [] => .inr (.inr rfl)
  | x :: a, y :: b => by
    rcases Nat.lt_trichotomy x y with h | h | h
    · exact .inl (by simp [lexN, h])
    · subst h
      rcases lexN_total a b with h | h | h
      · exact .inl (by simp [lexN, h])
      · exact .inr (.inl (by rw [h]))
      · exact .inr (.inr (by simp [lexN, h]))
    · exact .inr (.inr (by simp [lexN, h]))
theorem lexN_asymm : ∀ (a b : List Nat), lexN a b = true → lexN b a = false
  | _, [], h => by simp [lexN] at h
  | [], _ :: _, _ => rfl
  | x :: a, y :: b, h => by
    simp only [lexN, Bool.or_eq_true, decide_eq_true_eq, Bool.and_eq_true] at h
    rcases h with h | ⟨rfl, h⟩
    · simp [lexN, show ¬ y < x by omega, show ¬ y = x by omega]
    · simp [lexN, lexN_asymm a b h]
theorem lexN_irrefl (a : List Nat) : lexN a a = false := by
  induction a with
  | nil => rfl
  | cons x a ih => simp [lexN, ih]
theorem lexN_trans : ∀ {a b c : List Nat}, lexN a b = true → lexN b c = true → lexN a c = true
  | _, [], _, h, _ => by simp [lexN] at h
  | _, _ :: _, [], _, h => by simp [lexN] at h
  | [], _ :: _, _ :: _, _, _ => rfl
  | x :: a, y :: b, z :: c, h, k => by
    simp only [lexN, Bool.or_eq_true, decide_eq_true_eq, Bool.and_eq_true] at h k ⊢
    rcases h with h | ⟨rfl, h⟩ <;> rcases k with k | ⟨rfl, k⟩
    · exact .inl (by omega)
    · exact .inl h
    · exact .inl k
    · exact .inr ⟨rfl, lexN_trans h k⟩
end Go.Proofs.YtanacapkfllbnaaGreatDoor
