/-
  HOW TEXTS AMONG THE ARGUMENTS ARE OPENED: a slice of strings, a string, a slice of truths, with the form's own reach as a bound.
  CONDITIONS: none beyond each lemma's own.
-/
import Derived.Test.YtanacapkfllbnaaGreatDoorQ04
import Derived.Test.YtanacapkfllbnaaGreatDoorQ26
import Derived.SliceStrings
namespace Go.Proofs.YtanacapkfllbnaaGreatDoor
open Go.ChangeShapes Go.WideShapes Go.ChangeAt Go.RowKit Go.Deep

section
variable {H : Type} {enc : TypeId × Value → H} {P : Program} {W : World}
theorem open_texts {t e : TypeId} {A : Option Addr} {n c : Nat} {d : DataW H} {p : List MemPlace} (ht : P.underlying t = some (.slice e)) (he : P.underlying e = some .string) (hc : P.cellsOf e = 1) (hb : P.bytesOf e = 16)
    (h : DataW.Trod enc P W 0 (fun _ => true) true t (.slice A n c) d p) (hw : ∀ q ∈ d.weights P t, q ≤ reachBytes) :
    ∃ ss : List ByteArray, Rd W W.heap.size A (ss.map .string) ∧ ss.length = n ∧ n ≤ c ∧ n * 16 ≤ 140737488351232 ∧ ∀ s ∈ ss, s.size ≤ 140737488351232 := by
  obtain ⟨fuel, hf⟩ := h; have hf' : DataW.trod enc P W 0 (fun _ => true) true fuel t [.slice A n c] = some (d, p) := hf; rcases open_strings ht he hc hf' with ⟨hcs, _⟩ | ⟨a, len, cap, ss, hcs, _, hl, hm, hz, hx, hcell, hsz⟩
  · simp only [List.cons.injEq, Value.slice.injEq, and_true] at hcs
    obtain ⟨rfl, rfl, rfl⟩ := hcs; exact ⟨[], Rd.nil _ _ _, rfl, Nat.le_refl _, by omega, by simp⟩
  · simp only [List.cons.injEq, Value.slice.injEq, and_true] at hcs
    obtain ⟨rfl, rfl, rfl⟩ := hcs; simp only [if_true] at hz
    have hd : d = .slice (strs (ss.take n)) (strs (ss.drop n)) := by simp only [Prod.mk.injEq] at hx; exact hx.1
    have hw1 := hw ((n + (c - n)) * 16) (by rw [hd]; simp [DataW.weights, ht, strs, hz, Nat.min_eq_left hl, hb]); refine ⟨ss.take n, fun i u hu => ?_, by rw [List.length_take, hz]; omega, hl, ?_, fun s hs => ?_⟩
    · rw [List.getElem?_map, List.getElem?_take] at hu
      split at hu
      · rename_i hi
        have hc1 := hcell i (by omega); rw [List.getElem?_eq_getElem (by omega)] at hu
        simp at hu
        subst hu; rw [List.getD_eq_getElem?_getD, List.getElem?_eq_getElem (by omega)] at hc1; exact ⟨a, rfl, block_of_cell hc1, hc1⟩
      · simp at hu
    · unfold reachBytes at hw1; omega
    · obtain ⟨i, hi, he2⟩ := List.getElem_of_mem hs
      have hlen : s.data.toList.length ≤ reachBytes := hw _ (by
        rw [hd]; simp only [DataW.weights, ht]
        refine List.mem_cons_of_mem _ (List.mem_append_left _ (weights_all_mem (i := i) (d := .lit (.string s.data.toList)) ?_ _ (by simp [DataW.weights]))); unfold strs; rw [List.getElem?_map, List.getElem?_eq_getElem hi, he2]
        rfl)
      unfold reachBytes at hlen; have : s.size = s.data.toList.length := by rw [Array.length_toList]; rfl
      omega
end
end Go.Proofs.YtanacapkfllbnaaGreatDoor
