/-
  ROWS OF THE CALL'S OWN THAT LIE APART FROM EACH OTHER, as many as there are: one of them may grow.
  CONDITIONS: none.
-/
import Derived.Test.YtldmabkilgpgcaaKit
namespace Go.Proofs.Ytldmabkilgpgcaa
open Go.RowKit

/-- A row: element type, cells of an element, value, length, cells. -/
structure ORow where
  e : TypeId
  size : Nat
  v : Value
  n : Nat
  xs : List Value
def ORow.ok (r : ORow) (w : World) (base : Nat) : Prop := w.ownsRow base r.e r.size r.v r.n r.xs
def oBlocks (L : List ORow) : List Nat := L.flatMap fun r => ownL r.v
def OwnAll (w : World) (base : Nat) (L : List ORow) : Prop := (∀ (i : Nat) (r : ORow), L[i]? = some r → r.ok w base) ∧ ∀ (i j : Nat) (r s : ORow), i ≠ j → L[i]? = some r → L[j]? = some s → ∀ x ∈ ownL r.v, x ∉ ownL s.v
theorem OwnAll.nil (w : World) (base : Nat) : OwnAll w base [] := ⟨fun i r h => by simp at h, fun i j r s _ h => by simp at h⟩
theorem OwnAll.kp0 {w w' : World} {base : Nat} {L : List ORow} (h : OwnAll w base L) (hk : Kp [] w w') : OwnAll w' base L := ⟨fun i r hi => own_kp0 (h.1 i r hi) hk, h.2⟩
theorem OwnAll.at_ {w : World} {base : Nat} {L : List ORow} (h : OwnAll w base L) (i : Nat) {r : ORow} (hi : L[i]? = some r) : w.ownsRow base r.e r.size r.v r.n r.xs := h.1 i r hi
theorem mem_oBlocks {L : List ORow} {x : Nat} : x ∈ oBlocks L ↔ ∃ (i : Nat) (r : ORow), L[i]? = some r ∧ x ∈ ownL r.v := by
  unfold oBlocks
  rw [List.mem_flatMap]
  constructor
  · rintro ⟨r, hr, hx⟩
    obtain ⟨i, hi⟩ := List.getElem?_of_mem hr
    exact ⟨i, r, hi, hx⟩
  · rintro ⟨i, r, hi, hx⟩
    exact ⟨r, List.mem_of_getElem? hi, hx⟩
theorem OwnAll.ge {w : World} {base : Nat} {L : List ORow} (h : OwnAll w base L) : ∀ x ∈ oBlocks L, base ≤ x ∧ x < w.heap.size := fun x hx => by
  obtain ⟨i, r, hi, hx⟩ := mem_oBlocks.1 hx
  exact own_ge (h.1 i r hi) (mem_ownL.1 hx)
/-- What may change blocks outside of all rows. -/
theorem OwnAll.kp {w w' : World} {base : Nat} {L : List ORow} {S : List Nat} (h : OwnAll w base L) (hk : Kp S w w') (hS : ∀ x ∈ S, x ∉ oBlocks L) : OwnAll w' base L :=
  ⟨fun i r hi => own_kp (h.1 i r hi) hk (fun g hg hm => hS g hm (mem_oBlocks.2 ⟨i, r, hi, mem_ownL.2 hg⟩)), h.2⟩
/-- One more row, apart from the others. -/
theorem OwnAll.cons {w : World} {base : Nat} {L : List ORow} {r : ORow} (h : OwnAll w base L) (hr : w.ownsRow base r.e r.size r.v r.n r.xs) (ha : ∀ x ∈ ownL r.v, x ∉ oBlocks L) : OwnAll w base (r :: L) := by
  refine ⟨fun i s hi => ?_, fun i j s u hne hi hj x hx hm => ?_⟩
  · cases i with
    | zero => simp at hi; subst hi; exact hr
    | succ i => exact h.1 i s (by simpa using hi)
  · cases i with
    | zero =>
      simp at hi
      subst hi
      cases j with
      | zero => exact hne rfl
      | succ j => exact ha x hx (mem_oBlocks.2 ⟨j, u, by simpa using hj, hm⟩)
    | succ i =>
      cases j with
      | zero =>
        simp at hj
        subst hj
        exact ha x hm (mem_oBlocks.2 ⟨i, s, by simpa using hi, hx⟩)
      | succ j => exact h.2 i j s u (by omega) (by simpa using hi) (by simpa using hj) x hx hm
/-- The i-th row has grown. -/
theorem OwnAll.grow {w w' : World} {base : Nat} {L : List ORow} {r s : ORow} {i : Nat} (h : OwnAll w base L) (hi : L[i]? = some r) (hk : Kp (ownL r.v) w w') (hn : ∀ x ∈ ownL s.v, x ∈ ownL r.v ∨ w.heap.size ≤ x) (ho : w'.ownsRow base s.e s.size s.v s.n s.xs) : OwnAll w' base (L.set i s) := by
  have hlt := (List.getElem?_eq_some_iff.1 hi).1
  refine ⟨fun j u hj => ?_, fun j k u v hne hj hk' x hx hm => ?_⟩
  · by_cases e : i = j
    · subst e
      rw [List.getElem?_set_self hlt] at hj
      injection hj with hj
      subst hj
      exact ho
    · rw [List.getElem?_set_ne e] at hj
      exact own_kp (h.1 j u hj) hk (fun g hg hm => h.2 i j r u e hi hj g hm (mem_ownL.2 hg))
  · by_cases e : i = j
    · subst e
      rw [List.getElem?_set_self hlt] at hj
      injection hj with hj
      subst hj
      rw [List.getElem?_set_ne hne] at hk'
      rcases hn x hx with g | g
      · exact h.2 i k r v hne hi hk' x g hm
      · have := (own_ge (h.1 k v hk') (mem_ownL.1 hm)).2
        omega
    · rw [List.getElem?_set_ne e] at hj
      by_cases e2 : i = k
      · subst e2
        rw [List.getElem?_set_self hlt] at hk'
        injection hk' with hk'
        subst hk'
        rcases hn x hm with g | g
        · exact h.2 j i u r hne hj hi x hx g
        · have := (own_ge (h.1 j u hj) (mem_ownL.1 hx)).2
          omega
      · rw [List.getElem?_set_ne e2] at hk'
        exact h.2 j k u v hne hj hk' x hx hm
theorem oBlocks_grow {L : List ORow} {r s : ORow} {i N : Nat} (hi : L[i]? = some r) (hn : ∀ x ∈ ownL s.v, x ∈ ownL r.v ∨ N ≤ x) : ∀ x ∈ oBlocks (L.set i s), x ∈ oBlocks L ∨ N ≤ x := fun x hx => by
  have hlt := (List.getElem?_eq_some_iff.1 hi).1
  obtain ⟨j, u, hj, hx⟩ := mem_oBlocks.1 hx
  by_cases e : i = j
  · subst e
    rw [List.getElem?_set_self hlt] at hj
    injection hj with hj
    subst hj
    rcases hn x hx with g | g
    · exact .inl (mem_oBlocks.2 ⟨i, r, hi, g⟩)
    · exact .inr g
  · rw [List.getElem?_set_ne e] at hj
    exact .inl (mem_oBlocks.2 ⟨j, u, hj, hx⟩)
theorem oBlocks_at {L : List ORow} {r : ORow} {i : Nat} (hi : L[i]? = some r) : ∀ x ∈ ownL r.v, x ∈ oBlocks L := fun _ hx => mem_oBlocks.2 ⟨i, r, hi, hx⟩
/-- Two descriptions of one row's cells. -/
theorem own_inj {w : World} {base base' : Nat} {e : TypeId} {size n : Nat} {v : Value} {xs ys : List Value} (h : w.ownsRow base e size v n xs) (h' : w.ownsRow base' e size v n ys) : xs = ys := by
  have l1 := h.1
  have l2 := h'.1
  rcases own_blk h with ⟨rfl, _, e1⟩ | ⟨g, cap, rest, rfl, _, hb, _, _, _⟩
  · rcases own_blk h' with ⟨_, _, e2⟩ | ⟨g', _, _, e', _⟩
    · rw [e1, e2]
    · cases e'
  · rcases own_blk h' with ⟨e', _, _⟩ | ⟨g', cap', rest', e', _, hb', _, _, _⟩
    · cases e'
    · injection e' with e1 e2 e3
      injection e1 with e1
      injection e1 with e1 _ _
      subst e1
      exact (List.append_inj (hb.inj hb').2 (by omega)).1
end Go.Proofs.Ytldmabkilgpgcaa
