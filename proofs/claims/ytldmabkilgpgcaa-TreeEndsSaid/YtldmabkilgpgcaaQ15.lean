/-
  A ROW OF PAIRS (tree.Pair): opened.
  CONDITIONS: none.
-/
import Derived.Test.YtldmabkilgpgcaaQ02
import Derived.Test.YtldmabkilgpgcaaQ11
namespace Go.Proofs.Ytldmabkilgpgcaa
open Go.ChangeShapes Go.WideShapes Go.ChangeAt Go.RowKit Go.Deep

/-- Numbers that an int can be. -/
def Pok (p : Int × Int) : Prop := (-9223372036854775808 ≤ p.1 ∧ p.1 ≤ 9223372036854775807) ∧ (-9223372036854775808 ≤ p.2 ∧ p.2 ≤ 9223372036854775807)
theorem rd_pcI {w : World} {B : Nat} {A : Option Addr} {l : List (Int × Int)} (h : ∀ i p, l[i]? = some p → ∃ ad, A = some ad ∧ ad.block < B ∧ w.cell? (ad.add (i * 2)) = some (.int .i64 p.1) ∧ w.cell? (ad.add (i * 2 + 1)) = some (.int .i64 p.2)) : Rd w B A (pcI l) := fun j u hu => by
  have hj : j < l.length * 2 := by rw [← pcI_len]; exact (List.getElem?_eq_some_iff.1 hu).1
  have hi : j / 2 < l.length := by omega
  obtain ⟨g1, g2⟩ := pcI_get (List.getElem?_eq_getElem hi)
  obtain ⟨ad, e, hb, c1, c2⟩ := h (j / 2) _ (List.getElem?_eq_getElem hi)
  refine ⟨ad, e, hb, ?_⟩
  rcases Nat.mod_two_eq_zero_or_one j with h0 | h0
  · rw [show j / 2 * 2 = j by omega] at g1 c1
    rw [g1] at hu
    rw [c1, ← hu]
  · rw [show j / 2 * 2 + 1 = j by omega] at g2 c2
    rw [g2] at hu
    rw [c2, ← hu]
set_option maxRecDepth 100000 in
theorem open_pairs {H : Type} {enc : TypeId × Value → H} {W : World} {A : Option Addr} {n c : Nat} {d : DataW H} {p : List MemPlace}
    (h : DataW.Trod enc Try.prog W 0 (fun _ => true) true 22 (.slice A n c) d p) (hw : ∀ q ∈ d.weights Try.prog 22, q ≤ reachBytes) :
    ∃ l : List (Int × Int), Rd W W.heap.size A (pcI l) ∧ l.length = n ∧ n ≤ c ∧ n ≤ 140737488351232 ∧ (∀ p ∈ l, Pok p) := by
  obtain ⟨h1, h2, h3, h4⟩ := open_items (s := 2) (bytes := 16) Try.underlying22 (by kernel_rfl) (by kernel_rfl) (by omega) h hw
  obtain ⟨l, hl, hq⟩ := choose_list (α := Int × Int) (n := n) (Q := fun i p => (∃ ad, A = some ad ∧ ad.block < W.heap.size ∧ W.cell? (ad.add (i * 2)) = some (.int .i64 p.1) ∧ W.cell? (ad.add (i * 2 + 1)) = some (.int .i64 p.2)) ∧ Pok p) (fun i hi => by
    obtain ⟨a, cs, di, pi, hA, hb, hcl, hcell, hrd, hwi⟩ := h4 i hi
    have hf := open_fields Try.underlying24 hrd hwi
    obtain ⟨d0, p0, r0, _⟩ := hf 0 _ rfl
    obtain ⟨d1, p1, r1, _⟩ := hf 1 _ rfl
    obtain ⟨x0, hx0, wf0⟩ := reads_int Try.underlying3 r0
    obtain ⟨x1, hx1, wf1⟩ := reads_int Try.underlying3 r1
    have e0 := hcell 0 _ (take_one hx0)
    have e1 := hcell 1 _ (take_one hx1)
    rw [addr_add_zero] at e0
    rw [addr_add_add] at e1
    exact ⟨(x0, x1), ⟨a, hA, hb, e0, e1⟩, int_wf_ wf0, int_wf_ wf1⟩)
  refine ⟨l, rd_pcI (fun i p hp => (hq i p hp).1), hl, ?_, by omega, fun d hd => ?_⟩
  · exact h1
  · obtain ⟨i, hi⟩ := List.getElem?_of_mem hd
    exact (hq i d hi).2
end Go.Proofs.Ytldmabkilgpgcaa
