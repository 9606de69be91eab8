/-
  LAYER 1's REFERENCE: the document's vector in memory; Get, Rank, Select, Bytes.
  CONDITIONS: as each says.
-/
import Derived.Test.YtldmabkilgpgcaaBread0
namespace Go.Proofs.Ytldmabkilgpgcaa
open Go.RowKit

/-- The document's vector in memory: its blocks, its place, its bits. -/
def RefV (w : World) (S : List Nat) (p : Nat) (bs : List Bool) : Prop :=
  ∃ (A : Option Addr) (c : Nat), Blk w p 92 [.slice A bs.length c] ∧ w.ownsRow 0 4 1 (.slice A bs.length c) bs.length (bs.map .bool) ∧ S = p :: ownL (.slice A bs.length c)
theorem RefV.lt {w : World} {S : List Nat} {p : Nat} {bs : List Bool} (h : RefV w S p bs) : ∀ g ∈ S, g < w.heap.size := by
  obtain ⟨A, c, h1, h2, rfl⟩ := h
  intro x hx
  simp only [List.mem_cons] at hx
  rcases hx with rfl | hx
  · exact h1.lt
  · exact (own_ge h2 (mem_ownL.1 hx)).2
theorem RefV.kp {w w' : World} {S T : List Nat} {p : Nat} {bs : List Bool} (h : RefV w S p bs) (hk : Kp T w w') (hd : ∀ g ∈ S, g ∉ T) : RefV w' S p bs := by
  obtain ⟨A, c, h1, h2, rfl⟩ := h
  exact ⟨A, c, h1.kp hk (hd p (by simp)), own_kp h2 hk (fun x hx => hd x (by simp [mem_ownL, hx])), rfl⟩
theorem RefV.kp0 {w w' : World} {S : List Nat} {p : Nat} {bs : List Bool} (h : RefV w S p bs) (hk : Kp [] w w') : RefV w' S p bs := h.kp hk (by simp)
theorem RefV.open {w : World} {S : List Nat} {p : Nat} {bs : List Bool} (h : RefV w S p bs) : ∃ (A : Option Addr) (c : Nat), w.cell? ⟨p, 0, none⟩ = some (.slice A bs.length c) ∧ Rd w w.heap.size A (bs.map .bool) := by
  obtain ⟨A, c, h1, h2, _⟩ := h
  exact ⟨A, c, by rw [h1.cell]; rfl, own_rd h2⟩

end Go.Proofs.Ytldmabkilgpgcaa
