/-
  A ROW OF BOOLS OPENED, with the bound that the reach gives.
  CONDITIONS: none.
-/
import Derived.Test.YtddmioaeehgkbaaDoorBopen
namespace Go.Proofs.YtddmioaeehgkbaaDoor
open Go.ChangeShapes Go.WideShapes Go.ChangeAt Go.RowKit

theorem open_boolrow_w {H : Type} {enc : TypeId × Value → H} {P : Program} {W : World} {t e : TypeId} {A : Option Addr} {n c : Nat} {d : DataW H} {p : List MemPlace} (ht : P.underlying t = some (.slice e)) (he : P.underlying e = some .bool) (hc : P.cellsOf e = 1) (hb : P.bytesOf e = 1)
    (h : DataW.Trod enc P W 0 (fun _ => true) true t (.slice A n c) d p) (hw : ∀ q ∈ d.weights P t, q ≤ reachBytes) : n ≤ 140737488351232 := by
  obtain ⟨fuel, hf⟩ := h
  have hf' : DataW.trod enc P W 0 (fun _ => true) true fuel t [.slice A n c] = some (d, p) := hf
  rcases Go.Deep.open_bools ht he hc hf' with ⟨hcs, _⟩ | ⟨a, len, cap, B, hcs, _, hl, hm, hx, hcell⟩
  · simp only [List.cons.injEq, Value.slice.injEq, and_true] at hcs
    obtain ⟨rfl, rfl, rfl⟩ := hcs
    omega
  · simp only [List.cons.injEq, Value.slice.injEq, and_true] at hcs
    obtain ⟨rfl, rfl, rfl⟩ := hcs
    have hd : d = Go.Deep.boolRow (some a) n c B := by simp only [Prod.mk.injEq] at hx; exact hx.1
    have hw1 := hw ((n + (c - n)) * 1) (by rw [hd]; simp [Go.Deep.boolRow, DataW.weights, ht, hb])
    unfold reachBytes at hw1
    omega
end Go.Proofs.YtddmioaeehgkbaaDoor
