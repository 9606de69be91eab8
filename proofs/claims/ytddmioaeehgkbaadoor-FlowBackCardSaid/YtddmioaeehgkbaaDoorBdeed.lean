/-
  A ROW OF DEEDS (ossuarylaw01.Deed): in memory, and opened.
  CONDITIONS: none.
-/
import Derived.Test.YtddmioaeehgkbaaDoorItems
import Derived.Test.YtddmioaeehgkbaaDoorBopen2
namespace Go.Proofs.YtddmioaeehgkbaaDoor
open Go.ChangeShapes Go.WideShapes Go.ChangeAt Go.RowKit Go.Deep

theorem addr_fld (a : Addr) {n : Nat} (h : 0 < n) : a.add n = ⟨a.block, a.off + n, none⟩ := by
  unfold Addr.add
  rw [if_neg (by omega)]
/-- A slice of deeds, wherever its parts lie. -/
def DeedRd (w : World) (B : Nat) (A : Option Addr) (ds : List (Bool × List Int)) : Prop :=
  ∀ (i : Nat) (d : Bool × List Int), ds[i]? = some d → ∃ ad Ai ci, A = some ad ∧ ad.block < B ∧ w.cell? (ad.add (i * 2)) = some (.bool d.1) ∧ w.cell? ⟨(ad.add (i * 2)).block, (ad.add (i * 2)).off + 1, none⟩ = some (.slice Ai d.2.length ci) ∧ d.2.length ≤ ci ∧ Rd w B Ai (d.2.map (.int .i64))
theorem DeedRd.kp {w w' : World} {B : Nat} {A : Option Addr} {ds : List (Bool × List Int)} {S : List Nat} (h : DeedRd w B A ds) (hk : Kp S w w') (hS : ∀ g ∈ S, B ≤ g) : DeedRd w' B A ds := fun i d hi => by
  obtain ⟨ad, Ai, ci, h1, h2, h3, h4, h5, h6⟩ := h i d hi
  have hn : ∀ j, (ad.add j).block ∉ S := fun j hm => by rw [addr_add_block] at hm; have := hS _ hm; omega
  exact ⟨ad, Ai, ci, h1, h2, hk.cell h3 (hn _), hk.cell h4 (hn (i * 2)), h5, h6.kp hk hS⟩
theorem DeedRd.kp0 {w w' : World} {B : Nat} {A : Option Addr} {ds : List (Bool × List Int)} (h : DeedRd w B A ds) (hk : Kp [] w w') : DeedRd w' B A ds := h.kp hk (by simp)
theorem DeedRd.bound {w : World} {B B' : Nat} {A : Option Addr} {ds : List (Bool × List Int)} (h : DeedRd w B A ds) (hB : B ≤ B') : DeedRd w B' A ds := fun i d hi => by
  obtain ⟨ad, Ai, ci, h1, h2, h3, h4, h5, h6⟩ := h i d hi
  exact ⟨ad, Ai, ci, h1, by omega, h3, h4, h5, h6.bound hB⟩
end Go.Proofs.YtddmioaeehgkbaaDoor
