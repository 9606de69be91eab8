/-
  LAYER 1: the calls on a vector that is counted: nothing that was there changes.
  CONDITIONS: as each says.
-/
import Derived.Test.YtddmioaeehgkbaaDoorBby
namespace Go.Proofs.YtddmioaeehgkbaaDoor
open Go.RowKit

theorem qrank {S : List Nat} {p : Nat} {bs : List Bool} {w : World} (i : Int) (h : VecM w S p bs true) {N : Nat} (hN : rankI bs i = N) :
    Calls Tryd.prog 46 #[.pointer (some ⟨p, 0, none⟩), .int .i64 i] w fun e w' => e = .returned (.int .i64 (N : Int)) ∧ Kp [] w w' := by
  refine (vrank_any S p i bs true w h).mono fun e w' hh => ?_
  rw [hN] at hh
  obtain ⟨he, S', _, _, _, hc⟩ := hh
  exact ⟨he, (hc rfl).2⟩
theorem qselect {S : List Nat} {p : Nat} {bs : List Bool} {w : World} (k : Int) (h : VecM w S p bs true) (ht : Tab64 w) (h0 : 0 ∉ S) {x : Int} {b : Bool} (hx : selI bs k = x) (hb : selB bs k = b) :
    Calls Tryd.prog 45 #[.pointer (some ⟨p, 0, none⟩), .int .i64 k] w fun e w' => e = .returned (.tuple #[.int .i64 x, .bool b]) ∧ Kp [] w w' := by
  refine (vselect_any S p k bs true w h ht h0).mono fun e w' hh => ?_
  rw [hx, hb] at hh
  obtain ⟨he, S', c', _, _, _, hc⟩ := hh
  exact ⟨he, (hc rfl).2.2⟩
theorem qget {S : List Nat} {p : Nat} {bs : List Bool} {c : Bool} {w : World} (i : Int) (h : VecM w S p bs c) {b : Bool} (hb : getB bs i = b) :
    Calls Tryd.prog 44 #[.pointer (some ⟨p, 0, none⟩), .int .i64 i] w fun e w' => e = .returned (.bool b) ∧ Kp [] w w' := by
  refine (vget_any S p i bs c w h).mono fun e w' hh => ?_
  rw [hb] at hh
  obtain ⟨he, rfl⟩ := hh
  exact ⟨he, Kp.refl _ _⟩
/-- The first call that counts, of a vector that is new since w0. -/
theorem first_count {w0 w w' : World} {S : List Nat} {p : Nat} {bs : List Bool} {c : Bool} (hk : Kp [] w0 w) (hS : ∀ x ∈ S, w0.heap.size ≤ x) (h : VPostT w w' S p bs c) : ∃ S', VecM w' S' p bs true ∧ Kp [] w0 w' ∧ ∀ x ∈ S', w0.heap.size ≤ x := by
  obtain ⟨S', h1, h2, h3, _⟩ := h
  refine ⟨S', h1, hk.trans' h2 (fun g hg => .inr (hS g hg)), fun x hx => ?_⟩
  rcases h3 x hx with h | h
  · exact hS x h
  · exact Nat.le_trans hk.size h
theorem Tab64.lt {w : World} (h : Tab64 w) : 0 < w.heap.size := by
  obtain ⟨v, hv⟩ : ∃ v, dbTab[0]? = some v := ⟨_, rfl⟩
  exact World.block_lt_of_cell? w ⟨0, 0, none⟩ (h 0 v hv)

abbrev B5 : List Bool := [true, false, true, true, false]
end Go.Proofs.YtddmioaeehgkbaaDoor
