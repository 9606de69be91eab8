/-
  THE CONTRACTS OF LAYER 2's REFERENCE, third part: At.
  CONDITIONS: as each says.
-/
import Derived.Test.YtlkgepojjjcaoaaProf
import Derived.Test.YtlkgepojjjcaoaaMByte
namespace Go.Proofs.Ytlkgepojjjcaoaa
open Go.RowKit

theorem refAt_in (b p : Nat) (wd : Int) (l : List Int) (i : Nat) (x : Int) (w : World) (h : RowR w b p wd l) (hx : l[i]? = some x) :
    Calls Try.prog 43 #[.pointer (some ⟨p, 0, none⟩), .int .i64 i] w fun e w' => e = .returned (.tuple #[.int .i64 x, .bool true]) ∧ w = w' := by
  obtain ⟨A, c, h1, h2, _, _⟩ := h
  have c1 : w.cell? ⟨p, 1, none⟩ = some (.slice A l.length c) := by rw [h1.cell]; rfl
  have hil : i < l.length := (List.getElem?_eq_some_iff.1 hx).1
  obtain ⟨ad, rfl, _, cx⟩ := h2.at_ (i := i) (u := .int .i64 x) (by rw [List.getElem?_map, hx]; rfl)
  obtain ⟨n, hn⟩ : ∃ n, n = l.length := ⟨_, rfl⟩
  rw [← hn] at c1 hil
  clear h1 h2 hn hx
  go_enter Try.func43, Try.ntmps43
  go_wp2_with fail
  go_ret2
  exact ⟨rfl, rfl⟩
theorem refAt_out (b p : Nat) (wd : Int) (l : List Int) (i : Int) (w : World) (h : RowR w b p wd l) (hi : i < 0 ∨ (l.length : Int) ≤ i) :
    Calls Try.prog 43 #[.pointer (some ⟨p, 0, none⟩), .int .i64 i] w fun e w' => e = .returned (.tuple #[.int .i64 0, .bool false]) ∧ w = w' := by
  obtain ⟨A, c, h1, _, _, _⟩ := h
  have c1 : w.cell? ⟨p, 1, none⟩ = some (.slice A l.length c) := by rw [h1.cell]; rfl
  obtain ⟨n, hn⟩ : ∃ n, n = l.length := ⟨_, rfl⟩
  rw [← hn] at c1 hi
  clear h1 hn
  by_cases h0 : i < 0
  · clear hi
    go_enter Try.func43, Try.ntmps43
    go_wp2_with fail
    go_ret2
    exact ⟨rfl, rfl⟩
  · have h2 : (n : Int) ≤ i := by omega
    clear hi
    go_enter Try.func43, Try.ntmps43
    go_wp2_with fail
    go_ret2
    exact ⟨rfl, rfl⟩
end Go.Proofs.Ytlkgepojjjcaoaa
