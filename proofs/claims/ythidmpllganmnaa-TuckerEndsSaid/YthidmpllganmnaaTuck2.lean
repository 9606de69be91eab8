/-
  THE CONTRACTS OF LAYER 5, second part: the table.
  CONDITIONS: as each says.
-/
import Derived.Test.YthidmpllganmnaaTuck
namespace Go.Proofs.Ythidmpllganmnaa
open Go.RowKit

/-- A row of cells (cost, cut). -/
def rowV (n : Nat) (f : Nat → Nat × Nat) : List Value := (List.range n).flatMap fun j => [.int .i64 ((f j).1 : Int), .int .i64 ((f j).2 : Int)]
theorem rowV_succ (n : Nat) (f : Nat → Nat × Nat) : rowV (n + 1) f = rowV n f ++ [.int .i64 ((f n).1 : Int), .int .i64 ((f n).2 : Int)] := by
  simp [rowV, List.range_succ]
theorem rowV_len (n : Nat) (f : Nat → Nat × Nat) : (rowV n f).length = 2 * n := by
  induction n with
  | zero => rfl
  | succ n ih => rw [rowV_succ, List.length_append, ih]; simp; omega
theorem rowV_get {n j : Nat} (f : Nat → Nat × Nat) (h : j < n) : (rowV n f)[2 * j]? = some (.int .i64 ((f j).1 : Int)) ∧ (rowV n f)[2 * j + 1]? = some (.int .i64 ((f j).2 : Int)) := by
  induction n with
  | zero => omega
  | succ n ih =>
    rw [rowV_succ]
    by_cases hj : j = n
    · subst hj
      rw [List.getElem?_append_right (by rw [rowV_len]; omega), List.getElem?_append_right (by rw [rowV_len]; omega), rowV_len]
      rw [show 2 * j - 2 * j = 0 from by omega, show 2 * j + 1 - 2 * j = 1 from by omega]
      exact ⟨rfl, rfl⟩
    · rw [List.getElem?_append_left (by rw [rowV_len]; omega), List.getElem?_append_left (by rw [rowV_len]; omega)]
      exact ih (by omega)
/-- One cell set. -/
def upd (f : Nat → Nat × Nat) (j : Nat) (c : Nat × Nat) : Nat → Nat × Nat := fun k => if k = j then c else f k
theorem rowV_congr {n : Nat} {f g : Nat → Nat × Nat} (h : ∀ k, k < n → f k = g k) : rowV n f = rowV n g := by
  induction n with
  | zero => rfl
  | succ n ih => rw [rowV_succ, rowV_succ, ih (fun k hk => h k (by omega)), h n (by omega)]
theorem rowV_set {n j : Nat} (f : Nat → Nat × Nat) (a b : Nat) (h : j < n) : ((rowV n f).set (2 * j) (.int .i64 (a : Int))).set (2 * j + 1) (.int .i64 (b : Int)) = rowV n (upd f j (a, b)) := by
  induction n with
  | zero => omega
  | succ n ih =>
    rw [rowV_succ, rowV_succ]
    by_cases hj : j = n
    · subst hj
      rw [List.set_append_right _ _ (by rw [rowV_len]; omega), rowV_len, List.set_append_right _ _ (by rw [rowV_len]; omega), rowV_len]
      rw [show 2 * j - 2 * j = 0 from by omega, show 2 * j + 1 - 2 * j = 1 from by omega]
      rw [rowV_congr (f := upd f j (a, b)) (g := f) (fun k hk => by unfold upd; rw [if_neg (by omega)])]
      simp [upd]
    · rw [List.set_append_left _ _ (by rw [rowV_len]; omega), List.set_append_left _ _ (by rw [List.length_set, rowV_len]; omega), ih (by omega)]
      simp [upd, Ne.symm hj]

/-- The table of the program: its struct, its rows, what they hold. -/
structure Tab (w : World) (g G n : Nat) (R : Nat → Nat) (D : Nat → Nat → Nat × Nat) (As : Option Addr) (cs : Nat) (l : List Int) : Prop where
  top : Blk w g 49 [.slice As (n + 1) cs, .slice (some ⟨G, 0, none⟩) n n]
  sums : Rd w w.heap.size As ((sumsL l (n + 1)).map (.int .i64))
  rows : Blk w G 50 ((List.range n).map fun k => .slice (some ⟨R k, 0, none⟩) n n)
  row : ∀ k, k < n → Blk w (R k) 52 (rowV n (D k))
  apart : ∀ k m, k < n → m < n → R k = R m → k = m
theorem Tab.kp0 {w w' : World} {g G n : Nat} {R : Nat → Nat} {D : Nat → Nat → Nat × Nat} {As : Option Addr} {cs : Nat} {l : List Int} (h : Tab w g G n R D As cs l) (hk : Kp [] w w') : Tab w' g G n R D As cs l :=
  ⟨h.top.kp0 hk, (h.sums.kp0 hk).bound hk.size, h.rows.kp0 hk, fun k hn => (h.row k hn).kp0 hk, h.apart⟩
theorem Tab.at_ {w : World} {g G n : Nat} {R : Nat → Nat} {D : Nat → Nat → Nat × Nat} {As : Option Addr} {cs : Nat} {l : List Int} (h : Tab w g G n R D As cs l) {i j : Nat} (hi : i < n) (hj : j < n) :
    w.cell? ⟨g, 1, none⟩ = some (.slice (some ⟨G, 0, none⟩) n n) ∧ w.cell? ⟨G, i, none⟩ = some (.slice (some ⟨R i, 0, none⟩) n n) ∧
    w.cell? ⟨R i, j * 2, none⟩ = some (.int .i64 ((D i j).1 : Int)) ∧ w.cell? ⟨R i, j * 2 + 1, none⟩ = some (.int .i64 ((D i j).2 : Int)) := by
  rw [Nat.mul_comm j 2]
  refine ⟨by rw [h.top.cell]; rfl, by rw [h.rows.cell]; simp [hi], ?_, ?_⟩
  · rw [(h.row i hi).cell]; exact (rowV_get (D i) hj).1
  · rw [(h.row i hi).cell]; exact (rowV_get (D i) hj).2

/-- What the table holds of a row. -/
def cellW (w : Nat → Nat) (i j : Nat) : Nat × Nat := (C w i j, if i = j then i + 1 else K w i j)

set_option maxHeartbeats 1000000 in
theorem between_any (n i j c : Nat) (A : Option Addr) (l : List Int) (w : World) (hs : Rd w w.heap.size A ((sumsL l (n + 1)).map (.int .i64))) (hw : Wts l) (hij : i ≤ j) (hj : j < n) (hn : n ≤ 300) :
    Calls Try.prog 29 #[.slice A (n + 1) c, .int .i64 i, .int .i64 j] w fun e w' => e = .returned (.int .i64 ((S (wt l) i j : Nat) : Int)) ∧ Dr w w' := by
  obtain ⟨ad, rfl, _, h1⟩ := hs.at_ (i := j + 1) (u := .int .i64 ((pre (wt l) (j + 1) : Nat) : Int)) (by rw [List.getElem?_map, sumsL_get l (by omega)]; rfl)
  obtain ⟨ad', he, _, h2⟩ := hs.at_ (i := i) (u := .int .i64 ((pre (wt l) i : Nat) : Int)) (by rw [List.getElem?_map, sumsL_get l (by omega)]; rfl)
  injection he with he
  subst he
  have hm := pre_mono (wt l) (show i ≤ j + 1 by omega)
  have hle := pre_le hw (j + 1)
  obtain ⟨a, ha⟩ : ∃ a, a = pre (wt l) (j + 1) := ⟨_, rfl⟩
  obtain ⟨b, hb⟩ : ∃ b, b = pre (wt l) i := ⟨_, rfl⟩
  have hab : a ≤ 300 * 4294967296 := by
    have : (j + 1) * 4294967296 ≤ 300 * 4294967296 := Nat.mul_le_mul_right _ (by omega)
    omega
  have hS : (a : Int) - (b : Int) = ((S (wt l) i j : Nat) : Int) := by unfold S; omega
  rw [← ha] at h1 hm
  rw [← hb] at h2 hm
  clear ha hb hle
  have HS := Lib.hid hS; clear hS
  clear hs
  obtain ⟨j1, hj1⟩ : ∃ j1, j1 = j + 1 := ⟨_, rfl⟩
  rw [← hj1] at h1
  have hwj : IntKind.i64.wrap ((j : Int) + 1) = (j1 : Int) := by rw [IntKind.wrap_i64]; omega
  have hws : IntKind.i64.wrap ((a : Int) - (b : Int)) = (a : Int) - (b : Int) := by rw [IntKind.wrap_i64]; omega
  have hjl : j1 < n + 1 := by omega
  have hil : i < n + 1 := by omega
  clear hj1
  go_enter Try.func29, Try.ntmps29
  go_wp2
  go_quiet (fail)
  go_wp2
  go_ret
  exact ⟨by rw [← HS.out]; rfl, (Dr.refl w).drewN _⟩
end Go.Proofs.Ythidmpllganmnaa
