/-
  LAYER 1: Set.
  CONDITIONS: as each says.
-/
import Derived.Test.YtddmioaeehgkbaaDoorBset
namespace Go.Proofs.YtddmioaeehgkbaaDoor
open Go.RowKit

/-- A vector while its bits are being set: what its counts hold is not said. -/
def VecW (w : World) (S : List Nat) (p : Nat) (bs : List Bool) (c : Bool) : Prop :=
  ∃ (g : Nat) (ws : List Nat) (A : Option Addr) (na ca : Nat) (av : List Int),
    Blk w p 77 [.slice (some ⟨g, 0, none⟩) ws.length ws.length, .slice A na ca, .bool c, .int .i64 (bs.length : Int), .bool true] ∧
    Blk w g 72 (wordsV ws) ∧ (∀ x ∈ ws, x < 2 ^ 64) ∧ ws.length = (bs.length + 63) / 64 ∧ num ws = bitN bs ∧ bs.length ≤ 16777216 ∧
    w.ownsRow 0 3 1 (.slice A na ca) na (av.map (.int .i64)) ∧ S = p :: g :: ownL (.slice A na ca)
theorem VecM.w {w : World} {S : List Nat} {p : Nat} {bs : List Bool} {c : Bool} (h : VecM w S p bs c) : VecW w S p bs c := by
  obtain ⟨g, ws, A, na, ca, av, h1, h2, h3, h4, h5, h6, h7, _, h9⟩ := h
  exact ⟨g, ws, A, na, ca, av, h1, h2, h3, h4, h5, h6, h7, h9⟩
theorem VecW.kp0 {w w' : World} {S : List Nat} {p : Nat} {bs : List Bool} {c : Bool} (h : VecW w S p bs c) (hk : Kp [] w w') : VecW w' S p bs c := by
  obtain ⟨g, ws, A, na, ca, av, h1, h2, h3, h4, h5, h6, h7, h9⟩ := h
  exact ⟨g, ws, A, na, ca, av, h1.kp0 hk, h2.kp0 hk, h3, h4, h5, h6, own_kp0 h7 hk, h9⟩
/-- What a store into a word asks and leaves. -/
theorem VecW.put {w : World} {S : List Nat} {p : Nat} {bs : List Bool} {c : Bool} (h : VecW w S p bs c) {k : Nat} (hk : k < bs.length) : ∃ (g m x : Nat), g ∈ S ∧ w.cell? ⟨p, 0, none⟩ = some (.slice (some ⟨g, 0, none⟩) m m) ∧ k / 64 < m ∧ m ≤ 1000000 ∧
    w.cell? ⟨g, k / 64, none⟩ = some (.int .u64 (x : Int)) ∧ w.frozen? ⟨g, k / 64, none⟩ = false ∧ x < 2 ^ 64 ∧ (∀ Z v, Z = bitN ((padL bs (k / 64)).set (k % 64) v) → VecW (w.setCell ⟨g, k / 64, none⟩ (.int .u64 (Z : Int))) S p (bs.set k v) c) ∧
    x ||| 2 ^ (k % 64) = bitN ((padL bs (k / 64)).set (k % 64) true) ∧ x &&& (2 ^ 64 - 1 - 2 ^ (k % 64)) = bitN ((padL bs (k / 64)).set (k % 64) false) := by
  obtain ⟨g, ws, A, na, ca, av, h1, h2, h3, h4, h5, h6, h7, hS⟩ := h
  have hpg : p ≠ g := h1.ne h2 (by decide)
  have hqm : k / 64 < ws.length := by rw [h4]; omega
  obtain ⟨x, hx⟩ : ∃ x, ws[k / 64]? = some x := ⟨_, List.getElem?_eq_getElem hqm⟩
  refine ⟨g, ws.length, x, by rw [hS]; simp, by rw [h1.cell]; rfl, hqm, by rw [h4]; omega, by rw [h2.cell]; exact wordsV_get hx, h2.free _, h3 x (List.mem_of_getElem? hx), fun Z v hZ => ?_, or_put h3 h5 hx, clear_put h3 h5 hx⟩
  refine ⟨g, ws.set (k / 64) Z, A, na, ca, av, ?_, ?_, ?_, ?_, ?_, ?_, ?_, hS⟩
  · rw [List.length_set, List.length_set]; exact h1.far (p := ⟨g, k / 64, none⟩) hpg _
  · rw [← wordsV_set]; exact h2.set_ _ _
  · exact set_lt h3 (by rw [hZ]; exact put_lt _ _ _ _)
  · rw [List.length_set, List.length_set, h4]
  · rw [hZ]; exact num_put h3 h5 hk hx v
  · rw [List.length_set]; exact h6
  · refine own_kp h7 ((Kp.refl [g] w).setCell (p := ⟨g, k / 64, none⟩) (.inl (by simp)) _) (fun b hb hm => ?_)
    simp only [List.mem_singleton] at hm
    subst hm
    obtain ⟨l, hB⟩ := own_blk_some h7 hb
    exact absurd rfl (hB.ne h2 (by decide))
theorem VecW.fin {w : World} {S : List Nat} {p : Nat} {bs : List Bool} {c : Bool} (h : VecW w S p bs c) : VecM (w.setCell ⟨p, 2, none⟩ (.bool false)) S p bs false := by
  obtain ⟨g, ws, A, na, ca, av, h1, h2, h3, h4, h5, h6, h7, hS⟩ := h
  have hpg : p ≠ g := h1.ne h2 (by decide)
  refine ⟨g, ws, A, na, ca, av, h1.set_ 2 (.bool false), h2.far (p := ⟨p, 2, none⟩) (Ne.symm hpg) _, h3, h4, h5, h6, ?_, (fun h => by cases h), hS⟩
  refine own_kp h7 ((Kp.refl [p] w).setCell (p := ⟨p, 2, none⟩) (.inl (by simp)) _) (fun b hb hm => ?_)
  simp only [List.mem_singleton] at hm
  subst hm
  obtain ⟨l, hB⟩ := own_blk_some h7 hb
  exact absurd rfl (hB.ne h1 (by decide))
theorem VecW.fin_ask {w : World} {S : List Nat} {p : Nat} {bs : List Bool} {c : Bool} (h : VecW w S p bs c) : p ∈ S ∧ w.cell? ⟨p, 2, none⟩ = some (.bool c) ∧ w.frozen? ⟨p, 2, none⟩ = false := by
  obtain ⟨g, ws, A, na, ca, av, h1, h2, h3, h4, h5, h6, h7, hS⟩ := h
  exact ⟨by rw [hS]; simp, by rw [h1.cell]; rfl, h1.free 2⟩
/-- The bits with some places set. -/
def setL (bs : List Bool) (one : Bool) (l : List Int) : List Bool := l.foldl (fun b i => b.set i.toNat one) bs
theorem setL_len (one : Bool) : ∀ (l : List Int) (bs : List Bool), (setL bs one l).length = bs.length
  | [], _ => rfl
  | x :: l, bs => by
    show (setL (bs.set x.toNat one) one l).length = _
    rw [setL_len one l, List.length_set]
theorem setL_snoc (bs : List Bool) (one : Bool) (l : List Int) (x : Int) : setL bs one (l ++ [x]) = (setL bs one l).set x.toNat one := by
  unfold setL
  rw [List.foldl_append]
  rfl
end Go.Proofs.YtddmioaeehgkbaaDoor
