/-
  A ROW OF DEEDS (ossuarylaw01.Deed): in memory, and opened.
  CONDITIONS: none.
-/
import Derived.Test.YtifdphkocjjbiaaDoorItems
import Derived.Test.YtifdphkocjjbiaaDoorBopen2
namespace Go.Proofs.YtifdphkocjjbiaaDoor
open Go.ChangeShapes Go.WideShapes Go.ChangeAt Go.RowKit Go.Deep

theorem addr_fld (a : Addr) {n : Nat} (h : 0 < n) : a.add n = ⟨a.block, a.off + n, none⟩ := by
  unfold Addr.add
  rw [if_neg (by omega)]
/-- A slice of deeds, wherever its parts lie. -/
def DeedRd (w : World) (B : Nat) (A : Option Addr) (ds : List (Bool × List Int)) : Prop :=
  ∀ (i : Nat) (d : Bool × List Int), ds[i]? = some d → ∃ ad Ai ci, A = some ad ∧ ad.block < B ∧ w.cell? (ad.add (i * 2)) = some (.bool d.1) ∧ w.cell? ⟨(ad.add (i * 2)).block, (ad.add (i * 2)).off + 1, none⟩ = some (.slice Ai d.2.length ci) ∧ d.2.length ≤ ci ∧ Rd w B Ai (d.2.map (.int .i64))
theorem DeedRd.kp {w w' : World} {B : Nat} {A : Option Addr} {ds : List (Bool × List Int)} {S : List Nat} (h : DeedRd w B A ds) (hk : Kp S w w') (hS : ∀ g ∈ S, B ≤ g) : DeedRd w' B A ds := fun i d hi => by
  obtain ⟨ad, Ai, ci, h1, h2, h3, h4, h5, h6⟩ := h i d hi
  have hn : ∀ j, (ad.add j).block ∉ S := fun j hm => by rw [addr_add_block] at hm; have := hS _ hm; omega
  exact ⟨ad, Ai, ci, h1, h2, hk.cell h3 (hn _), hk.cell h4 (hn (i * 2)), h5, h6.kp hk hS⟩
theorem DeedRd.kp0 {w w' : World} {B : Nat} {A : Option Addr} {ds : List (Bool × List Int)} (h : DeedRd w B A ds) (hk : Kp [] w w') : DeedRd w' B A ds := h.kp hk (by simp)
theorem DeedRd.bound {w : World} {B B' : Nat} {A : Option Addr} {ds : List (Bool × List Int)} (h : DeedRd w B A ds) (hB : B ≤ B') : DeedRd w B' A ds := fun i d hi => by
  obtain ⟨ad, Ai, ci, h1, h2, h3, h4, h5, h6⟩ := h i d hi
  exact ⟨ad, Ai, ci, h1, by omega, h3, h4, h5, h6.bound hB⟩
theorem open_deeds {H : Type} {enc : TypeId × Value → H} {W : World} {A : Option Addr} {n c : Nat} {d : DataW H} {p : List MemPlace}
    (h : DataW.Trod enc Tryd.prog W 0 (fun _ => true) true 44 (.slice A n c) d p) (hw : ∀ q ∈ d.weights Tryd.prog 44, q ≤ reachBytes) :
    ∃ ds : List (Bool × List Int), DeedRd W W.heap.size A ds ∧ ds.length = n ∧ n ≤ 140737488351232 ∧ (∀ d ∈ ds, d.2.length ≤ 140737488351232) := by
  obtain ⟨h1, h2, h3, h4⟩ := open_items (s := 2) (bytes := 32) Tryd.underlying44 (by kernel_rfl) (by kernel_rfl) (by omega) h hw
  obtain ⟨ds, hl, hq⟩ := choose_list (α := Bool × List Int) (n := n) (Q := fun i d => ∃ ad Ai ci, A = some ad ∧ ad.block < W.heap.size ∧ W.cell? (ad.add (i * 2)) = some (.bool d.1) ∧ W.cell? ⟨(ad.add (i * 2)).block, (ad.add (i * 2)).off + 1, none⟩ = some (.slice Ai d.2.length ci) ∧ d.2.length ≤ ci ∧ Rd W W.heap.size Ai (d.2.map (.int .i64)) ∧ d.2.length ≤ 140737488351232) (fun i hi => by
    obtain ⟨a, cs, di, pi, hA, hb, hcl, hcell, hrd, hwi⟩ := h4 i hi
    have hf := open_fields Tryd.underlying50 hrd hwi
    obtain ⟨d0, p0, r0, _⟩ := hf 0 _ rfl
    obtain ⟨d1, p1, r1, w1⟩ := hf 1 _ rfl
    obtain ⟨b, hb0⟩ := reads_bool Tryd.underlying4 r0
    obtain ⟨A1, n1, c1, hs1, t1⟩ := reads_slice Tryd.underlying47 r1
    obtain ⟨xs, x1, x2, x3, x4, _⟩ := open_row (k := .i64) (bytes := 8) Tryd.underlying47 Tryd.underlying3 (by kernel_rfl) (by kernel_rfl) t1 w1
    have e0 := hcell 0 _ (take_one hb0)
    have e1 := hcell 1 _ (take_one hs1)
    rw [addr_add_zero] at e0
    rw [addr_fld _ (by omega)] at e1
    subst x2
    exact ⟨(b, xs), a, A1, c1, hA, hb, e0, e1, x3, x1, by show xs.length ≤ _; omega⟩)
  refine ⟨ds, fun i d hd => ?_, hl, by omega, fun d hd => ?_⟩
  · obtain ⟨ad, Ai, ci, q1, q2, q3, q4, q5, q6, _⟩ := hq i d hd
    exact ⟨ad, Ai, ci, q1, q2, q3, q4, q5, q6⟩
  · obtain ⟨i, hi⟩ := List.getElem?_of_mem hd
    obtain ⟨_, _, _, _, _, _, _, _, _, q7⟩ := hq i d hi
    exact q7
end Go.Proofs.YtifdphkocjjbiaaDoor
