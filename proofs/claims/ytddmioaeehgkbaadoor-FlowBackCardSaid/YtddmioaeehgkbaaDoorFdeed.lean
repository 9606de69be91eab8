/-
  A ROW OF DEEDS (ossuarylaw03.Deed): in memory, and opened.
  CONDITIONS: none.
-/
import Derived.Test.YtddmioaeehgkbaaDoorItems
import Derived.Test.YtddmioaeehgkbaaDoorBopen2
namespace Go.Proofs.YtddmioaeehgkbaaDoor
open Go.ChangeShapes Go.WideShapes Go.ChangeAt Go.RowKit Go.Deep

/-- A deed. -/
structure FD where
  what : Int
  wide : Int
  ones : List Bool
  nums : List Int
/-- A slice of deeds, wherever its parts lie. -/
def FDeedRd (w : World) (B : Nat) (A : Option Addr) (ds : List FD) : Prop :=
  ∀ (i : Nat) (d : FD), ds[i]? = some d → ∃ ad A2 c2 A3 c3, A = some ad ∧ ad.block < B ∧ w.cell? (ad.add (i * 4)) = some (.int .i64 d.what) ∧ w.cell? ⟨(ad.add (i * 4)).block, (ad.add (i * 4)).off + 1, none⟩ = some (.int .i64 d.wide) ∧
    w.cell? ⟨(ad.add (i * 4)).block, (ad.add (i * 4)).off + 2, none⟩ = some (.slice A2 d.ones.length c2) ∧ w.cell? ⟨(ad.add (i * 4)).block, (ad.add (i * 4)).off + 3, none⟩ = some (.slice A3 d.nums.length c3) ∧
    d.ones.length ≤ c2 ∧ Rd w B A2 (d.ones.map .bool) ∧ d.nums.length ≤ c3 ∧ Rd w B A3 (d.nums.map (.int .i64))
theorem FDeedRd.kp {w w' : World} {B : Nat} {A : Option Addr} {ds : List FD} {S : List Nat} (h : FDeedRd w B A ds) (hk : Kp S w w') (hS : ∀ g ∈ S, B ≤ g) : FDeedRd w' B A ds := fun i d hi => by
  obtain ⟨ad, A2, c2, A3, c3, h1, h2, h3, h4, h5, h6, h7, h8, h9, h10⟩ := h i d hi
  have hn : ∀ j, (ad.add j).block ∉ S := fun j hm => by rw [addr_add_block] at hm; have := hS _ hm; omega
  exact ⟨ad, A2, c2, A3, c3, h1, h2, hk.cell h3 (hn _), hk.cell h4 (hn (i * 4)), hk.cell h5 (hn (i * 4)), hk.cell h6 (hn (i * 4)), h7, h8.kp hk hS, h9, h10.kp hk hS⟩
theorem FDeedRd.kp0 {w w' : World} {B : Nat} {A : Option Addr} {ds : List FD} (h : FDeedRd w B A ds) (hk : Kp [] w w') : FDeedRd w' B A ds := h.kp hk (by simp)
theorem FDeedRd.ix {w : World} {B : Nat} {A : Option Addr} {ds : List FD} (h : FDeedRd w B A ds) {i : Nat} (hi : i < ds.length) :
    ∃ what wide ones nums ad A2 c2 A3 c3, ds[i]? = some ⟨what, wide, ones, nums⟩ ∧ A = some ad ∧ ad.block < B ∧ w.cell? (ad.add (i * 4)) = some (.int .i64 what) ∧ w.cell? ⟨(ad.add (i * 4)).block, (ad.add (i * 4)).off + 1, none⟩ = some (.int .i64 wide) ∧
    w.cell? ⟨(ad.add (i * 4)).block, (ad.add (i * 4)).off + 2, none⟩ = some (.slice A2 ones.length c2) ∧ w.cell? ⟨(ad.add (i * 4)).block, (ad.add (i * 4)).off + 3, none⟩ = some (.slice A3 nums.length c3) ∧
    ones.length ≤ c2 ∧ Rd w B A2 (ones.map .bool) ∧ nums.length ≤ c3 ∧ Rd w B A3 (nums.map (.int .i64)) := by
  obtain ⟨ad, A2, c2, A3, c3, h1, h2, h3, h4, h5, h6, h7, h8, h9, h10⟩ := h i ds[i] (List.getElem?_eq_getElem hi)
  exact ⟨ds[i].what, ds[i].wide, ds[i].ones, ds[i].nums, ad, A2, c2, A3, c3, List.getElem?_eq_getElem hi, h1, h2, h3, h4, h5, h6, h7, h8, h9, h10⟩
theorem addr_fld (a : Addr) {n : Nat} (h : 0 < n) : a.add n = ⟨a.block, a.off + n, none⟩ := by
  unfold Addr.add
  rw [if_neg (by omega)]
def FDok (d : FD) : Prop := d.ones.length ≤ 140737488351232 ∧ d.nums.length ≤ 140737488351232 ∧ (∀ x ∈ d.nums, -9223372036854775808 ≤ x ∧ x ≤ 9223372036854775807) ∧ (-9223372036854775808 ≤ d.what ∧ d.what ≤ 9223372036854775807) ∧ (-9223372036854775808 ≤ d.wide ∧ d.wide ≤ 9223372036854775807)
set_option maxRecDepth 100000 in
theorem open_fdeeds {H : Type} {enc : TypeId × Value → H} {W : World} {A : Option Addr} {n c : Nat} {d : DataW H} {p : List MemPlace}
    (h : DataW.Trod enc Tryd.prog W 0 (fun _ => true) true 23 (.slice A n c) d p) (hw : ∀ q ∈ d.weights Tryd.prog 23, q ≤ reachBytes) :
    ∃ ds : List FD, FDeedRd W W.heap.size A ds ∧ ds.length = n ∧ n ≤ 140737488351232 ∧ (∀ d ∈ ds, FDok d) := by
  obtain ⟨h1, h2, h3, h4⟩ := open_items (s := 4) (bytes := 64) Tryd.underlying23 (by kernel_rfl) (by kernel_rfl) (by omega) h hw
  obtain ⟨ds, hl, hq⟩ := choose_list (α := FD) (n := n) (Q := fun i d => (∃ ad A2 c2 A3 c3, A = some ad ∧ ad.block < W.heap.size ∧ W.cell? (ad.add (i * 4)) = some (.int .i64 d.what) ∧ W.cell? ⟨(ad.add (i * 4)).block, (ad.add (i * 4)).off + 1, none⟩ = some (.int .i64 d.wide) ∧
      W.cell? ⟨(ad.add (i * 4)).block, (ad.add (i * 4)).off + 2, none⟩ = some (.slice A2 d.ones.length c2) ∧ W.cell? ⟨(ad.add (i * 4)).block, (ad.add (i * 4)).off + 3, none⟩ = some (.slice A3 d.nums.length c3) ∧
      d.ones.length ≤ c2 ∧ Rd W W.heap.size A2 (d.ones.map .bool) ∧ d.nums.length ≤ c3 ∧ Rd W W.heap.size A3 (d.nums.map (.int .i64))) ∧ FDok d) (fun i hi => by
    obtain ⟨a, cs, di, pi, hA, hb, hcl, hcell, hrd, hwi⟩ := h4 i hi
    have hf := open_fields Tryd.underlying39 hrd hwi
    obtain ⟨d0, p0, r0, _⟩ := hf 0 _ rfl
    obtain ⟨d1, p1, r1, _⟩ := hf 1 _ rfl
    obtain ⟨d2, p2, r2, w2⟩ := hf 2 _ rfl
    obtain ⟨d3, p3, r3, w3⟩ := hf 3 _ rfl
    obtain ⟨x0, hx0, wf0⟩ := reads_int Tryd.underlying3 r0
    obtain ⟨x1, hx1, wf1⟩ := reads_int Tryd.underlying3 r1
    obtain ⟨A2, n2, c2, hs2, t2⟩ := reads_slice Tryd.underlying22 r2
    obtain ⟨A3, n3, c3, hs3, t3⟩ := reads_slice Tryd.underlying37 r3
    obtain ⟨bs, b1, b2, b3, b4⟩ := open_boolrow Tryd.underlying22 Tryd.underlying4 (by kernel_rfl) t2
    have b5 := open_boolrow_w Tryd.underlying22 Tryd.underlying4 (by kernel_rfl) (by kernel_rfl) t2 w2
    obtain ⟨xs, x1', x2', x3', x4', x5'⟩ := open_row (k := .i64) (bytes := 8) Tryd.underlying37 Tryd.underlying3 (by kernel_rfl) (by kernel_rfl) t3 w3
    have e0 := hcell 0 _ (take_one hx0)
    have e1 := hcell 1 _ (take_one hx1)
    have e2 := hcell 2 _ (take_one hs2)
    have e3 := hcell 3 _ (take_one hs3)
    rw [addr_add_zero] at e0
    rw [addr_fld _ (by omega)] at e1 e2 e3
    subst b2 x2'
    exact ⟨⟨x0, x1, bs, xs⟩, ⟨a, A2, c2, A3, c3, hA, hb, e0, e1, e2, e3, b3, b1, x3', x1'⟩, b5, by show xs.length ≤ _; omega, fun x hx => int_wf_ (x5' x hx), int_wf_ wf0, int_wf_ wf1⟩)
  refine ⟨ds, fun i d hd => (hq i d hd).1, hl, by omega, fun d hd => ?_⟩
  obtain ⟨i, hi⟩ := List.getElem?_of_mem hd
  exact (hq i d hi).2
end Go.Proofs.YtddmioaeehgkbaaDoor
