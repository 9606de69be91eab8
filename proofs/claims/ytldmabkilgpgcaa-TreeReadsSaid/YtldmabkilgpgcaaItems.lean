/-
  A SLICE OF WHATEVER ELEMENTS OPENED, element by element; a struct's fields.
  CONDITIONS: none.
-/
import Derived.Test.YtldmabkilgpgcaaOpen
namespace Go.Proofs.Ytldmabkilgpgcaa
open Go.ChangeShapes Go.WideShapes Go.ChangeAt Go.RowKit Go.Deep

theorem choose_list {α : Type} : ∀ {n : Nat} {Q : Nat → α → Prop}, (∀ i, i < n → ∃ x, Q i x) → ∃ l : List α, l.length = n ∧ ∀ i x, l[i]? = some x → Q i x
  | 0, _, _ => ⟨[], rfl, fun i x h => by simp at h⟩
  | n + 1, Q, h => by
    obtain ⟨l, hl, hq⟩ := choose_list (n := n) (Q := Q) (fun i hi => h i (by omega))
    obtain ⟨x, hx⟩ := h n (by omega)
    refine ⟨l ++ [x], by simp [hl], fun i y hy => ?_⟩
    by_cases hi : i < n
    · rw [List.getElem?_append_left (by omega)] at hy
      exact hq i y hy
    · rw [List.getElem?_append_right (by omega), hl] at hy
      have hi' : i - n = 0 := by
        have := (List.getElem?_eq_some_iff.1 hy).1
        simp at this
        omega
      rw [hi'] at hy
      simp at hy
      obtain rfl : i = n := by omega
      subst hy
      exact hx

section
variable {H : Type} {enc : TypeId × Value → H} {P : Program} {W : World}
/-- Cells that read as a value of a type. -/
def Reads (enc : TypeId × Value → H) (P : Program) (W : World) (t : TypeId) (cs : List Value) (d : DataW H) (p : List MemPlace) : Prop := ∃ fuel, DataW.trod enc P W 0 (fun _ => true) true fuel t cs = some (d, p)
theorem open_items {t e : TypeId} {s bytes : Nat} {A : Option Addr} {n c : Nat} {d : DataW H} {p : List MemPlace} (ht : P.underlying t = some (.slice e)) (hs : P.cellsOf e = s) (hb : P.bytesOf e = bytes) (h0 : 0 < s)
    (h : DataW.Trod enc P W 0 (fun _ => true) true t (.slice A n c) d p) (hw : ∀ q ∈ d.weights P t, q ≤ reachBytes) :
    n ≤ c ∧ c ≤ maxLen ∧ n * bytes ≤ 140737488351232 ∧ ∀ i, i < n → ∃ (a : Addr) (cs : List Value) (di : DataW H) (pi : List MemPlace), A = some a ∧ a.block < W.heap.size ∧ cs.length = s ∧ (∀ j u, cs[j]? = some u → W.cell? ((a.add (i * s)).add j) = some u) ∧ Reads enc P W e cs di pi ∧ (∀ q ∈ di.weights P e, q ≤ reachBytes) := by
  obtain ⟨fuel, hf⟩ := h
  have hf' : DataW.trod enc P W 0 (fun _ => true) true fuel t [.slice A n c] = some (d, p) := hf
  rcases DataW.trod_slice ht hf' with ⟨hcs, _⟩ | ⟨a, len, cap, elems, rest, m, _, hcs, hx, _, hl, hm, hlen, hel, hsp, _⟩
  · simp only [List.cons.injEq, Value.slice.injEq, and_true] at hcs
    obtain ⟨rfl, rfl, rfl⟩ := hcs
    exact ⟨Nat.le_refl _, Nat.zero_le _, by omega, fun i hi => by omega⟩
  · simp only [List.cons.injEq, Value.slice.injEq, and_true] at hcs
    obtain ⟨rfl, rfl, rfl⟩ := hcs
    obtain ⟨rfl, _⟩ := Prod.mk.inj hx
    have hr := (hsp rfl).1
    have hw1 := hw ((n + (c - n)) * bytes) (by simp [DataW.weights, ht, hlen, hr, hb])
    refine ⟨hl, hm, ?_, fun i hi => ?_⟩
    · have : n * bytes ≤ (n + (c - n)) * bytes := Nat.mul_le_mul_right _ (by omega)
      unfold reachBytes at hw1
      omega
    · have h1 := hel i hi
      rw [List.getElem?_eq_getElem (by omega), hs] at h1
      obtain ⟨cs, h2, h3⟩ := Option.bind_eq_some_iff.1 h1
      obtain ⟨_, h5, h6⟩ := World.cells?_some h2
      have h7 : ∀ j u, cs[j]? = some u → W.cell? ((a.add (i * s)).add j) = some u := fun j u hu => by
        rw [h6 j (by have := (List.getElem?_eq_some_iff.1 hu).1; omega)]
        exact hu
      refine ⟨a, cs, elems[i].1, elems[i].2, rfl, ?_, h5, h7, ⟨m, h3⟩, fun q hq => ?_⟩
      · have h8 := h7 0 cs[0] (List.getElem?_eq_getElem (by omega))
        have := World.block_lt_of_cell? W _ h8
        rwa [addr_add_block, addr_add_block] at this
      · refine hw q ?_
        simp only [DataW.weights, ht, List.mem_cons, List.mem_append]
        exact .inr (.inl (weights_all_mem (i := i) (by simp [List.getElem?_eq_getElem (show i < elems.length by omega)]) q hq))
theorem open_fields {t : TypeId} {fs : Array Field} {cs : List Value} {d : DataW H} {p : List MemPlace} (ht : P.underlying t = some (.struct fs)) (h : Reads enc P W t cs d p) (hw : ∀ q ∈ d.weights P t, q ≤ reachBytes) :
    ∀ (i : Nat) (f : Field), fs[i]? = some f → ∃ di pi, Reads enc P W f.type ((cs.drop f.offset).take (P.cellsOf f.type)) di pi ∧ ∀ q ∈ di.weights P f.type, q ≤ reachBytes := by
  obtain ⟨fuel, hf⟩ := h
  obtain ⟨xs, n, _, hx, _, hlen, hfs⟩ := DataW.trod_struct ht hf
  obtain ⟨rfl, _⟩ := Prod.mk.inj hx
  intro i f hfi
  have h1 := hfs i f hfi
  have hi : i < xs.length := by rw [hlen]; exact (Array.getElem?_eq_some_iff.1 hfi).1
  rw [List.getElem?_eq_getElem hi] at h1
  refine ⟨xs[i].1, xs[i].2, ⟨n, h1⟩, fun q hq => hw q ?_⟩
  simp only [DataW.weights, ht]
  exact DataW.weights_mem_each (j := i) (by simp [hfi]) (by simp [List.getElem?_eq_getElem hi]) q hq
/-- A field that is one cell: a bool, a number, a slice. -/
theorem reads_bool {t : TypeId} {cs : List Value} {d : DataW H} {p : List MemPlace} (ht : P.underlying t = some .bool) (h : Reads enc P W t cs d p) : ∃ b, cs = [.bool b] := by
  obtain ⟨fuel, hf⟩ := h
  obtain ⟨b, h, _⟩ := DataW.trod_bool ht hf
  exact ⟨b, h⟩
theorem reads_int {t : TypeId} {k : IntKind} {cs : List Value} {d : DataW H} {p : List MemPlace} (ht : P.underlying t = some (.int k)) (h : Reads enc P W t cs d p) : ∃ n, cs = [.int k n] ∧ (Lit.int k n).wf = true := by
  obtain ⟨fuel, hf⟩ := h
  obtain ⟨b, h, _, hw⟩ := DataW.trod_int ht hf
  exact ⟨b, h, hw⟩
theorem reads_slice {t e : TypeId} {cs : List Value} {d : DataW H} {p : List MemPlace} (ht : P.underlying t = some (.slice e)) (h : Reads enc P W t cs d p) : ∃ A n c, cs = [.slice A n c] ∧ DataW.Trod enc P W 0 (fun _ => true) true t (.slice A n c) d p := by
  obtain ⟨fuel, hf⟩ := h
  rcases DataW.trod_slice ht hf with ⟨h, _⟩ | ⟨a, len, cap, _, _, _, _, h, _⟩
  · subst h; exact ⟨_, _, _, rfl, ⟨fuel, hf⟩⟩
  · subst h; exact ⟨_, _, _, rfl, ⟨fuel, hf⟩⟩
end
theorem int_wf_ {x : Int} (h : (Lit.int .i64 x).wf = true) : -9223372036854775808 ≤ x ∧ x ≤ 9223372036854775807 := by
  simpa [Lit.wf, IntKind.min, IntKind.max, IntKind.signed, IntKind.bits] using h
theorem take_one {α : Type} {l : List α} {k : Nat} {x : α} (h : (l.drop k).take 1 = [x]) : l[k]? = some x := by
  have : ((l.drop k).take 1)[0]? = some x := by rw [h]; rfl
  simpa using this
end Go.Proofs.Ytldmabkilgpgcaa
