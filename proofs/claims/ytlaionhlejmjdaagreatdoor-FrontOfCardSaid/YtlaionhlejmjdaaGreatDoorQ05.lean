/-
  HOW THE ARGUMENTS OF A STATEMENT ARE OPENED: a slice of numbers, a slice of slices of numbers, with the form's own reach as a bound on each length.
  A SLICE OF WHATEVER ELEMENTS OPENED, element by element; a struct's fields.
  CONDITIONS: as each lemma says.
-/
import Derived.Test.YtlaionhlejmjdaaGreatDoorQ00
import Derived.ProofKit
import Derived.OpenShut
import Derived.SizedLaws
import Derived.Deep.Matrix
namespace Go.Proofs.YtlaionhlejmjdaaGreatDoor
open Go.ChangeShapes Go.WideShapes Go.ChangeAt Go.RowKit Go.Deep

theorem byte_wf {x : Int} (h : (Lit.int .u8 x).wf = true) : 0 ≤ x ∧ x ≤ 255 := by
  simpa [Lit.wf, IntKind.min, IntKind.max, IntKind.signed, IntKind.bits] using h

theorem weights_all_mem {H : Type} {P : Program} {e : TypeId} : ∀ {l : List (DataW H)} {i : Nat} {d : DataW H}, l[i]? = some d → ∀ n ∈ d.weights P e, n ∈ DataW.weightsAll P e l
  | d0 :: l, 0, d, hd, n, hn => by
    simp at hd
    subst hd
    simp only [DataW.weightsAll, List.mem_append]
    exact .inl hn
  | d0 :: l, i + 1, d, hd, n, hn => by
    simp only [DataW.weightsAll, List.mem_append]
    exact .inr (weights_all_mem (by simpa using hd) n hn)
  | [], _, _, hd, _, _ => by simp at hd

section
variable {H : Type} {enc : TypeId × Value → H} {P : Program} {W : World}
theorem block_of_cell {A : Addr} {i : Nat} {v : Value} (h : W.cell? (A.add i) = some v) : A.block < W.heap.size := by
  have := World.block_lt_of_cell? W _ h
  rwa [addr_add_block] at this

theorem open_row {t e : TypeId} {k : IntKind} {A : Option Addr} {n c bytes : Nat} {d : DataW H} {p : List MemPlace} (ht : P.underlying t = some (.slice e)) (he : P.underlying e = some (.int k)) (hc : P.cellsOf e = 1) (hb : P.bytesOf e = bytes)
    (h : DataW.Trod enc P W 0 (fun _ => true) true t (.slice A n c) d p) (hw : ∀ q ∈ d.weights P t, q ≤ reachBytes) :
    ∃ xs : List Int, Rd W W.heap.size A (xs.map (.int k)) ∧ xs.length = n ∧ n ≤ c ∧ n * bytes ≤ 140737488351232 ∧ ∀ x ∈ xs, (Lit.int k x).wf = true := by
  obtain ⟨fuel, hf⟩ := h
  rcases open_ints ht he hc hf with ⟨hcs, _⟩ | ⟨a, len, cap, zs, hcs, _, hl, hm, hz, hx, hcell, hwz⟩
  · simp [Value.cells] at hcs
    obtain ⟨rfl, rfl, rfl⟩ := hcs
    exact ⟨[], Rd.nil _ _ _, rfl, Nat.le_refl _, by omega, by simp⟩
  · simp [Value.cells] at hcs
    obtain ⟨rfl, rfl, rfl⟩ := hcs
    simp only [if_true] at hz
    have hd : d = .slice (lits k (zs.take n)) (lits k (zs.drop n)) := by simp only [Prod.mk.injEq] at hx; exact hx.1
    have hw1 := hw ((n + (c - n)) * bytes) (by rw [hd]; simp [DataW.weights, ht, lits, hz, Nat.min_eq_left hl, hb])
    refine ⟨zs.take n, fun i u hu => ?_, by rw [List.length_take, hz]; omega, hl, ?_, fun x hx => hwz x (List.mem_of_mem_take hx)⟩
    · rw [List.getElem?_map, List.getElem?_take] at hu
      split at hu
      · rename_i hi
        have hc1 := hcell i (by omega)
        rw [List.getElem?_eq_getElem (by omega)] at hu
        simp at hu
        subst hu
        rw [List.getD_eq_getElem?_getD, List.getElem?_eq_getElem (by omega)] at hc1
        exact ⟨a, rfl, block_of_cell hc1, hc1⟩
      · simp at hu
    · have : n * bytes ≤ (n + (c - n)) * bytes := Nat.mul_le_mul_right _ (by omega)
      unfold reachBytes at hw1
      omega

theorem open_rows {t e q : TypeId} {k : IntKind} {A : Option Addr} {n c bytes bytes' : Nat} {d : DataW H} {p : List MemPlace} (ht : P.underlying t = some (.slice e)) (he : P.underlying e = some (.slice q)) (hq : P.underlying q = some (.int k)) (hce : P.cellsOf e = 1) (hcq : P.cellsOf q = 1) (hb : P.bytesOf e = bytes) (hb' : P.bytesOf q = bytes')
    (h : DataW.Trod enc P W 0 (fun _ => true) true t (.slice A n c) d p) (hw : ∀ q ∈ d.weights P t, q ≤ reachBytes) :
    ∃ xss : List (List Int), RdRows W W.heap.size k A xss ∧ xss.length = n ∧ n ≤ c ∧ n * bytes ≤ 140737488351232 ∧ (∀ xs ∈ xss, xs.length * bytes' ≤ 140737488351232) ∧ ∀ xs ∈ xss, ∀ x ∈ xs, (Lit.int k x).wf = true := by
  obtain ⟨fuel, hf⟩ := h
  rcases open_int_rows ht he hq hce hcq hf with ⟨hcs, _⟩ | ⟨a, len, cap, AA, L, C, Z, hcs, _, hl, hm, hx, hrow⟩
  · simp [Value.cells] at hcs
    obtain ⟨rfl, rfl, rfl⟩ := hcs
    exact ⟨[], RdRows.nil _ _ _ _, rfl, Nat.le_refl _, by omega, by simp, by simp⟩
  · simp [Value.cells] at hcs
    obtain ⟨rfl, rfl, rfl⟩ := hcs
    have hd : d = .slice ((List.range n).map fun r => intRow k (AA r) (L r) (Z r)) ((List.range (c - n)).map fun j => intRow k (AA (n + j)) (L (n + j)) (Z (n + j))) := by simp only [Prod.mk.injEq] at hx; exact hx.1
    have hw1 := hw ((n + (c - n)) * bytes) (by rw [hd]; simp [DataW.weights, ht, hb])
    have hZ : ∀ r, r < n → ((Z r).take (L r)).length = L r := fun r hr => by
      have := hrow r (by omega)
      rw [List.length_take, this.2.2.2.1]
      omega
    have hLb : ∀ r, r < n → L r * bytes' ≤ 140737488351232 := fun r hr => by
      obtain ⟨_, h2, _, h4, _, h6, h7⟩ := hrow r (by omega)
      cases hA : AA r with
      | none =>
        have := h6 hA
        have h0 : L r = 0 := by omega
        rw [h0]; omega
      | some a' =>
        have := hw ((L r + (C r - L r)) * bytes') (by
          rw [hd]
          simp only [DataW.weights, ht, List.mem_cons, List.mem_append]
          refine .inr (.inl (weights_all_mem (i := r) (d := intRow k (AA r) (L r) (Z r)) (by simp [hr]) _ ?_))
          simp [intRow, hA, DataW.weights, he, lits, h4, Nat.min_eq_left h2, hb'])
        have h9 : L r * bytes' ≤ (L r + (C r - L r)) * bytes' := Nat.mul_le_mul_right _ (by omega)
        unfold reachBytes at this
        omega
    refine ⟨(List.range n).map fun r => (Z r).take (L r), ⟨(List.range n).map fun r => .slice (AA r) (L r) (C r), by simp, fun i u hu => ?_, fun i xs hi => ?_⟩, by simp, hl, ?_, fun xs hxs => ?_, fun xs hxs x hx => ?_⟩
    · by_cases hi : i < n
      · simp [hi] at hu
        subst hu
        have hc1 := (hrow i (by omega)).1
        exact ⟨a, rfl, block_of_cell hc1, hc1⟩
      · rw [List.getElem?_eq_none (by simp; omega)] at hu
        cases hu
    · by_cases hin : i < n
      · simp [hin] at hi
        subst hi
        obtain ⟨_, h2, _, h4, _, h6, h7⟩ := hrow i (by omega)
        refine ⟨AA i, C i, by simp [hin, h4]; omega, by rw [hZ i hin]; exact h2, fun j u hu => ?_⟩
        have hj : j < L i := by
          have := (List.getElem?_eq_some_iff.1 hu).1
          rw [List.length_map, hZ i hin] at this
          exact this
        have hsome : ∃ a', AA i = some a' := by
          cases hA : AA i with
          | none => have := h6 hA; omega
          | some a' => exact ⟨a', rfl⟩
        obtain ⟨a', ha'⟩ := hsome
        have hc1 := (h7 a' ha').2 j (by omega)
        rw [List.getElem?_map, List.getElem?_take, if_pos hj, List.getElem?_eq_getElem (by omega)] at hu
        simp at hu
        subst hu
        rw [List.getD_eq_getElem?_getD, List.getElem?_eq_getElem (by omega)] at hc1
        exact ⟨a', ha', block_of_cell hc1, hc1⟩
      · rw [List.getElem?_eq_none (by simp; omega)] at hi
        cases hi
    · have : n * bytes ≤ (n + (c - n)) * bytes := Nat.mul_le_mul_right _ (by omega)
      unfold reachBytes at hw1
      omega
    · obtain ⟨r, hr, rfl⟩ := List.mem_map.1 hxs
      have hr := List.mem_range.1 hr
      rw [hZ r hr]
      exact hLb r hr
    · obtain ⟨r, hr, rfl⟩ := List.mem_map.1 hxs
      have hr := List.mem_range.1 hr
      exact (hrow r (by omega)).2.2.2.2.1 x (List.mem_of_mem_take hx)
end
end Go.Proofs.YtlaionhlejmjdaaGreatDoor
namespace Go.Proofs.YtlaionhlejmjdaaGreatDoor
open Go.ChangeShapes Go.WideShapes Go.ChangeAt Go.RowKit Go.Deep

theorem choose_list {α : Type} : ∀ {n : Nat} {Q : Nat → α → Prop}, (∀ i, i < n → ∃ x, Q i x) → ∃ l : List α, l.length = n ∧ ∀ i x, l[i]? = some x → Q i x
  | 0, _, _ => ⟨[], rfl, fun i x h => by simp at h⟩
  | n + 1, Q, h => by
    obtain ⟨l, hl, hq⟩ := choose_list (n := n) (Q := Q) (fun i hi => h i (by omega))
    obtain ⟨x, hx⟩ := h n (by omega)
    refine ⟨l ++ [x], by simp [hl], fun i y hy => ?_⟩
    by_cases hi : i < n
    · rw [List.getElem?_append_left (by omega)] at hy
      exact hq i y hy
    · rw [List.getElem?_append_right (by omega), hl] at hy
      have hi' : i - n = 0 := by
        have := (List.getElem?_eq_some_iff.1 hy).1
        simp at this
        omega
      rw [hi'] at hy
      simp at hy
      obtain rfl : i = n := by omega
      subst hy
      exact hx

section
variable {H : Type} {enc : TypeId × Value → H} {P : Program} {W : World}
/-- Cells that read as a value of a type. -/
def Reads (enc : TypeId × Value → H) (P : Program) (W : World) (t : TypeId) (cs : List Value) (d : DataW H) (p : List MemPlace) : Prop := ∃ fuel, DataW.trod enc P W 0 (fun _ => true) true fuel t cs = some (d, p)
theorem open_items {t e : TypeId} {s bytes : Nat} {A : Option Addr} {n c : Nat} {d : DataW H} {p : List MemPlace} (ht : P.underlying t = some (.slice e)) (hs : P.cellsOf e = s) (hb : P.bytesOf e = bytes) (h0 : 0 < s)
    (h : DataW.Trod enc P W 0 (fun _ => true) true t (.slice A n c) d p) (hw : ∀ q ∈ d.weights P t, q ≤ reachBytes) :
    n ≤ c ∧ c ≤ maxLen ∧ n * bytes ≤ 140737488351232 ∧ ∀ i, i < n → ∃ (a : Addr) (cs : List Value) (di : DataW H) (pi : List MemPlace), A = some a ∧ a.block < W.heap.size ∧ cs.length = s ∧ (∀ j u, cs[j]? = some u → W.cell? ((a.add (i * s)).add j) = some u) ∧ Reads enc P W e cs di pi ∧ (∀ q ∈ di.weights P e, q ≤ reachBytes) := by
  obtain ⟨fuel, hf⟩ := h
  have hf' : DataW.trod enc P W 0 (fun _ => true) true fuel t [.slice A n c] = some (d, p) := hf
  rcases DataW.trod_slice ht hf' with ⟨hcs, _⟩ | ⟨a, len, cap, elems, rest, m, _, hcs, hx, _, hl, hm, hlen, hel, hsp, _⟩
  · simp only [List.cons.injEq, Value.slice.injEq, and_true] at hcs
    obtain ⟨rfl, rfl, rfl⟩ := hcs
    exact ⟨Nat.le_refl _, Nat.zero_le _, by omega, fun i hi => by omega⟩
  · simp only [List.cons.injEq, Value.slice.injEq, and_true] at hcs
    obtain ⟨rfl, rfl, rfl⟩ := hcs
    obtain ⟨rfl, _⟩ := Prod.mk.inj hx
    have hr := (hsp rfl).1
    have hw1 := hw ((n + (c - n)) * bytes) (by simp [DataW.weights, ht, hlen, hr, hb])
    refine ⟨hl, hm, ?_, fun i hi => ?_⟩
    · have : n * bytes ≤ (n + (c - n)) * bytes := Nat.mul_le_mul_right _ (by omega)
      unfold reachBytes at hw1
      omega
    · have h1 := hel i hi
      rw [List.getElem?_eq_getElem (by omega), hs] at h1
      obtain ⟨cs, h2, h3⟩ := Option.bind_eq_some_iff.1 h1
      obtain ⟨_, h5, h6⟩ := World.cells?_some h2
      have h7 : ∀ j u, cs[j]? = some u → W.cell? ((a.add (i * s)).add j) = some u := fun j u hu => by
        rw [h6 j (by have := (List.getElem?_eq_some_iff.1 hu).1; omega)]
        exact hu
      refine ⟨a, cs, elems[i].1, elems[i].2, rfl, ?_, h5, h7, ⟨m, h3⟩, fun q hq => ?_⟩
      · have h8 := h7 0 cs[0] (List.getElem?_eq_getElem (by omega))
        have := World.block_lt_of_cell? W _ h8
        rwa [addr_add_block, addr_add_block] at this
      · refine hw q ?_
        simp only [DataW.weights, ht, List.mem_cons, List.mem_append]
        exact .inr (.inl (weights_all_mem (i := i) (by simp [List.getElem?_eq_getElem (show i < elems.length by omega)]) q hq))
theorem open_fields {t : TypeId} {fs : Array Field} {cs : List Value} {d : DataW H} {p : List MemPlace} (ht : P.underlying t = some (.struct fs)) (h : Reads enc P W t cs d p) (hw : ∀ q ∈ d.weights P t, q ≤ reachBytes) :
    ∀ (i : Nat) (f : Field), fs[i]? = some f → ∃ di pi, Reads enc P W f.type ((cs.drop f.offset).take (P.cellsOf f.type)) di pi ∧ ∀ q ∈ di.weights P f.type, q ≤ reachBytes := by
  obtain ⟨fuel, hf⟩ := h
  obtain ⟨xs, n, _, hx, _, hlen, hfs⟩ := DataW.trod_struct ht hf
  obtain ⟨rfl, _⟩ := Prod.mk.inj hx
  intro i f hfi
  have h1 := hfs i f hfi
  have hi : i < xs.length := by rw [hlen]; exact (Array.getElem?_eq_some_iff.1 hfi).1
  rw [List.getElem?_eq_getElem hi] at h1
  refine ⟨xs[i].1, xs[i].2, ⟨n, h1⟩, fun q hq => hw q ?_⟩
  simp only [DataW.weights, ht]
  exact DataW.weights_mem_each (j := i) (by simp [hfi]) (by simp [List.getElem?_eq_getElem hi]) q hq
/-- A field that is one cell: a bool, a number, a slice. -/
theorem reads_bool {t : TypeId} {cs : List Value} {d : DataW H} {p : List MemPlace} (ht : P.underlying t = some .bool) (h : Reads enc P W t cs d p) : ∃ b, cs = [.bool b] := by
  obtain ⟨fuel, hf⟩ := h
  obtain ⟨b, h, _⟩ := DataW.trod_bool ht hf
  exact ⟨b, h⟩
theorem reads_int {t : TypeId} {k : IntKind} {cs : List Value} {d : DataW H} {p : List MemPlace} (ht : P.underlying t = some (.int k)) (h : Reads enc P W t cs d p) : ∃ n, cs = [.int k n] ∧ (Lit.int k n).wf = true := by
  obtain ⟨fuel, hf⟩ := h
  obtain ⟨b, h, _, hw⟩ := DataW.trod_int ht hf
  exact ⟨b, h, hw⟩
theorem reads_slice {t e : TypeId} {cs : List Value} {d : DataW H} {p : List MemPlace} (ht : P.underlying t = some (.slice e)) (h : Reads enc P W t cs d p) : ∃ A n c, cs = [.slice A n c] ∧ DataW.Trod enc P W 0 (fun _ => true) true t (.slice A n c) d p := by
  obtain ⟨fuel, hf⟩ := h
  rcases DataW.trod_slice ht hf with ⟨h, _⟩ | ⟨a, len, cap, _, _, _, _, h, _⟩
  · subst h; exact ⟨_, _, _, rfl, ⟨fuel, hf⟩⟩
  · subst h; exact ⟨_, _, _, rfl, ⟨fuel, hf⟩⟩
end
theorem int_wf_ {x : Int} (h : (Lit.int .i64 x).wf = true) : -9223372036854775808 ≤ x ∧ x ≤ 9223372036854775807 := by
  simpa [Lit.wf, IntKind.min, IntKind.max, IntKind.signed, IntKind.bits] using h
theorem take_one {α : Type} {l : List α} {k : Nat} {x : α} (h : (l.drop k).take 1 = [x]) : l[k]? = some x := by
  have : ((l.drop k).take 1)[0]? = some x := by rw [h]; rfl
  simpa using this
end Go.Proofs.YtlaionhlejmjdaaGreatDoor
