/-
  PLAIN MATHEMATICS OF LAYER 6, third part: which signs and lengths make a code; its words, one by one.
  CONDITIONS: none beyond each lemma's own.
-/
import Derived.Test.YtanacapkfllbnaaGreatDoorQ14
namespace Go.Proofs.YtanacapkfllbnaaGreatDoor

/-- Signs that rise, each more than b, none more than 256. -/
def risI : Int → List Int → Prop
  | _, [] => True
  | b, x :: l => b < x ∧ x < 257 ∧ risI x l
theorem risI_snoc : ∀ {l : List Int} {b x : Int}, risI b (l ++ [x]) ↔ risI b l ∧ l.getLastD b < x ∧ x < 257
  | [], b, x => by simp [risI]
  | y :: l, b, x => by
    rw [List.cons_append, risI, risI, risI_snoc (l := l), List.getLastD_cons]
    simp only [and_assoc]
theorem risI_app : ∀ {l m : List Int} {b : Int}, risI b (l ++ m) → risI b l
  | [], _, _, _ => trivial
  | _ :: _, _, _, h => ⟨h.1, h.2.1, risI_app h.2.2⟩
theorem risI_ge : ∀ {l : List Int} {b : Int}, risI b l → ∀ x ∈ l, b < x ∧ x ≤ 256
  | [], _, _, x, hx => by simp at hx
  | y :: l, b, h, x, hx => by
    rcases List.mem_cons.1 hx with rfl | hx
    · exact ⟨h.1, by have := h.2.1; omega⟩
    · have := risI_ge h.2.2 x hx
      have := h.1
      exact ⟨by omega, by omega⟩
theorem risI_nat : ∀ {l : List Int} {b : Int}, -1 ≤ b → risI b l → (l.map Int.toNat).Pairwise (· < ·) ∧ (∀ s ∈ l.map Int.toNat, s ≤ 256) ∧ (l.map Int.toNat).map (fun (x : Nat) => (x : Int)) = l
  | [], _, _, _ => ⟨by simp, by simp, rfl⟩
  | y :: l, b, hb, h => by
    have h1 := h.1
    have h2 := h.2.1
    obtain ⟨p, q, r⟩ := risI_nat (l := l) (b := y) (by omega) h.2.2
    refine ⟨?_, ?_, ?_⟩
    · rw [List.map_cons, List.pairwise_cons]
      refine ⟨fun z hz => ?_, p⟩
      obtain ⟨u, hu, rfl⟩ := List.mem_map.1 hz
      have := (risI_ge h.2.2 u hu).1
      omega
    · intro s hs
      rw [List.map_cons] at hs
      rcases List.mem_cons.1 hs with rfl | hs
      · omega
      · exact q s hs
    · rw [List.map_cons, List.map_cons, r, Int.toNat_of_nonneg (by omega)]
/-- Signs and lengths that make a code. -/
def okMake (some lens : List Int) : Prop := some.length = lens.length ∧ okF lens ∧ risI (-1) some
theorem okF_pos {l : List Int} (h : okF l) : 1 ≤ l.length := by
  rcases h.2 with h | h
  · rw [h]; simp
  · omega
theorem okF_range {l : List Int} (h : okF l) : ∀ x ∈ l, 1 ≤ x ∧ x ≤ 256 := by
  intro x hx
  rcases h.2 with e | ⟨h2, hd⟩
  · rw [e] at hx; simp at hx; omega
  · have := hd.bound x hx
    have := h.1
    exact ⟨by have := this; have := (hd.bound x hx).2.2 (by omega); omega, by omega⟩
theorem okMake_code {some lens : List Int} (h : okMake some lens) : ∃ T, CodeT T (some.map Int.toNat) lens := by
  obtain ⟨h1, h2, h3⟩ := h
  obtain ⟨p, q, r⟩ := risI_nat (by omega) h3
  rcases h2.2 with e | ⟨h4, hd⟩
  · subst e
    match some, h1, q with
    | [x], _, q => exact ⟨_, codeT_one x.toNat (q x.toNat (by simp))⟩
  · exact codeT_more hd h4 (by rw [List.length_map]; exact h1) p q
/-- The tree of a code. -/
noncomputable def treeC (some lens : List Int) : CT := open Classical in if h : okMake some lens then (okMake_code h).choose else .nil
theorem treeC_code {some lens : List Int} (h : okMake some lens) : CodeT (treeC some lens) (some.map Int.toNat) lens := by
  unfold treeC
  rw [dif_pos h]
  exact (okMake_code h).choose_spec
theorem slT_zip {T : CT} {sg : List Nat} {ls : List Int} (h : CodeT T sg ls) : ((T.al []).map fun x => (x.1, x.2.length)) = sg.zip (ls.map Int.toNat) := by
  rw [← h.1, ← h.2.1, List.map_map]
  induction T.al [] with
  | nil => rfl
  | cons x l ih => simp [ih]
end Go.Proofs.YtanacapkfllbnaaGreatDoor
