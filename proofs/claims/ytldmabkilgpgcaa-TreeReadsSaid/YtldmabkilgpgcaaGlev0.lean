/-
  LAYER 15 (tree): levels.
  CONDITIONS: as each says.
-/
import Derived.Test.YtldmabkilgpgcaaGpart
import Derived.Deep.DeepCutAuto
namespace Go.Proofs.Ytldmabkilgpgcaa
open Go.RowKit

theorem app_facts {w w2 : World} {o : Obj} {v v' : Value} (hg : (w.alloc o).grownBy w2 v.ownBlock) (hat : v'.ownBlock = v.ownBlock ∨ v'.ownBlock = some (w.alloc o).heap.size) : Kp (ownL v) w w2 ∧ ∀ x ∈ ownL v', x ∈ ownL v ∨ w.heap.size ≤ x :=
  ⟨((Kp.refl _ w).alloc o).grown hg (fun _ hb => .inl (mem_ownL.2 hb)), own_new hat⟩
theorem Try.info_gpairs : (Try.prog.info? 22).map (fun i => (i.zero, i.size, i.bytes)) = some (some (.slice none 0 0), 1, 24) := by kernel_rfl
theorem Try.info_gbool : (Try.prog.info? 4).map (fun i => (i.zero, i.size, i.bytes)) = some (some (.bool false), 1, 1) := by kernel_rfl
/-- A row that lies apart from some blocks. -/
def RF (w : World) (F : List Nat) (A : Option Addr) (xs : List Value) : Prop := Rd w w.heap.size A xs ∧ ∀ ad, A = some ad → xs ≠ [] → ad.block ∉ F
theorem RF.step {w w' : World} {S F F' : List Nat} {A : Option Addr} {xs : List Value} (h : RF w F A xs) (hk : Kp S w w') (hS : ∀ x ∈ S, x ∈ F) (hF : ∀ x ∈ F', x ∈ F ∨ w.heap.size ≤ x) : RF w' F' A xs := by
  obtain ⟨h1, h2⟩ := h
  rcases xs with _ | ⟨x, l⟩
  · exact ⟨Rd.nil _ _ _, fun _ _ h => absurd rfl h⟩
  · have hne : x :: l ≠ [] := List.cons_ne_nil _ _
    refine ⟨(h1.kp_ne hk (fun ad ha hm => h2 ad ha hne (hS _ hm))).bound hk.size, fun ad ha _ hm => ?_⟩
    rcases hF _ hm with h | h
    · exact h2 ad ha hne h
    · obtain ⟨ad', e, _, hl⟩ := h1.lt hne
      rw [ha] at e
      injection e with e
      subst e
      omega
/-- The squares' rows. -/
def SqE (w : World) (F : List Nat) (sq : List (List (Nat × Nat))) (vs : List Value) : Prop := vs.length = sq.length ∧ ∀ (i : Nat) (l : List (Nat × Nat)), sq[i]? = some l → ∃ (Ai : Option Addr) (ci : Nat), vs[i]? = some (Value.slice Ai l.length ci) ∧ RF w F Ai (pc l)
theorem SqE.step {w w' : World} {S F F' : List Nat} {sq : List (List (Nat × Nat))} {vs : List Value} (h : SqE w F sq vs) (hk : Kp S w w') (hS : ∀ x ∈ S, x ∈ F) (hF : ∀ x ∈ F', x ∈ F ∨ w.heap.size ≤ x) : SqE w' F' sq vs :=
  ⟨h.1, fun i l hi => by obtain ⟨Ai, ci, h1, h2⟩ := h.2 i l hi; exact ⟨Ai, ci, h1, h2.step hk hS hF⟩⟩
theorem SqE.snoc {w : World} {F : List Nat} {sq : List (List (Nat × Nat))} {vs : List Value} {l : List (Nat × Nat)} {A : Option Addr} {n c : Nat} (h : SqE w F sq vs) (hl : l.length = n) (hr : RF w F A (pc l)) : SqE w F (sq ++ [l]) (vs ++ [Value.slice A n c]) := by
  refine ⟨by rw [List.length_append, List.length_append, h.1]; rfl, fun i m hi => ?_⟩
  by_cases hlt : i < sq.length
  · rw [List.getElem?_append_left hlt] at hi
    rw [List.getElem?_append_left (by rw [h.1]; exact hlt)]
    exact h.2 i m hi
  · rw [List.getElem?_append_right (by omega)] at hi
    rw [List.getElem?_append_right (by rw [h.1]; omega), h.1]
    rcases Nat.eq_zero_or_pos (i - sq.length) with h0 | h0
    · rw [h0] at hi ⊢
      simp only [List.getElem?_cons_zero, Option.some.injEq] at hi
      subst hi
      exact ⟨A, c, by rw [hl]; rfl, hr⟩
    · rw [List.getElem?_eq_none (by simp; omega)] at hi
      cases hi
/-- A slice of squares. -/
def SqV (w : World) (F : List Nat) (A : Option Addr) (sq : List (List (Nat × Nat))) : Prop := ∃ vs, RF w F A vs ∧ SqE w F sq vs
theorem SqV.step {w w' : World} {S F F' : List Nat} {A : Option Addr} {sq : List (List (Nat × Nat))} (h : SqV w F A sq) (hk : Kp S w w') (hS : ∀ x ∈ S, x ∈ F) (hF : ∀ x ∈ F', x ∈ F ∨ w.heap.size ≤ x) : SqV w' F' A sq := by
  obtain ⟨vs, h1, h2⟩ := h
  exact ⟨vs, h1.step hk hS hF, h2.step hk hS hF⟩
theorem SqV.kp0 {w w' : World} {F : List Nat} {A : Option Addr} {sq : List (List (Nat × Nat))} (h : SqV w F A sq) (hk : Kp [] w w') : SqV w' F A sq := h.step hk (by simp) (fun _ h => .inl h)
theorem SqV.at_ {w : World} {F : List Nat} {A : Option Addr} {sq : List (List (Nat × Nat))} (h : SqV w F A sq) {i : Nat} {l : List (Nat × Nat)} (hi : sq[i]? = some l) : ∃ ad Ai ci, A = some ad ∧ w.cell? (ad.add i) = some (.slice Ai l.length ci) ∧ RF w F Ai (pc l) := by
  obtain ⟨vs, h1, h2⟩ := h
  obtain ⟨Ai, ci, h3, h4⟩ := h2.2 i l hi
  obtain ⟨ad, e, _, hc⟩ := h1.1 i _ h3
  exact ⟨ad, Ai, ci, e, hc, h4⟩
/-- The bits and the next squares, as far as they are made. -/
def LevS (w : World) (base : Nat) (vo vn : Value) (no nn : Nat) (bs : List Bool) (nx : List (List (Nat × Nat))) : Prop :=
  w.ownsRow base 4 1 vo no (bs.map .bool) ∧ (∀ b ∈ ownL vo, b ∉ ownL vn) ∧ nx.length = nn ∧ ∃ vs, w.ownsRow base 22 1 vn nn vs ∧ SqE w (ownL vo ++ ownL vn) nx vs
theorem LevS.kp0 {w w' : World} {base : Nat} {vo vn : Value} {no nn : Nat} {bs : List Bool} {nx : List (List (Nat × Nat))} (h : LevS w base vo vn no nn bs nx) (hk : Kp [] w w') : LevS w' base vo vn no nn bs nx := by
  obtain ⟨h1, h2, h3, vs, h4, h5⟩ := h
  exact ⟨own_kp0 h1 hk, h2, h3, vs, own_kp0 h4 hk, h5.step hk (by simp) (fun _ h => .inl h)⟩
theorem LevS.o {w : World} {base : Nat} {vo vn : Value} {no nn : Nat} {bs : List Bool} {nx : List (List (Nat × Nat))} (h : LevS w base vo vn no nn bs nx) : w.ownsRow base 4 1 vo no (bs.map .bool) := h.1
theorem LevS.n {w : World} {base : Nat} {vo vn : Value} {no nn : Nat} {bs : List Bool} {nx : List (List (Nat × Nat))} (h : LevS w base vo vn no nn bs nx) : ∃ vs, w.ownsRow base 22 1 vn nn vs ∧ vs.length = nn := by
  obtain ⟨h1, h2, h3, vs, h4, h5⟩ := h
  exact ⟨vs, h4, by rw [h5.1, h3]⟩
theorem F_o {w : World} {vo vn vo' : Value} (hn : ∀ x ∈ ownL vo', x ∈ ownL vo ∨ w.heap.size ≤ x) : ∀ x ∈ ownL vo' ++ ownL vn, x ∈ ownL vo ++ ownL vn ∨ w.heap.size ≤ x := fun x hx => by
  rw [List.mem_append] at hx ⊢
  rcases hx with h | h
  · rcases hn x h with h | h
    · exact .inl (.inl h)
    · exact .inr h
  · exact .inl (.inr h)
theorem F_n {w : World} {vo vn vn' : Value} (hn : ∀ x ∈ ownL vn', x ∈ ownL vn ∨ w.heap.size ≤ x) : ∀ x ∈ ownL vo ++ ownL vn', x ∈ ownL vo ++ ownL vn ∨ w.heap.size ≤ x := fun x hx => by
  rw [List.mem_append] at hx ⊢
  rcases hx with h | h
  · exact .inl (.inl h)
  · rcases hn x h with h | h
    · exact .inl (.inr h)
    · exact .inr h
theorem S_o {vo vn : Value} : ∀ x ∈ ownL vo, x ∈ ownL vo ++ ownL vn := fun _ h => List.mem_append.2 (.inl h)
theorem S_n {vo vn : Value} : ∀ x ∈ ownL vn, x ∈ ownL vo ++ ownL vn := fun _ h => List.mem_append.2 (.inr h)
/-- A bit more. -/
theorem LevS.bit {w w' : World} {base : Nat} {vo vn vo' : Value} {no nn : Nat} {bs : List Bool} {nx : List (List (Nat × Nat))} {b : Bool} (h : LevS w base vo vn no nn bs nx) (ho : w'.ownsRow base 4 1 vo' (no + 1) (bs.map .bool ++ [.bool b])) (hk : Kp (ownL vo) w w') (hn : ∀ x ∈ ownL vo', x ∈ ownL vo ∨ w.heap.size ≤ x) : LevS w' base vo' vn (no + 1) nn (bs ++ [b]) nx := by
  obtain ⟨h1, h2, h3, vs, h4, h5⟩ := h
  refine ⟨by rw [List.map_append]; exact ho, fun x hx hm => ?_, h3, vs, own_kp h4 hk (fun x hx hm => h2 x hm (mem_ownL.2 hx)), h5.step hk S_o (F_o hn)⟩
  rcases hn x hx with h | h
  · exact h2 x h hm
  · have := (own_ge h4 (mem_ownL.1 hm)).2
    omega
/-- A square more. -/
theorem LevS.sq {w w' : World} {base : Nat} {vo vn vn' : Value} {no nn n c : Nat} {bs : List Bool} {nx : List (List (Nat × Nat))} {l : List (Nat × Nat)} {A : Option Addr} {xs : List Value} (h : LevS w base vo vn no nn bs nx) (hx : w.ownsRow base 22 1 vn nn xs) (ho : w'.ownsRow base 22 1 vn' (nn + 1) (xs ++ [.slice A n c])) (hk : Kp (ownL vn) w w') (hn : ∀ x ∈ ownL vn', x ∈ ownL vn ∨ w.heap.size ≤ x) (hl : l.length = n) (hr : RF w (ownL vo ++ ownL vn) A (pc l)) : LevS w' base vo vn' no (nn + 1) bs (nx ++ [l]) := by
  obtain ⟨h1, h2, h3, vs, h4, h5⟩ := h
  obtain rfl : vs = xs := by
    rcases own_blk h4 with ⟨rfl, _, e⟩ | ⟨g, cap, rest, rfl, _, hb, _, _, hc⟩
    · have := hx.1
      rw [e]
      rcases own_blk hx with ⟨_, _, e'⟩ | ⟨g', _, _, e', _⟩
      · exact e'.symm
      · cases e'
    · rcases own_blk hx with ⟨e', _, _⟩ | ⟨g', cap', rest', e', _, hb', _, _, hc'⟩
      · cases e'
      · injection e' with e1 e2 e3
        injection e1 with e1
        injection e1 with e1 _ _
        subst e1
        have he := (hb.inj hb').2
        have hl1 := h4.1
        have hl2 := hx.1
        exact (List.append_inj he (by omega)).1
  refine ⟨own_kp h1 hk (fun x hx hm => h2 x (mem_ownL.2 hx) hm), fun x hx hm => ?_, by rw [List.length_append, h3]; rfl, _, ho, (h5.step hk S_n (F_n hn)).snoc hl (hr.step hk S_n (F_n hn))⟩
  rcases hn x hm with h | h
  · exact h2 x hx h
  · have := (own_ge h1 (mem_ownL.1 hx)).2
    omega
end Go.Proofs.Ytldmabkilgpgcaa
