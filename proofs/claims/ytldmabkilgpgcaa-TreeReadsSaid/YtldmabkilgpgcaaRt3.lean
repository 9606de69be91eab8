/-
  LAYER 15 (tree), the document's: its tree while it grows, in memory.
  CONDITIONS: as each says.
-/
import Derived.Test.YtldmabkilgpgcaaRt1
namespace Go.Proofs.Ytldmabkilgpgcaa
open Go.RowKit

/-- A node's cells. -/
def EntV (w : World) (F : List Nat) (e : Ent) (v : List Value) : Prop :=
  ∃ (A : Option Addr) (c : Nat), v = [.int .i64 ((e.2.1.1 * 2 ^ e.1 : Nat) : Int), .int .i64 ((e.2.1.2 * 2 ^ e.1 : Nat) : Int), .int .i64 ((2 ^ e.1 : Nat) : Int), .slice A e.2.2.length c] ∧ RF w F A (pc e.2.2)
def EntsV (w : World) (F : List Nat) (Q : List Ent) (vs : List Value) : Prop := vs.length = Q.length * 4 ∧ ∀ (j : Nat) (e : Ent), Q[j]? = some e → EntV w F e ((vs.drop (j * 4)).take 4)
theorem EntsV.step {w w' : World} {S F F' : List Nat} {Q : List Ent} {vs : List Value} (h : EntsV w F Q vs) (hk : Kp S w w') (hS : ∀ x ∈ S, x ∈ F) (hF : ∀ x ∈ F', x ∈ F ∨ w.heap.size ≤ x) : EntsV w' F' Q vs :=
  ⟨h.1, fun j e hj => by obtain ⟨A, c, h1, h2⟩ := h.2 j e hj; exact ⟨A, c, h1, h2.step hk hS hF⟩⟩
theorem EntsV.snoc {w : World} {F : List Nat} {Q : List Ent} {vs v : List Value} {e : Ent} (h : EntsV w F Q vs) (he : EntV w F e v) : EntsV w F (Q ++ [e]) (vs ++ v) := by
  have hv : v.length = 4 := by obtain ⟨A, c, rfl, _⟩ := he; rfl
  refine ⟨by rw [List.length_append, List.length_append, h.1, hv]; simp; omega, fun j x hj => ?_⟩
  rcases Nat.lt_or_ge j Q.length with hlt | hge
  · rw [List.getElem?_append_left hlt] at hj
    have h1 := h.1
    rw [List.drop_append_of_le_length (by omega), List.take_append_of_le_length (by rw [List.length_drop]; omega)]
    exact h.2 j x hj
  · rw [List.getElem?_append_right hge] at hj
    rcases Nat.eq_zero_or_pos (j - Q.length) with h0 | h0
    · rw [h0] at hj
      simp only [List.getElem?_cons_zero, Option.some.injEq] at hj
      subst hj
      have e1 : j * 4 = vs.length := by rw [h.1]; omega
      rw [e1, List.drop_left, List.take_of_length_le (by omega)]
      exact he
    · rw [List.getElem?_eq_none (by simp; omega)] at hj
      cases hj
/-- The three rows that grow. -/
def rRows (An Ab Ak : Option Addr) (nq cn nb cb nk ck : Nat) (qs : List Value) (bs : List Bool) (ks : List Int) : List ORow :=
  [⟨77, 4, .slice An nq cn, nq, qs⟩, ⟨4, 1, .slice Ab nb cb, nb, bs.map .bool⟩, ⟨57, 4, .slice Ak nk ck, nk, ks.map (.int .i64)⟩]
/-- The tree while it grows; X: other blocks that are written. -/
def RSt (w : World) (X : List Nat) (p s h nL cL : Nat) (AL An Ab Ak : Option Addr) (nq cn nb cb nk ck : Nat) (Q : List Ent) (bs : List Bool) (ks : List Int) : Prop :=
  Blk w p 75 [.int .i64 (s : Int), .int .i64 (h : Int), .slice AL nL cL, .slice Ab nb cb, .slice Ak nk ck] ∧
  ∃ qs, OwnAll w (p + 1) (rRows An Ab Ak nq cn nb cb nk ck qs bs ks) ∧ EntsV w (X ++ p :: oBlocks (rRows An Ab Ak nq cn nb cb nk ck qs bs ks)) Q qs ∧ (∀ x ∈ X, x < w.heap.size ∧ x ∉ p :: oBlocks (rRows An Ab Ak nq cn nb cb nk ck qs bs ks))
section
variable {w w' : World} {X : List Nat} {p s h nL cL : Nat} {AL An Ab Ak : Option Addr} {nq cn nb cb nk ck : Nat} {Q : List Ent} {bs : List Bool} {ks : List Int}
theorem rBlocks_p {qs : List Value} (h : OwnAll w (p + 1) (rRows An Ab Ak nq cn nb cb nk ck qs bs ks)) : p ∉ oBlocks (rRows An Ab Ak nq cn nb cb nk ck qs bs ks) := fun hm => by have := (h.ge _ hm).1; omega
theorem RSt.kp (hr : RSt w X p s h nL cL AL An Ab Ak nq cn nb cb nk ck Q bs ks) {S : List Nat} (hk : Kp S w w') (hS : ∀ x ∈ S, x ∈ X) : RSt w' X p s h nL cL AL An Ab Ak nq cn nb cb nk ck Q bs ks := by
  obtain ⟨h1, qs, h2, h3, h4⟩ := hr
  refine ⟨h1.kp hk (fun hm => (h4 _ (hS _ hm)).2 (by simp)), qs, h2.kp hk (fun x hx hm => (h4 _ (hS _ hx)).2 (List.mem_cons_of_mem _ hm)), h3.step hk (fun x hx => List.mem_append.2 (.inl (hS x hx))) (fun x hx => .inl hx), fun x hx => ⟨Nat.lt_of_lt_of_le (h4 x hx).1 hk.size, (h4 x hx).2⟩⟩
theorem RSt.kp0 (hr : RSt w X p s h nL cL AL An Ab Ak nq cn nb cb nk ck Q bs ks) (hk : Kp [] w w') : RSt w' X p s h nL cL AL An Ab Ak nq cn nb cb nk ck Q bs ks := hr.kp hk (by simp)
theorem RSt.add (hr : RSt w X p s h nL cL AL An Ab Ak nq cn nb cb nk ck Q bs ks) (hk : Kp [] w w') {x : Nat} (h1 : w.heap.size ≤ x) (h2 : x < w'.heap.size) : RSt w' (x :: X) p s h nL cL AL An Ab Ak nq cn nb cb nk ck Q bs ks := by
  obtain ⟨g1, qs, g2, g3, g4⟩ := hr
  refine ⟨g1.kp0 hk, qs, g2.kp0 hk, g3.step hk (by simp) (fun y hy => ?_), fun y hy => ?_⟩
  · rw [List.cons_append, List.mem_cons] at hy
    rcases hy with rfl | hy
    · exact .inr h1
    · exact .inl hy
  · rcases List.mem_cons.1 hy with rfl | hy
    · refine ⟨h2, fun hm => ?_⟩
      rcases List.mem_cons.1 hm with rfl | hm
      · have := g1.lt; omega
      · have := (g2.ge _ hm).2; omega
    · exact ⟨Nat.lt_of_lt_of_le (g4 y hy).1 hk.size, (g4 y hy).2⟩
theorem RSt.drop {x : Nat} (hr : RSt w (x :: X) p s h nL cL AL An Ab Ak nq cn nb cb nk ck Q bs ks) : RSt w X p s h nL cL AL An Ab Ak nq cn nb cb nk ck Q bs ks := by
  obtain ⟨g1, qs, g2, g3, g4⟩ := hr
  exact ⟨g1, qs, g2, g3.step (Kp.refl [] w) (by simp) (fun y hy => .inl (by rw [List.cons_append]; exact List.mem_cons_of_mem _ hy)), fun y hy => g4 y (List.mem_cons_of_mem _ hy)⟩
theorem RSt.blk (hr : RSt w X p s h nL cL AL An Ab Ak nq cn nb cb nk ck Q bs ks) : Blk w p 75 [.int .i64 (s : Int), .int .i64 (h : Int), .slice AL nL cL, .slice Ab nb cb, .slice Ak nk ck] := hr.1
theorem RSt.nodes (hr : RSt w X p s h nL cL AL An Ab Ak nq cn nb cb nk ck Q bs ks) : ∃ qs, w.ownsRow (p + 1) 77 4 (.slice An nq cn) nq qs ∧ EntsV w (X ++ p :: oBlocks (rRows An Ab Ak nq cn nb cb nk ck qs bs ks)) Q qs := by
  obtain ⟨g1, qs, g2, g3, g4⟩ := hr
  exact ⟨qs, g2.at_ 0 rfl, g3⟩
theorem RSt.bits (hr : RSt w X p s h nL cL AL An Ab Ak nq cn nb cb nk ck Q bs ks) : w.ownsRow (p + 1) 4 1 (.slice Ab nb cb) nb (bs.map .bool) := by
  obtain ⟨g1, qs, g2, g3, g4⟩ := hr
  exact g2.at_ 1 rfl
theorem RSt.kids (hr : RSt w X p s h nL cL AL An Ab Ak nq cn nb cb nk ck Q bs ks) : w.ownsRow (p + 1) 57 4 (.slice Ak nk ck) nk (ks.map (.int .i64)) := by
  obtain ⟨g1, qs, g2, g3, g4⟩ := hr
  exact g2.at_ 2 rfl
/-- A node: its cells. -/
theorem RSt.at_ (hr : RSt w X p s h nL cL AL An Ab Ak nq cn nb cb nk ck Q bs ks) {i : Nat} {e : Ent} (hi : Q[i]? = some e) :
    ∃ (an : Addr) (A : Option Addr) (c : Nat), An = some an ∧ w.cell? (an.add (i * 4)) = some (.int .i64 ((e.2.1.1 * 2 ^ e.1 : Nat) : Int)) ∧ w.cell? ⟨(an.add (i * 4)).block, (an.add (i * 4)).off + 1, none⟩ = some (.int .i64 ((e.2.1.2 * 2 ^ e.1 : Nat) : Int)) ∧
      w.cell? ⟨(an.add (i * 4)).block, (an.add (i * 4)).off + 2, none⟩ = some (.int .i64 ((2 ^ e.1 : Nat) : Int)) ∧ w.cell? ⟨(an.add (i * 4)).block, (an.add (i * 4)).off + 3, none⟩ = some (.slice A e.2.2.length c) ∧ Rd w w.heap.size A (pc e.2.2) := by
  obtain ⟨g1, qs, g2, g3, g4⟩ := hr
  have ho := own_rd (g2.at_ 0 rfl)
  obtain ⟨A, c, hv, hrf⟩ := g3.2 i e hi
  have hget : ∀ j u, ([.int .i64 ((e.2.1.1 * 2 ^ e.1 : Nat) : Int), .int .i64 ((e.2.1.2 * 2 ^ e.1 : Nat) : Int), .int .i64 ((2 ^ e.1 : Nat) : Int), .slice A e.2.2.length c] : List Value)[j]? = some u → qs[i * 4 + j]? = some u := fun j u hu => by
    rw [← hv, List.getElem?_take] at hu
    split at hu
    · rwa [List.getElem?_drop] at hu
    · cases hu
  obtain ⟨an, e0, _, c0⟩ := ho _ _ (hget 0 _ rfl)
  have hA : An = some an := e0
  subst hA
  have step : ∀ j u, 0 < j → ([.int .i64 ((e.2.1.1 * 2 ^ e.1 : Nat) : Int), .int .i64 ((e.2.1.2 * 2 ^ e.1 : Nat) : Int), .int .i64 ((2 ^ e.1 : Nat) : Int), .slice A e.2.2.length c] : List Value)[j]? = some u → w.cell? ⟨(an.add (i * 4)).block, (an.add (i * 4)).off + j, none⟩ = some u := fun j u hj hu => by
    obtain ⟨an', e', _, c'⟩ := ho _ _ (hget j u hu)
    injection e' with e'
    subst e'
    rw [← addr_add_add, addr_fld _ hj] at c'
    exact c'
  exact ⟨an, A, c, rfl, c0, step 1 _ (by omega) rfl, step 2 _ (by omega) rfl, step 3 _ (by omega) rfl, hrf.1⟩
/-- A bit more. -/
theorem RSt.bit (hr : RSt w X p s h nL cL AL An Ab Ak nq cn nb cb nk ck Q bs ks) {Ab' : Option Addr} {cb' : Nat} {b : Bool} (ho : w'.ownsRow (p + 1) 4 1 (.slice Ab' (nb + 1) cb') (nb + 1) (bs.map .bool ++ [.bool b])) (hk : Kp (ownL (.slice Ab nb cb)) w w') (hn : ∀ x ∈ ownL (.slice Ab' (nb + 1) cb'), x ∈ ownL (.slice Ab nb cb) ∨ w.heap.size ≤ x) :
    RSt (w'.setCell ⟨p, 3, none⟩ (.slice Ab' (nb + 1) cb')) X p s h nL cL AL An Ab' Ak nq cn (nb + 1) cb' nk ck Q (bs ++ [b]) ks := by
  obtain ⟨g1, qs, g2, g3, g4⟩ := hr
  have hrow : (rRows An Ab Ak nq cn nb cb nk ck qs bs ks).set 1 ⟨4, 1, .slice Ab' (nb + 1) cb', nb + 1, bs.map .bool ++ [.bool b]⟩ = rRows An Ab' Ak nq cn (nb + 1) cb' nk ck qs (bs ++ [b]) ks := by unfold rRows; simp
  have h2 := g2.grow (i := 1) (s := ⟨4, 1, .slice Ab' (nb + 1) cb', nb + 1, bs.map .bool ++ [.bool b]⟩) rfl hk hn ho
  have hB := oBlocks_grow (L := rRows An Ab Ak nq cn nb cb nk ck qs bs ks) (i := 1) (s := ⟨4, 1, .slice Ab' (nb + 1) cb', nb + 1, bs.map .bool ++ [.bool b]⟩) (N := w.heap.size) rfl hn
  have hsub : ∀ x ∈ ownL (.slice Ab nb cb), x ∈ oBlocks (rRows An Ab Ak nq cn nb cb nk ck qs bs ks) := oBlocks_at (i := 1) (r := ⟨4, 1, .slice Ab nb cb, nb, bs.map .bool⟩) rfl
  rw [hrow] at h2 hB
  have hp := rBlocks_p g2
  have hp' := rBlocks_p h2
  have hks : Kp [p] w' (w'.setCell ⟨p, 3, none⟩ (.slice Ab' (nb + 1) cb')) := (Kp.refl [p] w').setCell (.inl (by simp)) _
  have hF : ∀ x ∈ X ++ p :: oBlocks (rRows An Ab' Ak nq cn (nb + 1) cb' nk ck qs (bs ++ [b]) ks), x ∈ X ++ p :: oBlocks (rRows An Ab Ak nq cn nb cb nk ck qs bs ks) ∨ w.heap.size ≤ x := fun x hx => by
    simp only [List.mem_append, List.mem_cons] at hx ⊢
    rcases hx with hx | hx | hx
    · exact .inl (.inl hx)
    · exact .inl (.inr (.inl hx))
    · rcases hB x hx with h | h
      · exact .inl (.inr (.inr h))
      · exact .inr h
  refine ⟨(g1.kp hk (fun hm => hp (hsub _ hm))).set_ 3 _, qs, h2.kp hks (fun x hx hm => by simp only [List.mem_singleton] at hx; subst hx; exact hp' hm), ?_, fun x hx => ⟨by simpa using Nat.lt_of_lt_of_le (g4 x hx).1 hk.size, fun hm => ?_⟩⟩
  · exact (g3.step hk (fun x hx => by simp only [List.mem_append, List.mem_cons]; exact .inr (.inr (hsub x hx))) hF).step hks (fun x hx => by simp only [List.mem_singleton] at hx; subst hx; simp) (fun x hx => .inl hx)
  · rcases List.mem_cons.1 hm with rfl | hm
    · exact (g4 _ hx).2 (by simp)
    · rcases hB x hm with h | h
      · exact (g4 _ hx).2 (List.mem_cons_of_mem _ h)
      · have := (g4 _ hx).1; omega
/-- A node's kids more. -/
theorem RSt.kid (hr : RSt w X p s h nL cL AL An Ab Ak nq cn nb cb nk ck Q bs ks) {Ak' : Option Addr} {ck' : Nat} {k4 : List Int} (ho : w'.ownsRow (p + 1) 57 4 (.slice Ak' (nk + 1) ck') (nk + 1) (ks.map (.int .i64) ++ k4.map (.int .i64))) (hk : Kp (ownL (.slice Ak nk ck)) w w') (hn : ∀ x ∈ ownL (.slice Ak' (nk + 1) ck'), x ∈ ownL (.slice Ak nk ck) ∨ w.heap.size ≤ x) :
    RSt (w'.setCell ⟨p, 4, none⟩ (.slice Ak' (nk + 1) ck')) X p s h nL cL AL An Ab Ak' nq cn nb cb (nk + 1) ck' Q bs (ks ++ k4) := by
  obtain ⟨g1, qs, g2, g3, g4⟩ := hr
  have hrow : (rRows An Ab Ak nq cn nb cb nk ck qs bs ks).set 2 ⟨57, 4, .slice Ak' (nk + 1) ck', nk + 1, ks.map (.int .i64) ++ k4.map (.int .i64)⟩ = rRows An Ab Ak' nq cn nb cb (nk + 1) ck' qs bs (ks ++ k4) := by unfold rRows; simp
  have h2 := g2.grow (i := 2) (s := ⟨57, 4, .slice Ak' (nk + 1) ck', nk + 1, ks.map (.int .i64) ++ k4.map (.int .i64)⟩) rfl hk hn ho
  have hB := oBlocks_grow (L := rRows An Ab Ak nq cn nb cb nk ck qs bs ks) (i := 2) (s := ⟨57, 4, .slice Ak' (nk + 1) ck', nk + 1, ks.map (.int .i64) ++ k4.map (.int .i64)⟩) (N := w.heap.size) rfl hn
  have hsub : ∀ x ∈ ownL (.slice Ak nk ck), x ∈ oBlocks (rRows An Ab Ak nq cn nb cb nk ck qs bs ks) := oBlocks_at (i := 2) (r := ⟨57, 4, .slice Ak nk ck, nk, ks.map (.int .i64)⟩) rfl
  rw [hrow] at h2 hB
  have hp := rBlocks_p g2
  have hp' := rBlocks_p h2
  have hks : Kp [p] w' (w'.setCell ⟨p, 4, none⟩ (.slice Ak' (nk + 1) ck')) := (Kp.refl [p] w').setCell (.inl (by simp)) _
  have hF : ∀ x ∈ X ++ p :: oBlocks (rRows An Ab Ak' nq cn nb cb (nk + 1) ck' qs bs (ks ++ k4)), x ∈ X ++ p :: oBlocks (rRows An Ab Ak nq cn nb cb nk ck qs bs ks) ∨ w.heap.size ≤ x := fun x hx => by
    simp only [List.mem_append, List.mem_cons] at hx ⊢
    rcases hx with hx | hx | hx
    · exact .inl (.inl hx)
    · exact .inl (.inr (.inl hx))
    · rcases hB x hx with h | h
      · exact .inl (.inr (.inr h))
      · exact .inr h
  refine ⟨(g1.kp hk (fun hm => hp (hsub _ hm))).set_ 4 _, qs, h2.kp hks (fun x hx hm => by simp only [List.mem_singleton] at hx; subst hx; exact hp' hm), ?_, fun x hx => ⟨by simpa using Nat.lt_of_lt_of_le (g4 x hx).1 hk.size, fun hm => ?_⟩⟩
  · exact (g3.step hk (fun x hx => by simp only [List.mem_append, List.mem_cons]; exact .inr (.inr (hsub x hx))) hF).step hks (fun x hx => by simp only [List.mem_singleton] at hx; subst hx; simp) (fun x hx => .inl hx)
  · rcases List.mem_cons.1 hm with rfl | hm
    · exact (g4 _ hx).2 (by simp)
    · rcases hB x hm with h | h
      · exact (g4 _ hx).2 (List.mem_cons_of_mem _ h)
      · have := (g4 _ hx).1; omega
/-- A node more. -/
theorem RSt.node (hr : RSt w X p s h nL cL AL An Ab Ak nq cn nb cb nk ck Q bs ks) {An' : Option Addr} {cn' : Nat} {e : Ent} {v qs : List Value} (hq : w.ownsRow (p + 1) 77 4 (.slice An nq cn) nq qs) (ho : w'.ownsRow (p + 1) 77 4 (.slice An' (nq + 1) cn') (nq + 1) (qs ++ v)) (hk : Kp (ownL (.slice An nq cn)) w w') (hn : ∀ x ∈ ownL (.slice An' (nq + 1) cn'), x ∈ ownL (.slice An nq cn) ∨ w.heap.size ≤ x)
    {A : Option Addr} {c : Nat} (hv : v = [.int .i64 ((e.2.1.1 * 2 ^ e.1 : Nat) : Int), .int .i64 ((e.2.1.2 * 2 ^ e.1 : Nat) : Int), .int .i64 ((2 ^ e.1 : Nat) : Int), .slice A e.2.2.length c]) (hrd : Rd w w.heap.size A (pc e.2.2)) (hap : ∀ ad, A = some ad → ∀ x ∈ X ++ p :: oBlocks (rRows An Ab Ak nq cn nb cb nk ck qs bs ks), ad.block ≠ x) :
    RSt w' X p s h nL cL AL An' Ab Ak (nq + 1) cn' nb cb nk ck (Q ++ [e]) bs ks := by
  obtain ⟨g1, qs', g2, g3, g4⟩ := hr
  obtain rfl : qs' = qs := own_inj (g2.at_ 0 rfl) hq
  have hrow : (rRows An Ab Ak nq cn nb cb nk ck qs' bs ks).set 0 ⟨77, 4, .slice An' (nq + 1) cn', nq + 1, qs' ++ v⟩ = rRows An' Ab Ak (nq + 1) cn' nb cb nk ck (qs' ++ v) bs ks := by unfold rRows; simp
  have h2 := g2.grow (i := 0) (s := ⟨77, 4, .slice An' (nq + 1) cn', nq + 1, qs' ++ v⟩) rfl hk hn ho
  have hB := oBlocks_grow (L := rRows An Ab Ak nq cn nb cb nk ck qs' bs ks) (i := 0) (s := ⟨77, 4, .slice An' (nq + 1) cn', nq + 1, qs' ++ v⟩) (N := w.heap.size) rfl hn
  have hsub : ∀ x ∈ ownL (.slice An nq cn), x ∈ oBlocks (rRows An Ab Ak nq cn nb cb nk ck qs' bs ks) := oBlocks_at (i := 0) (r := ⟨77, 4, .slice An nq cn, nq, qs'⟩) rfl
  rw [hrow] at h2 hB
  have hp := rBlocks_p g2
  have hF : ∀ x ∈ X ++ p :: oBlocks (rRows An' Ab Ak (nq + 1) cn' nb cb nk ck (qs' ++ v) bs ks), x ∈ X ++ p :: oBlocks (rRows An Ab Ak nq cn nb cb nk ck qs' bs ks) ∨ w.heap.size ≤ x := fun x hx => by
    simp only [List.mem_append, List.mem_cons] at hx ⊢
    rcases hx with hx | hx | hx
    · exact .inl (.inl hx)
    · exact .inl (.inr (.inl hx))
    · rcases hB x hx with h | h
      · exact .inl (.inr (.inr h))
      · exact .inr h
  have hsub' : ∀ x ∈ ownL (.slice An nq cn), x ∈ X ++ p :: oBlocks (rRows An Ab Ak nq cn nb cb nk ck qs' bs ks) := fun x hx => by simp only [List.mem_append, List.mem_cons]; exact .inr (.inr (hsub x hx))
  have hrf : RF w (X ++ p :: oBlocks (rRows An Ab Ak nq cn nb cb nk ck qs' bs ks)) A (pc e.2.2) := ⟨hrd, fun ad ha _ hm => hap ad ha _ hm rfl⟩
  refine ⟨g1.kp hk (fun hm => hp (hsub _ hm)), _, h2, (g3.step hk hsub' hF).snoc ⟨A, c, hv, hrf.step hk hsub' hF⟩, fun x hx => ⟨Nat.lt_of_lt_of_le (g4 x hx).1 hk.size, fun hm => ?_⟩⟩
  rcases List.mem_cons.1 hm with rfl | hm
  · exact (g4 _ hx).2 (by simp)
  · rcases hB x hm with h | h
    · exact (g4 _ hx).2 (List.mem_cons_of_mem _ h)
    · have := (g4 _ hx).1; omega
theorem rblocks_mem {qs : List Value} {x : Nat} : x ∈ X ++ p :: oBlocks (rRows An Ab Ak nq cn nb cb nk ck qs bs ks) ↔ x ∈ X ∨ x = p ∨ x ∈ ownL (.slice An nq cn) ∨ x ∈ ownL (.slice Ab nb cb) ∨ x ∈ ownL (.slice Ak nk ck) := by
  simp [oBlocks, rRows]
theorem RSt.lt (hr : RSt w X p s h nL cL AL An Ab Ak nq cn nb cb nk ck Q bs ks) {qs : List Value} (hq : w.ownsRow (p + 1) 77 4 (.slice An nq cn) nq qs) : ∀ x ∈ X ++ p :: oBlocks (rRows An Ab Ak nq cn nb cb nk ck qs bs ks), x < w.heap.size := fun x hx => by
  obtain ⟨g1, qs', g2, g3, g4⟩ := hr
  obtain rfl : qs' = qs := own_inj (g2.at_ 0 rfl) hq
  simp only [List.mem_append, List.mem_cons] at hx
  rcases hx with hx | rfl | hx
  · exact (g4 x hx).1
  · exact g1.lt
  · exact (g2.ge x hx).2
end

theorem out_not {s r c : Int} (h : outI s r c = true) : r < 0 ∨ (0 ≤ r ∧ s ≤ r) ∨ (0 ≤ r ∧ r < s ∧ c < 0) ∨ (0 ≤ r ∧ r < s ∧ 0 ≤ c ∧ s ≤ c) := by
  unfold outI at h
  simp only [Bool.not_eq_true', decide_eq_false_iff_not] at h
  omega
theorem out_in {s r c : Int} (h : outI s r c = false) : 0 ≤ r ∧ r < s ∧ 0 ≤ c ∧ c < s := by
  unfold outI at h
  simpa only [Bool.not_eq_false', decide_eq_true_iff] using h
set_option maxRecDepth 100000 in
set_option maxHeartbeats 4000000 in
theorem rof_arg (s : Int) (v : Value) (w : World) (h0 : hgt s = 0) (hs0 : -9223372036854775808 ≤ s) (hs1 : s ≤ 9223372036854775807) :
    Calls Try.prog 11 #[.int .i64 s, v] w fun e w' => e = .returned (.tuple #[.pointer none, .int .i64 2]) ∧ Kp [] w w' := by
  have hn : ¬ (2 ≤ s ∧ sideI s = s) := by
    rcases hgt_spec s with h | h
    · exact h.2
    · omega
  go_enter Try.func11, Try.ntmps11
  by_cases h2 : s < 2
  · clear hn
    go_wp2_with fail
    go_ret2
    exact ⟨rfl, Kp.refl _ _⟩
  · obtain ⟨S, hS⟩ : ∃ S, S = sideI s := ⟨_, rfl⟩
    have hne : (S == s) = false := by
      rw [beq_eq_false_iff_ne]
      intro e
      exact hn ⟨by omega, by rw [← hS]; exact e⟩
    have HS := Lib.hid hS
    clear hn hS
    go_wp2_with fail
    refine (rside_any s s s w (by omega)).mono ?_
    rw [← HS.out]
    rintro e w1 ⟨rfl, rfl⟩
    go_wp2_with fail
    go_ret2
    exact ⟨rfl, Kp.refl _ _⟩
set_option maxRecDepth 100000 in
set_option maxHeartbeats 4000000 in
theorem rof_out (s : Int) (h n c B : Nat) (A : Option Addr) (l : List (Int × Int)) (w : World) (hh : hgt s = h) (h0 : h ≠ 0) (hx : Rd w B A (pcI l)) (hn : l.length = n) (hb : n ≤ 1000000) (ho : (l.any fun p => outI s p.1 p.2) = true) :
    Calls Try.prog 11 #[.int .i64 s, .slice A n c] w fun e w' => e = .returned (.tuple #[.pointer none, .int .i64 6]) ∧ Kp [] w w' := by
  obtain ⟨h1, h17, hsp⟩ : 1 ≤ h ∧ h ≤ 17 ∧ s = ((2 ^ h : Nat) : Int) := by
    rw [← hh] at h0 ⊢
    rcases hgt_spec s with h | h
    · exact absurd h.1 h0
    · exact h
  have hp17 : 2 ^ h ≤ 2 ^ 17 := Nat.pow_le_pow_right (by omega) h17
  have hp1 : 2 ^ 1 ≤ 2 ^ h := Nat.pow_le_pow_right (by omega) h1
  have hs0 : 2 ≤ s := by rw [hsp]; exact Int.ofNat_le.2 hp1
  have hs1 : s ≤ 131072 := by rw [hsp]; exact Int.ofNat_le.2 hp17
  have hsi : sideI s = s := (side_is hs0).2 ⟨h, h1, h17, hsp⟩
  have HX := Lib.hid hx
  have HN := Lib.hid hn; clear hn
  have HO := Lib.hid ho; clear ho
  have HSI := Lib.hid hsi; clear hsi
  clear hx hsp hp17 hp1 hh
  go_enter Try.func11, Try.ntmps11
  go_wp2_with fail
  refine (rside_any s s s w (by omega)).mono ?_
  rw [HSI.out]
  rintro e w1 ⟨rfl, rfl⟩
  go_wp2_with fail
  go_loopw [6] (fun x wr => ∃ k : Nat, x = .int .i64 (k : Int) ∧ k ≤ n ∧ Hid (∀ y ∈ l.take k, outI s y.1 y.2 = false) ∧ w = wr) (fun x _ => n - (intOf x).toNat)
  case atStart => exact ⟨0, rfl, by omega, Lib.hid (by simp), rfl⟩
  case round =>
    obtain ⟨k, rfl, hk, HNO, rfl⟩ := hrel
    by_cases hlt : k < n
    · obtain ⟨r, c1, ad, hxk, had, _, hcx, hcy⟩ := HX.out.ixI (k := k) (by rw [HN.out]; exact hlt)
      subst had
      have hi0 : (0 : Int) ≤ (k : Int) := by omega
      have hi1 : (k : Int) < (n : Int) := by omega
      cases hp : outI s r c1 with
      | true =>
        clear hxk
        rcases out_not hp with q | ⟨q1, q2⟩ | ⟨q1, q2, q3⟩ | ⟨q1, q2, q3, q4⟩
        · clear hp
          go_wp2_with fail
          go_ret2
          exact ⟨rfl, Kp.refl _ _⟩
        · have q3 : ¬ r < 0 := by omega
          clear hp
          go_wp2_with fail
          go_ret2
          exact ⟨rfl, Kp.refl _ _⟩
        · have q4 : ¬ r < 0 := by omega
          have q5 : ¬ s ≤ r := by omega
          clear hp
          go_wp2_with fail
          go_ret2
          exact ⟨rfl, Kp.refl _ _⟩
        · have q5 : ¬ r < 0 := by omega
          have q6 : ¬ s ≤ r := by omega
          have q7 : ¬ c1 < 0 := by omega
          clear hp
          go_wp2_with fail
          go_ret2
          exact ⟨rfl, Kp.refl _ _⟩
      | false =>
        have HNO2 := Lib.hid (show ∀ y ∈ l.take (k + 1), outI s y.1 y.2 = false from fun y hy => by
          rw [g_take hxk] at hy
          rcases List.mem_append.1 hy with h | h
          · exact HNO.out y h
          · simp only [List.mem_singleton] at h
            subst h
            exact hp)
        obtain ⟨q1, q2, q3, q4⟩ := out_in hp
        have q5 : ¬ r < 0 := by omega
        have q6 : ¬ s ≤ r := by omega
        have q7 : ¬ c1 < 0 := by omega
        have q8 : ¬ s ≤ c1 := by omega
        clear hp hxk
        go_wp2_with fail
        exact ⟨⟨k + 1, by go_num, by omega, HNO2, trivial⟩, by simp [intOf]; omega⟩
    · obtain rfl : n = k := by omega
      exfalso
      have h9 := HO.out
      rw [List.any_eq_true] at h9
      obtain ⟨y, hy, he⟩ := h9
      have := HNO.out y (by rw [List.take_of_length_le (Nat.le_of_eq HN.out)]; exact hy)
      rw [this] at he
      cases he
end Go.Proofs.Ytldmabkilgpgcaa
