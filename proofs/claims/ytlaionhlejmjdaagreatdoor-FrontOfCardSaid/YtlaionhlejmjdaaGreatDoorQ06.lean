/-
  append THAT FINDS NO ROOM, as one step of a region by facts: a new row, nothing else changes.
  CONDITIONS: as each says.
-/
import Derived.Test.YtlaionhlejmjdaaGreatDoorQ04
import Derived.ArgAppend
namespace Go.Proofs.YtlaionhlejmjdaaGreatDoor
open Go.RowKit

section
variable {P : Program} {w : World}
theorem wp_append_grow0 {o : Oper} {a : Act} {K : Act → World → Prop} {Q : Exit → Act → World → Prop} (s x : Operand) (t : TypeId)
    (ho : o.op = .call { callee := .builtin .append, args := #[s, x], argTypes := #[t, t] })
    (k : IntKind) (e : TypeId) (i : TypeInfo) (z : Value) (bytes : Nat) (ht : P.underlying t = some (.slice e)) (hi : P.info? e = some i) (hz : i.zero = some z) (hsize : i.size = 1) (hby : i.bytes = bytes) (hzs : z.cells.size = 1)
    (A : Option Addr) (n cap B B' : Nat) (xs : List Int) (he1 : a.eval s = .slice A n cap) (hnone : A = none → n = 0 ∧ cap = 0) (hl : xs.length = n) (hr : Rd w B A (xs.map (.int k)))
    (ad : Addr) (m c : Nat) (ys : List Int) (he2 : a.eval x = .slice (some ad) m c) (hm : ys.length = m) (hr2 : Rd w B' (some ad) (ys.map (.int k)))
    (hfull : cap < n + m) (b1 : n + m ≤ maxLen) (b2 : (n + m) * bytes ≤ 140737488355328)
    (h : ∀ v' w', IsRd k (xs ++ ys) v' w' → Kp [] w w' → K (a.put o.dst v') w') : o.wp P a w K Q := by
  have hc : ∀ j u, (ys.map (Value.int k))[j]? = some u → w.cell? (ad.add j) = some u := fun j u hu => by
    obtain ⟨ad', e', _, hc⟩ := hr2 j u hu
    injection e' with e'
    subst e'
    exact hc
  have done : ∀ v' w', w'.ownsRow w.heap.size e 1 v' (n + m) ((xs ++ ys).map (.int k)) → w.grownBy w' none → K (a.put o.dst v') w' := fun v' w' r1 r2 => by
    have hk : Kp [] w w' := (Kp.refl [] w).grown r2 (by simp)
    obtain ⟨A', c', rfl, hc', _⟩ := own_form r1
    exact h _ _ (IsRd.of_own r1 (by rw [List.length_append, hl, hm])) hk
  cases A with
  | some b =>
    obtain ⟨v', w', hrun, r1, r2⟩ := run_append_arg_grows (P := P) w t o.type e i z 1 bytes ht hi hz hsize hby hzs (by decide) b n cap (xs.map (.int k)) (by rw [List.length_map, hl, Nat.mul_one]) (fun j u hu => by
      obtain ⟨ad', e', _, hc⟩ := hr j u hu
      injection e' with e'
      subst e'
      exact hc) ad m c (ys.map (.int k)) (by rw [List.length_map, hm, Nat.mul_one]) hc hfull b1 b2
    unfold Oper.wp
    simp [execOp, ho, resolve, invoke, builtin, he1, he2, hrun, Result.andThen]
    exact done v' w' (by rw [List.map_append]; exact r1) r2
  | none =>
    obtain ⟨rfl, rfl⟩ := hnone rfl
    obtain rfl : xs = [] := List.eq_nil_of_length_eq_zero hl
    obtain ⟨v', w', hrun, r1, r2, _⟩ := run_append_own (P := P) w w.heap.size t o.type e i z 1 bytes ht hi hz hsize hby hzs (by decide) (.slice none 0 0) 0 [] (World.ownsRow_nil w _ e 1) ad m c (ys.map (.int k)) (by rw [List.length_map, hm, Nat.mul_one]) hc (oc_ints _ _) b1 b2 (Nat.le_refl _)
    unfold Oper.wp
    simp [execOp, ho, resolve, invoke, builtin, he1, he2, hrun, Result.andThen]
    exact done v' w' (by simpa using r1) r2
theorem wp_append_grow_rd {o : Oper} {a : Act} {K : Act → World → Prop} {Q : Exit → Act → World → Prop} {d : Nat} {Φ : Nat → Value → World → Prop}
    (hK : ∀ v w'', Φ d v w'' → Kp [] w w'' → K (a.put o.dst v) w'') (s x : Nat) (t : TypeId)
    (ho : o.op = .call { callee := .builtin .append, args := #[.tmp s, .tmp x], argTypes := #[t, t] })
    (k : IntKind) (e : TypeId) (i : TypeInfo) (z : Value) (bytes : Nat) (ht : P.underlying t = some (.slice e)) (hi : P.info? e = some i) (hz : i.zero = some z) (hsize : i.size = 1) (hby : i.bytes = bytes) (hzs : z.cells.size = 1)
    (A : Option Addr) (n cap B B' : Nat) (xs : List Int) (hs : a.tmps[s]?.getD undef = .slice A n cap) (hnone : A = none → n = 0 ∧ cap = 0) (hl : xs.length = n) (hr : Rd w B A (xs.map (.int k)))
    (ad : Addr) (m c : Nat) (ys : List Int) (hx : a.tmps[x]?.getD undef = .slice (some ad) m c) (hm : ys.length = m) (hr2 : Rd w B' (some ad) (ys.map (.int k)))
    (hfull : cap < n + m) (b1 : n + m ≤ maxLen) (b2 : (n + m) * bytes ≤ 140737488355328)
    (h : ∀ v' w', IsRd k (xs ++ ys) v' w' → Kp [] w w' → Φ d v' w') : o.wp P a w K Q := by
  have he1 : a.eval (.tmp s) = .slice A n cap := by
    show a.tmps.getD s undef = _
    rw [Array.getD_eq_getD_getElem?]; exact hs
  have he2 : a.eval (.tmp x) = .slice (some ad) m c := by
    show a.tmps.getD x undef = _
    rw [Array.getD_eq_getD_getElem?]; exact hx
  exact wp_append_grow0 (.tmp s) (.tmp x) t ho k e i z bytes ht hi hz hsize hby hzs A n cap B B' xs he1 hnone hl hr ad m c ys he2 hm hr2 hfull b1 b2 (fun v' w' h1 h2 => hK _ _ (h v' w' h1 h2) h2)
theorem wpList_append_grow0 {ops : Array Oper} {rest : List Oper} {o : Oper} {a : Act} {Q : Exit → Act → World → Prop} (hgd : Region.wanted o (yielded ops a.tmps) = true) (s x : Operand) (t : TypeId)
    (ho : o.op = .call { callee := .builtin .append, args := #[s, x], argTypes := #[t, t] })
    (k : IntKind) (e : TypeId) (i : TypeInfo) (z : Value) (bytes : Nat) (ht : P.underlying t = some (.slice e)) (hi : P.info? e = some i) (hz : i.zero = some z) (hsize : i.size = 1) (hby : i.bytes = bytes) (hzs : z.cells.size = 1)
    (A : Option Addr) (n cap B B' : Nat) (xs : List Int) (he1 : a.eval s = .slice A n cap) (hnone : A = none → n = 0 ∧ cap = 0) (hl : xs.length = n) (hr : Rd w B A (xs.map (.int k)))
    (ad : Addr) (m c : Nat) (ys : List Int) (he2 : a.eval x = .slice (some ad) m c) (hm : ys.length = m) (hr2 : Rd w B' (some ad) (ys.map (.int k)))
    (hfull : cap < n + m) (b1 : n + m ≤ maxLen) (b2 : (n + m) * bytes ≤ 140737488355328)
    (h : ∀ v' w', IsRd k (xs ++ ys) v' w' → Kp [] w w' → wpList P ops Q rest (a.put o.dst v') w') : wpList P ops Q (o :: rest) a w :=
  BigFrame.wpList_want hgd fun _ hK => wp_append_grow0 s x t ho k e i z bytes ht hi hz hsize hby hzs A n cap B B' xs he1 hnone hl hr ad m c ys he2 hm hr2 hfull b1 b2 (fun v' w' h1 h2 => hK _ _ (h v' w' h1 h2))
end
/-- A part of what a slice reads. -/
theorem Rd.part {w : World} {B : Nat} {A : Option Addr} {k : IntKind} {xs ys : List Int} (h : Rd w B A ((xs ++ ys).map (.int k))) : Rd w B A (xs.map (.int k)) := by
  have := h.take (xs.map (Value.int k)).length
  rwa [List.map_append, List.take_left'] at this
  rfl
end Go.Proofs.YtlaionhlejmjdaaGreatDoor
