/-
  A REGION THAT DRAWS ITS ORDER, BY FACTS: of each operation's slot a fact is named that stays true while memory only grows; each operation is shown to lead from the facts of what it looks at to its own, over a frame that is a letter: nothing of the frame's other slots is seen.
  CONDITIONS: those of the check 'relOk', which the kernel reckons.
-/
import Derived.Test.YthidmpllganmnaaRegion
namespace Go.Proofs.Ythidmpllganmnaa
open Go.RowKit

section
variable (P : Program) (l : List Oper) (Φ : Nat → Value → World → Prop)
/-- What is to be shown of one operation. -/
def stepF (o : Oper) (d : Nat) (w' : World) (a : Act) : Prop :=
  ∀ K : Act → World → Prop, (∀ v w'', Φ d v w'' → Kp [] w' w'' → K (a.put o.dst v) w'') → (if Region.wanted o (yielded l.toArray a.tmps) then o.wp P a w' K (fun _ _ _ => False) else Φ d undef w')
/-- What a frame holds: letters in the slots sds, the old values in all others. -/
structure Ev (x : Nat → Value) (sds : List Nat) (a0 a : Act) : Prop where
  new : ∀ t : Nat, sds.contains t = true → a.tmps[t]?.getD undef = x t
  old : ∀ t : Nat, sds.contains t = false → a.tmps[t]?.getD undef = a0.tmps[t]?.getD undef
def factAll (sds : List Nat) (a0 : Act) (w0 : World) : List Oper → List (List Nat) → Prop
  | o :: r, ds :: dss =>
    (∀ (x : Nat → Value) (w' : World) (a : Act), Kp [] w0 w' → depAll Φ x w' ds → Ev x sds a0 a → stepF P l Φ o (o.dst.getD 0) w' a) ∧ factAll sds a0 w0 r dss
  | _, _ => True
end

section
variable {P : Program} {l : List Oper} {Φ : Nat → Value → World → Prop}
theorem ev_fillR {a0 : Act} {n : Nat} {sds : List Nat} (x : Nat → Value) (h0 : a0.tmps.size = n) (hs : ∀ s ∈ sds, s < n) : Ev x sds a0 (fillR x sds a0) := by
  refine ⟨fun t ht => ?_, fun t ht => ?_⟩
  · have hm := List.contains_iff_mem.1 ht
    have hn : t < n := hs t hm
    simp only [fillR]
    rw [List.getElem?_toArray, List.getElem?_mapIdx, Array.getElem?_toList, Array.getElem?_eq_getElem (by omega)]
    simp [hm]
  · have hm : t ∉ sds := fun h => by rw [List.contains_iff_mem.2 h] at ht; cases ht
    simp only [fillR]
    rw [List.getElem?_toArray, List.getElem?_mapIdx, Array.getElem?_toList]
    cases a0.tmps[t]? <;> simp [hm]
theorem wpSel_none {ops : Array Oper} {Qf : Act → Prop} {a : Act} : ∀ (r : List Oper), Qf a → wpSel P ops Qf r (List.replicate r.length false) a
  | [], h => h
  | _ :: r, h => wpSel_none r h
theorem factAll_rel {n : Nat} {sds imp : List Nat} {a0 : Act} {w0 : World} (h0 : a0.tmps.size = n) (hs : ∀ s ∈ sds, s < n) : ∀ {r : List Oper} {dss : List (List Nat)}, (∀ o ∈ r, imp.contains (o.dst.getD 0) = true) → factAll P l Φ sds a0 w0 r dss →
    relAll P l Φ imp w0 (fun x => fillR x sds a0) r (dss.map fun ds => (List.replicate l.length false, ds))
  | [], [], _, _ => trivial
  | [], _ :: _, _, _ => trivial
  | _ :: _, [], _, _ => trivial
  | o :: r, ds :: dss, hi, h => by
    refine ⟨fun x w' hk hd => wpSel_none l ?_, factAll_rel h0 hs (fun o' ho' => hi o' (by simp [ho'])) h.2⟩
    unfold relStep
    rw [if_pos (hi o (by simp))]
    exact h.1 x w' _ hk hd (ev_fillR x h0 hs)
/-- THE LAW. n: how many slots the frame has; sds: the slots that the region writes, rising; dss: of each operation the slots that it looks at. -/
theorem wp_region_facts {id : Nat} {a0 : Act} {w0 : World} {Q : Exit → Act → World → Prop} (hm : P.follows .mixedOrders = true) (n : Nat) (sds : List Nat) (dss : List (List Nat))
    (hok : relOk l n sds (dss.map fun ds => (List.replicate l.length false, ds)) = true) (hok2 : ((l.all fun o => sds.contains (o.dst.getD 0)) && (sds.all fun s => l.any fun o => o.dst == some s) && decide (sds.Pairwise (· < ·)) && (sds.all fun s => decide (s < n))) = true)
    (h0 : a0.tmps.size = n) (Φ : Nat → Value → World → Prop) (stable : ∀ d v w1 w2, Φ d v w1 → Kp [] w1 w2 → Φ d v w2)
    (fr : (Nat → Value) → List Value) (hfr : ∀ x, fillL x 0 sds a0.tmps.toList = fr x)
    (steps : factAll P l Φ sds a0 w0 l dss)
    (fin : ∀ (x : Nat → Value) (w' : World), Kp [] w0 w' → depAll Φ x w' sds → Q .normal ⟨(fr x).toArray, a0.defers⟩ w') :
    (Code.region id l.toArray true).wp P Q a0 w0 := by
  simp only [Bool.and_eq_true, List.all_eq_true, List.any_eq_true, decide_eq_true_eq, beq_iff_eq] at hok2
  obtain ⟨⟨⟨c1, c2⟩, c3⟩, c4⟩ := hok2
  have sp := relOk_spec hok
  have hfr' : ∀ x, fillR x sds a0 = ⟨(fr x).toArray, a0.defers⟩ := fun x => by
    simp only [fillR, Act.mk.injEq, and_true]
    rw [← hfr, fillL_eq x _ 0 sds (fun _ _ => Nat.zero_le _) c3]
    simp
  refine wp_region_any hm (rel_sound sp h0 (ds := sds) (imp := sds) (fr := fun x => fillR x sds a0) (fm := List.replicate l.length false) ?_ ?_ (fun _ => rfl) stable (factAll_rel h0 (fun s hs => c4 s hs) c1 steps) ?_ (fun x w' hk hd => wpSel_none l (by rw [hfr']; exact fin x w' hk hd)) _ _ _ _ ?_)
  · intro t ht o ho he
    have := c1 o ho
    rw [he] at this
    exact ht (List.contains_iff_mem.1 this)
  · intro s hs
    obtain ⟨o, ho, he⟩ := c2 s hs
    obtain ⟨j, hj⟩ := List.getElem?_of_mem ho
    exact ⟨j, o, hj, he⟩
  · refine ⟨by simp, fun j o d hj hd hm => ?_⟩
    rw [List.getD_eq_getElem?_getD, List.getElem?_replicate] at hm
    split at hm <;> cases hm
  · have hfalse : ∀ j b, j < l.length → (Array.replicate l.toArray.size false).getD j b = false := fun j b hj => by simp [hj]
    refine ⟨by simp, ⟨List.range l.length, List.nodup_range, fun j => ?_, by simp⟩, h0, rfl, fun _ _ => rfl, (Kp.refl [] w0).drew, ?_, ?_⟩
    · rw [List.mem_range]
      exact ⟨fun h => ⟨h, hfalse j true h⟩, fun h => h.1⟩
    · intro j o d hj _ hl
      rw [hfalse j false (List.getElem?_eq_some_iff.1 hj).1] at hl
      cases hl
    · intro k j _ hl
      by_cases hk : k < l.length
      · rw [hfalse k false hk] at hl; cases hl
      · simp [hk] at hl
/-- An operation without a guard. -/
theorem stepF_un {o : Oper} {d : Nat} {w' : World} {a : Act} (hg : o.guard = none) (h : ∀ K : Act → World → Prop, (∀ v w'', Φ d v w'' → Kp [] w' w'' → K (a.put o.dst v) w'') → o.wp P a w' K (fun _ _ _ => False)) : stepF P l Φ o d w' a := fun K hK => by
  rw [if_pos (by simp [Region.wanted, hg])]
  exact h K hK
theorem yielded_of {a : Act} {i g : Nat} {b : Bool} {oi : Oper} (hi : l[i]? = some oi) (hd : oi.dst = some g) (hg : a.tmps[g]?.getD undef = .bool b) : yielded l.toArray a.tmps i = some b := by
  unfold yielded
  have : l.toArray[i]? = some oi := by simpa using hi
  rw [this]
  show (match ((some oi).bind (·.dst)).bind (a.tmps[·]?) with | some (.bool b) => some b | _ => none) = some b
  simp only [Option.bind_some, hd]
  have h := hg
  cases hc : a.tmps[g]? with
  | none => rw [hc] at h; cases h
  | some v =>
    rw [hc] at h
    simp only [Option.getD_some] at h
    subst h
    rfl
/-- An operation whose guard holds. -/
theorem stepF_yes {o oi : Oper} {d i g : Nat} {b : Bool} {w' : World} {a : Act} (hg : o.guard = some (i, b)) (hi : l[i]? = some oi) (hd : oi.dst = some g) (hv : a.tmps[g]?.getD undef = .bool b)
    (h : ∀ K : Act → World → Prop, (∀ v w'', Φ d v w'' → Kp [] w' w'' → K (a.put o.dst v) w'') → o.wp P a w' K (fun _ _ _ => False)) : stepF P l Φ o d w' a := fun K hK => by
  rw [if_pos (by simp [Region.wanted, hg, yielded_of hi hd hv])]
  exact h K hK
/-- An operation whose guard does not hold. -/
theorem stepF_no {o oi : Oper} {d i g : Nat} {b : Bool} {w' : World} {a : Act} (hg : o.guard = some (i, b)) (hi : l[i]? = some oi) (hd : oi.dst = some g) (hv : a.tmps[g]?.getD undef = .bool (!b)) (h : Φ d undef w') : stepF P l Φ o d w' a := fun K hK => by
  rw [if_neg (by simp [Region.wanted, hg, yielded_of hi hd hv])]
  exact h
/-- An operation that is quiet at every world. -/
theorem stepF_val {o : Oper} {d : Nat} {w' : World} {a : Act} {K : Act → World → Prop} (v : Value) (hK : ∀ v w'', Φ d v w'' → Kp [] w' w'' → K (a.put o.dst v) w'') (hr : (execOp a.eval o).run P w' = .ok (.value v) w') (h : Φ d v w') : o.wp P a w' K (fun _ _ _ => False) := by
  unfold Oper.wp
  rw [hr]
  exact hK v w' h (Kp.refl _ _)
theorem run_move {a : Act} {o : Oper} {t : Nat} {v : Value} (ho : o.op = .move (.tmp t)) (hv : a.tmps[t]?.getD undef = v) (w : World) : (execOp a.eval o).run P w = .ok (.value v) w := by
  have hv' : a.eval (.tmp t) = v := by
    show a.tmps.getD t undef = v
    rw [Array.getD_eq_getD_getElem?]; exact hv
  simp only [execOp, ho, hv']; rfl
theorem run_assign {a : Act} {o : Oper} {t : Nat} {v : Value} (ho : o.op = .assign (.tmp t)) (hv : a.tmps[t]?.getD undef = v) (w : World) : (execOp a.eval o).run P w = .ok (.value v) w := by
  have hv' : a.eval (.tmp t) = v := by
    show a.tmps.getD t undef = v
    rw [Array.getD_eq_getD_getElem?]; exact hv
  simp only [execOp, ho, hv']; rfl
theorem run_moveC {a : Act} {o : Oper} {v : Value} (ho : o.op = .move (.const v)) (w : World) : (execOp a.eval o).run P w = .ok (.value v) w := by
  simp only [execOp, ho]; rfl
theorem run_assignC {a : Act} {o : Oper} {v : Value} (ho : o.op = .assign (.const v)) (w : World) : (execOp a.eval o).run P w = .ok (.value v) w := by
  simp only [execOp, ho]; rfl
end
/-- A fact with a wider name. -/
theorem IsRd.len {k : IntKind} {xs : List Int} {v : Value} {w : World} (h : IsRd k xs v w) {n : Nat} (hn : xs.length = n) : ∃ A c, v = .slice A n c ∧ n ≤ c ∧ Rd w w.heap.size A (xs.map (.int k)) := by
  subst hn; exact h
end Go.Proofs.Ythidmpllganmnaa
