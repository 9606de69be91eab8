/-
  PLAIN MATHEMATICS OF LAYER 5, third part: no tree costs less than the best one; turned round, the best costs as much; lengths that fit fill a row of all ways.
  CONDITIONS: none beyond each lemma's own.
-/
import Derived.Test.YthidmpllganmnaaTcost
namespace Go.Proofs.Ythidmpllganmnaa

/-- Weights times lengths, added. -/
def cl : List Int → List Int → Int
  | x :: l, y :: m => x * y + cl l m
  | _, _ => 0
theorem cl_app : ∀ {a c b d : List Int}, a.length = c.length → cl (a ++ b) (c ++ d) = cl a c + cl b d
  | [], [], b, d, _ => by show cl b d = 0 + cl b d; omega
  | x :: a, y :: c, b, d, h => by
    show x * y + cl (a ++ b) (c ++ d) = x * y + cl a c + cl b d
    rw [cl_app (by simpa using h)]
    omega
  | [], _ :: _, _, _, h => by simp at h
  | _ :: _, [], _, _, h => by simp at h
theorem cl_rev : ∀ {l m : List Int}, l.length = m.length → cl l.reverse m.reverse = cl l m
  | [], [], _ => rfl
  | x :: l, y :: m, h => by
    have h' : l.length = m.length := by simpa using h
    rw [List.reverse_cons, List.reverse_cons, cl_app (by simpa using h'), cl_rev h']
    show cl l m + (x * y + 0) = x * y + cl l m
    omega
  | [], _ :: _, h => by simp at h
  | _ :: _, [], h => by simp at h
theorem costN_cl {l ls : List Int} (hw : Wts l) (hf : okF ls) (hl : l.length = ls.length) : ∀ k, k ≤ l.length → ((costN (wt l) (wt ls) k : Nat) : Int) = cl (l.take k) (ls.take k)
  | 0, _ => rfl
  | k + 1, hk => by
    obtain ⟨x, hx⟩ : ∃ x, l[k]? = some x := ⟨_, List.getElem?_eq_getElem (by omega)⟩
    obtain ⟨y, hy⟩ : ∃ y, ls[k]? = some y := ⟨_, List.getElem?_eq_getElem (by omega)⟩
    rw [take_succ_of hx, take_succ_of hy, cl_app (by rw [List.length_take, List.length_take]; omega), ← costN_cl hw hf hl k (by omega)]
    have e1 := wt_get hw hx
    have e2 := (okF_get hf hy).1
    show ((costN (wt l) (wt ls) k + wt l k * wt ls k : Nat) : Int) = _ + (x * y + 0)
    rw [Int.natCast_add, Int.natCast_mul, ← e1, ← e2]
    omega
theorem costV_cl {l ls : List Int} (h : okC l ls) : costV l ls = cl l ls := by
  rw [costV_ok h, costN_cl h.2.1.1 h.2.2 h.1 _ (Nat.le_refl _), List.take_of_length_le (Nat.le_refl _), List.take_of_length_le (by rw [h.1]; exact Nat.le_refl _)]

/-- The same of a function's weights from a place on. -/
def cw (w : Nat → Nat) : Nat → List Int → Int
  | _, [] => 0
  | i, y :: m => (w i : Int) * y + cw w (i + 1) m
theorem cw_app (w : Nat → Nat) : ∀ {a b : List Int} {i : Nat}, cw w i (a ++ b) = cw w i a + cw w (i + a.length) b
  | [], b, i => by show cw w i b = 0 + cw w i b; omega
  | y :: a, b, i => by
    show (w i : Int) * y + cw w (i + 1) (a ++ b) = (w i : Int) * y + cw w (i + 1) a + cw w (i + (a.length + 1)) b
    rw [cw_app w, show i + 1 + a.length = i + (a.length + 1) from by omega]
    omega
theorem cw_cl {l : List Int} (hw : Wts l) : ∀ {k : Nat} {ls : List Int}, k + ls.length = l.length → cw (wt l) k ls = cl (l.drop k) ls
  | k, [], h => by
    rw [List.drop_of_length_le (by simp at h; omega)]
    rfl
  | k, y :: ls, h => by
    have hk : k < l.length := by simp at h; omega
    obtain ⟨x, hx⟩ : ∃ x, l[k]? = some x := ⟨_, List.getElem?_eq_getElem hk⟩
    rw [drop_of hx]
    show (wt l k : Int) * y + cw (wt l) (k + 1) ls = x * y + cl (l.drop (k + 1)) ls
    rw [cw_cl hw (k := k + 1) (by simp at h; omega), wt_get hw hx]
/-- What a tree's lengths cost at the least. -/
theorem cw_least (w : Nat → Nat) {d : Int} {ls : List Int} (h : Dl d ls) : ∀ (i j : Nat), i + ls.length = j + 1 → (C w i j : Int) + d * (S w i j : Int) ≤ cw w i ls := by
  induction h with
  | leaf d =>
    intro i j hj
    obtain rfl : i = j := by simp at hj; omega
    rw [C_self]
    have e : S w i i = w i := by unfold S; simp only [pre]; omega
    rw [e]
    show ((0 : Nat) : Int) + d * (w i : Int) ≤ (w i : Int) * d + 0
    rw [Int.mul_comm d]
    omega
  | node h1 h2 i1 i2 =>
    rename_i d a b
    intro i j hj
    rw [List.length_append] at hj
    have p1 := h1.pos
    have p2 := h2.pos
    obtain ⟨m, hm⟩ : ∃ m, i + a.length = m + 1 := ⟨i + a.length - 1, by omega⟩
    have q1 := i1 i m hm
    have q2 := i2 (m + 1) j (by omega)
    rw [cw_app, hm]
    have q3 := C_le w (i := i) (j := j) (k := m + 1) (by omega) (by omega)
    rw [show m + 1 - 1 = m from rfl] at q3
    have q4 : S w i j = S w i m + S w (m + 1) j := by
      have x1 := pre_mono w (show i ≤ m + 1 by omega)
      have x2 := pre_mono w (show m + 1 ≤ j + 1 by omega)
      unfold S
      omega
    have q5 : (d + 1) * (S w i m : Int) + (d + 1) * (S w (m + 1) j : Int) = d * (S w i j : Int) + (S w i j : Int) := by
      rw [q4, Int.natCast_add, Int.add_mul, Int.add_mul, Int.mul_add]
      omega
    omega
theorem cw_best (w : Nat → Nat) : ∀ (n i j d : Nat), j - i = n → i ≤ j → cw w i (lens w i j d) = (C w i j : Int) + (d : Int) * (S w i j : Int) := by
  intro n
  induction n using Nat.strongRecOn with
  | ind n ih =>
    intro i j d hn hij
    rcases Nat.eq_or_lt_of_le hij with e | e
    · subst e
      rw [lens_self, C_self]
      have e : S w i i = w i := by unfold S; simp only [pre]; omega
      rw [e]
      show (w i : Int) * (d : Int) + 0 = ((0 : Nat) : Int) + (d : Int) * (w i : Int)
      rw [Int.mul_comm (d : Int)]
      omega
    · have b := K_bound w e
      obtain ⟨k, hk⟩ : ∃ k, k = K w i j := ⟨_, rfl⟩
      have hC := C_eq w e
      rw [lens_cut w d e]
      rw [← hk] at b hC ⊢
      have hl : (lens w i (k - 1) (d + 1)).length = k - i := by rw [lens_len _ _ _ _ _ rfl (by omega)]; omega
      rw [cw_app, hl, show i + (k - i) = k from by omega, ih (k - 1 - i) (by omega) _ _ _ rfl (by omega), ih (j - k) (by omega) _ _ _ rfl (by omega), hC]
      have q4 : S w i j = S w i (k - 1) + S w k j := by
        have x1 := pre_mono w (show i ≤ k by omega)
        have x2 := pre_mono w (show k ≤ j + 1 by omega)
        unfold S
        rw [show k - 1 + 1 = k from by omega]
        omega
      have q5 : ((d + 1 : Nat) : Int) * (S w i (k - 1) : Int) + ((d + 1 : Nat) : Int) * (S w k j : Int) = (d : Int) * (S w i j : Int) + (S w i j : Int) := by
        rw [q4, Int.natCast_add, Int.natCast_add, Int.add_mul, Int.add_mul, Int.mul_add]
        omega
      omega
theorem okF_dl {ls : List Int} (h : okF ls) (h2 : 2 ≤ ls.length) : Dl 0 ls := by
  rcases h.2 with e | e
  · subst e; simp at h2
  · exact e.2
theorem okF_lens {l : List Int} (h : okW l) : okF (lensL l) := by
  refine ⟨by rw [lensL_len h]; exact h.2.2, ?_⟩
  by_cases h1 : l.length = 1
  · exact .inl (lensL_one h h1)
  · have := h.2.1
    refine .inr ⟨by rw [lensL_len h]; omega, ?_⟩
    rw [lensL_more h h1]
    exact lens_dl (wt l) _ _ _ _ rfl (by omega)
theorem okC_lens {l : List Int} (h : okW l) : okC l (lensL l) := ⟨(lensL_len h).symm, h, okF_lens h⟩
/-- NO TREE COSTS LESS. -/
theorem best_least {l ls : List Int} (h : okC l ls) : cl l (lensL l) ≤ cl l ls := by
  by_cases h1 : l.length = 1
  · rw [lensL_one h.2.1 h1]
    have hl := h.1
    rcases h.2.2.2 with e | e
    · rw [e]; exact Int.le_refl _
    · omega
  · have h0 := h.2.1.2.1
    have hl := h.1
    have e1 := cw_best (wt l) _ 0 (l.length - 1) 0 rfl (by omega)
    have e2 := cw_least (wt l) (okF_dl h.2.2 (by omega)) 0 (l.length - 1) (by omega)
    rw [← lensL_more h.2.1 h1] at e1
    rw [cw_cl h.2.1.1 (by rw [lensL_len h.2.1]; omega)] at e1
    rw [cw_cl h.2.1.1 (by omega)] at e2
    rw [List.drop_zero] at e1 e2
    omega
theorem Dl.rev {d : Int} {l : List Int} (h : Dl d l) : Dl d l.reverse := by
  induction h with
  | leaf d => exact .leaf d
  | node h1 h2 i1 i2 => rw [List.reverse_append]; exact .node i2 i1
theorem okF.rev {l : List Int} (h : okF l) : okF l.reverse := by
  refine ⟨by rw [List.length_reverse]; exact h.1, ?_⟩
  rcases h.2 with e | e
  · left; rw [e]; rfl
  · right; exact ⟨by rw [List.length_reverse]; exact e.1, e.2.rev⟩
theorem okW.rev {l : List Int} (h : okW l) : okW l.reverse := ⟨fun x hx => h.1 x (List.mem_reverse.1 hx), by rw [List.length_reverse]; exact h.2.1, by rw [List.length_reverse]; exact h.2.2⟩
theorem okC.rev {l ls : List Int} (h : okC l ls) : okC l.reverse ls.reverse := ⟨by rw [List.length_reverse, List.length_reverse]; exact h.1, h.2.1.rev, h.2.2.rev⟩
/-- TURNED ROUND, THE BEST COSTS AS MUCH. -/
theorem best_turned {l : List Int} (h : okW l) : cl l.reverse (lensL l.reverse) = cl l (lensL l) := by
  have a := best_least (okC_lens h).rev
  rw [cl_rev (lensL_len h).symm] at a
  have b := best_least (l := l) (ls := (lensL l.reverse).reverse) (by have := (okC_lens h.rev).rev; rwa [List.reverse_reverse] at this)
  have c := cl_rev (l := l.reverse) (m := lensL l.reverse) (lensL_len h.rev).symm
  rw [List.reverse_reverse] at c
  omega

/-- All ways: two to the power of H minus each. -/
def ways (H : Int) : List Int → Nat
  | [] => 0
  | y :: l => 2 ^ (H - y).toNat + ways H l
theorem ways_app (H : Int) : ∀ (a b : List Int), ways H (a ++ b) = ways H a + ways H b
  | [], b => by show ways H b = 0 + ways H b; omega
  | y :: a, b => by
    show 2 ^ _ + ways H (a ++ b) = 2 ^ _ + ways H a + ways H b
    rw [ways_app H a b]; omega
theorem ways_dl {H d : Int} {l : List Int} (h : Dl d l) : (∀ x ∈ l, x ≤ H) → ways H l = 2 ^ (H - d).toNat := by
  induction h with
  | leaf d => intro _; show 2 ^ _ + 0 = _; omega
  | node h1 h2 i1 i2 =>
    rename_i d a b
    intro hx
    rw [ways_app, i1 (fun x h => hx x (by simp [h])), i2 (fun x h => hx x (by simp [h]))]
    have hd : d + 1 ≤ H := by
      obtain ⟨y, a', rfl⟩ := List.exists_cons_of_ne_nil (List.ne_nil_of_length_pos h1.pos)
      have := h1.bound y (by simp)
      have := hx y (by simp)
      omega
    rw [show (H - d).toNat = (H - (d + 1)).toNat + 1 from by omega, Nat.pow_succ]
    omega
/-- One more of them, or one of them longer, does not fit. -/
theorem not_more {l : List Int} {k : Nat} {y : Int} (h : Dl 0 l) (hk : l[k]? = some y) : ¬ Dl 0 (l ++ [y]) := by
  intro h2
  have b1 : ∀ x ∈ l, x ≤ (l.length : Int) := fun x hx => by have := h.bound x hx; omega
  have e1 := ways_dl h b1
  have e2 := ways_dl (H := (l.length : Int)) h2 (fun x hx => by
    rcases List.mem_append.1 hx with hx | hx
    · exact b1 x hx
    · simp at hx
      subst hx
      exact b1 x (List.mem_of_getElem? hk))
  rw [ways_app, e1] at e2
  have : 0 < ways (l.length : Int) [y] := by show 0 < 2 ^ _ + 0; have := Nat.two_pow_pos ((l.length : Int) - y).toNat; omega
  omega
theorem not_longer {l : List Int} {k : Nat} {y : Int} (h : Dl 0 l) (hk : l[k]? = some y) : ¬ Dl 0 (l.set k (y + 1)) := by
  intro h2
  obtain ⟨hkl, hke⟩ := List.getElem?_eq_some_iff.1 hk
  have b1 : ∀ x ∈ l, x ≤ (l.length : Int) := fun x hx => by have := h.bound x hx; omega
  have hy := b1 y (List.mem_of_getElem? hk)
  obtain ⟨H, hH⟩ : ∃ H, H = (l.length : Int) + 1 := ⟨_, rfl⟩
  have e1 := ways_dl (H := H) h (fun x hx => by have := b1 x hx; omega)
  have e2 := ways_dl (H := H) h2 (fun x hx => by
    rcases List.mem_or_eq_of_mem_set hx with hx | hx
    · have := b1 x hx; omega
    · omega)
  rw [List.set_eq_take_append_cons_drop, if_pos hkl, ways_app] at e2
  rw [split_at_ hk, ways_app] at e1
  have e3 : ways H (y :: l.drop (k + 1)) = 2 ^ (H - y).toNat + ways H (l.drop (k + 1)) := rfl
  have e4 : ways H ((y + 1) :: l.drop (k + 1)) = 2 ^ (H - (y + 1)).toNat + ways H (l.drop (k + 1)) := rfl
  rw [e3] at e1
  rw [e4] at e2
  have e5 : 2 ^ (H - y).toNat = 2 ^ (H - (y + 1)).toNat + 2 ^ (H - (y + 1)).toNat := by
    rw [show (H - y).toNat = (H - (y + 1)).toNat + 1 from by omega, Nat.pow_succ]
    omega
  have := Nat.two_pow_pos (H - (y + 1)).toNat
  omega
end Go.Proofs.Ythidmpllganmnaa
