/-
  PLAIN MATHEMATICS OF LAYER 5, second part: the lengths that the cuts give, the depths of a tree's leaves, and what the two ways to tell them answer.
  CONDITIONS: none beyond each lemma's own.
-/
import Derived.Test.YthidmpllganmnaaMTuck
namespace Go.Proofs.Ythidmpllganmnaa

/-- The lengths of a row by its cuts. -/
def lensF (w : Nat → Nat) : Nat → Nat → Nat → Nat → List Int
  | 0, _, _, d => [(d : Int)]
  | f + 1, i, j, d => if i < j then lensF w f i (K w i j - 1) (d + 1) ++ lensF w f (K w i j) j (d + 1) else [(d : Int)]
def lens (w : Nat → Nat) (i j d : Nat) : List Int := lensF w (j - i) i j d
theorem lensF_fuel (w : Nat → Nat) : ∀ (f g i j d : Nat), j - i ≤ f → j - i ≤ g → lensF w f i j d = lensF w g i j d := by
  intro f
  induction f with
  | zero =>
    intro g i j d h _
    cases g with
    | zero => rfl
    | succ g => show _ = if i < j then _ else _; rw [if_neg (by omega)]; rfl
  | succ f ih =>
    intro g i j d h hg
    show (if i < j then _ else _) = _
    by_cases hij : i < j
    · have hb := K_bound w hij
      rw [if_pos hij]
      cases g with
      | zero => omega
      | succ g =>
        show _ = if i < j then _ else _
        rw [if_pos hij, ih g _ _ _ (by omega) (by omega), ih g (K w i j) _ _ (by omega) (by omega)]
    · rw [if_neg hij]
      cases g with
      | zero => rfl
      | succ g => show _ = if i < j then _ else _; rw [if_neg hij]
theorem lens_self (w : Nat → Nat) (i d : Nat) : lens w i i d = [(d : Int)] := by unfold lens; rw [Nat.sub_self]; rfl
theorem lens_cut (w : Nat → Nat) {i j : Nat} (d : Nat) (h : i < j) : lens w i j d = lens w i (K w i j - 1) (d + 1) ++ lens w (K w i j) j (d + 1) := by
  have hb := K_bound w h
  unfold lens
  rw [lensF_fuel w (j - i) (j - i - 1 + 1) i j d (by omega) (by omega)]
  show (if i < j then _ else _) = _
  rw [if_pos h, lensF_fuel w _ (K w i j - 1 - i) _ _ _ (by omega) (by omega), lensF_fuel w _ (j - K w i j) (K w i j) _ _ (by omega) (by omega)]
theorem lens_len (w : Nat → Nat) : ∀ (n i j d : Nat), j - i = n → i ≤ j → (lens w i j d).length = j - i + 1 := by
  intro n
  induction n using Nat.strongRecOn with
  | ind n ih =>
    intro i j d hn hij
    rcases Nat.eq_or_lt_of_le hij with e | e
    · subst e; rw [lens_self]; simp
    · have b := K_bound w e
      rw [lens_cut w d e, List.length_append, ih (K w i j - 1 - i) (by omega) _ _ _ rfl (by omega), ih (j - K w i j) (by omega) _ _ _ rfl (by omega)]
      omega
theorem lens_bound (w : Nat → Nat) : ∀ (n i j d : Nat), j - i = n → i ≤ j → ∀ x ∈ lens w i j d, (d : Int) ≤ x ∧ x ≤ (d : Int) + (j - i : Nat) := by
  intro n
  induction n using Nat.strongRecOn with
  | ind n ih =>
    intro i j d hn hij x hx
    rcases Nat.eq_or_lt_of_le hij with e | e
    · subst e
      rw [lens_self] at hx
      simp at hx
      omega
    · have b := K_bound w e
      rw [lens_cut w d e, List.mem_append] at hx
      rcases hx with hx | hx
      · have := ih (K w i j - 1 - i) (by omega) _ _ _ rfl (by omega) x hx; omega
      · have := ih (j - K w i j) (by omega) _ _ _ rfl (by omega) x hx; omega

/-- A row's stretch put at a place. -/
def laidAt {α : Type} (xs : List α) (i : Nat) (ys : List α) : List α := xs.take i ++ ys ++ xs.drop (i + ys.length)
theorem laidAt_len {α : Type} {xs : List α} {i : Nat} {ys : List α} (h : i + ys.length ≤ xs.length) : (laidAt xs i ys).length = xs.length := by
  unfold laidAt
  rw [List.length_append, List.length_append, List.length_take, List.length_drop]
  omega
theorem laidAt_one {α : Type} {xs : List α} {i : Nat} (y : α) (h : i < xs.length) : laidAt xs i [y] = xs.set i y := by
  unfold laidAt
  rw [List.set_eq_take_append_cons_drop, if_pos h, List.append_assoc]
  rfl
theorem laidAt_two {α : Type} {xs : List α} {i k : Nat} {a b : List α} (hk : k = i + a.length) (h : i + a.length + b.length ≤ xs.length) : laidAt (laidAt xs i a) k b = laidAt xs i (a ++ b) := by
  subst hk
  unfold laidAt
  have e1 : (List.take i xs ++ a).length = i + a.length := by rw [List.length_append, List.length_take]; omega
  rw [List.take_append_of_le_length (by omega), List.take_of_length_le (by omega)]
  rw [List.drop_append, List.drop_of_length_le (by omega), e1, List.drop_drop, List.nil_append, List.length_append]
  rw [show i + a.length + (i + a.length + b.length - (i + a.length)) = i + (a.length + b.length) from by omega]
  simp only [List.append_assoc]
theorem laidAt_all {α : Type} {xs ys : List α} (h : ys.length = xs.length) : laidAt xs 0 ys = ys := by
  unfold laidAt
  rw [List.drop_of_length_le (by omega)]
  simp

/-- The depths of a tree's leaves, from the left. -/
inductive Dl : Int → List Int → Prop where
  | leaf (d : Int) : Dl d [d]
  | node {d : Int} {a b : List Int} : Dl (d + 1) a → Dl (d + 1) b → Dl d (a ++ b)
theorem lens_dl (w : Nat → Nat) : ∀ (n i j d : Nat), j - i = n → i ≤ j → Dl (d : Int) (lens w i j d) := by
  intro n
  induction n using Nat.strongRecOn with
  | ind n ih =>
    intro i j d hn hij
    rcases Nat.eq_or_lt_of_le hij with e | e
    · subst e; rw [lens_self]; exact .leaf _
    · have b := K_bound w e
      rw [lens_cut w d e]
      exact .node (ih (K w i j - 1 - i) (by omega) i (K w i j - 1) (d + 1) rfl (by omega)) (ih (j - K w i j) (by omega) (K w i j) j (d + 1) rfl (by omega))
theorem Dl.pos {d : Int} {l : List Int} (h : Dl d l) : 0 < l.length := by
  induction h with
  | leaf d => simp
  | node _ _ h1 h2 => rw [List.length_append]; omega
theorem Dl.bound {d : Int} {l : List Int} (h : Dl d l) : ∀ x ∈ l, d ≤ x ∧ x ≤ d + l.length - 1 ∧ (1 < l.length → d < x) := by
  induction h with
  | leaf d => intro x hx; simp at hx; subst hx; simp
  | node h1 h2 i1 i2 =>
    rename_i d a b
    have p1 := h1.pos
    have p2 := h2.pos
    intro x hx
    rw [List.length_append]
    rcases List.mem_append.1 hx with hx | hx
    · have := i1 x hx; omega
    · have := i2 x hx; omega
theorem Dl.one {d : Int} {l : List Int} (h : Dl d l) (hx : ∀ y ∈ l, y ≤ d) : l = [d] := by
  cases h with
  | leaf => rfl
  | node h1 h2 =>
    rename_i a b
    have p1 := h1.pos
    obtain ⟨y, a', rfl⟩ := List.exists_cons_of_ne_nil (List.ne_nil_of_length_pos p1)
    have := h1.bound y (by simp)
    have := hx y (by simp)
    omega

/-- THE PROGRAM'S WAY: trees done so far, the last one first. -/
def ins : List Int → Int → Option (List Int)
  | [], n => some [n]
  | t :: s, n => if t = n then ins s (n - 1) else if n < t then none else some (n :: t :: s)
def procT (m : Int) : List Int → List Int → Option (List Int)
  | s, [] => some s
  | s, n :: l => if 1 ≤ n ∧ n < m then (ins s n).bind fun s' => procT m s' l else none
theorem procT_cons (m n : Int) (s l : List Int) : procT m s (n :: l) = if 1 ≤ n ∧ n < m then (ins s n).bind fun s' => procT m s' l else none := by rw [procT]
/-- What the trees done so far hold. -/
def Segs : List Int → List Int → Prop
  | [], l => l = []
  | t :: s, l => ∃ a b, l = a ++ b ∧ Segs s a ∧ Dl t b
theorem ins_segs : ∀ {s : List Int} {n : Int} {a b : List Int} {r : List Int}, Segs s a → Dl n b → ins s n = some r → Segs r (a ++ b)
  | [], n, a, b, r, hs, hb, hr => by
    injection hr with hr
    subst hr
    exact ⟨[], b, by rw [hs], rfl, hb⟩
  | t :: s, n, a, b, r, hs, hb, hr => by
    unfold ins at hr
    obtain ⟨a1, a2, rfl, h1, h2⟩ := hs
    by_cases htn : t = n
    · rw [if_pos htn] at hr
      subst htn
      rw [List.append_assoc]
      refine ins_segs h1 ?_ hr
      exact .node (by rw [show t - 1 + 1 = t from by omega]; exact h2) (by rw [show t - 1 + 1 = t from by omega]; exact hb)
    · rw [if_neg htn] at hr
      by_cases hlt : n < t
      · rw [if_pos hlt] at hr; cases hr
      · rw [if_neg hlt] at hr
        injection hr with hr
        subst hr
        exact ⟨_, b, rfl, ⟨a1, a2, rfl, h1, h2⟩, hb⟩
theorem procT_segs {m : Int} : ∀ {l s a r : List Int}, Segs s a → procT m s l = some r → Segs r (a ++ l)
  | [], s, a, r, hs, hr => by injection hr with hr; subst hr; simpa using hs
  | n :: l, s, a, r, hs, hr => by
    unfold procT at hr
    by_cases hn : 1 ≤ n ∧ n < m
    · rw [if_pos hn] at hr
      cases hi : ins s n with
      | none => rw [hi] at hr; cases hr
      | some s' =>
        rw [hi] at hr
        have := procT_segs (ins_segs hs (.leaf n) hi) hr
        simpa using this
    · rw [if_neg hn] at hr; cases hr
/-- Rising from the first to the last done: each is deeper than those below it. -/
def Ris : List Int → Prop
  | t :: u :: s => u < t ∧ Ris (u :: s)
  | _ => True
theorem Ris.tl {t : Int} {s : List Int} (h : Ris (t :: s)) : Ris s := by
  cases s with
  | nil => trivial
  | cons u s => exact h.2
def Top (s : List Int) (n : Int) : Prop := ∀ t ∈ s.head?, t ≤ n
theorem ins_some : ∀ {s : List Int} {n : Int}, Ris s → Top s n → ∃ r, ins s n = some r ∧ Ris r
  | [], n, _, _ => ⟨_, rfl, trivial⟩
  | t :: s, n, hr, ht => by
    unfold ins
    have htn := ht t (by simp)
    by_cases he : t = n
    · rw [if_pos he]
      refine ins_some hr.tl ?_
      intro u hu
      cases s with
      | nil => simp at hu
      | cons v s =>
        simp at hu
        subst hu
        have := hr.1
        omega
    · rw [if_neg he, if_neg (by omega)]
      exact ⟨_, rfl, ⟨by omega, hr⟩⟩
theorem ins_plain {s : List Int} {n : Int} (ht : ∀ t ∈ s.head?, t < n) : ins s n = some (n :: s) := by
  cases s with
  | nil => rfl
  | cons t s =>
    have := ht t (by simp)
    unfold ins
    rw [if_neg (by omega), if_neg (by omega)]
theorem procT_app {m : Int} : ∀ {a b s : List Int}, procT m s (a ++ b) = (procT m s a).bind fun r => procT m r b
  | [], b, s => rfl
  | n :: a, b, s => by
    rw [List.cons_append, procT_cons, procT_cons]
    by_cases hn : 1 ≤ n ∧ n < m
    · rw [if_pos hn, if_pos hn]
      cases hi : ins s n with
      | none => rfl
      | some s' =>
        simp only [Option.bind_some]
        exact procT_app
    · rw [if_neg hn, if_neg hn]; rfl
theorem procT_dl {m : Int} {d : Int} {l : List Int} (h : Dl d l) : ∀ {s : List Int}, (∀ x ∈ l, 1 ≤ x ∧ x < m) → Top s d → Ris s → procT m s l = ins s d := by
  induction h with
  | leaf d =>
    intro s hx ht hr
    unfold procT
    rw [if_pos (hx d (by simp))]
    obtain ⟨r, h, _⟩ := ins_some hr ht
    rw [h]; rfl
  | node h1 h2 i1 i2 =>
    rename_i d a b
    intro s hx ht hr
    rw [procT_app, i1 (fun x h => hx x (by simp [h])) (fun t h => by have := ht t h; omega) hr, ins_plain (fun t h => by have := ht t h; omega)]
    show procT m _ b = _
    have hr2 : Ris ((d + 1) :: s) := by
      cases s with
      | nil => trivial
      | cons t s => exact ⟨by have := ht t (by simp); omega, hr⟩
    rw [i2 (fun x h => hx x (by simp [h])) (fun t h => by simp at h; omega) hr2]
    show (if d + 1 = d + 1 then ins s (d + 1 - 1) else _) = _
    rw [if_pos rfl, show d + 1 - 1 = d from by omega]
/-- THE PROGRAM'S WAY TELLS TREES. -/
theorem procT_iff {l : List Int} (h2 : 2 ≤ l.length) : procT (l.length : Int) [] l = some [0] ↔ Dl 0 l := by
  constructor
  · intro h
    obtain ⟨a, b, e, h1, h2⟩ := procT_segs (s := []) (a := []) rfl h
    rw [h1] at e
    simp at e
    rw [e]; exact h2
  · intro h
    rw [procT_dl h (s := []) (fun x hx => by have := h.bound x hx; omega) (fun t h => by simp at h) trivial]
    rfl

/-- THE DOCUMENT'S WAY: the first of the deepest. -/
theorem Dl.split {e d : Int} {l : List Int} (h : Dl e l) : ∀ {l1 l2 : List Int}, l = l1 ++ d :: l2 → Dl e (l1 ++ (d + 1) :: (d + 1) :: l2) := by
  induction h with
  | leaf e =>
    intro l1 l2 hl
    cases l1 with
    | nil =>
      simp at hl
      obtain ⟨rfl, rfl⟩ := hl
      exact .node (a := [e + 1]) (b := [e + 1]) (.leaf _) (.leaf _)
    | cons x l1 => simp at hl
  | node h1 h2 i1 i2 =>
    rename_i e a b
    intro l1 l2 hl
    rcases List.append_eq_append_iff.1 hl with ⟨m, e1, e2⟩ | ⟨m, e1, e2⟩
    · rw [e1, List.append_assoc]
      exact .node h1 (i2 e2)
    · cases m with
      | nil =>
        simp at e1 e2
        subst e1
        exact .node h1 (i2 (l1 := []) e2.symm)
      | cons x m =>
        simp at e2
        obtain ⟨rfl, rfl⟩ := e2
        have := Dl.node (i1 e1) h2
        simpa using this
theorem Dl.merge {e d : Int} {l : List Int} (h : Dl e l) : ∀ {l1 l2 : List Int}, l = l1 ++ d :: l2 → 2 ≤ l.length → (∀ x ∈ l1, x < d) → (∀ x ∈ l2, x ≤ d) → ∃ l3, l2 = d :: l3 ∧ Dl e (l1 ++ (d - 1) :: l3) := by
  induction h with
  | leaf e => intro l1 l2 hl h2; simp at h2
  | node h1 h2 i1 i2 =>
    rename_i e a b
    intro l1 l2 hl hlen hx hy
    rcases List.append_eq_append_iff.1 hl with ⟨m, e1, e2⟩ | ⟨m, e1, e2⟩
    · -- in b
      have hb : 2 ≤ b.length := by
        rcases Nat.lt_or_ge b.length 2 with hb | hb
        · obtain ⟨x, rfl⟩ : ∃ x, b = [x] := List.length_eq_one_iff.1 (by have := h2.pos; omega)
          have hm : m = [] := by cases m with
            | nil => rfl
            | cons y m => simp at e2
          subst hm
          simp at e1 e2
          obtain ⟨rfl, rfl⟩ := e2
          subst e1
          obtain ⟨y, l1', rfl⟩ := List.exists_cons_of_ne_nil (List.ne_nil_of_length_pos h1.pos)
          have q1 := hx y (by simp)
          have q2 := h1.bound y (by simp)
          have q3 : Dl (e + 1) [x] := h2
          have q4 := q3.bound x (by simp)
          simp at q4
          omega
        · exact hb
      obtain ⟨l3, r1, r2⟩ := i2 e2 hb (fun x hx' => hx x (by rw [e1]; simp [hx'])) hy
      exact ⟨l3, r1, by rw [e1, List.append_assoc]; exact .node h1 r2⟩
    · cases m with
      | nil =>
        simp at e1 e2
        subst e1
        have hb : 2 ≤ b.length := by
          rcases Nat.lt_or_ge b.length 2 with hb | hb
          · obtain ⟨x, rfl⟩ : ∃ x, b = [x] := List.length_eq_one_iff.1 (by have := h2.pos; omega)
            simp at e2
            obtain ⟨rfl, rfl⟩ := e2
            obtain ⟨y, l1', rfl⟩ := List.exists_cons_of_ne_nil (List.ne_nil_of_length_pos h1.pos)
            have q1 := hx y (by simp)
            have q2 := h1.bound y (by simp)
            have q4 := h2.bound d (by simp)
            simp at q4
            omega
          · exact hb
        obtain ⟨l3, r1, r2⟩ := i2 (l1 := []) e2.symm hb (fun x h => by simp at h) hy
        exact ⟨l3, r1, .node h1 r2⟩
      | cons x m =>
        simp at e2
        obtain ⟨rfl, rfl⟩ := e2
        rcases Nat.lt_or_ge a.length 2 with ha | ha
        · obtain ⟨x, rfl⟩ : ∃ x, a = [x] := List.length_eq_one_iff.1 (by have := h1.pos; omega)
          have hl1 : l1 = [] := by cases l1 with
            | nil => rfl
            | cons y l1 => simp at e1
          subst hl1
          simp at e1
          obtain ⟨rfl, rfl⟩ := e1
          have q := h1.bound x (by simp)
          simp at q
          have hxe : x = e + 1 := by omega
          subst hxe
          have hbb := h2.one (fun y h => hy y (by simp [h]))
          subst hbb
          exact ⟨[], rfl, by rw [show e + 1 - 1 = e from by omega]; exact .leaf _⟩
        · obtain ⟨l3, r1, r2⟩ := i1 e1 ha hx (fun x h => hy x (by simp [h]))
          exact ⟨l3 ++ b, by rw [r1]; rfl, by have := Dl.node r2 h2; simpa using this⟩
end Go.Proofs.Ythidmpllganmnaa
