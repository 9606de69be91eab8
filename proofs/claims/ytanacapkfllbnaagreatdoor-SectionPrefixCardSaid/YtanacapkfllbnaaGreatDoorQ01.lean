/-
  PLAIN MATHEMATICS OF LAYER 5: the least cost of a row over all cuts, the first cut that reaches it, and that this cut lies between those of the two shorter rows (the quadrangle inequality).
  PLAIN MATHEMATICS OF LAYER 5, second part: the lengths that the cuts give, the depths of a tree's leaves, and what the two ways to tell them answer.
  PLAIN MATHEMATICS OF LAYER 6: a tree of words, its words in order, the next word, what bits lead to, what a text's bits are.
  WORDS IN MEMORY: what a block of words of 64 bits holds, as plain numbers.
  CONDITIONS: as each lemma says.
-/
import Derived.Test.YtanacapkfllbnaaGreatDoorQ00
namespace Go.Proofs.YtanacapkfllbnaaGreatDoor

/-- The first place of 0 .. m where f is least. -/
def argm (f : Nat → Nat) : Nat → Nat
  | 0 => 0
  | m + 1 => if f (m + 1) < f (argm f m) then m + 1 else argm f m
theorem argm_le (f : Nat → Nat) (m : Nat) : argm f m ≤ m := by
  induction m with
  | zero => simp [argm]
  | succ m ih => unfold argm; split <;> omega
theorem argm_min (f : Nat → Nat) (m : Nat) : ∀ k, k ≤ m → f (argm f m) ≤ f k := by
  induction m with
  | zero => intro k hk; rw [show k = 0 from by omega]; simp [argm]
  | succ m ih =>
    intro k hk
    unfold argm
    split
    · rename_i h
      by_cases hkm : k = m + 1
      · rw [hkm]; omega
      · have := ih k (by omega); omega
    · rename_i h
      by_cases hkm : k = m + 1
      · rw [hkm]; omega
      · exact ih k (by omega)
theorem argm_first (f : Nat → Nat) (m : Nat) : ∀ k, k < argm f m → f (argm f m) < f k := by
  induction m with
  | zero => intro k hk; simp [argm] at hk
  | succ m ih =>
    intro k hk
    unfold argm at hk ⊢
    split
    · rename_i h
      rw [if_pos h] at hk
      have := argm_min f m k (by omega)
      omega
    · rename_i h
      rw [if_neg h] at hk
      exact ih k hk
theorem argm_congr {f g : Nat → Nat} {m : Nat} (h : ∀ k, k ≤ m → f k = g k) : argm f m = argm g m := by
  induction m with
  | zero => rfl
  | succ m ih =>
    have e := ih (fun k hk => h k (by omega))
    unfold argm
    rw [e, h (m + 1) (Nat.le_refl _), h (argm g m) (Nat.le_succ_of_le (argm_le g m))]

/-- The sum of the weights ahead of a place. -/
def pre (w : Nat → Nat) : Nat → Nat
  | 0 => 0
  | n + 1 => pre w n + w n
theorem pre_mono (w : Nat → Nat) {a b : Nat} (h : a ≤ b) : pre w a ≤ pre w b := by
  induction b with
  | zero => rw [show a = 0 from by omega]; exact Nat.le_refl _
  | succ b ih =>
    by_cases hab : a = b + 1
    · rw [hab]; exact Nat.le_refl _
    · have := ih (by omega)
      simp only [pre]
      omega

/-- What the row of n + 1 weights from i costs, at the least. -/
def cst (w : Nat → Nat) : Nat → Nat → Nat
  | 0, _ => 0
  | n + 1, i =>
    pre w (i + n + 2) - pre w i +
      (fun f : Nat → Nat => f (argm f n)) (fun k => if _h : k ≤ n then cst w k i + cst w (n - k) (i + k + 1) else 0)
termination_by n => n
/-- What it costs, cut behind k + 1 weights. -/
def spl (w : Nat → Nat) (n i k : Nat) : Nat := cst w k i + cst w (n - k) (i + k + 1)
/-- Where it is cut: behind so many weights and one. -/
def cut (w : Nat → Nat) (n i : Nat) : Nat := argm (spl w n i) n
theorem cst_zero (w : Nat → Nat) (i : Nat) : cst w 0 i = 0 := by unfold cst; rfl
theorem cst_succ (w : Nat → Nat) (n i : Nat) : cst w (n + 1) i = pre w (i + n + 2) - pre w i + spl w n i (cut w n i) := by
  rw [cst]
  have e : ∀ k, k ≤ n → (if _h : k ≤ n then cst w k i + cst w (n - k) (i + k + 1) else 0) = spl w n i k := fun k hk => by rw [dif_pos hk]; rfl
  show _ + (if _h : argm _ n ≤ n then _ else 0) = _
  rw [argm_congr e]
  congr 1
  exact e _ (argm_le _ _)

/-- The same, by the row's two ends. -/
def C (w : Nat → Nat) (i j : Nat) : Nat := cst w (j - i) i
def S (w : Nat → Nat) (i j : Nat) : Nat := pre w (j + 1) - pre w i
def K (w : Nat → Nat) (i j : Nat) : Nat := i + 1 + cut w (j - i - 1) i
theorem C_self (w : Nat → Nat) (i : Nat) : C w i i = 0 := by unfold C; rw [Nat.sub_self, cst_zero]
theorem K_bound (w : Nat → Nat) {i j : Nat} (h : i < j) : i < K w i j ∧ K w i j ≤ j := by
  have := argm_le (spl w (j - i - 1) i) (j - i - 1)
  unfold K cut
  omega
theorem spl_C (w : Nat → Nat) {i j k : Nat} (h : i < k) (hk : k ≤ j) : spl w (j - i - 1) i (k - i - 1) = C w i (k - 1) + C w k j := by
  unfold spl C
  rw [show k - 1 - i = k - i - 1 from by omega, show j - i - 1 - (k - i - 1) = j - k from by omega, show i + (k - i - 1) + 1 = k from by omega]
theorem C_eq (w : Nat → Nat) {i j : Nat} (h : i < j) : C w i j = S w i j + (C w i (K w i j - 1) + C w (K w i j) j) := by
  rw [← spl_C w (K_bound w h).1 (K_bound w h).2]
  have e : K w i j - i - 1 = cut w (j - i - 1) i := by unfold K; omega
  rw [e]
  unfold C S
  obtain ⟨n, hn⟩ : ∃ n, j - i = n + 1 := ⟨j - i - 1, by omega⟩
  rw [hn, cst_succ, show i + n + 2 = j + 1 from by omega, show n + 1 - 1 = n from rfl]
theorem K_min (w : Nat → Nat) {i j k : Nat} (h : i < k) (hk : k ≤ j) : C w i (K w i j - 1) + C w (K w i j) j ≤ C w i (k - 1) + C w k j := by
  rw [← spl_C w (K_bound w (by omega)).1 (K_bound w (by omega)).2, ← spl_C w h hk]
  have e : K w i j - i - 1 = cut w (j - i - 1) i := by unfold K; omega
  rw [e]
  exact argm_min _ _ _ (by omega)
theorem K_first (w : Nat → Nat) {i j k : Nat} (h : i < k) (hj : i < j) (hk : k < K w i j) : C w i (K w i j - 1) + C w (K w i j) j < C w i (k - 1) + C w k j := by
  have hb := K_bound w hj
  rw [← spl_C w hb.1 hb.2, ← spl_C w h (by omega)]
  have e : K w i j - i - 1 = cut w (j - i - 1) i := by unfold K; omega
  rw [e]
  exact argm_first _ _ _ (by unfold K cut at *; omega)
theorem C_le (w : Nat → Nat) {i j k : Nat} (h : i < k) (hk : k ≤ j) : C w i j ≤ S w i j + (C w i (k - 1) + C w k j) := by
  rw [C_eq w (by omega)]
  have := K_min w h hk
  omega

/-- THE QUADRANGLE INEQUALITY. -/
theorem C_quad (w : Nat → Nat) : ∀ (n i i' j j' : Nat), j' - i = n → i ≤ i' → i' ≤ j → j ≤ j' → C w i j + C w i' j' ≤ C w i j' + C w i' j := by
  intro n
  induction n using Nat.strongRecOn with
  | ind n ih =>
    intro i i' j j' hn h1 h2 h3
    rcases Nat.eq_or_lt_of_le h1 with h1 | h1
    · subst h1; omega
    rcases Nat.eq_or_lt_of_le h3 with h3 | h3
    · subst h3; omega
    have hS1 : S w i j ≤ S w i j' := by have := pre_mono w (show j + 1 ≤ j' + 1 by omega); unfold S; omega
    have hS2 : S w i' j' ≤ S w i j' := by have := pre_mono w (show i ≤ i' by omega); unfold S; omega
    have hS3 : S w i j + S w i' j' = S w i j' + S w i' j := by
      have a := pre_mono w (show j + 1 ≤ j' + 1 by omega)
      have b := pre_mono w (show i ≤ i' by omega)
      have c := pre_mono w (show i' ≤ j + 1 by omega)
      unfold S
      omega
    obtain ⟨z, hz⟩ : ∃ z, z = K w i j' := ⟨_, rfl⟩
    have hzb := K_bound w (show i < j' by omega)
    have hze := C_eq w (show i < j' by omega)
    rw [← hz] at hzb hze
    rcases Nat.eq_or_lt_of_le h2 with h2 | h2
    · subst h2
      rw [C_self]
      by_cases hzj : z ≤ i'
      · have a := C_le w hzb.1 hzj
        have b := ih (j' - z) (by omega) z i' i' j' rfl hzj (Nat.le_refl _) (by omega)
        rw [C_self] at b
        omega
      · have a := C_le w (show i' < z by omega) hzb.2
        have b := ih (z - 1 - i) (by omega) i i' i' (z - 1) rfl (by omega) (Nat.le_refl _) (by omega)
        rw [C_self] at b
        omega
    · obtain ⟨y, hy⟩ : ∃ y, y = K w i' j := ⟨_, rfl⟩
      have hyb := K_bound w h2
      have hye := C_eq w h2
      rw [← hy] at hyb hye
      by_cases hzy : z ≤ y
      · have a := C_le w hzb.1 (show z ≤ j by omega)
        have b := C_le w hyb.1 (show y ≤ j' by omega)
        have c := ih (j' - z) (by omega) z y j j' rfl hzy hyb.2 (by omega)
        omega
      · have a := C_le w (show i < y by omega) hyb.2
        have b := C_le w (show i' < z by omega) hzb.2
        have c := ih (z - 1 - i) (by omega) i i' (y - 1) (z - 1) rfl (by omega) (by omega) (by omega)
        omega
/-- Where a row is cut: not ahead of where the row without its last weight is. -/
theorem K_low (w : Nat → Nat) {i j : Nat} (h : i < j) : K w i j ≤ K w i (j + 1) := by
  rcases Nat.lt_or_ge (K w i (j + 1)) (K w i j) with hk | hk
  · have b1 := K_bound w h
    have b2 := K_bound w (show i < j + 1 by omega)
    have a := K_first w b2.1 h hk
    have b := K_min w b1.1 (show K w i j ≤ j + 1 by omega)
    have c := C_quad w _ (K w i (j + 1)) (K w i j) j (j + 1) rfl (by omega) b1.2 (by omega)
    omega
  · exact hk
/-- Nor behind where the row without its first weight is. -/
theorem K_high (w : Nat → Nat) {i j : Nat} (h : i + 1 < j) : K w i j ≤ K w (i + 1) j := by
  rcases Nat.lt_or_ge (K w (i + 1) j) (K w i j) with hk | hk
  · have b1 := K_bound w (show i < j by omega)
    have b2 := K_bound w h
    have a := K_first w (show i < K w (i + 1) j by omega) (show i < j by omega) hk
    have b := K_min w (i := i + 1) (show i + 1 < K w i j by omega) b1.2
    have c := C_quad w _ i (i + 1) (K w (i + 1) j - 1) (K w i j - 1) rfl (by omega) (by omega) (by omega)
    omega
  · exact hk
end Go.Proofs.YtanacapkfllbnaaGreatDoor
namespace Go.Proofs.YtanacapkfllbnaaGreatDoor

/-- The lengths of a row by its cuts. -/
def lensF (w : Nat → Nat) : Nat → Nat → Nat → Nat → List Int
  | 0, _, _, d => [(d : Int)]
  | f + 1, i, j, d => if i < j then lensF w f i (K w i j - 1) (d + 1) ++ lensF w f (K w i j) j (d + 1) else [(d : Int)]
def lens (w : Nat → Nat) (i j d : Nat) : List Int := lensF w (j - i) i j d
theorem lensF_fuel (w : Nat → Nat) : ∀ (f g i j d : Nat), j - i ≤ f → j - i ≤ g → lensF w f i j d = lensF w g i j d := by
  intro f
  induction f with
  | zero =>
    intro g i j d h _
    cases g with
    | zero => rfl
    | succ g => show _ = if i < j then _ else _; rw [if_neg (by omega)]; rfl
  | succ f ih =>
    intro g i j d h hg
    show (if i < j then _ else _) = _
    by_cases hij : i < j
    · have hb := K_bound w hij
      rw [if_pos hij]
      cases g with
      | zero => omega
      | succ g =>
        show _ = if i < j then _ else _
        rw [if_pos hij, ih g _ _ _ (by omega) (by omega), ih g (K w i j) _ _ (by omega) (by omega)]
    · rw [if_neg hij]
      cases g with
      | zero => rfl
      | succ g => show _ = if i < j then _ else _; rw [if_neg hij]
theorem lens_self (w : Nat → Nat) (i d : Nat) : lens w i i d = [(d : Int)] := by unfold lens; rw [Nat.sub_self]; rfl
theorem lens_cut (w : Nat → Nat) {i j : Nat} (d : Nat) (h : i < j) : lens w i j d = lens w i (K w i j - 1) (d + 1) ++ lens w (K w i j) j (d + 1) := by
  have hb := K_bound w h
  unfold lens
  rw [lensF_fuel w (j - i) (j - i - 1 + 1) i j d (by omega) (by omega)]
  show (if i < j then _ else _) = _
  rw [if_pos h, lensF_fuel w _ (K w i j - 1 - i) _ _ _ (by omega) (by omega), lensF_fuel w _ (j - K w i j) (K w i j) _ _ (by omega) (by omega)]
theorem lens_len (w : Nat → Nat) : ∀ (n i j d : Nat), j - i = n → i ≤ j → (lens w i j d).length = j - i + 1 := by
  intro n
  induction n using Nat.strongRecOn with
  | ind n ih =>
    intro i j d hn hij
    rcases Nat.eq_or_lt_of_le hij with e | e
    · subst e; rw [lens_self]; simp
    · have b := K_bound w e
      rw [lens_cut w d e, List.length_append, ih (K w i j - 1 - i) (by omega) _ _ _ rfl (by omega), ih (j - K w i j) (by omega) _ _ _ rfl (by omega)]
      omega
/-- The depths of a tree's leaves, from the left. -/
inductive Dl : Int → List Int → Prop where
  | leaf (d : Int) : Dl d [d]
  | node {d : Int} {a b : List Int} : Dl (d + 1) a → Dl (d + 1) b → Dl d (a ++ b)
theorem lens_dl (w : Nat → Nat) : ∀ (n i j d : Nat), j - i = n → i ≤ j → Dl (d : Int) (lens w i j d) := by
  intro n
  induction n using Nat.strongRecOn with
  | ind n ih =>
    intro i j d hn hij
    rcases Nat.eq_or_lt_of_le hij with e | e
    · subst e; rw [lens_self]; exact .leaf _
    · have b := K_bound w e
      rw [lens_cut w d e]
      exact .node (ih (K w i j - 1 - i) (by omega) i (K w i j - 1) (d + 1) rfl (by omega)) (ih (j - K w i j) (by omega) (K w i j) j (d + 1) rfl (by omega))
theorem Dl.pos {d : Int} {l : List Int} (h : Dl d l) : 0 < l.length := by
  induction h with
  | leaf d => simp
  | node _ _ h1 h2 => rw [List.length_append]; omega
theorem Dl.bound {d : Int} {l : List Int} (h : Dl d l) : ∀ x ∈ l, d ≤ x ∧ x ≤ d + l.length - 1 ∧ (1 < l.length → d < x) := by
  induction h with
  | leaf d => intro x hx; simp at hx; subst hx; simp
  | node h1 h2 i1 i2 =>
    rename_i d a b
    have p1 := h1.pos
    have p2 := h2.pos
    intro x hx
    rw [List.length_append]
    rcases List.mem_append.1 hx with hx | hx
    · have := i1 x hx; omega
    · have := i2 x hx; omega
theorem Dl.one {d : Int} {l : List Int} (h : Dl d l) (hx : ∀ y ∈ l, y ≤ d) : l = [d] := by
  cases h with
  | leaf => rfl
  | node h1 h2 =>
    rename_i a b
    have p1 := h1.pos
    obtain ⟨y, a', rfl⟩ := List.exists_cons_of_ne_nil (List.ne_nil_of_length_pos p1)
    have := h1.bound y (by simp)
    have := hx y (by simp)
    omega

/-- THE PROGRAM'S WAY: trees done so far, the last one first. -/
def ins : List Int → Int → Option (List Int)
  | [], n => some [n]
  | t :: s, n => if t = n then ins s (n - 1) else if n < t then none else some (n :: t :: s)
def procT (m : Int) : List Int → List Int → Option (List Int)
  | s, [] => some s
  | s, n :: l => if 1 ≤ n ∧ n < m then (ins s n).bind fun s' => procT m s' l else none
theorem procT_cons (m n : Int) (s l : List Int) : procT m s (n :: l) = if 1 ≤ n ∧ n < m then (ins s n).bind fun s' => procT m s' l else none := by rw [procT]
/-- What the trees done so far hold. -/
def Segs : List Int → List Int → Prop
  | [], l => l = []
  | t :: s, l => ∃ a b, l = a ++ b ∧ Segs s a ∧ Dl t b
theorem ins_segs : ∀ {s : List Int} {n : Int} {a b : List Int} {r : List Int}, Segs s a → Dl n b → ins s n = some r → Segs r (a ++ b)
  | [], n, a, b, r, hs, hb, hr => by
    injection hr with hr
    subst hr
    exact ⟨[], b, by rw [hs], rfl, hb⟩
  | t :: s, n, a, b, r, hs, hb, hr => by
    unfold ins at hr
    obtain ⟨a1, a2, rfl, h1, h2⟩ := hs
    by_cases htn : t = n
    · rw [if_pos htn] at hr
      subst htn
      rw [List.append_assoc]
      refine ins_segs h1 ?_ hr
      exact .node (by rw [show t - 1 + 1 = t from by omega]; exact h2) (by rw [show t - 1 + 1 = t from by omega]; exact hb)
    · rw [if_neg htn] at hr
      by_cases hlt : n < t
      · rw [if_pos hlt] at hr; cases hr
      · rw [if_neg hlt] at hr
        injection hr with hr
        subst hr
        exact ⟨_, b, rfl, ⟨a1, a2, rfl, h1, h2⟩, hb⟩
theorem procT_segs {m : Int} : ∀ {l s a r : List Int}, Segs s a → procT m s l = some r → Segs r (a ++ l)
  | [], s, a, r, hs, hr => by injection hr with hr; subst hr; simpa using hs
  | n :: l, s, a, r, hs, hr => by
    unfold procT at hr
    by_cases hn : 1 ≤ n ∧ n < m
    · rw [if_pos hn] at hr
      cases hi : ins s n with
      | none => rw [hi] at hr; cases hr
      | some s' =>
        rw [hi] at hr
        have := procT_segs (ins_segs hs (.leaf n) hi) hr
        simpa using this
    · rw [if_neg hn] at hr; cases hr
/-- Rising from the first to the last done: each is deeper than those below it. -/
def Ris : List Int → Prop
  | t :: u :: s => u < t ∧ Ris (u :: s)
  | _ => True
theorem Ris.tl {t : Int} {s : List Int} (h : Ris (t :: s)) : Ris s := by
  cases s with
  | nil => trivial
  | cons u s => exact h.2
def Top (s : List Int) (n : Int) : Prop := ∀ t ∈ s.head?, t ≤ n
theorem ins_some : ∀ {s : List Int} {n : Int}, Ris s → Top s n → ∃ r, ins s n = some r ∧ Ris r
  | [], n, _, _ => ⟨_, rfl, trivial⟩
  | t :: s, n, hr, ht => by
    unfold ins
    have htn := ht t (by simp)
    by_cases he : t = n
    · rw [if_pos he]
      refine ins_some hr.tl ?_
      intro u hu
      cases s with
      | nil => simp at hu
      | cons v s =>
        simp at hu
        subst hu
        have := hr.1
        omega
    · rw [if_neg he, if_neg (by omega)]
      exact ⟨_, rfl, ⟨by omega, hr⟩⟩
theorem ins_plain {s : List Int} {n : Int} (ht : ∀ t ∈ s.head?, t < n) : ins s n = some (n :: s) := by
  cases s with
  | nil => rfl
  | cons t s =>
    have := ht t (by simp)
    unfold ins
    rw [if_neg (by omega), if_neg (by omega)]
theorem procT_app {m : Int} : ∀ {a b s : List Int}, procT m s (a ++ b) = (procT m s a).bind fun r => procT m r b
  | [], b, s => rfl
  | n :: a, b, s => by
    rw [List.cons_append, procT_cons, procT_cons]
    by_cases hn : 1 ≤ n ∧ n < m
    · rw [if_pos hn, if_pos hn]
      cases hi : ins s n with
      | none => rfl
      | some s' =>
        simp only [Option.bind_some]
        exact procT_app
    · rw [if_neg hn, if_neg hn]; rfl
theorem procT_dl {m : Int} {d : Int} {l : List Int} (h : Dl d l) : ∀ {s : List Int}, (∀ x ∈ l, 1 ≤ x ∧ x < m) → Top s d → Ris s → procT m s l = ins s d := by
  induction h with
  | leaf d =>
    intro s hx ht hr
    unfold procT
    rw [if_pos (hx d (by simp))]
    obtain ⟨r, h, _⟩ := ins_some hr ht
    rw [h]; rfl
  | node h1 h2 i1 i2 =>
    rename_i d a b
    intro s hx ht hr
    rw [procT_app, i1 (fun x h => hx x (by simp [h])) (fun t h => by have := ht t h; omega) hr, ins_plain (fun t h => by have := ht t h; omega)]
    show procT m _ b = _
    have hr2 : Ris ((d + 1) :: s) := by
      cases s with
      | nil => trivial
      | cons t s => exact ⟨by have := ht t (by simp); omega, hr⟩
    rw [i2 (fun x h => hx x (by simp [h])) (fun t h => by simp at h; omega) hr2]
    show (if d + 1 = d + 1 then ins s (d + 1 - 1) else _) = _
    rw [if_pos rfl, show d + 1 - 1 = d from by omega]
/-- THE PROGRAM'S WAY TELLS TREES. -/
theorem procT_iff {l : List Int} (h2 : 2 ≤ l.length) : procT (l.length : Int) [] l = some [0] ↔ Dl 0 l := by
  constructor
  · intro h
    obtain ⟨a, b, e, h1, h2⟩ := procT_segs (s := []) (a := []) rfl h
    rw [h1] at e
    simp at e
    rw [e]; exact h2
  · intro h
    rw [procT_dl h (s := []) (fun x hx => by have := h.bound x hx; omega) (fun t h => by simp at h) trivial]
    rfl

/-- THE DOCUMENT'S WAY: the first of the deepest. -/
theorem Dl.split {e d : Int} {l : List Int} (h : Dl e l) : ∀ {l1 l2 : List Int}, l = l1 ++ d :: l2 → Dl e (l1 ++ (d + 1) :: (d + 1) :: l2) := by
  induction h with
  | leaf e =>
    intro l1 l2 hl
    cases l1 with
    | nil =>
      simp at hl
      obtain ⟨rfl, rfl⟩ := hl
      exact .node (a := [e + 1]) (b := [e + 1]) (.leaf _) (.leaf _)
    | cons x l1 => simp at hl
  | node h1 h2 i1 i2 =>
    rename_i e a b
    intro l1 l2 hl
    rcases List.append_eq_append_iff.1 hl with ⟨m, e1, e2⟩ | ⟨m, e1, e2⟩
    · rw [e1, List.append_assoc]
      exact .node h1 (i2 e2)
    · cases m with
      | nil =>
        simp at e1 e2
        subst e1
        exact .node h1 (i2 (l1 := []) e2.symm)
      | cons x m =>
        simp at e2
        obtain ⟨rfl, rfl⟩ := e2
        have := Dl.node (i1 e1) h2
        simpa using this
theorem Dl.merge {e d : Int} {l : List Int} (h : Dl e l) : ∀ {l1 l2 : List Int}, l = l1 ++ d :: l2 → 2 ≤ l.length → (∀ x ∈ l1, x < d) → (∀ x ∈ l2, x ≤ d) → ∃ l3, l2 = d :: l3 ∧ Dl e (l1 ++ (d - 1) :: l3) := by
  induction h with
  | leaf e => intro l1 l2 hl h2; simp at h2
  | node h1 h2 i1 i2 =>
    rename_i e a b
    intro l1 l2 hl hlen hx hy
    rcases List.append_eq_append_iff.1 hl with ⟨m, e1, e2⟩ | ⟨m, e1, e2⟩
    · -- in b
      have hb : 2 ≤ b.length := by
        rcases Nat.lt_or_ge b.length 2 with hb | hb
        · obtain ⟨x, rfl⟩ : ∃ x, b = [x] := List.length_eq_one_iff.1 (by have := h2.pos; omega)
          have hm : m = [] := by cases m with
            | nil => rfl
            | cons y m => simp at e2
          subst hm
          simp at e1 e2
          obtain ⟨rfl, rfl⟩ := e2
          subst e1
          obtain ⟨y, l1', rfl⟩ := List.exists_cons_of_ne_nil (List.ne_nil_of_length_pos h1.pos)
          have q1 := hx y (by simp)
          have q2 := h1.bound y (by simp)
          have q3 : Dl (e + 1) [x] := h2
          have q4 := q3.bound x (by simp)
          simp at q4
          omega
        · exact hb
      obtain ⟨l3, r1, r2⟩ := i2 e2 hb (fun x hx' => hx x (by rw [e1]; simp [hx'])) hy
      exact ⟨l3, r1, by rw [e1, List.append_assoc]; exact .node h1 r2⟩
    · cases m with
      | nil =>
        simp at e1 e2
        subst e1
        have hb : 2 ≤ b.length := by
          rcases Nat.lt_or_ge b.length 2 with hb | hb
          · obtain ⟨x, rfl⟩ : ∃ x, b = [x] := List.length_eq_one_iff.1 (by have := h2.pos; omega)
            simp at e2
            obtain ⟨rfl, rfl⟩ := e2
            obtain ⟨y, l1', rfl⟩ := List.exists_cons_of_ne_nil (List.ne_nil_of_length_pos h1.pos)
            have q1 := hx y (by simp)
            have q2 := h1.bound y (by simp)
            have q4 := h2.bound d (by simp)
            simp at q4
            omega
          · exact hb
        obtain ⟨l3, r1, r2⟩ := i2 (l1 := []) e2.symm hb (fun x h => by simp at h) hy
        exact ⟨l3, r1, .node h1 r2⟩
      | cons x m =>
        simp at e2
        obtain ⟨rfl, rfl⟩ := e2
        rcases Nat.lt_or_ge a.length 2 with ha | ha
        · obtain ⟨x, rfl⟩ : ∃ x, a = [x] := List.length_eq_one_iff.1 (by have := h1.pos; omega)
          have hl1 : l1 = [] := by cases l1 with
            | nil => rfl
            | cons y l1 => simp at e1
          subst hl1
          simp at e1
          obtain ⟨rfl, rfl⟩ := e1
          have q := h1.bound x (by simp)
          simp at q
          have hxe : x = e + 1 := by omega
          subst hxe
          have hbb := h2.one (fun y h => hy y (by simp [h]))
          subst hbb
          exact ⟨[], rfl, by rw [show e + 1 - 1 = e from by omega]; exact .leaf _⟩
        · obtain ⟨l3, r1, r2⟩ := i1 e1 ha hx (fun x h => hy x (by simp [h]))
          exact ⟨l3 ++ b, by rw [r1]; rfl, by have := Dl.node r2 h2; simpa using this⟩
end Go.Proofs.YtanacapkfllbnaaGreatDoor
namespace Go.Proofs.YtanacapkfllbnaaGreatDoor

/-- A tree of words: nothing, a sign, two trees. -/
inductive CT where
  | nil
  | leaf (s : Nat)
  | node (a b : CT)
/-- Its signs and words, from the left, behind some bits. -/
def CT.al : CT → List Bool → List (Nat × List Bool)
  | .nil, _ => []
  | .leaf s, p => [(s, p)]
  | .node a b, p => a.al (p ++ [false]) ++ b.al (p ++ [true])
def CT.Full : CT → Prop
  | .nil => False
  | .leaf _ => True
  | .node a b => a.Full ∧ b.Full
/-- To what bits lead. -/
def CT.sub : CT → List Bool → CT
  | t, [] => t
  | .node a _, false :: l => a.sub l
  | .node _ b, true :: l => b.sub l
  | .nil, _ :: _ => .nil
  | .leaf _, _ :: _ => .nil
theorem CT.sub_nil (t : CT) : t.sub [] = t := by cases t <;> rfl
theorem CT.sub_none (l : List Bool) : CT.nil.sub l = .nil := by
  rcases l with _ | ⟨b, l⟩
  · rfl
  · cases b <;> rfl
theorem CT.sub_leaf (s : Nat) (b : Bool) (l : List Bool) : (CT.leaf s).sub (b :: l) = .nil := by cases b <;> rfl
theorem CT.sub_app : ∀ (t : CT) (l m : List Bool), t.sub (l ++ m) = (t.sub l).sub m
  | t, [], m => by rw [CT.sub_nil, List.nil_append]
  | .nil, b :: l, m => by rw [CT.sub_none, CT.sub_none, CT.sub_none]
  | .leaf _, b :: l, m => by rw [List.cons_append, CT.sub_leaf, CT.sub_leaf, CT.sub_none]
  | .node x y, false :: l, m => by rw [List.cons_append]; simp only [CT.sub]; exact CT.sub_app x l m
  | .node x y, true :: l, m => by rw [List.cons_append]; simp only [CT.sub]; exact CT.sub_app y l m
theorem ct_of_dl {d : Int} {ls : List Int} (h : Dl d ls) : ∀ sg : List Nat, sg.length = ls.length → ∃ T : CT, T.Full ∧ (∀ p : List Bool, (p.length : Int) = d → (T.al p).map Prod.fst = sg ∧ (T.al p).map (fun x => (x.2.length : Int)) = ls) ∧ (ls.length = 1 → ∃ s, T = .leaf s) ∧ (2 ≤ ls.length → ∃ a b, T = .node a b ∧ a.Full ∧ b.Full) := by
  induction h with
  | leaf d =>
    intro sg hs
    match sg, hs with
    | [s], _ => exact ⟨.leaf s, trivial, fun p hp => by simp [CT.al, hp], fun _ => ⟨s, rfl⟩, fun h => by simp at h⟩
  | node ha hb iha ihb =>
    rename_i d a b
    intro sg hs
    rw [List.length_append] at hs
    obtain ⟨Ta, fa, pa, _⟩ := iha (sg.take a.length) (by rw [List.length_take]; omega)
    obtain ⟨Tb, fb, pb, _⟩ := ihb (sg.drop a.length) (by rw [List.length_drop]; omega)
    have hpa := ha.pos
    have hpb := hb.pos
    refine ⟨.node Ta Tb, ⟨fa, fb⟩, fun p hp => ?_, fun h => by rw [List.length_append] at h; omega, fun _ => ⟨Ta, Tb, rfl, fa, fb⟩⟩
    have h1 := pa (p ++ [false]) (by simp; omega)
    have h2 := pb (p ++ [true]) (by simp; omega)
    simp only [CT.al, List.map_append, h1.1, h1.2, h2.1, h2.2, List.take_append_drop, and_self]
theorem al_first : ∀ {T : CT}, T.Full → ∀ p, ∃ s k tl, T.al p = (s, p ++ List.replicate k false) :: tl
  | .leaf s, _, p => ⟨s, 0, [], by simp [CT.al]⟩
  | .node a b, h, p => by
    obtain ⟨s, k, tl, e⟩ := al_first h.1 (p ++ [false])
    exact ⟨s, k + 1, tl ++ b.al (p ++ [true]), by rw [CT.al, e]; simp [List.replicate_succ]⟩
  | .nil, h, _ => h.elim
theorem mem_al : ∀ {T : CT} {p : List Bool} {s : Nat} {w : List Bool}, (s, w) ∈ T.al p ↔ ∃ l, w = p ++ l ∧ T.sub l = .leaf s
  | .nil, p, s, w => by
    simp only [CT.al, List.not_mem_nil, false_iff]
    rintro ⟨l, _, h⟩
    rw [CT.sub_none] at h
    cases h
  | .leaf t, p, s, w => by
    simp only [CT.al, List.mem_singleton, Prod.mk.injEq]
    constructor
    · rintro ⟨rfl, rfl⟩
      exact ⟨[], by simp, rfl⟩
    · rintro ⟨l, rfl, h⟩
      match l, h with
      | [], h => injection h with h; exact ⟨h.symm, by simp⟩
      | _ :: _, h => rw [CT.sub_leaf] at h; cases h
  | .node a b, p, s, w => by
    simp only [CT.al, List.mem_append, mem_al (T := a), mem_al (T := b)]
    constructor
    · rintro (⟨l, rfl, h⟩ | ⟨l, rfl, h⟩)
      · exact ⟨false :: l, by simp, h⟩
      · exact ⟨true :: l, by simp, h⟩
    · rintro ⟨l, rfl, h⟩
      match l, h with
      | false :: l, h => exact .inl ⟨l, by simp, h⟩
      | true :: l, h => exact .inr ⟨l, by simp, h⟩
/-- The tree of a code: its signs and lengths. -/
def CodeT (T : CT) (sg : List Nat) (ls : List Int) : Prop :=
  (T.al []).map Prod.fst = sg ∧ (T.al []).map (fun x => (x.2.length : Int)) = ls ∧ sg.Pairwise (· < ·) ∧ (∀ s ∈ sg, s ≤ 256) ∧ 1 ≤ sg.length ∧
    ((∃ a b, T = .node a b ∧ a.Full ∧ b.Full ∧ 2 ≤ sg.length) ∨ ∃ s, T = .node (.leaf s) .nil ∧ sg = [s])
theorem codeT_more {sg : List Nat} {ls : List Int} (h : Dl 0 ls) (h2 : 2 ≤ ls.length) (hl : sg.length = ls.length) (hs : sg.Pairwise (· < ·)) (hb : ∀ s ∈ sg, s ≤ 256) : ∃ T, CodeT T sg ls := by
  obtain ⟨T, hf, hp, _, hn⟩ := ct_of_dl h sg hl
  obtain ⟨a, b, rfl, ha, hb'⟩ := hn h2
  exact ⟨_, (hp [] rfl).1, (hp [] rfl).2, hs, hb, by omega, .inl ⟨a, b, rfl, ha, hb', by omega⟩⟩
theorem codeT_one (s : Nat) (hs : s ≤ 256) : CodeT (.node (.leaf s) .nil) [s] [1] :=
  ⟨rfl, rfl, by simp, by simpa using hs, by simp, .inr ⟨s, rfl, rfl⟩⟩
/-- A sign's word. -/
def CT.word (T : CT) (s : Nat) : Option (List Bool) := ((T.al []).find? fun x => x.1 == s).map Prod.snd
theorem fst_unique {l : List (Nat × List Bool)} (h : (l.map Prod.fst).Pairwise (· < ·)) {s : Nat} {u v : List Bool} (h1 : (s, u) ∈ l) (h2 : (s, v) ∈ l) : u = v := by
  induction l with
  | nil => simp at h1
  | cons x l ih =>
    rw [List.map_cons, List.pairwise_cons] at h
    rcases List.mem_cons.1 h1 with e1 | e1 <;> rcases List.mem_cons.1 h2 with e2 | e2
    · rw [← e1] at e2; injection e2 with _ e2; exact e2.symm
    · have := h.1 s (List.mem_map.2 ⟨_, e2, rfl⟩); rw [← e1] at this; simp at this
    · have := h.1 s (List.mem_map.2 ⟨_, e1, rfl⟩); rw [← e2] at this; simp at this
    · exact ih h.2 e1 e2
theorem word_iff {T : CT} {sg : List Nat} {ls : List Int} (h : CodeT T sg ls) {s : Nat} {w : List Bool} : T.word s = some w ↔ (s, w) ∈ T.al [] := by
  unfold CT.word
  constructor
  · intro e
    obtain ⟨x, hx, rfl⟩ := Option.map_eq_some_iff.1 e
    have h1 := List.find?_some hx
    have h2 := List.mem_of_find?_eq_some hx
    have h3 : x.1 = s := by simpa using h1
    rw [← h3]; exact h2
  · intro e
    cases hf : (T.al []).find? fun x => x.1 == s with
    | none => have := List.find?_eq_none.1 hf _ e; simp at this
    | some x =>
      have h1 := List.find?_some hf
      have h2 := List.mem_of_find?_eq_some hf
      have h3 : x.1 = s := by simpa using h1
      obtain ⟨x1, x2⟩ := x
      simp only at h3
      subst h3
      rw [Option.map_some, fst_unique (by rw [h.1]; exact h.2.2.1) h2 e]
theorem word_sub {T : CT} {sg : List Nat} {ls : List Int} (h : CodeT T sg ls) {s : Nat} {w : List Bool} : T.word s = some w ↔ T.sub w = .leaf s := by
  rw [word_iff h, mem_al]
  constructor
  · rintro ⟨l, rfl, e⟩; simpa using e
  · intro e; exact ⟨w, by simp, e⟩
theorem word_at {T : CT} {sg : List Nat} {ls : List Int} (h : CodeT T sg ls) {i s : Nat} (hs : sg[i]? = some s) : ∃ w, T.word s = some w ∧ (T.al [])[i]? = some (s, w) ∧ ls[i]? = some (w.length : Int) := by
  rw [← h.1, List.getElem?_map] at hs
  obtain ⟨x, hx, rfl⟩ := Option.map_eq_some_iff.1 hs
  refine ⟨x.2, (word_iff h).2 (List.mem_of_getElem? hx), hx, ?_⟩
  rw [← h.2.1, List.getElem?_map, hx]
  rfl
theorem CodeT.node {T : CT} {sg : List Nat} {ls : List Int} (h : CodeT T sg ls) : ∃ a b, T = .node a b := by
  rcases h.2.2.2.2.2 with ⟨a, b, e, _⟩ | ⟨s, e, _⟩
  · exact ⟨a, b, e⟩
  · exact ⟨_, _, e⟩
theorem word_ne {T : CT} {sg : List Nat} {ls : List Int} (h : CodeT T sg ls) {s : Nat} {w : List Bool} (hw : T.word s = some w) : w ≠ [] := by
  rintro rfl
  have := (word_sub h).1 hw
  obtain ⟨a, b, rfl⟩ := h.node
  rw [CT.sub_nil] at this
  cases this
theorem word_mem {T : CT} {sg : List Nat} {ls : List Int} (h : CodeT T sg ls) {s : Nat} {w : List Bool} (hw : T.word s = some w) : s ∈ sg := by
  rw [← h.1]
  exact List.mem_map.2 ⟨_, (word_iff h).1 hw, rfl⟩
/-- The kid that one bit leads to. -/
def CT.kid (t : CT) (b : Bool) : CT := t.sub [b]
theorem CT.kid_sub (t : CT) (b : Bool) (l : List Bool) : t.sub (b :: l) = (t.kid b).sub l := by
  rw [CT.kid, ← CT.sub_app]; rfl
/-- Going through bits from a tree on: what is got, the error, how many bits were taken, whether they did not last. -/
def getC (T : CT) : CT → List Nat → List Bool → List Nat × Int × Nat × Bool
  | _, _, [] => ([], 4, 0, true)
  | cur, out, b :: l => match cur.kid b with
    | .nil => ([], 13, 1, false)
    | .leaf 0 => (out, 0, 1, false)
    | .leaf (s + 1) => let r := getC T T (out ++ [s]) l; (r.1, r.2.1, r.2.2.1 + 1, r.2.2.2)
    | .node x y => let r := getC T (.node x y) out l; (r.1, r.2.1, r.2.2.1 + 1, r.2.2.2)
theorem getC_nil (T cur : CT) (out : List Nat) : getC T cur out [] = ([], 4, 0, true) := by rw [getC]
theorem getC_none {T cur : CT} {out : List Nat} {b : Bool} {l : List Bool} (h : cur.kid b = .nil) : getC T cur out (b :: l) = ([], 13, 1, false) := by rw [getC, h]
theorem getC_end {T cur : CT} {out : List Nat} {b : Bool} {l : List Bool} (h : cur.kid b = .leaf 0) : getC T cur out (b :: l) = (out, 0, 1, false) := by rw [getC, h]
theorem getC_leaf {T cur : CT} {out : List Nat} {b : Bool} {l : List Bool} {s : Nat} (h : cur.kid b = .leaf (s + 1)) : getC T cur out (b :: l) = ((getC T T (out ++ [s]) l).1, (getC T T (out ++ [s]) l).2.1, (getC T T (out ++ [s]) l).2.2.1 + 1, (getC T T (out ++ [s]) l).2.2.2) := by rw [getC, h]
theorem getC_node {T cur x y : CT} {out : List Nat} {b : Bool} {l : List Bool} (h : cur.kid b = .node x y) : getC T cur out (b :: l) = ((getC T (.node x y) out l).1, (getC T (.node x y) out l).2.1, (getC T (.node x y) out l).2.2.1 + 1, (getC T (.node x y) out l).2.2.2) := by rw [getC, h]
/-- A whole word is gone through. -/
theorem getC_word (T : CT) : ∀ (w : List Bool) (cur : CT) (out : List Nat) (s : Nat) (rest : List Bool), w ≠ [] → cur.sub w = .leaf s →
    getC T cur out (w ++ rest) = match s with | 0 => (out, 0, w.length, false) | s + 1 => ((getC T T (out ++ [s]) rest).1, (getC T T (out ++ [s]) rest).2.1, (getC T T (out ++ [s]) rest).2.2.1 + w.length, (getC T T (out ++ [s]) rest).2.2.2)
  | [], _, _, _, _, h, _ => (h rfl).elim
  | b :: w, cur, out, s, rest, _, h => by
    rw [CT.kid_sub] at h
    rw [List.cons_append]
    by_cases hw : w = []
    · subst hw
      rw [CT.sub_nil] at h
      cases s with
      | zero => rw [getC_end h]; rfl
      | succ s => rw [getC_leaf h]; simp
    · cases hk : cur.kid b with
      | nil => rw [hk, CT.sub_none] at h; cases h
      | leaf t =>
        rw [hk] at h
        match w, hw, h with
        | _ :: _, _, h => rw [CT.sub_leaf] at h; cases h
      | node x y =>
        rw [getC_node hk, getC_word T w _ out s rest hw (by rw [← hk]; exact h)]
        cases s with
        | zero => simp
        | succ s => simp [Nat.add_assoc]
/-- The words of signs, one behind the other. -/
def CT.enc (T : CT) : List Nat → Option (List Bool)
  | [] => some []
  | s :: l => (T.word s).bind fun w => (T.enc l).map (w ++ ·)
theorem enc_cons {T : CT} {s : Nat} {l : List Nat} {r : List Bool} (h : T.enc (s :: l) = some r) : ∃ w v, T.word s = some w ∧ T.enc l = some v ∧ r = w ++ v := by
  rw [CT.enc] at h
  obtain ⟨w, hw, h⟩ := Option.bind_eq_some_iff.1 h
  obtain ⟨v, hv, h⟩ := Option.map_eq_some_iff.1 h
  exact ⟨w, v, hw, hv, h.symm⟩
theorem enc_mk {T : CT} {s : Nat} {l : List Nat} {w v : List Bool} (hw : T.word s = some w) (hv : T.enc l = some v) : T.enc (s :: l) = some (w ++ v) := by
  rw [CT.enc, hw, hv]; rfl
theorem enc_app (T : CT) : ∀ (a b : List Nat), T.enc (a ++ b) = (T.enc a).bind fun u => (T.enc b).map (u ++ ·)
  | [], b => by rw [List.nil_append, CT.enc]; simp
  | s :: a, b => by
    rw [List.cons_append, CT.enc, CT.enc, enc_app T a b]
    cases T.word s with
    | none => rfl
    | some w =>
      cases T.enc a with
      | none => rfl
      | some u =>
        cases T.enc b with
        | none => rfl
        | some v => simp
theorem enc_some {T : CT} : ∀ {l : List Nat}, (∀ s ∈ l, ∃ w, T.word s = some w) → ∃ r, T.enc l = some r
  | [], _ => ⟨[], rfl⟩
  | s :: l, h => by
    obtain ⟨w, hw⟩ := h s (by simp)
    obtain ⟨v, hv⟩ := enc_some (l := l) (fun t ht => h t (List.mem_cons_of_mem _ ht))
    exact ⟨_, enc_mk hw hv⟩
theorem enc_none {T : CT} : ∀ {l : List Nat} {s : Nat}, s ∈ l → T.word s = none → T.enc l = none
  | t :: l, s, hs, h => by
    rw [CT.enc]
    rcases List.mem_cons.1 hs with e | e
    · rw [← e, h]; rfl
    · rw [enc_none e h]
      cases T.word t <;> rfl
/-- The signs of a text: its bytes', and the end. -/
def sgs (b : List Nat) : List Nat := b.map (· + 1) ++ [0]
theorem getC_enc {T : CT} {sg : List Nat} {ls : List Int} (h : CodeT T sg ls) : ∀ (b : List Nat) (out : List Nat) (r rest : List Bool), T.enc (sgs b) = some r → getC T T out (r ++ rest) = (out ++ b, 0, r.length, false)
  | [], out, r, rest, hr => by
    obtain ⟨w, v, hw, hv, rfl⟩ := enc_cons (show T.enc (0 :: []) = some r from hr)
    have hv : some [] = some v := hv
    injection hv with hv
    subst hv
    rw [List.append_assoc, getC_word T w T out 0 _ (word_ne h hw) ((word_sub h).1 hw)]
    simp
  | x :: b, out, r, rest, hr => by
    obtain ⟨w, v, hw, hv, rfl⟩ := enc_cons (show T.enc ((x + 1) :: sgs b) = some r from hr)
    rw [List.append_assoc, getC_word T w T out (x + 1) _ (word_ne h hw) ((word_sub h).1 hw)]
    simp only
    rw [getC_enc h b _ v rest hv]
    simp [Nat.add_comm]
theorem al_len {T : CT} (h : T.Full) : ∀ (p : List Bool), ∀ x ∈ T.al p, x.2.length + 1 ≤ p.length + (T.al p).length := by
  induction T with
  | nil => exact h.elim
  | leaf s => intro p x hx; simp [CT.al] at hx; subst hx; simp [CT.al]
  | node a b iha ihb =>
    intro p x hx
    have la : 1 ≤ (a.al (p ++ [false])).length := by obtain ⟨_, _, _, e⟩ := al_first h.1 (p ++ [false]); rw [e]; simp
    have lb : 1 ≤ (b.al (p ++ [true])).length := by obtain ⟨_, _, _, e⟩ := al_first h.2 (p ++ [true]); rw [e]; simp
    rw [CT.al, List.length_append]
    rw [CT.al] at hx
    rcases List.mem_append.1 hx with hx | hx
    · have := iha h.1 _ x hx
      rw [List.length_append] at this
      simp at this
      omega
    · have := ihb h.2 _ x hx
      rw [List.length_append] at this
      simp at this
      omega
theorem sorted_ge : ∀ {l : List Nat} {b : Nat}, l.Pairwise (· < ·) → (∀ s ∈ l, b ≤ s) → ∀ {m : Nat}, (∀ s ∈ l, s ≤ m) → l ≠ [] → b + l.length ≤ m + 1
  | [], _, _, _, _, _, h => (h rfl).elim
  | x :: l, b, hp, hb, m, hm, _ => by
    rw [List.pairwise_cons] at hp
    by_cases hl : l = []
    · subst hl
      have := hb x (by simp)
      have := hm x (by simp)
      simp
      omega
    · have := sorted_ge (b := b + 1) hp.2 (fun s hs => by have := hp.1 s hs; have := hb x (by simp); omega) (m := m) (fun s hs => hm s (List.mem_cons_of_mem _ hs)) hl
      simp
      omega
theorem codeT_len {T : CT} {sg : List Nat} {ls : List Int} (h : CodeT T sg ls) : sg.length ≤ 257 := by
  have := sorted_ge (b := 0) h.2.2.1 (fun _ _ => Nat.zero_le _) h.2.2.2.1 (fun e => by have := h.2.2.2.2.1; rw [e] at this; simp at this)
  omega
theorem word_len {T : CT} {sg : List Nat} {ls : List Int} (h : CodeT T sg ls) {s : Nat} {w : List Bool} (hw : T.word s = some w) : w.length ≤ 256 := by
  have hm := (word_iff h).1 hw
  have hl := codeT_len h
  have hn : (T.al []).length = sg.length := by rw [← h.1, List.length_map]
  rcases h.2.2.2.2.2 with ⟨a, b, e, ha, hb, _⟩ | ⟨t, e, _⟩
  · have := al_len (T := T) (by rw [e]; exact ⟨ha, hb⟩) [] _ hm
    simp at this
    omega
  · rw [e] at hm
    simp [CT.al] at hm
    rw [hm.2]
    simp
/-- A text's bytes. -/
def txt (s : ByteArray) : List Nat := s.data.toList.map UInt8.toNat
theorem txt_len (s : ByteArray) : (txt s).length = s.size := by unfold txt; rw [List.length_map]; rfl
theorem txt_get (s : ByteArray) (k : Nat) (h : k < s.size) : (txt s)[k]? = some s[k].toNat := by
  unfold txt
  rw [List.getElem?_map, List.getElem?_eq_getElem (by simpa using h)]
  rfl
theorem txt_lt (s : ByteArray) : ∀ x ∈ txt s, x < 256 := by
  intro x hx
  obtain ⟨y, _, rfl⟩ := List.mem_map.1 hx
  exact y.toNat_lt
theorem enc_snoc {T : CT} {l : List Nat} {s : Nat} {r w : List Bool} (h : T.enc l = some r) (hw : T.word s = some w) : T.enc (l ++ [s]) = some (r ++ w) := by
  rw [enc_app, h, enc_mk hw (show T.enc [] = some [] from rfl)]
  simp
theorem take_snoc_ {α : Type} {l : List α} {k : Nat} {x : α} (h : l[k]? = some x) : l.take (k + 1) = l.take k ++ [x] := by
  rw [List.take_add_one, h]; rfl
theorem enc_bound {T : CT} {sg : List Nat} {ls : List Int} (h : CodeT T sg ls) : ∀ {l : List Nat} {r : List Bool}, T.enc l = some r → r.length ≤ 256 * l.length
  | [], r, hr => by
    have hr : some [] = some r := hr
    injection hr with hr
    subst hr
    simp
  | s :: l, r, hr => by
    obtain ⟨w, v, hw, hv, rfl⟩ := enc_cons hr
    have h1 := word_len h hw
    have h2 := enc_bound h hv
    rw [List.length_append, List.length_cons]
    omega
end Go.Proofs.YtanacapkfllbnaaGreatDoor
namespace Go.Proofs.YtanacapkfllbnaaGreatDoor
open Go.RowKit

/-- Words in memory. -/
def wordsV (ws : List Nat) : List Value := ws.map fun x => .int .u64 ((x : Nat) : Int)
theorem wordsV_get {ws : List Nat} {i x : Nat} (h : ws[i]? = some x) : (wordsV ws)[i]? = some (.int .u64 (x : Int)) := by simp [wordsV, h]

theorem u64_wrap_nat (a : Nat) : IntKind.u64.wrap (a : Int) = ((a % 2 ^ 64 : Nat) : Int) := by
  have : IntKind.u64.wrap (a : Int) = (a : Int) % 18446744073709551616 := by simp [IntKind.wrap, IntKind.signed, IntKind.bits]
  rw [this]
  omega
theorem wordsV_set (ws : List Nat) (q Z : Nat) : (wordsV ws).set q (.int .u64 (Z : Int)) = wordsV (ws.set q Z) := by unfold wordsV; rw [List.map_set]
theorem set_lt {ws : List Nat} {q Z b : Nat} (h : ∀ x ∈ ws, x < b) (hZ : Z < b) : ∀ x ∈ ws.set q Z, x < b := fun x hx => by
  rcases List.mem_or_eq_of_mem_set hx with h1 | h1
  · exact h x h1
  · rw [h1]; exact hZ
theorem u64_wrap_small {a : Nat} (h : a < 2 ^ 64) : IntKind.u64.wrap (a : Int) = (a : Int) := by
  rw [u64_wrap_nat, Nat.mod_eq_of_lt h]
end Go.Proofs.YtanacapkfllbnaaGreatDoor
