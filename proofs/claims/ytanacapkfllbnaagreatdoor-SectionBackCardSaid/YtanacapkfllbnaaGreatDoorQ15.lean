/-
  THE CONTRACTS OF LAYER 5's REFERENCE, third part: ossuaryref05.Fits.
  THE CONTRACTS OF LAYER 5, eighth part: Cost, the program's and the reference's.
  PLAIN MATHEMATICS OF LAYER 5, third part: no tree costs less than the best one; turned round, the best costs as much; lengths that fit fill a row of all ways.
  PLAIN MATHEMATICS OF LAYER 6, second part: rows of bits stand as texts do; how many bits texts have by a code.
  PLAIN MATHEMATICS OF LAYER 6, third part: which signs and lengths make a code; its words, one by one.
  CONDITIONS: as each lemma says.
-/
import Derived.Test.YtanacapkfllbnaaGreatDoorQ14
import Derived.Test.YtanacapkfllbnaaGreatDoorQ00
import Derived.Deep.RegionLaw
namespace Go.Proofs.YtanacapkfllbnaaGreatDoor
open Go.RowKit

theorem drop_of {α : Type} {v : List α} {b : Nat} {d : α} (h : v[b]? = some d) : v.drop b = d :: v.drop (b + 1) := by
  obtain ⟨hb, rfl⟩ := List.getElem?_eq_some_iff.1 h; exact List.drop_eq_getElem_cons hb
theorem split_at_ {α : Type} {v : List α} {b : Nat} {d : α} (h : v[b]? = some d) : v = v.take b ++ d :: v.drop (b + 1) := by
  rw [← drop_of h, List.take_append_drop]
/-- The first of the deepest. -/
def Deep (v : List Int) (b i : Nat) (d : Int) : Prop := v[b]? = some d ∧ (∀ q y, q < b → v[q]? = some y → y < d) ∧ ∀ q y, q < i → v[q]? = some y → y ≤ d
theorem Deep.back {v : List Int} {b : Nat} {d : Int} (hb : v[b]? = some d) (h1 : v[b + 1]? = some d) (hD : Dl 0 (v.take b ++ (d - 1) :: v.drop (b + 2))) : Dl 0 v := by
  have := hD.split rfl; rw [show d - 1 + 1 = d from by omega] at this; rw [split_at_ hb, drop_of h1]; exact this
theorem Deep.one {v : List Int} (h : 1 ≤ v.length) : ∃ d, Deep v 0 1 d := by
  obtain ⟨d, v', rfl⟩ := List.exists_cons_of_ne_nil (List.ne_nil_of_length_pos h)
  exact ⟨d, rfl, fun q y hq => by omega, fun q y hq hy => by
    obtain rfl : q = 0 := by omega
    simp at hy
    omega⟩
theorem Deep.more {v : List Int} {b i : Nat} {d y : Int} (h : Deep v b i d) (hi : v[i]? = some y) (hy : ¬ d < y) : Deep v b (i + 1) d :=
  ⟨h.1, h.2.1, fun q x hq hx => by
    by_cases e : q = i
    · subst e; rw [hi] at hx; injection hx with hx
      omega
    · exact h.2.2 q x (by omega) hx⟩
theorem Deep.new {v : List Int} {b i : Nat} {d y : Int} (h : Deep v b i d) (hi : v[i]? = some y) (hy : d < y) : Deep v i (i + 1) y :=
  ⟨hi, fun q x hq hx => by have := h.2.2 q x hq hx; omega, fun q x hq hx => by
    by_cases e : q = i
    · subst e; rw [hi] at hx; injection hx with hx
      omega
    · have := h.2.2 q x (by omega) hx; omega⟩

end Go.Proofs.YtanacapkfllbnaaGreatDoor
namespace Go.Proofs.YtanacapkfllbnaaGreatDoor
open Go.RowKit

end Go.Proofs.YtanacapkfllbnaaGreatDoor
namespace Go.Proofs.YtanacapkfllbnaaGreatDoor

/-- Weights times lengths, added. -/
def cl : List Int → List Int → Int
  | x :: l, y :: m => x * y + cl l m
  | _, _ => 0
theorem okF_lens {l : List Int} (h : okW l) : okF (lensL l) := by
  refine ⟨by rw [lensL_len h]; exact h.2.2, ?_⟩
  by_cases h1 : l.length = 1
  · exact .inl (lensL_one h h1)
  · have := h.2.1; refine .inr ⟨by rw [lensL_len h]; omega, ?_⟩; rw [lensL_more h h1]; exact lens_dl (wt l) _ _ _ _ rfl (by omega)
/-- All ways: two to the power of H minus each. -/
def ways (H : Int) : List Int → Nat
  | [] => 0
  | y :: l => 2 ^ (H - y).toNat + ways H l
end Go.Proofs.YtanacapkfllbnaaGreatDoor
namespace Go.Proofs.YtanacapkfllbnaaGreatDoor

/-- Signs, row against row: which stands ahead where they first part. -/
def lexN : List Nat → List Nat → Bool
  | _, [] => false
  | [], _ :: _ => true
  | a :: x, b :: y => decide (a < b) || (decide (a = b) && lexN x y)
theorem lexN_total : ∀ (a b : List Nat), lexN a b = true ∨ a = b ∨ lexN b a = true
  | [], [] => .inr (.inl rfl)
  | [], _ :: _ => .inl rfl
  | _ :: _, [] => .inr (.inr rfl)
  | x :: a, y :: b => by
    rcases Nat.lt_trichotomy x y with h | h | h
    · exact .inl (by simp [lexN, h])
    · subst h; rcases lexN_total a b with h | h | h
      · exact .inl (by simp [lexN, h])
      · exact .inr (.inl (by rw [h]))
      · exact .inr (.inr (by simp [lexN, h]))
    · exact .inr (.inr (by simp [lexN, h]))
theorem lexN_asymm : ∀ (a b : List Nat), lexN a b = true → lexN b a = false
  | _, [], h => by simp [lexN] at h
  | [], _ :: _, _ => rfl
  | x :: a, y :: b, h => by
    simp only [lexN, Bool.or_eq_true, decide_eq_true_eq, Bool.and_eq_true] at h
    rcases h with h | ⟨rfl, h⟩
    · simp [lexN, show ¬ y < x by omega, show ¬ y = x by omega]
    · simp [lexN, lexN_asymm a b h]
theorem lexN_irrefl (a : List Nat) : lexN a a = false := by
  induction a with
  | nil => rfl
  | cons x a ih => simp [lexN, ih]
theorem lexN_trans : ∀ {a b c : List Nat}, lexN a b = true → lexN b c = true → lexN a c = true
  | _, [], _, h, _ => by simp [lexN] at h
  | _, _ :: _, [], _, h => by simp [lexN] at h
  | [], _ :: _, _ :: _, _, _ => rfl
  | x :: a, y :: b, z :: c, h, k => by
    simp only [lexN, Bool.or_eq_true, decide_eq_true_eq, Bool.and_eq_true] at h k ⊢
    rcases h with h | ⟨rfl, h⟩ <;> rcases k with k | ⟨rfl, k⟩
    · exact .inl (by omega)
    · exact .inl h
    · exact .inl k
    · exact .inr ⟨rfl, lexN_trans h k⟩
end Go.Proofs.YtanacapkfllbnaaGreatDoor
namespace Go.Proofs.YtanacapkfllbnaaGreatDoor

/-- Signs that rise, each more than b, none more than 256. -/
def risI : Int → List Int → Prop
  | _, [] => True
  | b, x :: l => b < x ∧ x < 257 ∧ risI x l
theorem risI_snoc : ∀ {l : List Int} {b x : Int}, risI b (l ++ [x]) ↔ risI b l ∧ l.getLastD b < x ∧ x < 257
  | [], b, x => by simp [risI]
  | y :: l, b, x => by
    rw [List.cons_append, risI, risI, risI_snoc (l := l), List.getLastD_cons]; simp only [and_assoc]
theorem risI_app : ∀ {l m : List Int} {b : Int}, risI b (l ++ m) → risI b l
  | [], _, _, _ => trivial
  | _ :: _, _, _, h => ⟨h.1, h.2.1, risI_app h.2.2⟩
theorem risI_ge : ∀ {l : List Int} {b : Int}, risI b l → ∀ x ∈ l, b < x ∧ x ≤ 256
  | [], _, _, x, hx => by simp at hx
  | y :: l, b, h, x, hx => by
    rcases List.mem_cons.1 hx with rfl | hx
    · exact ⟨h.1, by have := h.2.1; omega⟩
    · have := risI_ge h.2.2 x hx; have := h.1; exact ⟨by omega, by omega⟩
theorem risI_nat : ∀ {l : List Int} {b : Int}, -1 ≤ b → risI b l → (l.map Int.toNat).Pairwise (· < ·) ∧ (∀ s ∈ l.map Int.toNat, s ≤ 256) ∧ (l.map Int.toNat).map (fun (x : Nat) => (x : Int)) = l
  | [], _, _, _ => ⟨by simp, by simp, rfl⟩
  | y :: l, b, hb, h => by
    have h1 := h.1; have h2 := h.2.1; obtain ⟨p, q, r⟩ := risI_nat (l := l) (b := y) (by omega) h.2.2; refine ⟨?_, ?_, ?_⟩
    · rw [List.map_cons, List.pairwise_cons]; refine ⟨fun z hz => ?_, p⟩; obtain ⟨u, hu, rfl⟩ := List.mem_map.1 hz; have := (risI_ge h.2.2 u hu).1; omega
    · intro s hs; rw [List.map_cons] at hs; rcases List.mem_cons.1 hs with rfl | hs
      · omega
      · exact q s hs
    · rw [List.map_cons, List.map_cons, r, Int.toNat_of_nonneg (by omega)]
/-- Signs and lengths that make a code. -/
def okMake (some lens : List Int) : Prop := some.length = lens.length ∧ okF lens ∧ risI (-1) some
theorem okF_pos {l : List Int} (h : okF l) : 1 ≤ l.length := by
  rcases h.2 with h | h
  · rw [h]; simp
  · omega
theorem okF_range {l : List Int} (h : okF l) : ∀ x ∈ l, 1 ≤ x ∧ x ≤ 256 := by
  intro x hx; rcases h.2 with e | ⟨h2, hd⟩
  · rw [e] at hx; simp at hx; omega
  · have := hd.bound x hx; have := h.1; exact ⟨by have := this; have := (hd.bound x hx).2.2 (by omega); omega, by omega⟩
theorem okMake_code {some lens : List Int} (h : okMake some lens) : ∃ T, CodeT T (some.map Int.toNat) lens := by
  obtain ⟨h1, h2, h3⟩ := h; obtain ⟨p, q, r⟩ := risI_nat (by omega) h3; rcases h2.2 with e | ⟨h4, hd⟩
  · subst e
    match some, h1, q with
    | [x], _, q => exact ⟨_, codeT_one x.toNat (q x.toNat (by simp))⟩
  · exact codeT_more hd h4 (by rw [List.length_map]; exact h1) p q
/-- The tree of a code. -/
noncomputable def treeC (some lens : List Int) : CT := open Classical in if h : okMake some lens then (okMake_code h).choose else .nil
theorem treeC_code {some lens : List Int} (h : okMake some lens) : CodeT (treeC some lens) (some.map Int.toNat) lens := by
  unfold treeC; rw [dif_pos h]; exact (okMake_code h).choose_spec
theorem slT_zip {T : CT} {sg : List Nat} {ls : List Int} (h : CodeT T sg ls) : ((T.al []).map fun x => (x.1, x.2.length)) = sg.zip (ls.map Int.toNat) := by
  rw [← h.1, ← h.2.1, List.map_map]
  induction T.al [] with
  | nil => rfl
  | cons x l ih => simp [ih]
end Go.Proofs.YtanacapkfllbnaaGreatDoor
