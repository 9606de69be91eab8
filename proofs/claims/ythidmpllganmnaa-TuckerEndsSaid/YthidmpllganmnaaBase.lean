/-
  GENERAL LEMMAS ON MEMORY, with no program in sight: what a slice that came in reads as ('Rd'), a block that is known whole ('Blk'), and which blocks a stretch of work may have changed ('Kp').
  CONDITIONS: none beyond each lemma's own.
-/
import Derived.WalkKit
import Derived.Deep.Draws
import Derived.Maps.AppendAt
import Derived.Lib.Hide
import Derived.Deep.QuietTactic
import Derived.OwnWalk
namespace Go.Proofs.Ythidmpllganmnaa
open Go.RowKit

theorem addr_add_zero (a : Addr) : a.add 0 = a := by simp [Addr.add]
theorem addr_add_block (a : Addr) (n : Nat) : (a.add n).block = a.block := by unfold Addr.add; split <;> rfl
theorem addr_add_add (a : Addr) (i j : Nat) : (a.add i).add j = a.add (i + j) := by
  unfold Addr.add
  by_cases hi : i = 0 <;> by_cases hj : j = 0 <;> simp [hi, hj, Nat.add_assoc]
theorem addr_lit_add (g o n : Nat) : (⟨g, o, none⟩ : Addr).add n = ⟨g, o + n, none⟩ := by
  unfold Addr.add; split <;> simp_all

/-- Only the blocks of S, and what is new, may have changed. -/
structure Kp (S : List Nat) (w w' : World) : Prop where
  os : w'.os = w.os
  tape : w'.tape = w.tape
  output : w'.output = w.output
  size : w.heap.size ≤ w'.heap.size
  block : ∀ k, k < w.heap.size → k ∉ S → w'.heap[k]? = w.heap[k]?

theorem Kp.refl (S : List Nat) (w : World) : Kp S w w := ⟨rfl, rfl, rfl, Nat.le_refl _, fun _ _ _ => rfl⟩
theorem Kp.trans {S : List Nat} {a b c : World} (h : Kp S a b) (k : Kp S b c) : Kp S a c :=
  ⟨k.os.trans h.os, k.tape.trans h.tape, k.output.trans h.output, Nat.le_trans h.size k.size,
    fun i hi hn => (k.block i (Nat.lt_of_lt_of_le hi h.size) hn).trans (h.block i hi hn)⟩
/-- The second stretch may change, besides S, blocks that are new since the first world. -/
theorem Kp.trans' {S T : List Nat} {a b c : World} (h : Kp S a b) (k : Kp T b c) (hT : ∀ g ∈ T, g ∈ S ∨ a.heap.size ≤ g) : Kp S a c :=
  ⟨k.os.trans h.os, k.tape.trans h.tape, k.output.trans h.output, Nat.le_trans h.size k.size,
    fun i hi hn => (k.block i (Nat.lt_of_lt_of_le hi h.size) (fun hm => by rcases hT i hm with h1 | h1; exact hn h1; omega)).trans (h.block i hi hn)⟩
theorem Kp.mono {S T : List Nat} {a b : World} (h : Kp S a b) (hs : ∀ g ∈ S, g ∈ T) : Kp T a b :=
  ⟨h.os, h.tape, h.output, h.size, fun i hi hn => h.block i hi (fun hm => hn (hs i hm))⟩
theorem Kp.nil {T : List Nat} {a b : World} (h : Kp [] a b) : Kp T a b := h.mono (by simp)
theorem Kp.drewN {S : List Nat} {a b : World} (h : Kp S a b) (n : Nat) : Kp S a (b.drewN n) := ⟨h.os, h.tape, h.output, h.size, h.block⟩
theorem Kp.drew {S : List Nat} {a b : World} (h : Kp S a b) : Kp S a b.drew := ⟨h.os, h.tape, h.output, h.size, h.block⟩
theorem Kp.alloc {S : List Nat} {a b : World} (h : Kp S a b) (o : Obj) : Kp S a (b.alloc o) :=
  ⟨h.os, h.tape, h.output, by have := h.size; simp; omega, fun i hi hn => (Below.heap_alloc b o i (Nat.lt_of_lt_of_le hi h.size)).trans (h.block i hi hn)⟩
theorem Kp.setCell {S : List Nat} {a b : World} (h : Kp S a b) {p : Addr} (hp : p.block ∈ S ∨ a.heap.size ≤ p.block) (u : Value) : Kp S a (b.setCell p u) :=
  ⟨h.os, h.tape, h.output, by simpa using h.size, fun i hi hn => (Below.heap_setCell b p u i (by
    rintro rfl
    rcases hp with hp | hp
    · exact hn hp
    · omega)).trans (h.block i hi hn)⟩
theorem Kp.grown {S : List Nat} {a b c : World} {row : Option Nat} (h : Kp S a b) (g : b.grownBy c row) (hr : ∀ k, row = some k → k ∈ S ∨ a.heap.size ≤ k) : Kp S a c :=
  ⟨g.os.trans h.os, g.tape.trans h.tape, g.output.trans h.output, Nat.le_trans h.size g.size,
    fun i hi hn => (g.block i (Nat.lt_of_lt_of_le hi h.size) (fun e => by
      rcases hr i e.symm with h1 | h1
      · exact hn h1
      · omega)).trans (h.block i hi hn)⟩
theorem Kp.below {a b : World} (h : Kp [] a b) : Below a.heap.size a b := ⟨h.os, h.tape, h.output, h.size, fun k hk => h.block k hk (by simp)⟩
theorem Kp.of_below {a b : World} (h : Below a.heap.size a b) : Kp [] a b := ⟨h.os, h.tape, h.output, h.size, fun k hk _ => h.block k hk⟩
theorem Kp.of_drewN (w : World) (n : Nat) : Kp [] w (w.drewN n) := (Kp.refl _ _).drewN n
theorem Kp.cell {S : List Nat} {a b : World} (h : Kp S a b) {p : Addr} {v : Value} (hc : a.cell? p = some v) (hp : p.block ∉ S) : b.cell? p = some v :=
  (World.cell?_of_block (h.block p.block (World.block_lt_of_cell? a p hc) hp)).trans hc

theorem oc_ints (k : IntKind) (l : List Int) : ∀ u ∈ l.map (Value.int k), u.oneCell' = true := by
  intro u hu
  obtain ⟨x, _, rfl⟩ := List.mem_map.1 hu
  rfl
/-- Nothing but draws. -/
def Dr (w w' : World) : Prop := ∃ d, w' = w.drewN d
theorem Dr.refl (w : World) : Dr w w := ⟨0, rfl⟩
theorem Dr.trans {a b c : World} (h : Dr a b) (k : Dr b c) : Dr a c := by
  obtain ⟨d, rfl⟩ := h
  obtain ⟨e, rfl⟩ := k
  exact ⟨d + e, by rw [World.drewN_drewN]⟩
theorem Dr.drewN {a b : World} (h : Dr a b) (n : Nat) : Dr a (b.drewN n) := h.trans ⟨n, rfl⟩
theorem Dr.drew {a b : World} (h : Dr a b) : Dr a b.drew := h.trans ⟨1, rfl⟩
theorem Dr.heap {a b : World} (h : Dr a b) : b.heap = a.heap := by obtain ⟨d, rfl⟩ := h; rfl
theorem Dr.size {a b : World} (h : Dr a b) : b.heap.size = a.heap.size := by rw [h.heap]
theorem Dr.kp {a b : World} (h : Dr a b) (S : List Nat) : Kp S a b := by obtain ⟨d, rfl⟩ := h; exact (Kp.refl S a).drewN d
theorem Dr.cell {a b : World} (h : Dr a b) (p : Addr) : b.cell? p = a.cell? p := by obtain ⟨d, rfl⟩ := h; rfl
theorem Dr.free {a b : World} (h : Dr a b) (p : Addr) : b.frozen? p = a.frozen? p := by obtain ⟨d, rfl⟩ := h; rfl
theorem quiet_dr {P : Program} {f : FuncId} {args : Array Value} {w : World} {n : Nat} {v : Value} (h : Calls P f args (w.drewN n) fun e w' => e = .returned v ∧ Dr (w.drewN n) w') :
    Calls P f args (w.drewN n) fun e w'' => e = .returned v ∧ ∃ m, w'' = w.drewN m :=
  h.mono fun _ _ ⟨he, m, hm⟩ => ⟨he, n + m, by rw [hm, World.drewN_drewN]⟩
theorem quiet_eq {P : Program} {f : FuncId} {args : Array Value} {w : World} {n : Nat} {v : Value} (h : Calls P f args (w.drewN n) fun e w' => e = .returned v ∧ w.drewN n = w') :
    Calls P f args (w.drewN n) fun e w'' => e = .returned v ∧ ∃ m, w'' = w.drewN m :=
  h.mono fun _ _ ⟨he, hm⟩ => ⟨he, n, hm.symm⟩

/-- The cells that a slice's address leads to, one behind the other; B: a bound on the block's number. Nothing is asked of the address where there are no cells. -/
def Rd (w : World) (B : Nat) (A : Option Addr) (xs : List Value) : Prop := ∀ i u, xs[i]? = some u → ∃ ad, A = some ad ∧ ad.block < B ∧ w.cell? (ad.add i) = some u

section
variable {w w' : World} {B : Nat} {A : Option Addr} {xs : List Value}
theorem Rd.nil (w : World) (B : Nat) (A : Option Addr) : Rd w B A [] := fun i u h => by simp at h
theorem Rd.at_ (h : Rd w B A xs) {i : Nat} {u : Value} (hu : xs[i]? = some u) : ∃ ad, A = some ad ∧ ad.block < B ∧ w.cell? (ad.add i) = some u := h i u hu
theorem Rd.int {k : IntKind} {xs : List Int} (h : Rd w B A (xs.map (.int k))) {i : Nat} (hi : i < xs.length) : ∃ ad, A = some ad ∧ ad.block < B ∧ w.cell? (ad.add i) = some (.int k xs[i]) := h i _ (by simp [hi])
/-- The cell of a place that is one, its number under a name. -/
theorem Rd.ix {k : IntKind} {xs : List Int} (h : Rd w B A (xs.map (.int k))) {i : Nat} (hi : i < xs.length) : ∃ x ad, xs[i]? = some x ∧ A = some ad ∧ ad.block < B ∧ w.cell? (ad.add i) = some (.int k x) := by
  obtain ⟨ad, e, hb, hc⟩ := h.int hi
  exact ⟨_, ad, List.getElem?_eq_getElem hi, e, hb, hc⟩
theorem Rd.bound (h : Rd w B A xs) {B' : Nat} (hB : B ≤ B') : Rd w B' A xs := fun i u hu => by
  obtain ⟨ad, e, hb, hc⟩ := h i u hu
  exact ⟨ad, e, by omega, hc⟩
theorem Rd.kp {S : List Nat} (h : Rd w B A xs) (k : Kp S w w') (hS : ∀ g ∈ S, B ≤ g) : Rd w' B A xs := fun i u hu => by
  obtain ⟨ad, e, hb, hc⟩ := h i u hu
  exact ⟨ad, e, hb, k.cell hc (fun hm => by rw [addr_add_block] at hm; have := hS _ hm; omega)⟩
theorem Rd.kp0 (h : Rd w B A xs) (k : Kp [] w w') : Rd w' B A xs := h.kp k (by simp)
theorem Rd.kp_ne {S : List Nat} (h : Rd w B A xs) (k : Kp S w w') (hS : ∀ ad, A = some ad → ad.block ∉ S) : Rd w' B A xs := fun i u hu => by
  obtain ⟨ad, e, hb, hc⟩ := h i u hu
  exact ⟨ad, e, hb, k.cell hc (by rw [addr_add_block]; exact hS ad e)⟩
theorem Rd.take (h : Rd w B A xs) (n : Nat) : Rd w B A (xs.take n) := fun i u hu => by
  rw [List.getElem?_take] at hu
  split at hu
  · exact h i u hu
  · cases hu
theorem Rd.drop {a : Addr} (h : Rd w B (some a) xs) (n : Nat) : Rd w B (some (a.add n)) (xs.drop n) := fun i u hu => by
  rw [List.getElem?_drop] at hu
  obtain ⟨ad, e, hb, hc⟩ := h _ u hu
  injection e with e
  subst e
  exact ⟨_, rfl, by rw [addr_add_block]; exact hb, by rw [addr_add_add]; exact hc⟩
theorem Rd.none_nil {α : Type} {f : α → Value} {xs : List α} (h : Rd w B none (xs.map f)) : xs = [] := by
  rcases xs with _ | ⟨x, l⟩
  · rfl
  · obtain ⟨ad, h, _⟩ := h 0 (f x) rfl
    cases h
theorem Rd.lt (h : Rd w B A xs) (hx : xs ≠ []) : ∃ ad, A = some ad ∧ ad.block < B ∧ ad.block < w.heap.size := by
  obtain ⟨x, l, rfl⟩ := List.exists_cons_of_ne_nil hx
  obtain ⟨ad, e, hb, hc⟩ := h 0 x rfl
  exact ⟨ad, e, hb, by have := World.block_lt_of_cell? w _ hc; rwa [addr_add_block] at this⟩
end

/-- A new block, a mark of frozen cells or not. -/
theorem Rd.new (w : World) (C : Array Value) (e : TypeId) (fr : Nat × Nat) : Rd (w.alloc (.cells C e fr)) (w.heap.size + 1) (some ⟨w.heap.size, 0, none⟩) C.toList := fun i u hu =>
  ⟨_, rfl, Nat.lt_succ_self _, by rw [addr_lit_add, cell_of_row (w.alloc (.cells C e fr)) w.heap.size (0 + i) C e fr (heap_alloc_new w _)]; simpa using hu⟩
/-- A slice of slices of numbers, wherever they lie. -/
def RdRows (w : World) (B : Nat) (k : IntKind) (A : Option Addr) (xss : List (List Int)) : Prop :=
  ∃ l : List Value, l.length = xss.length ∧ Rd w B A l ∧ ∀ (i : Nat) (xs : List Int), xss[i]? = some xs → ∃ (Ai : Option Addr) (ci : Nat), l[i]? = some (Value.slice Ai xs.length ci) ∧ xs.length ≤ ci ∧ Rd w B Ai (xs.map (.int k))
theorem RdRows.kp {w w' : World} {B : Nat} {k : IntKind} {A : Option Addr} {xss : List (List Int)} {S : List Nat} (h : RdRows w B k A xss) (hk : Kp S w w') (hS : ∀ g ∈ S, B ≤ g) : RdRows w' B k A xss := by
  obtain ⟨l, hl, hr, h⟩ := h
  refine ⟨l, hl, hr.kp hk hS, fun i xs hi => ?_⟩
  obtain ⟨Ai, ci, h1, h2, h3⟩ := h i xs hi
  exact ⟨Ai, ci, h1, h2, h3.kp hk hS⟩
theorem RdRows.kp0 {w w' : World} {B : Nat} {k : IntKind} {A : Option Addr} {xss : List (List Int)} (h : RdRows w B k A xss) (hk : Kp [] w w') : RdRows w' B k A xss := h.kp hk (by simp)
theorem RdRows.bound {w : World} {B B' : Nat} {k : IntKind} {A : Option Addr} {xss : List (List Int)} (h : RdRows w B k A xss) (hB : B ≤ B') : RdRows w B' k A xss := by
  obtain ⟨l, hl, hr, h⟩ := h
  refine ⟨l, hl, hr.bound hB, fun i xs hi => ?_⟩
  obtain ⟨Ai, ci, h1, h2, h3⟩ := h i xs hi
  exact ⟨Ai, ci, h1, h2, h3.bound hB⟩
theorem RdRows.ix {w : World} {B : Nat} {k : IntKind} {A : Option Addr} {xss : List (List Int)} (h : RdRows w B k A xss) {i : Nat} (hi : i < xss.length) :
    ∃ xs ad Ai ci, xss[i]? = some xs ∧ A = some ad ∧ ad.block < B ∧ w.cell? (ad.add i) = some (.slice Ai xs.length ci) ∧ xs.length ≤ ci ∧ Rd w B Ai (xs.map (.int k)) := by
  obtain ⟨l, hl, hr, h⟩ := h
  obtain ⟨Ai, ci, h1, h2, h3⟩ := h i _ (List.getElem?_eq_getElem hi)
  obtain ⟨ad, e, hb, hc⟩ := hr i _ h1
  exact ⟨_, ad, Ai, ci, List.getElem?_eq_getElem hi, e, hb, hc, h2, h3⟩
theorem RdRows.nil (w : World) (B : Nat) (k : IntKind) (A : Option Addr) : RdRows w B k A [] := ⟨[], rfl, Rd.nil _ _ _, fun i xs h => by simp at h⟩

/-- Slices of numbers, value by value. -/
def RowsL (w : World) (B : Nat) (k : IntKind) : List Value → List (List Int) → Prop
  | [], [] => True
  | v :: l, xs :: xss => (∃ A c, v = .slice A xs.length c ∧ xs.length ≤ c ∧ Rd w B A (xs.map (.int k))) ∧ RowsL w B k l xss
  | _, _ => False
theorem RowsL.len {w : World} {B : Nat} {k : IntKind} : ∀ {l : List Value} {xss : List (List Int)}, RowsL w B k l xss → l.length = xss.length
  | [], [], _ => rfl
  | _ :: _, _ :: _, h => by simp [RowsL.len h.2]
  | [], _ :: _, h => h.elim
  | _ :: _, [], h => h.elim
theorem RowsL.get {w : World} {B : Nat} {k : IntKind} : ∀ {l : List Value} {xss : List (List Int)}, RowsL w B k l xss → ∀ (i : Nat) (xs : List Int), xss[i]? = some xs → ∃ A c, l[i]? = some (Value.slice A xs.length c) ∧ xs.length ≤ c ∧ Rd w B A (xs.map (.int k))
  | [], [], _, i, xs, hi => by simp at hi
  | v :: l, ys :: xss, h, 0, xs, hi => by
    simp at hi
    subst hi
    obtain ⟨A, c, rfl, hc, hr⟩ := h.1
    exact ⟨A, c, rfl, hc, hr⟩
  | v :: l, ys :: xss, h, i + 1, xs, hi => by
    obtain ⟨A, c, h1, h2, h3⟩ := RowsL.get h.2 i xs (by simpa using hi)
    exact ⟨A, c, by simpa using h1, h2, h3⟩
  | [], _ :: _, h, _, _, _ => h.elim
  | _ :: _, [], h, _, _, _ => h.elim
theorem RdRows.of_list {w : World} {B : Nat} {k : IntKind} {A : Option Addr} {l : List Value} {xss : List (List Int)} (h : RowsL w B k l xss) (hr : Rd w B A l) : RdRows w B k A xss :=
  ⟨l, h.len, hr, h.get⟩
/-- A slice literal of one slice. -/
theorem RdRows.one {w : World} {g B : Nat} {k : IntKind} {Ai : Option Addr} {ci : Nat} {xs : List Int} {t : TypeId} (hg : w.heap[g]? = some (.cells #[.slice Ai xs.length ci] t (0, 0))) (hB : g < B) (hc : xs.length ≤ ci) (hr : Rd w B Ai (xs.map (.int k))) :
    RdRows w B k (some ⟨g, 0, none⟩) [xs] := by
  refine ⟨[.slice Ai xs.length ci], rfl, fun i u hu => ⟨_, rfl, hB, ?_⟩, fun i ys hi => ?_⟩
  · match i, hu with
    | 0, hu => rw [addr_lit_add, cell_of_row w g _ _ t (0, 0) hg]; simpa using hu
  · match i, hi with
    | 0, hi =>
      simp at hi
      subst hi
      exact ⟨Ai, ci, rfl, hc, hr⟩
/-- Block g is known whole: its cells, its element type; nothing in it is frozen. -/
def Blk (w : World) (g : Nat) (t : TypeId) (l : List Value) : Prop := w.heap[g]? = some (.cells l.toArray t (0, 0))

section
variable {w w' : World} {g : Nat} {t : TypeId} {l : List Value}
theorem Blk.lt (h : Blk w g t l) : g < w.heap.size := lt_of_block h
theorem Blk.cell (h : Blk w g t l) (i : Nat) : w.cell? ⟨g, i, none⟩ = l[i]? := by
  rw [cell_of_row w g i _ t (0, 0) h]; simp
theorem Blk.ix (h : Blk w g t l) {i : Nat} (hi : i < l.length) : ∃ u, l[i]? = some u ∧ w.cell? ⟨g, i, none⟩ = some u := ⟨l[i], List.getElem?_eq_getElem hi, by rw [h.cell, List.getElem?_eq_getElem hi]⟩
theorem Blk.free (h : Blk w g t l) (i : Nat) : w.frozen? ⟨g, i, none⟩ = false := by
  unfold Blk at h
  simp [World.frozen?, h]
theorem Blk.new (w : World) (t : TypeId) (l : List Value) : Blk (w.alloc (.cells l.toArray t)) w.heap.size t l := heap_alloc_new w _
theorem Blk.drew (h : Blk w g t l) : Blk w.drew g t l := h
theorem Blk.drewN (h : Blk w g t l) (n : Nat) : Blk (w.drewN n) g t l := h
theorem Blk.alloc (h : Blk w g t l) (o : Obj) : Blk (w.alloc o) g t l := (Below.heap_alloc w o g h.lt).trans h
theorem Blk.set_ (h : Blk w g t l) (i : Nat) (u : Value) : Blk (w.setCell ⟨g, i, none⟩ u) g t (l.set i u) := by
  unfold Blk at h ⊢
  simp [World.setCell, Array.getElem?_modify, h]
theorem Blk.far (h : Blk w g t l) {p : Addr} (hp : g ≠ p.block) (u : Value) : Blk (w.setCell p u) g t l := (Below.heap_setCell w p u g hp).trans h
theorem Blk.kp {S : List Nat} (h : Blk w g t l) (k : Kp S w w') (hg : g ∉ S) : Blk w' g t l := (k.block g h.lt hg).trans h
theorem Blk.kp0 (h : Blk w g t l) (k : Kp [] w w') : Blk w' g t l := h.kp k (by simp)
theorem Blk.inj {t' : TypeId} {l' : List Value} (h : Blk w g t l) (h' : Blk w g t' l') : t = t' ∧ l = l' := by
  unfold Blk at h h'
  rw [h] at h'
  injection h' with h'
  injection h' with h1 h2
  exact ⟨h2, by simpa using h1⟩
theorem Blk.ne {g' : Nat} {t' : TypeId} {l' : List Value} (h : Blk w g t l) (h' : Blk w g' t' l') (hne : t ≠ t') : g ≠ g' := by
  rintro rfl
  exact hne (h.inj h').1
theorem Blk.rd (h : Blk w g t l) {B : Nat} (hB : g < B) : Rd w B (some ⟨g, 0, none⟩) l := fun i u hu => ⟨_, rfl, hB, by rw [addr_lit_add, h.cell]; simpa using hu⟩
theorem Blk.rd_at (h : Blk w g t l) {B : Nat} (hB : g < B) (o : Nat) : Rd w B (some ⟨g, o, none⟩) (l.drop o) := fun i u hu =>
  ⟨_, rfl, hB, by rw [addr_lit_add, h.cell]; rwa [List.getElem?_drop] at hu⟩
end

theorem take_succ_of {α : Type} {l : List α} {k : Nat} {x : α} (h : l[k]? = some x) : l.take (k + 1) = l.take k ++ [x] := by
  rw [List.take_add_one, h]; rfl

/-- A row of the call's own, said by its block. -/
theorem own_blk {w : World} {base : Nat} {e : TypeId} {size n : Nat} {v : Value} {xs : List Value} (h : w.ownsRow base e size v n xs) :
    (v = .slice none 0 0 ∧ n = 0 ∧ xs = []) ∨ ∃ g cap rest, v = .slice (some ⟨g, 0, none⟩) n cap ∧ base ≤ g ∧ Blk w g e (xs ++ rest) ∧ n ≤ cap ∧ cap ≤ maxLen ∧ xs.length = n * size ∧ (xs ++ rest).length = cap * size := by
  obtain ⟨hl, h⟩ := h
  rcases h with ⟨rfl, rfl⟩ | ⟨g, cap, cur, rfl, hb, hg, hn, hm, hs, ht⟩
  · exact .inl ⟨rfl, rfl, List.eq_nil_of_length_eq_zero (by simpa using hl)⟩
  · refine .inr ⟨g, cap, cur.toList.drop (n * size), rfl, hb, ?_, hn, hm, hl, ?_⟩
    · rw [← ht, List.take_append_drop]
      exact hg
    · rw [← ht, List.take_append_drop]
      simpa using hs
theorem own_rd {w : World} {base : Nat} {e : TypeId} {size n c m : Nat} {A : Option Addr} {xs : List Value} (h : w.ownsRow base e size (.slice A m c) n xs) : Rd w w.heap.size A xs := by
  rcases own_blk h with ⟨_, _, rfl⟩ | ⟨g, cap, rest, hv, _, hb, _⟩
  · exact Rd.nil _ _ _
  · injection hv with hv
    subst hv
    intro i u hu
    exact ⟨_, rfl, hb.lt, by
      rw [addr_lit_add, hb.cell, Nat.zero_add, List.getElem?_append_left (by exact (List.getElem?_eq_some_iff.1 hu).1)]
      exact hu⟩
theorem own_kp {w w' : World} {base : Nat} {e : TypeId} {size n : Nat} {v : Value} {xs : List Value} {S : List Nat} (h : w.ownsRow base e size v n xs) (k : Kp S w w') (hS : ∀ g, v.ownBlock = some g → g ∉ S) : w'.ownsRow base e size v n xs := by
  refine ⟨h.1, ?_⟩
  rcases h.2 with hn | ⟨g, cap, cur, rfl, hb, hgg, rest⟩
  · exact .inl hn
  · exact .inr ⟨g, cap, cur, rfl, hb, (k.block g (lt_of_block hgg) (hS g rfl)).trans hgg, rest⟩
theorem own_kp0 {w w' : World} {base : Nat} {e : TypeId} {size n : Nat} {v : Value} {xs : List Value} (h : w.ownsRow base e size v n xs) (k : Kp [] w w') : w'.ownsRow base e size v n xs := own_kp h k (by simp)
theorem own_base {w : World} {base base' : Nat} {e : TypeId} {size n : Nat} {v : Value} {xs : List Value} (h : w.ownsRow base e size v n xs) (hb : base' ≤ base) : w.ownsRow base' e size v n xs := by
  refine ⟨h.1, ?_⟩
  rcases h.2 with hn | ⟨g, cap, cur, rfl, hg, rest⟩
  · exact .inl hn
  · exact .inr ⟨g, cap, cur, rfl, by omega, rest⟩
theorem own_ge {w : World} {base : Nat} {e : TypeId} {size n : Nat} {v : Value} {xs : List Value} (h : w.ownsRow base e size v n xs) {g : Nat} (hg : v.ownBlock = some g) : base ≤ g ∧ g < w.heap.size := h.lt g hg
theorem own_of_blk {w : World} {g : Nat} {e : TypeId} {xs rest : List Value} {base size n cap : Nat} (h : Blk w g e (xs ++ rest)) (hb : base ≤ g) (hn : n ≤ cap) (hm : cap ≤ maxLen) (hx : xs.length = n * size) (hc : (xs ++ rest).length = cap * size) :
    w.ownsRow base e size (.slice (some ⟨g, 0, none⟩) n cap) n xs :=
  ⟨hx, .inr ⟨g, cap, _, rfl, hb, h, hn, hm, by simpa using hc, by rw [List.take_append_of_le_length (by omega), List.take_of_length_le (by omega)]⟩⟩

theorem own_form {w : World} {base : Nat} {e : TypeId} {size n : Nat} {v : Value} {xs : List Value} (h : w.ownsRow base e size v n xs) :
    ∃ A c, v = .slice A n c ∧ n ≤ c ∧ c ≤ maxLen ∧ (A = none → n = 0 ∧ c = 0) ∧ (∀ ad, A = some ad → ad.off = 0 ∧ ad.spot = none ∧ base ≤ ad.block ∧ ad.block < w.heap.size) := by
  rcases own_blk h with ⟨rfl, rfl, rfl⟩ | ⟨g, cap, rest, rfl, hg, hb, hn, hc, _⟩
  · exact ⟨none, 0, rfl, Nat.le_refl _, Nat.zero_le _, fun _ => ⟨rfl, rfl⟩, (fun ad h => by cases h)⟩
  · exact ⟨_, cap, rfl, hn, hc, (fun h => by cases h), (fun ad h => by injection h with h; subst h; exact ⟨rfl, rfl, hg, hb.lt⟩)⟩

/-- A row of the call's own at its capacity: its block is known whole. -/
theorem own_full {w : World} {base : Nat} {e : TypeId} {g cap : Nat} {xs : List Value} (h : w.ownsRow base e 1 (.slice (some ⟨g, 0, none⟩) cap cap) cap xs) : Blk w g e xs := by
  rcases own_blk h with ⟨h, _⟩ | ⟨g', cap', rest, hv, _, hb', _, _, hl, hc⟩
  · cases h
  · injection hv with hv _ hcap
    injection hv with hv
    injection hv with hv
    subst hv hcap
    have hr : rest = [] := List.eq_nil_of_length_eq_zero (by rw [List.length_append, hl] at hc; omega)
    subst hr
    simpa using hb'

/-- append, from whatever source (nil, empty, any address), onto a row of the call's own. -/
theorem run_append_rd {P : Program} (w : World) (base : Nat) (t ty e : TypeId) (i : TypeInfo) (z : Value) (size bytes : Nat) (ht : P.underlying t = some (.slice e)) (hi : P.info? e = some i) (hz : i.zero = some z)
    (hsize : i.size = size) (hby : i.bytes = bytes) (hzs : z.cells.size = size) (hsz : 0 < size)
    (v : Value) (n : Nat) (xs : List Value) (hown : w.ownsRow base e size v n xs)
    (B : Nat) (A : Option Addr) (m c : Nat) (news : List Value) (hl : news.length = m * size) (hr : Rd w B A news) (h1 : ∀ u ∈ news, u.oneCell' = true)
    (h63 : n + m ≤ maxLen) (hbytes : (n + m) * bytes ≤ 140737488355328) (hbase : base ≤ w.heap.size) :
    ∃ v' w', (Builtin.append_ #[t, t] ty #[v, .slice A m c]).run P w = .ok v' w' ∧ w'.ownsRow base e size v' (n + m) (xs ++ news) ∧ w.grownBy w' v.ownBlock ∧
      (v'.ownBlock = v.ownBlock ∨ v'.ownBlock = some w.heap.size) := by
  rcases A with _ | ad
  · have hn : news = [] := by
      rcases news with _ | ⟨x, l⟩
      · rfl
      · obtain ⟨ad, h, _⟩ := hr 0 x rfl
        cases h
    subst hn
    have hm : m = 0 := by
      rcases Nat.eq_zero_or_pos m with h0 | h0
      · exact h0
      · have := Nat.mul_pos h0 hsz
        simp at hl
        omega
    subst hm
    refine ⟨v, w, ?_, by simpa using hown, World.grownBy.refl w _, .inl rfl⟩
    rcases hown.2 with ⟨rfl, rfl⟩ | ⟨g, cap, cur, rfl, _, _, hnc, _⟩
    · simp [Builtin.append_, run_underlying ht, sizeOf, typeInfo, hi, Builtin.lenOf, Builtin.firstCells]
    · simp [Builtin.append_, run_underlying ht, sizeOf, typeInfo, hi, Builtin.lenOf, Builtin.firstCells, hnc, storeCells]
  · have hnews : ∀ j u, news[j]? = some u → w.cell? (ad.add j) = some u := fun j u hu => by
      obtain ⟨ad', e', _, hc⟩ := hr j u hu
      injection e' with e'
      subst e'
      exact hc
    obtain ⟨v', w', hrun, ho, hg, _, ha⟩ := run_append_own_at (P := P) w base t ty e i z size bytes ht hi hz hsize hby hzs hsz v n xs hown ad m c news hl hnews h1 h63 hbytes hbase
    exact ⟨v', w', hrun, ho, hg, ha⟩

section
variable {P : Program} {w : World}
theorem wp_append_rd {o : Oper} {a : Act} {K : Act → World → Prop} {Q : Exit → Act → World → Prop} (s x : Operand) (t : TypeId)
    (ho : o.op = .call { callee := .builtin .append, args := #[s, x], argTypes := #[t, t] })
    (base : Nat) (e : TypeId) (i : TypeInfo) (z : Value) (size bytes : Nat) (ht : P.underlying t = some (.slice e)) (hi : P.info? e = some i) (hz : i.zero = some z)
    (hsize : i.size = size) (hby : i.bytes = bytes) (hzs : z.cells.size = size) (hsz : 0 < size)
    (v : Value) (n : Nat) (xs : List Value) (hs : a.eval s = v) (hown : w.ownsRow base e size v n xs)
    (B : Nat) (A : Option Addr) (m c : Nat) (news : List Value) (hx : a.eval x = .slice A m c) (hl : news.length = m * size) (hr : Rd w B A news) (h1 : ∀ u ∈ news, u.oneCell' = true)
    (h63 : n + m ≤ maxLen) (hbytes : (n + m) * bytes ≤ 140737488355328) (hbase : base ≤ w.heap.size)
    (h : ∀ v' w', w'.ownsRow base e size v' (n + m) (xs ++ news) → w.grownBy w' v.ownBlock → (v'.ownBlock = v.ownBlock ∨ v'.ownBlock = some w.heap.size) → K (a.put o.dst v') w') :
    o.wp P a w K Q := by
  obtain ⟨v', w', hrun, h2, h3, h4⟩ := run_append_rd (P := P) w base t o.type e i z size bytes ht hi hz hsize hby hzs hsz v n xs hown B A m c news hl hr h1 h63 hbytes hbase
  unfold Oper.wp execOp
  simp only [ho, resolve, invoke, builtin, Sem.run_bind, Sem.run_pure, Result.andThen_ok, List.map_toArray, List.map_cons, List.map_nil, hs, hx, hrun]
  exact h v' w' h2 h3 h4
theorem wpList_append_rd {ops : Array Oper} {rest : List Oper} {o : Oper} {a : Act} {Q : Exit → Act → World → Prop} (hgd : o.guard = none) (s x : Operand) (t : TypeId)
    (ho : o.op = .call { callee := .builtin .append, args := #[s, x], argTypes := #[t, t] })
    (base : Nat) (e : TypeId) (i : TypeInfo) (z : Value) (size bytes : Nat) (ht : P.underlying t = some (.slice e)) (hi : P.info? e = some i) (hz : i.zero = some z)
    (hsize : i.size = size) (hby : i.bytes = bytes) (hzs : z.cells.size = size) (hsz : 0 < size)
    (v : Value) (n : Nat) (xs : List Value) (hs : a.eval s = v) (hown : w.ownsRow base e size v n xs)
    (B : Nat) (A : Option Addr) (m c : Nat) (news : List Value) (hx : a.eval x = .slice A m c) (hl : news.length = m * size) (hr : Rd w B A news) (h1 : ∀ u ∈ news, u.oneCell' = true)
    (h63 : n + m ≤ maxLen) (hbytes : (n + m) * bytes ≤ 140737488355328) (hbase : base ≤ w.heap.size)
    (h : ∀ v' w', w'.ownsRow base e size v' (n + m) (xs ++ news) → w.grownBy w' v.ownBlock → (v'.ownBlock = v.ownBlock ∨ v'.ownBlock = some w.heap.size) → wpList P ops Q rest (a.put o.dst v') w') :
    wpList P ops Q (o :: rest) a w :=
  wpList_plain hgd fun _ hK => wp_append_rd s x t ho base e i z size bytes ht hi hz hsize hby hzs hsz v n xs hs hown B A m c news hx hl hr h1 h63 hbytes hbase fun v' w' h2 h3 h4 => hK _ _ (h v' w' h2 h3 h4)
/-- append within the capacity, from whatever source. -/
theorem wpList_append_fits_rd {ops : Array Oper} {rest : List Oper} {o : Oper} {a : Act} {Q : Exit → Act → World → Prop}
    (hg : o.guard = none) (s x : Operand) (t : TypeId) (hop : o.op = Op.call { callee := Callee.builtin Builtin.append, args := #[s, x], argTypes := #[t, t] })
    (base : Nat) (e : TypeId) (i : TypeInfo) (size : Nat) (h1 : P.underlying t = some (.slice e)) (h2 : P.info? e = some i) (h4 : i.size = size) (hsz : 0 < size)
    (g k cap : Nat) (xs : List Value) (hs : a.eval s = .slice (some ⟨g, 0, none⟩) k cap) (hown : w.ownsRow base e size (.slice (some ⟨g, 0, none⟩) k cap) k xs) (B : Nat) (A : Option Addr) (m c : Nat) (news : List Value) (hx : a.eval x = .slice A m c) (hn : news.length = m * size)
    (hr : Rd w B A news) (h1c : ∀ u ∈ news, u.oneCell' = true) (b1 : k + m ≤ cap)
    (hK : ∀ w', w'.ownsRow base e size (.slice (some ⟨g, 0, none⟩) (k + m) cap) (k + m) (xs ++ news) → w.grownBy w' (some g) → wpList P ops Q rest (a.put o.dst (.slice (some ⟨g, 0, none⟩) (k + m) cap)) w') :
    wpList P ops Q (o :: rest) a w := by
  cases A with
  | some ad =>
    refine wpList_append_fits w hg s x t hop base e i size h1 h2 h4 g k cap xs hs hown ad m c news hx hn (fun j u hu => ?_) h1c b1 hK
    obtain ⟨ad', e', _, hc⟩ := hr j u hu
    injection e' with e'
    subst e'
    exact hc
  | none =>
    have hnn : news = [] := by
      rcases news with _ | ⟨x, l⟩
      · rfl
      · obtain ⟨ad, h, _⟩ := hr 0 x rfl
        cases h
    subst hnn
    have hm : m = 0 := by
      rcases Nat.eq_zero_or_pos m with h0 | h0
      · exact h0
      · have := Nat.mul_pos h0 hsz
        simp at hn
        omega
    subst hm
    refine wpList_plain hg fun K hK' => ?_
    have hrun : (Builtin.append_ #[t, t] o.type #[.slice (some ⟨g, 0, none⟩) k cap, .slice none 0 c]).run P w = .ok (.slice (some ⟨g, 0, none⟩) k cap) w := by
      obtain ⟨_, _, hh⟩ := own_blk hown |>.resolve_left (by rintro ⟨h, _⟩; cases h)
      obtain ⟨_, hv, _, _, hnc, _⟩ := hh
      injection hv with _ _ hv
      subst hv
      simp [Builtin.append_, run_underlying h1, sizeOf, typeInfo, h2, Builtin.lenOf, Builtin.firstCells, hnc, storeCells]
    unfold Oper.wp
    simp [execOp, hop, resolve, invoke, builtin, hs, hx, hrun, Result.andThen]
    exact hK' _ _ (by simpa using hK w (by simpa using hown) (World.grownBy.refl w _))
theorem step_append_rd {ops : Array Oper} {o : Oper} {a : Act} {K : Act → World → Prop} {Q : Exit → Act → World → Prop} {E : Prop} (hgd : o.guard = none) (s x : Operand) (t : TypeId)
    (ho : o.op = .call { callee := .builtin .append, args := #[s, x], argTypes := #[t, t] })
    (base : Nat) (e : TypeId) (i : TypeInfo) (z : Value) (size bytes : Nat) (ht : P.underlying t = some (.slice e)) (hi : P.info? e = some i) (hz : i.zero = some z)
    (hsize : i.size = size) (hby : i.bytes = bytes) (hzs : z.cells.size = size) (hsz : 0 < size)
    (v : Value) (n : Nat) (xs : List Value) (hs : a.eval s = v) (hown : w.ownsRow base e size v n xs)
    (B : Nat) (A : Option Addr) (m c : Nat) (news : List Value) (hx : a.eval x = .slice A m c) (hl : news.length = m * size) (hr : Rd w B A news) (h1 : ∀ u ∈ news, u.oneCell' = true)
    (h63 : n + m ≤ maxLen) (hbytes : (n + m) * bytes ≤ 140737488355328) (hbase : base ≤ w.heap.size)
    (h : ∀ v' w', w'.ownsRow base e size v' (n + m) (xs ++ news) → w.grownBy w' v.ownBlock → (v'.ownBlock = v.ownBlock ∨ v'.ownBlock = some w.heap.size) → K (a.put o.dst v') w') :
    if Region.wanted o (yielded ops a.tmps) = true then Oper.wp P o a w K Q else E := by
  have hw : Region.wanted o (yielded ops a.tmps) = true := by simp [Region.wanted, hgd]
  rw [if_pos hw]
  exact wp_append_rd s x t ho base e i z size bytes ht hi hz hsize hby hzs hsz v n xs hs hown B A m c news hx hl hr h1 h63 hbytes hbase h
end
end Go.Proofs.Ythidmpllganmnaa
