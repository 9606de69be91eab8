/-
  PLAIN MATHEMATICS of the document's tree: pairs in order, quarters, nodes in the order in which they come, kids' numbers.
  CONDITIONS: none beyond each lemma's own.
-/
import Derived.Test.YtldmabkilgpgcaaMGrid3
namespace Go.Proofs.Ytldmabkilgpgcaa

def lessN (a b : Nat × Nat) : Prop := a.1 < b.1 ∨ a.1 = b.1 ∧ a.2 < b.2
def lessB (a b : Nat × Nat) : Bool := decide (a.1 < b.1 ∨ a.1 = b.1 ∧ a.2 < b.2)
theorem lessB_iff {a b : Nat × Nat} : lessB a b = true ↔ lessN a b := decide_eq_true_iff
theorem lessB_not {a b : Nat × Nat} : lessB a b = false ↔ ¬ lessN a b := decide_eq_false_iff_not
theorem lessN_trans {a b c : Nat × Nat} (h : lessN a b) (k : lessN b c) : lessN a c := by unfold lessN at *; omega
theorem lessN_tri {a b : Nat × Nat} (h : ¬ lessN a b) (hne : a ≠ b) : lessN b a := by
  unfold lessN at *
  have : ¬ (a.1 = b.1 ∧ a.2 = b.2) := fun e => hne (Prod.ext e.1 e.2)
  omega
theorem lessN_ne {a b : Nat × Nat} (h : lessN a b) : a ≠ b := by rintro rfl; unfold lessN at h; omega
theorem sorted_nodup {l : List (Nat × Nat)} (h : l.Pairwise lessN) : l.Nodup := List.nodup_iff_pairwise_ne.2 (h.imp lessN_ne)
theorem take_drop_at {α : Type} {l : List α} {k : Nat} {x : α} (h : l[k]? = some x) : l = l.take k ++ x :: l.drop (k + 1) := by
  obtain ⟨hk, e⟩ := List.getElem?_eq_some_iff.1 h
  have := List.take_append_drop k l
  rw [List.drop_eq_getElem_cons hk, e] at this
  exact this.symm
theorem ins_sorted {out : List (Nat × Nat)} {x : Nat × Nat} {k : Nat} (h : out.Pairwise lessN) (h1 : ∀ y ∈ out.take k, lessN y x) (h2 : ∀ y, out[k]? = some y → ¬ lessN y x ∧ y ≠ x) : (out.take k ++ x :: out.drop k).Pairwise lessN := by
  have e := List.take_append_drop k out
  rw [← e, List.pairwise_append] at h
  obtain ⟨a, b, c⟩ := h
  have hd : ∀ z ∈ out.drop k, lessN x z := by
    intro z hz
    rcases Nat.lt_or_ge k out.length with hlt | hge
    · have hy := List.getElem?_eq_getElem hlt
      obtain ⟨n1, n2⟩ := h2 _ hy
      have hxy := lessN_tri n1 n2
      rw [List.drop_eq_getElem_cons hlt] at hz b
      rcases List.mem_cons.1 hz with rfl | hz
      · exact hxy
      · exact lessN_trans hxy ((List.pairwise_cons.1 b).1 z hz)
    · rw [List.drop_of_length_le hge] at hz
      cases hz
  rw [List.pairwise_append]
  refine ⟨a, List.pairwise_cons.2 ⟨hd, b⟩, fun y hy z hz => ?_⟩
  rcases List.mem_cons.1 hz with rfl | hz
  · exact h1 y hy
  · exact c y hy z hz
theorem ins_mem {out : List (Nat × Nat)} {x y : Nat × Nat} {k : Nat} : y ∈ out.take k ++ x :: out.drop k ↔ y ∈ out ∨ y = x := by
  conv => rhs; rw [← List.take_append_drop k out]
  simp only [List.mem_append, List.mem_cons]
  constructor
  · rintro (h | h | h)
    · exact .inl (.inl h)
    · exact .inr h
    · exact .inl (.inr h)
  · rintro ((h | h) | h)
    · exact .inl h
    · exact .inr (.inr h)
    · exact .inr (.inl h)
theorem same_len {l m : List (Nat × Nat)} (hl : l.Nodup) (hm : m.Nodup) (h : SameS l m) : l.length = m.length := ((List.perm_ext_iff_of_nodup hl hm).2 h).length_eq

/-- A square of the document: how many halvings above cells, its place, its pairs. -/
abbrev Ent := Nat × (Nat × Nat) × List (Nat × Nat)
/-- Is a pair in a square that begins at r, c and is so wide? -/
def inSq (r c s : Nat) (p : Nat × Nat) : Bool := decide (r ≤ p.1 ∧ p.1 < r + s ∧ c ≤ p.2 ∧ p.2 < c + s)
theorem div_in {x d R : Nat} (hd : 0 < d) : (R * d ≤ x ∧ x < R * d + d) ↔ x / d = R := by
  constructor
  · rintro ⟨h1, h2⟩
    refine Nat.div_eq_of_lt_le h1 ?_
    rw [Nat.succ_mul]
    exact h2
  · rintro rfl
    have h1 := Nat.div_mul_le_self x d
    have h2 := Nat.lt_div_mul_add (a := x) hd
    exact ⟨h1, h2⟩
theorem inSq_part {a q : Nat} {c : Nat × Nat} {l : List (Nat × Nat)} (h : AtC (a + 1) c l) : l.filter (inSq ((kidC c q).1 * 2 ^ a) ((kidC c q).2 * 2 ^ a) (2 ^ a)) = part a l q := by
  unfold part
  refine List.filter_congr fun p hp => ?_
  obtain ⟨h1, h2⟩ := h p hp
  have hd : 0 < 2 ^ a := Nat.pow_pos (by omega)
  rw [Nat.pow_succ, ← Nat.div_div_eq_div_mul] at h1 h2
  rw [Bool.eq_iff_iff, beq_iff_eq]
  unfold inSq
  rw [decide_eq_true_iff]
  have e1 := div_in (x := p.1) (R := (kidC c q).1) hd
  have e2 := div_in (x := p.2) (R := (kidC c q).2) hd
  unfold qN
  unfold kidC at e1 e2 ⊢
  simp only at e1 e2 ⊢
  constructor
  · rintro ⟨g1, g2, g3, g4⟩
    have f1 := e1.1 ⟨g1, g2⟩
    have f2 := e2.1 ⟨g3, g4⟩
    omega
  · intro hh
    have f1 := e1.2 (by omega)
    have f2 := e2.2 (by omega)
    exact ⟨f1.1, f1.2, f2.1, f2.2⟩
/-- The squares that are not empty, of one. -/
def entP (a : Nat) (e : Ent) (q : Nat) : List Ent := (([0, 1, 2, 3].take q).filter fun j => !(part a e.2.2 j).isEmpty).map fun j => (a, kidC e.2.1 j, part a e.2.2 j)
def entN (a : Nat) (e : Ent) : List Ent := entP a e 4
def bitP (a : Nat) (e : Ent) (q : Nat) : List Bool := ([0, 1, 2, 3].take q).map fun j => !(part a e.2.2 j).isEmpty
theorem bit_ent (a : Nat) (e : Ent) (q : Nat) : (bitP a e q).count true = (entP a e q).length := by
  unfold bitP entP
  generalize [0, 1, 2, 3].take q = l
  rw [List.length_map]
  induction l with
  | nil => rfl
  | cons x l ih =>
    rw [List.map_cons, List.filter_cons]
    cases (part a e.2.2 x).isEmpty <;> simp [ih]
theorem take4 {q : Nat} (hq : q < 4) : [0, 1, 2, 3].take (q + 1) = [0, 1, 2, 3].take q ++ [q] := by
  rcases (show q = 0 ∨ q = 1 ∨ q = 2 ∨ q = 3 by omega) with rfl | rfl | rfl | rfl <;> rfl
theorem entP_yes {a q : Nat} {e : Ent} (hq : q < 4) (h : (part a e.2.2 q).isEmpty = false) : entP a e (q + 1) = entP a e q ++ [(a, kidC e.2.1 q, part a e.2.2 q)] := by
  unfold entP
  rw [take4 hq, List.filter_append, List.map_append]
  simp [h]
theorem entP_no {a q : Nat} {e : Ent} (hq : q < 4) (h : (part a e.2.2 q).isEmpty = true) : entP a e (q + 1) = entP a e q := by
  unfold entP
  rw [take4 hq, List.filter_append, List.map_append]
  simp [h]
theorem bitP_succ {a q : Nat} {e : Ent} (hq : q < 4) : bitP a e (q + 1) = bitP a e q ++ [!(part a e.2.2 q).isEmpty] := by
  unfold bitP
  rw [take4 hq, List.map_append]
  rfl
theorem bitP_len {a q : Nat} {e : Ent} (hq : q ≤ 4) : (bitP a e q).length = q := by
  unfold bitP
  rw [List.length_map, List.length_take]
  simp
  omega
theorem bitP_four (a : Nat) (e : Ent) : bitP a e 4 = (parts a e.2.2).map fun l => !l.isEmpty := rfl
theorem entN_snd (a : Nat) (e : Ent) : (entN a e).map (·.2.2) = (parts a e.2.2).filter fun l => !l.isEmpty := by
  unfold entN entP parts
  simp only [List.take_succ_cons, List.take_zero, List.map_map]
  rcases h0 : (part a e.2.2 0).isEmpty <;> rcases h1 : (part a e.2.2 1).isEmpty <;> rcases h2 : (part a e.2.2 2).isEmpty <;> rcases h3 : (part a e.2.2 3).isEmpty <;> simp [h0, h1, h2, h3]
theorem next_ent (a : Nat) : ∀ cur : List Ent, nextL a (cur.map (·.2.2)) = (cur.flatMap (entN a)).map (·.2.2)
  | [] => rfl
  | e :: cur => by
    rw [List.map_cons, nextL_cons, List.flatMap_cons, List.map_append, entN_snd, next_ent a cur]
theorem mem_entN {a : Nat} {e x : Ent} (h : x ∈ entN a e) (ha : AtC (a + 1) e.2.1 e.2.2) : x.1 = a ∧ AtC a x.2.1 x.2.2 ∧ x.2.2.Sublist e.2.2 := by
  unfold entN entP at h
  obtain ⟨q, hq, rfl⟩ := List.mem_map.1 h
  exact ⟨rfl, ha.kid, List.filter_sublist⟩
/-- A node's square lies within the whole. -/
def FitC (h : Nat) (e : Ent) : Prop := (e.2.1.1 + 1) * 2 ^ e.1 ≤ 2 ^ h ∧ (e.2.1.2 + 1) * 2 ^ e.1 ≤ 2 ^ h
theorem FitC.kid {h a : Nat} {e x : Ent} (hx : x ∈ entN a e) (h1 : e.1 = a + 1) (hf : FitC h e) : FitC h x := by
  unfold entN entP at hx
  obtain ⟨q, hq, rfl⟩ := List.mem_map.1 hx
  have hq4 : q < 4 := by
    have := (List.mem_filter.1 hq).1
    simp at this
    omega
  obtain ⟨f1, f2⟩ := hf
  rw [h1, Nat.pow_succ] at f1 f2
  have g : ∀ c : Nat, (c + 1) * (2 ^ a * 2) ≤ 2 ^ h → ∀ r, r ≤ 1 → (2 * c + r + 1) * 2 ^ a ≤ 2 ^ h := fun c hc r hr =>
    Nat.le_trans (Nat.mul_le_mul_right _ (show 2 * c + r + 1 ≤ (c + 1) * 2 by omega)) (by rw [Nat.mul_assoc, Nat.mul_comm 2]; exact hc)
  exact ⟨g _ f1 _ (by omega), g _ f2 _ (by omega)⟩
theorem levL_nil : ∀ a, levL a [] = []
  | 0 => rfl
  | a + 1 => by unfold levL; show bitsL a [] ++ levL a (nextL a []) = []; rw [show nextL a [] = [] from rfl, levL_nil a]; rfl
/-- A kid's number as the document has it. -/
def kidJ (bs : List Bool) (M j : Nat) : Int := if bs.getD j false = true then (if 1 + (bs.take j).count true < M then ((1 + (bs.take j).count true : Nat) : Int) else -1) else -2
def kidsF (bs : List Bool) (M n : Nat) : List Int := (List.range n).map (kidJ bs M)
theorem kidsF_len (bs : List Bool) (M n : Nat) : (kidsF bs M n).length = n := by simp [kidsF]
theorem kidJ_pre {bs cs : List Bool} {M j : Nat} (h : j < bs.length) : kidJ (bs ++ cs) M j = kidJ bs M j := by
  unfold kidJ
  rw [List.take_append_of_le_length (by omega), List.getD_eq_getElem?_getD, List.getElem?_append_left h, ← List.getD_eq_getElem?_getD]
theorem kidsF_pre {bs cs : List Bool} {M n : Nat} (h : n ≤ bs.length) : kidsF (bs ++ cs) M n = kidsF bs M n :=
  List.map_congr_left fun j hj => kidJ_pre (by have := List.mem_range.1 hj; omega)
/-- The kid's number that is put: n0 nodes stand. -/
def kidV1 (a n0 : Nat) (e : Ent) (q : Nat) : Int := if (part a e.2.2 q).isEmpty then -2 else if a = 0 then -1 else ((n0 + (entP a e q).length : Nat) : Int)
theorem kidsF_four {bs : List Bool} {M n a n0 : Nat} {e : Ent} (hn : bs.length = n) (hM : if a = 0 then M ≤ 1 + bs.count true else (n0 = 1 + bs.count true ∧ n0 + (entN a e).length ≤ M)) :
    kidsF (bs ++ bitP a e 4) M (n + 4) = kidsF bs M n ++ [kidV1 a n0 e 0, kidV1 a n0 e 1, kidV1 a n0 e 2, kidV1 a n0 e 3] := by
  have step : ∀ q, q < 4 → kidJ (bs ++ bitP a e 4) M (n + q) = kidV1 a n0 e q := by
    intro q hq
    have hb : bitP a e 4 = bitP a e q ++ (!(part a e.2.2 q).isEmpty) :: (bitP a e 4).drop (q + 1) := by
      rcases (show q = 0 ∨ q = 1 ∨ q = 2 ∨ q = 3 by omega) with rfl | rfl | rfl | rfl <;> rfl
    have hl := bitP_len (a := a) (e := e) (q := q) (by omega)
    have hc := bit_ent a e q
    have hle : (entP a e q).length ≤ (entN a e).length := by
      unfold entN entP
      rw [List.length_map, List.length_map]
      exact (List.Sublist.filter _ (by rcases (show q = 0 ∨ q = 1 ∨ q = 2 ∨ q = 3 by omega) with rfl | rfl | rfl | rfl <;> decide)).length_le
    have hlt : (part a e.2.2 q).isEmpty = false → (entP a e q).length < (entN a e).length := by
      intro hne
      have h1 := entP_yes hq hne
      have h2 : (entP a e (q + 1)).length ≤ (entN a e).length := by
        unfold entN entP
        rw [List.length_map, List.length_map]
        exact (List.Sublist.filter _ (by rcases (show q = 0 ∨ q = 1 ∨ q = 2 ∨ q = 3 by omega) with rfl | rfl | rfl | rfl <;> decide)).length_le
      rw [h1, List.length_append] at h2
      simp at h2
      omega
    unfold kidJ kidV1
    have hg : (bs ++ bitP a e 4).getD (n + q) false = !(part a e.2.2 q).isEmpty := by
      rw [List.getD_eq_getElem?_getD, List.getElem?_append_right (by omega), hn, show n + q - n = q by omega, hb, List.getElem?_append_right (by omega), hl, Nat.sub_self]
      rfl
    have ht : ((bs ++ bitP a e 4).take (n + q)).count true = bs.count true + (entP a e q).length := by
      rw [List.take_append, List.take_of_length_le (by omega), hn, show n + q - n = q by omega, hb, List.take_append_of_le_length (by omega), List.take_of_length_le (by omega), List.count_append, hc]
    rw [hg, ht]
    cases he : (part a e.2.2 q).isEmpty
    · have := hlt he
      by_cases ha : a = 0
      · rw [if_pos ha] at hM
        simp [ha]
        omega
      · rw [if_neg ha] at hM
        simp [ha]
        rw [if_pos (by omega)]
        omega
    · simp
  unfold kidsF
  rw [show n + 4 = n + 1 + 1 + 1 + 1 from rfl, List.range_succ, List.range_succ, List.range_succ, List.range_succ]
  simp only [List.map_append, List.map_cons, List.map_nil, List.append_assoc, List.cons_append, List.nil_append]
  have h0 := step 0 (by omega)
  have h1 := step 1 (by omega)
  have h2 := step 2 (by omega)
  have h3 := step 3 (by omega)
  rw [Nat.add_zero] at h0
  rw [h0, h1, show n + 1 + 1 = n + 2 from rfl, h2, show n + 2 + 1 = n + 3 from rfl, h3]
  congr 1
  refine List.map_congr_left fun j hj => kidJ_pre (by have := List.mem_range.1 hj; omega)
/-- How far the document has come: i nodes are done; those that stand, the bits, the kids. -/
def Bfs (h : Nat) (L : List (Nat × Nat)) (i : Nat) (Q : List Ent) (bs : List Bool) (ks : List Int) : Prop :=
  ∃ (a : Nat) (pre : List Bool) (off k : Nat) (Q0 cur : List Ent), Q0.length = off ∧ i = off + k ∧ k ≤ cur.length ∧
    Q = Q0 ++ cur ++ (if a = 0 then [] else (cur.take k).flatMap (entN a)) ∧ bs = pre ++ bitsL a ((cur.take k).map (·.2.2)) ∧ levL h [L] = pre ++ levL (a + 1) (cur.map (·.2.2)) ∧
    (∀ e ∈ cur, e.1 = a + 1 ∧ AtC (a + 1) e.2.1 e.2.2 ∧ e.2.2.Sublist L ∧ FitC h e) ∧ Ahead pre off cur.length ∧ (∀ M, (if a = 0 then M = Q.length else Q.length ≤ M) → ks = kidsF bs M (4 * i)) ∧ a + 1 ≤ h
theorem Bfs.start {h : Nat} {L : List (Nat × Nat)} (h1 : 1 ≤ h) (hL : ∀ p ∈ L, p.1 < 2 ^ h ∧ p.2 < 2 ^ h) : Bfs h L 0 [(h, (0, 0), L)] [] [] := by
  obtain ⟨a, rfl⟩ : ∃ a, h = a + 1 := ⟨h - 1, by omega⟩
  refine ⟨a, [], 0, 0, [], [(a + 1, (0, 0), L)], rfl, rfl, by simp, ?_, rfl, rfl, fun e he => ?_, ⟨rfl, rfl⟩, fun M _ => rfl, Nat.le_refl _⟩
  · cases a <;> rfl
  · rw [List.mem_singleton] at he
    subst he
    exact ⟨rfl, fun p hp => ⟨Nat.div_eq_of_lt (hL p hp).1, Nat.div_eq_of_lt (hL p hp).2⟩, List.Sublist.refl _, by unfold FitC; simp⟩
/-- What a node is that is not done yet, and what is done then. -/
theorem Bfs.step {h i : Nat} {L : List (Nat × Nat)} {Q : List Ent} {bs : List Bool} {ks : List Int} (hB : Bfs h L i Q bs ks) (hi : i < Q.length) :
    ∃ (a : Nat) (e : Ent), Q[i]? = some e ∧ e.1 = a + 1 ∧ AtC (a + 1) e.2.1 e.2.2 ∧ e.2.2.Sublist L ∧ FitC h e ∧ a + 1 ≤ h ∧ bs.length = 4 * i ∧ bs.length + 4 ≤ (levL h [L]).length ∧ Q.length ≤ 1 + bs.count true ∧
      Bfs h L (i + 1) (Q ++ (if a = 0 then [] else entN a e)) (bs ++ bitP a e 4) (ks ++ [kidV1 a Q.length e 0, kidV1 a Q.length e 1, kidV1 a Q.length e 2, kidV1 a Q.length e 3]) := by
  -- a level that has nodes left
  have norm : ∃ (a : Nat) (pre : List Bool) (off k : Nat) (Q0 cur : List Ent), Q0.length = off ∧ i = off + k ∧ k < cur.length ∧
    Q = Q0 ++ cur ++ (if a = 0 then [] else (cur.take k).flatMap (entN a)) ∧ bs = pre ++ bitsL a ((cur.take k).map (·.2.2)) ∧ levL h [L] = pre ++ levL (a + 1) (cur.map (·.2.2)) ∧
    (∀ e ∈ cur, e.1 = a + 1 ∧ AtC (a + 1) e.2.1 e.2.2 ∧ e.2.2.Sublist L ∧ FitC h e) ∧ Ahead pre off cur.length ∧ (∀ M, (if a = 0 then M = Q.length else Q.length ≤ M) → ks = kidsF bs M (4 * i)) ∧ a + 1 ≤ h := by
    obtain ⟨a, pre, off, k, Q0, cur, h1, h2, h3, h4, h5, h6, h7, h8, h9, h10⟩ := hB
    rcases Nat.lt_or_ge k cur.length with hk | hk
    · exact ⟨a, pre, off, k, Q0, cur, h1, h2, hk, h4, h5, h6, h7, h8, h9, h10⟩
    · have hk' : k = cur.length := by omega
      have ha : a ≠ 0 := by
        rintro rfl
        rw [if_pos rfl, List.append_nil] at h4
        rw [h4, List.length_append] at hi
        omega
      obtain ⟨b, rfl⟩ : ∃ b, a = b + 1 := ⟨a - 1, by omega⟩
      rw [if_neg ha, hk', List.take_length] at h4
      rw [hk', List.take_length] at h5
      have hlen : Q.length = off + cur.length + (cur.flatMap (entN (b + 1))).length := by rw [h4, List.length_append, List.length_append, h1]
      refine ⟨b, bs, off + cur.length, 0, Q0 ++ cur, cur.flatMap (entN (b + 1)), by rw [List.length_append, h1], by omega, by omega, ?_, ?_, ?_, fun x hx => ?_, ?_, fun M hM => h9 M ?_, by omega⟩
      · rw [h4]; cases b <;> simp
      · show bs = bs ++ bitsL b []
        rw [show bitsL b [] = [] from rfl, List.append_nil]
      · rw [h6, h5, List.append_assoc]
        congr 1
        show bitsL (b + 1) _ ++ levL (b + 1) (nextL (b + 1) _) = _
        rw [next_ent]
      · obtain ⟨e, he, hxe⟩ := List.mem_flatMap.1 hx
        obtain ⟨g1, g2, g3, g4⟩ := h7 e he
        obtain ⟨f1, f2, f3⟩ := mem_entN hxe g2
        exact ⟨f1, f2, f3.trans g3, g4.kid hxe g1⟩
      · have := Ahead.next (b + 1) (sq := cur.map (·.2.2)) (by rw [List.length_map]; exact h8)
        rw [← h5, next_ent, List.length_map, List.length_map] at this
        exact this
      · rw [if_neg ha]
        split at hM <;> omega
  obtain ⟨a, pre, off, k, Q0, cur, h1, h2, h3, h4, h5, h6, h7, h8, h9, h10⟩ := norm
  obtain ⟨e, he⟩ : ∃ e, cur[k]? = some e := ⟨_, List.getElem?_eq_getElem h3⟩
  obtain ⟨g1, g2, g3, g4⟩ := h7 e (List.mem_of_getElem? he)
  have htk : cur.take (k + 1) = cur.take k ++ [e] := by rw [List.take_add_one, he]; rfl
  have hbl : bs.length = 4 * i := by
    rw [h5, List.length_append, bitsL_len, List.length_map, List.length_take, h8.1]
    omega
  have hcnt : bs.count true = pre.count true + ((cur.take k).flatMap (entN a)).length := by
    rw [h5, List.count_append, bits_count, next_ent, List.length_map]
  have hQl : Q.length = off + cur.length + (if a = 0 then 0 else ((cur.take k).flatMap (entN a)).length) := by
    rw [h4, List.length_append, List.length_append, h1]
    by_cases ha : a = 0
    · rw [if_pos ha, if_pos ha]; rfl
    · rw [if_neg ha, if_neg ha]
  have h82 := h8.2
  refine ⟨a, e, ?_, g1, g2, g3, g4, h10, hbl, ?_, ?_, a, pre, off, k + 1, Q0, cur, h1, by omega, by omega, ?_, ?_, h6, h7, h8, fun M hM => ?_, h10⟩
  · rw [h4, h2, List.append_assoc, List.getElem?_append_right (by omega), h1, show off + k - off = k by omega, List.getElem?_append_left h3]
    exact he
  · have e1 : levL (a + 1) (cur.map (·.2.2)) = bitsL a (cur.map (·.2.2)) ++ levL a (nextL a (cur.map (·.2.2))) := rfl
    rw [h6, e1, List.length_append, List.length_append, bitsL_len, List.length_map, hbl, h8.1]
    omega
  · split at hQl <;> omega
  · rw [htk, List.flatMap_append, h4]
    by_cases ha : a = 0
    · simp [ha]
    · simp [ha]
  · rw [htk, List.map_append, h5, List.append_assoc]
    congr 1
    unfold bitsL
    rw [List.flatMap_append, List.map_append]
    rw [bitP_four]
    simp
  · rw [show 4 * (i + 1) = 4 * i + 4 by omega, kidsF_four (n0 := Q.length) hbl, ← h9 M]
    · by_cases ha : a = 0
      · rw [if_pos ha] at hM ⊢
        rw [if_pos ha, List.append_nil] at hM
        exact hM
      · rw [if_neg ha] at hM ⊢
        rw [if_neg ha, List.length_append] at hM
        omega
    · by_cases ha : a = 0
      · rw [if_pos ha] at hM hQl ⊢
        rw [if_pos ha, List.append_nil] at hM
        omega
      · rw [if_neg ha] at hM hQl ⊢
        rw [if_neg ha, List.length_append] at hM
        omega
theorem Bfs.done {h i : Nat} {L : List (Nat × Nat)} {Q : List Ent} {bs : List Bool} {ks : List Int} (hB : Bfs h L i Q bs ks) (hi : i = Q.length) : bs = levL h [L] ∧ bs.length = 4 * i ∧ ks = kidsF bs i (4 * i) := by
  obtain ⟨a, pre, off, k, Q0, cur, h1, h2, h3, h4, h5, h6, h7, h8, h9, h10⟩ := hB
  have hQl : Q.length = off + cur.length + (if a = 0 then 0 else ((cur.take k).flatMap (entN a)).length) := by
    rw [h4, List.length_append, List.length_append, h1]
    by_cases ha : a = 0
    · rw [if_pos ha, if_pos ha]; rfl
    · rw [if_neg ha, if_neg ha]
  have hk : k = cur.length := by split at hQl <;> omega
  have hbl : bs.length = 4 * i := by
    rw [h5, List.length_append, bitsL_len, List.length_map, List.length_take, h8.1]
    omega
  refine ⟨?_, hbl, h9 i (by split <;> omega)⟩
  rw [hk, List.take_length] at h5
  rw [h5, h6]
  congr 1
  show _ = bitsL a _ ++ levL a (nextL a _)
  have : levL a (nextL a (cur.map (·.2.2))) = [] := by
    by_cases ha : a = 0
    · subst ha; rfl
    · rw [if_neg ha, hk, List.take_length] at hQl
      have hz : cur.flatMap (entN a) = [] := List.eq_nil_of_length_eq_zero (by omega)
      rw [next_ent, hz]
      exact levL_nil a
  rw [this, List.append_nil]
end Go.Proofs.Ytldmabkilgpgcaa
