/-
  LAYER 1: the place of a one, by how many stand below it.
  LAYER 1: what a vector tells.
  LAYER 1: a vector is made.
  LAYER 1: a vector's bytes.
  CONDITIONS: as each lemma says.
-/
import Derived.Test.YtpmdfklhgabfgaaQ16
import Derived.StillTailTactics
namespace Go.Proofs.Ytpmdfklhgabfgaa
open Go.RowKit

theorem clrN_zero (l : List Bool) : clrN 0 l = l := by cases l <;> rfl
theorem wordL_sel {bs : List Bool} {wd k i : Nat} (h : IsSel (wordL bs wd) k i) : IsSel bs (k + cntI bs (64 * wd)) (64 * wd + i) := (IsSel.take h).drop
theorem wordL_count (bs : List Bool) (k : Nat) : popN 64 (bitN (wordL bs k)) = (wordL bs k).count true := popN_bitN 64 _ (wordL_len bs k)

end Go.Proofs.Ytpmdfklhgabfgaa
namespace Go.Proofs.Ytpmdfklhgabfgaa
open Go.RowKit

/-- The place of a one as the document has it. -/
def selO (bs : List Bool) (k : Int) : Option Nat := if k < 0 then none else (List.range bs.length).find? fun i => (bs[i]? == some true) && (cntI bs i == k.toNat)
theorem selO_some {bs : List Bool} {k : Int} {i : Nat} (h0 : 0 ≤ k) (h : IsSel bs k.toNat i) : selO bs k = some i := by
  unfold selO
  rw [if_neg (by omega)]
  have hi : i < bs.length := (List.getElem?_eq_some_iff.1 h.1).1
  cases hf : (List.range bs.length).find? (fun i => (bs[i]? == some true) && (cntI bs i == k.toNat)) with
  | none =>
    have := List.find?_eq_none.1 hf i (List.mem_range.2 hi)
    exfalso
    apply this
    have h2 : cntI bs i = k.toNat := h.2
    simp [h.1, h2]
  | some j =>
    have hj := List.find?_some hf
    simp only [Bool.and_eq_true, beq_iff_eq] at hj
    have : IsSel bs k.toNat j := ⟨hj.1, hj.2⟩
    rw [this.unique h]
theorem selO_none {bs : List Bool} {k : Int} (h : k < 0 ∨ (bs.count true : Int) ≤ k) : selO bs k = none := by
  unfold selO
  by_cases h0 : k < 0
  · rw [if_pos h0]
  · rw [if_neg h0, List.find?_eq_none]
    intro i hi hc
    simp only [Bool.and_eq_true, beq_iff_eq] at hc
    have : IsSel bs k.toNat i := ⟨hc.1, hc.2⟩
    have := this.lt
    omega
def selI (bs : List Bool) (k : Int) : Int := (((selO bs k).getD 0 : Nat) : Int)
def selB (bs : List Bool) (k : Int) : Bool := (selO bs k).isSome
def getB (bs : List Bool) (i : Int) : Bool := if i < 0 then false else bs.getD i.toNat false
/-- How many ones stand below a place, whatever number it is. -/
def rankI (bs : List Bool) (i : Int) : Nat := cntI bs (min (max i 0) (bs.length : Int)).toNat
/-- Behind a call: the vector is what it was; only its own blocks have changed. -/
def VPost (w w' : World) (S : List Nat) (p : Nat) (bs : List Bool) (c : Bool) : Prop := ∃ S' c', VecM w' S' p bs c' ∧ Kp S w w' ∧ Grow w S S' ∧ (c = true → c' = true ∧ S = S' ∧ Kp [] w w')

/-- The same, of a call that counts. -/
def VPostT (w w' : World) (S : List Nat) (p : Nat) (bs : List Bool) (c : Bool) : Prop := ∃ S', VecM w' S' p bs true ∧ Kp S w w' ∧ Grow w S S' ∧ (c = true → S = S' ∧ Kp [] w w')
theorem VPostT.post {w w' : World} {S : List Nat} {p : Nat} {bs : List Bool} {c : Bool} (h : VPostT w w' S p bs c) : VPost w w' S p bs c := by
  obtain ⟨S', h1, h2, h3, h4⟩ := h
  exact ⟨S', true, h1, h2, h3, fun h => ⟨rfl, h4 h⟩⟩

theorem vthere_any (S : List Nat) (p : Nat) (bs : List Bool) (c : Bool) (w : World) (h : VecM w S p bs c) :
    Calls Try.prog 54 #[.pointer (some ⟨p, 0, none⟩)] w fun e w' => e = .returned (.bool true) ∧ w = w' := by
  obtain ⟨_, _, c4, _⟩ := h.tail
  clear h
  go_enter Try.func54, Try.ntmps54
  go_wp2_with fail
  go_ret
  exact ⟨rfl, rfl⟩
theorem vlen_any (S : List Nat) (p n : Nat) (bs : List Bool) (c : Bool) (w : World) (h : VecM w S p bs c) (hn : bs.length = n) :
    Calls Try.prog 25 #[.pointer (some ⟨p, 0, none⟩)] w fun e w' => e = .returned (.int .i64 (n : Int)) ∧ w = w' := by
  obtain ⟨_, c3, _, _⟩ := h.tail
  rw [hn] at c3
  clear hn
  go_enter Try.func25, Try.ntmps25
  go_wp2_with fail
  refine (vthere_any S p bs c w h).mono ?_
  rintro e w1 ⟨rfl, rfl⟩
  go_wp2_with fail
  go_ret
  exact ⟨rfl, rfl⟩
theorem vis_any (S : List Nat) (p n : Nat) (i : Int) (bs : List Bool) (c : Bool) (w : World) (h : VecM w S p bs c) (hn : bs.length = n) :
    Calls Try.prog 72 #[.pointer (some ⟨p, 0, none⟩), .int .i64 i] w fun e w' => e = .returned (.bool (decide (0 ≤ i ∧ i < (n : Int)))) ∧ w = w' := by
  obtain ⟨_, c3, _, _⟩ := h.tail
  rw [hn] at c3
  clear hn h
  by_cases h0 : 0 ≤ i
  · by_cases h1 : i < (n : Int)
    · have hd := Lib.hid (show decide (0 ≤ i ∧ i < (n : Int)) = true by simp; omega)
      obtain ⟨qv, hqv⟩ : ∃ qv, qv = decide (0 ≤ i ∧ i < (n : Int)) := ⟨_, rfl⟩
      rw [← hqv]
      have hd := Lib.hid (hqv.trans hd.out)
      clear hqv
      go_enter Try.func72, Try.ntmps72
      go_wp2_with fail
      go_ret
      exact ⟨by rw [hd.out]; rfl, rfl⟩
    · have hd := Lib.hid (show decide (0 ≤ i ∧ i < (n : Int)) = false by simp; omega)
      have hd1 : decide (i < (n : Int)) = false := by simp; omega
      obtain ⟨qv, hqv⟩ : ∃ qv, qv = decide (0 ≤ i ∧ i < (n : Int)) := ⟨_, rfl⟩
      rw [← hqv]
      have hd := Lib.hid (hqv.trans hd.out)
      clear hqv
      go_enter Try.func72, Try.ntmps72
      go_wp2_with fail
      go_ret
      exact ⟨by rw [hd.out]; rfl, rfl⟩
  · have hd := Lib.hid (show decide (0 ≤ i ∧ i < (n : Int)) = false by simp; omega)
    have h00 : i < 0 := by omega
    obtain ⟨qv, hqv⟩ : ∃ qv, qv = decide (0 ≤ i ∧ i < (n : Int)) := ⟨_, rfl⟩
    rw [← hqv]
    have hd := Lib.hid (hqv.trans hd.out)
    clear hqv
    go_enter Try.func72, Try.ntmps72
    go_wp2_with fail
    go_ret
    exact ⟨by rw [hd.out]; rfl, rfl⟩

set_option maxRecDepth 100000 in
set_option maxHeartbeats 2000000 in
theorem vget_any (S : List Nat) (p : Nat) (i : Int) (bs : List Bool) (c : Bool) (w : World) (h : VecM w S p bs c) :
    Calls Try.prog 55 #[.pointer (some ⟨p, 0, none⟩), .int .i64 i] w fun e w' => e = .returned (.bool (getB bs i)) ∧ w = w' := by
  have HV := Lib.hid h; clear h
  obtain ⟨n, hn⟩ : ∃ n, bs.length = n := ⟨_, rfl⟩
  have HN := Lib.hid hn; clear hn
  by_cases hin : 0 ≤ i ∧ i < (n : Int)
  · obtain ⟨I, rfl⟩ : ∃ I : Nat, i = (I : Int) := ⟨i.toNat, by omega⟩
    have hIn : I < n := by omega
    obtain ⟨b, hb⟩ : ∃ b, bs[I]? = some b := ⟨_, List.getElem?_eq_getElem (by rw [HN.out]; exact hIn)⟩
    have HG := Lib.hid (show getB bs (I : Int) = b by
      unfold getB
      rw [if_neg (by omega), Int.toNat_natCast, List.getD_eq_getElem?_getD, hb]
      rfl)
    obtain ⟨g, c0, hcw⟩ := HV.out.words
    obtain ⟨_, _, _, hnb⟩ := HV.out.tail
    obtain ⟨m, hm⟩ : ∃ m, m = wordsOf bs.length := ⟨_, rfl⟩
    rw [← hm] at c0 hcw
    obtain ⟨q, hq⟩ : ∃ q, q = I / 64 := ⟨_, rfl⟩
    obtain ⟨r, hr⟩ : ∃ r, r = I % 64 := ⟨_, rfl⟩
    have hqm : q < m := by unfold wordsOf at hm; rw [HN.out] at hm; omega
    have cx := hcw q hqm
    obtain ⟨x, hx⟩ : ∃ x, x = bitN (wordL bs q) := ⟨_, rfl⟩
    have hxb : x < 2 ^ 64 := by rw [hx]; exact bitN_wordL_lt _ _
    rw [← hx] at cx
    have hdiv : (I : Int).tdiv 64 = (q : Int) := by rw [Int.tdiv_eq_ediv_of_nonneg (by omega)]; omega
    have hmod : (I : Int).tmod 64 = (r : Int) := by rw [Int.tmod_eq_emod_of_nonneg (by omega)]; omega
    rw [HN.out] at hnb
    have hwq : IntKind.i64.wrap (q : Int) = (q : Int) := by rw [IntKind.wrap_i64]; omega
    have hwr : IntKind.i64.wrap (r : Int) = (r : Int) := by rw [IntKind.wrap_i64]; omega
    have hr64 : r < 64 := by omega
    obtain ⟨y, hy⟩ : ∃ y, y = x / 2 ^ r := ⟨_, rfl⟩
    have hdx : (x : Int) / 2 ^ r = (y : Int) := by rw [hy]; simp
    have hdx' : (x : Int) / 2 ^ min r 64 = (y : Int) := by rw [show min r 64 = r from by omega]; exact hdx
    have hyb : y < 2 ^ 64 := by rw [hy]; exact Nat.lt_of_le_of_lt (Nat.div_le_self _ _) hxb
    obtain ⟨t, ht⟩ : ∃ t, t = y % 2 := ⟨_, rfl⟩
    have hand : bits .and .u64 (y : Int) 1 = (t : Int) := by
      have := u64_and_nat y 1 (by omega) (by omega)
      rw [Nat.and_one_is_mod, ← ht] at this
      exact this
    have htb : t = b.toNat := by
      rw [ht, hy, hx]
      refine bitN_bit (l := wordL bs q) (i := r) ?_
      unfold wordL
      rw [List.getElem?_take, if_pos hr64, List.getElem?_drop, show 64 * q + r = I by omega, hb]
    have heq : ((t : Int) == 1) = b := by rw [htb]; cases b <;> rfl
    have hqi : (q : Int) < (m : Int) := by omega
    have hdd : decide (0 ≤ (I : Int) ∧ (I : Int) < (n : Int)) = true := by simp; omega
    clear hb hcw hnb hm hq hr hx hxb hy hyb ht htb hin
    go_enter Try.func55, Try.ntmps55
    go_wp2_with fail
    refine (vthere_any S p bs c w HV.out).mono ?_
    rintro e w1 ⟨rfl, rfl⟩
    go_wp2_with fail
    refine (vis_any S p n I bs c w HV.out HN.out).mono ?_
    rintro e w1 ⟨rfl, rfl⟩
    rw [hdd]
    go_wp2_with fail
    go_ret
    exact ⟨by rw [HG.out]; rfl, rfl⟩
  · have HG := Lib.hid (show getB bs i = false by
      unfold getB
      by_cases h0 : i < 0
      · rw [if_pos h0]
      · rw [if_neg h0, List.getD_eq_getElem?_getD, List.getElem?_eq_none (by rw [HN.out]; omega)]
        rfl)
    have hdd : decide (0 ≤ i ∧ i < (n : Int)) = false := by simpa using hin
    clear hin
    go_enter Try.func55, Try.ntmps55
    go_wp2_with fail
    refine (vthere_any S p bs c w HV.out).mono ?_
    rintro e w1 ⟨rfl, rfl⟩
    go_wp2_with fail
    refine (vis_any S p n i bs c w HV.out HN.out).mono ?_
    rintro e w1 ⟨rfl, rfl⟩
    rw [hdd]
    go_wp2_with fail
    go_ret
    exact ⟨by rw [HG.out]; rfl, rfl⟩

end Go.Proofs.Ytpmdfklhgabfgaa
namespace Go.Proofs.Ytpmdfklhgabfgaa
open Go.RowKit

theorem Try.info_u64 : (Try.prog.info? 122).map (fun i => (i.zero, i.size, i.bytes)) = some (some (.int .u64 0), 1, 8) := by kernel_rfl
theorem num_zero (m : Nat) : num (List.replicate m 0) = 0 := by
  induction m with
  | zero => rfl
  | succ m ih => rw [List.replicate_succ]; show 0 + 2 ^ 64 * num _ = 0; rw [ih]
/-- A word padded to 64 bits. -/
def padL (bs : List Bool) (q : Nat) : List Bool := wordL bs q ++ List.replicate (64 - (wordL bs q).length) false
theorem padL_len (bs : List Bool) (q : Nat) : (padL bs q).length = 64 := by
  unfold padL
  rw [List.length_append, List.length_replicate]
  have := wordL_len bs q
  omega
theorem padL_bitN (bs : List Bool) (q : Nat) : bitN (padL bs q) = bitN (wordL bs q) := by
  unfold padL
  rw [bitN_app, bitN_zeros, Nat.mul_zero, Nat.add_zero]
theorem padL_get {bs : List Bool} {k : Nat} (h : k < bs.length) : (padL bs (k / 64))[k % 64]? = bs[k]? := by
  have hr : k % 64 < 64 := Nat.mod_lt _ (by decide)
  have e : (wordL bs (k / 64))[k % 64]? = bs[k]? := by
    unfold wordL
    rw [List.getElem?_take, if_pos hr, List.getElem?_drop, Nat.div_add_mod]
  have hl : k % 64 < (wordL bs (k / 64)).length := by
    rw [List.getElem?_eq_getElem h] at e
    exact (List.getElem?_eq_some_iff.1 e).1
  unfold padL
  rw [List.getElem?_append_left hl, e]
/-- One bit is put into a word: the words are the bits with that one put. -/
theorem num_put {ws : List Nat} {bs : List Bool} {k x : Nat} (hw : ∀ x ∈ ws, x < 2 ^ 64) (hn : num ws = bitN bs) (hk : k < bs.length) (hx : ws[k / 64]? = some x) (v : Bool) :
    num (ws.set (k / 64) (bitN ((padL bs (k / 64)).set (k % 64) v))) = bitN (bs.set k v) := by
  have e0 : x = bitN (padL bs (k / 64)) := by rw [padL_bitN]; exact word_bits hw hn hx
  obtain ⟨b, hb⟩ : ∃ b, bs[k]? = some b := ⟨_, List.getElem?_eq_getElem hk⟩
  have e1 := bitN_set hb v
  have e2 := bitN_set ((padL_get hk).trans hb) v
  have e3 := num_set hx (bitN ((padL bs (k / 64)).set (k % 64) v))
  rw [← e0] at e2
  obtain ⟨y, hy⟩ : ∃ y, y = bitN ((padL bs (k / 64)).set (k % 64) v) := ⟨_, rfl⟩
  rw [← hy] at e2 e3 ⊢
  have e4 : 2 ^ (64 * (k / 64)) * (y + b.toNat * 2 ^ (k % 64)) = 2 ^ (64 * (k / 64)) * (x + v.toNat * 2 ^ (k % 64)) := by rw [e2]
  have e5 : ∀ c : Nat, 2 ^ (64 * (k / 64)) * (c * 2 ^ (k % 64)) = c * 2 ^ k := fun c => by
    rw [← Nat.mul_assoc, Nat.mul_comm _ c, Nat.mul_assoc, ← Nat.pow_add, Nat.div_add_mod]
  rw [Nat.mul_add, Nat.mul_add, e5, e5] at e4
  rw [hn] at e3
  omega
theorem or_put {ws : List Nat} {bs : List Bool} {k x : Nat} (hw : ∀ x ∈ ws, x < 2 ^ 64) (hn : num ws = bitN bs) (hx : ws[k / 64]? = some x) : x ||| 2 ^ (k % 64) = bitN ((padL bs (k / 64)).set (k % 64) true) := by
  rw [← bitN_set_one (by rw [padL_len]; exact Nat.mod_lt _ (by decide)), padL_bitN]
  rw [show bitN (wordL bs (k / 64)) = x from (word_bits hw hn hx).symm]
theorem clear_put {ws : List Nat} {bs : List Bool} {k x : Nat} (hw : ∀ x ∈ ws, x < 2 ^ 64) (hn : num ws = bitN bs) (hx : ws[k / 64]? = some x) : x &&& (2 ^ 64 - 1 - 2 ^ (k % 64)) = bitN ((padL bs (k / 64)).set (k % 64) false) := by
  have h := bitN_clear_one (l := padL bs (k / 64)) (r := k % 64) (by rw [padL_len]; exact Nat.mod_lt _ (by decide))
  rw [padL_len, padL_bitN, show bitN (wordL bs (k / 64)) = x from (word_bits hw hn hx).symm] at h
  exact h
theorem put_lt (bs : List Bool) (q r : Nat) (v : Bool) : bitN ((padL bs q).set r v) < 2 ^ 64 := by
  have h := bitN_lt ((padL bs q).set r v)
  rwa [List.length_set, padL_len] at h

theorem bnew_neg (n : Int) (w : World) (h : n < 0) : Calls Try.prog 69 #[.int .i64 n] w fun e w' => e = .returned (.tuple #[.pointer none, .int .i64 2]) ∧ w = w' := by
  go_enter Try.func69, Try.ntmps69
  go_wp2_with fail
  go_ret2
  exact ⟨rfl, rfl⟩
theorem bnew_long (n : Nat) (w : World) (h : 16777216 < n) : Calls Try.prog 69 #[.int .i64 n] w fun e w' => e = .returned (.tuple #[.pointer none, .int .i64 3]) ∧ w = w' := by
  go_enter Try.func69, Try.ntmps69
  go_wp2_with fail
  go_ret2
  exact ⟨rfl, rfl⟩

set_option maxRecDepth 100000 in
set_option maxHeartbeats 2000000 in
theorem bnew_any (n : Nat) (w : World) (h : n ≤ 16777216) : Calls Try.prog 69 #[.int .i64 n] w fun e w' =>
    ∃ S p, e = .returned (.tuple #[.pointer (some ⟨p, 0, none⟩), .int .i64 0]) ∧ VecM w' S p (List.replicate n false) false ∧ (∀ x ∈ S, w.heap.size ≤ x) ∧ Kp [] w w' := by
  obtain ⟨i0, hi, hz0, hz1, hz2⟩ := info_parts Try.info_u64
  obtain ⟨m, hm⟩ : ∃ m, m = (n + 63) / 64 := ⟨_, rfl⟩
  have hw1 : IntKind.i64.wrap ((n : Int) + 64) = ((n + 64 : Nat) : Int) := by rw [IntKind.wrap_i64]; omega
  have hw2 : IntKind.i64.wrap ((n : Int) + 64 - 1) = ((n + 63 : Nat) : Int) := by rw [IntKind.wrap_i64]; omega
  have hw3 : Int.tdiv ((n : Int) + 63) 64 = (m : Int) := by rw [Int.tdiv_eq_ediv_of_nonneg (by omega)]; omega
  have hw4 : IntKind.i64.wrap (m : Int) = (m : Int) := by rw [IntKind.wrap_i64]; omega
  have hmb : m ≤ 1000000 := by omega
  have hmk := run_make_list (P := Try.prog) 99 122 i0 (.int .u64 0) Try.underlying99 hi hz0 hz1 rfl .i64 .i64 m (by rw [hz2]; omega) (by omega)
  have HM := Lib.hid hm
  clear hm hi hz0 hz1 hz2
  go_enter Try.func69, Try.ntmps69
  go_wp2_with fail
  go_ret2
  have b1 := Blk.new w 122 (List.replicate m (.int .u64 0))
  have b2 := Blk.new (w.alloc (.cells (List.replicate m (.int .u64 0)).toArray 122)) 103 [.slice (some ⟨w.heap.size, 0, none⟩) m m, .slice none 0 0, .bool false, .int .i64 (n : Int), .bool true]
  have e : (w.alloc (.cells (List.replicate m (.int .u64 0)).toArray 122)).heap.size = w.heap.size + 1 := by simp
  rw [e] at b2
  refine ⟨[w.heap.size + 1, w.heap.size], w.heap.size + 1, rfl, ⟨w.heap.size, List.replicate m 0, none, 0, 0, [], ?_, ?_, ?_, ?_, ?_, ?_, ?_, ?_, rfl⟩, ?_, ((Kp.refl [] w).alloc _).alloc _⟩
  · rw [List.length_replicate, List.length_replicate]
    simpa using b2
  · have := b1.alloc (.cells [.slice (some ⟨w.heap.size, 0, none⟩) m m, .slice none 0 0, .bool false, .int .i64 (n : Int), .bool true].toArray 103)
    simpa [wordsV] using this
  · intro x hx; rw [List.eq_of_mem_replicate hx]; decide
  · rw [List.length_replicate, List.length_replicate, HM.out]
  · rw [num_zero, bitN_zeros]
  · rw [List.length_replicate]; exact h
  · exact ⟨rfl, .inl ⟨rfl, rfl⟩⟩
  · intro h; cases h
  · intro x hx
    simp only [List.mem_cons, List.not_mem_nil, or_false] at hx
    omega

/-- The vector that Of has behind k of its rounds. -/
def ofL (bs : List Bool) (k : Nat) : List Bool := bs.take k ++ List.replicate (bs.length - k) false
theorem ofL_len {bs : List Bool} {k : Nat} (h : k ≤ bs.length) : (ofL bs k).length = bs.length := by
  unfold ofL
  rw [List.length_append, List.length_take, List.length_replicate]
  omega
theorem ofL_succ {bs : List Bool} {k : Nat} {b : Bool} (h : bs[k]? = some b) : ofL bs (k + 1) = (ofL bs k).set k b := by
  have hk := (List.getElem?_eq_some_iff.1 h).1
  have hl : (bs.take k).length = k := by rw [List.length_take]; omega
  unfold ofL
  rw [take_succ_of h, show bs.length - k = bs.length - (k + 1) + 1 by omega, List.replicate_succ, List.set_append_right _ _ (by omega), hl, Nat.sub_self, List.set_cons_zero]
  simp
theorem ofL_false {bs : List Bool} {k : Nat} (h : bs[k]? = some false) : ofL bs (k + 1) = ofL bs k := by
  have hk := (List.getElem?_eq_some_iff.1 h).1
  unfold ofL
  rw [take_succ_of h, show bs.length - k = bs.length - (k + 1) + 1 by omega, List.replicate_succ]
  simp
theorem ofL_all (bs : List Bool) : ofL bs bs.length = bs := by simp [ofL]

theorem bof_long (A : Option Addr) (n c : Nat) (w : World) (h : 16777216 < n) : Calls Try.prog 50 #[.slice A n c] w fun e w' => e = .returned (.tuple #[.pointer none, .int .i64 3]) ∧ w = w' := by
  have HN := Lib.hid h; clear h
  go_enter Try.func50, Try.ntmps50
  go_wp2_with fail
  refine (bnew_long n w HN.out).mono ?_
  rintro e w1 ⟨rfl, rfl⟩
  go_wp2_with fail
  go_ret2
  exact ⟨rfl, rfl⟩
/-- A vector that is not counted: one bit is put. -/
theorem vec_put {w : World} {S : List Nat} {p g : Nat} {ws : List Nat} {A : Option Addr} {na ca : Nat} {av : List Int} {bs : List Bool} {k x Z : Nat} {v : Bool}
    (h1 : Blk w p 103 [.slice (some ⟨g, 0, none⟩) ws.length ws.length, .slice A na ca, .bool false, .int .i64 (bs.length : Int), .bool true])
    (h2 : Blk w g 122 (wordsV ws)) (h3 : ∀ x ∈ ws, x < 2 ^ 64) (h4 : ws.length = (bs.length + 63) / 64) (h5 : num ws = bitN bs) (h6 : bs.length ≤ 16777216)
    (h7 : w.ownsRow 0 3 1 (.slice A na ca) na (av.map (.int .i64))) (hS : S = p :: g :: ownL (.slice A na ca))
    (hk : k < bs.length) (hx : ws[k / 64]? = some x) (hZ : Z = bitN ((padL bs (k / 64)).set (k % 64) v)) :
    VecM (w.setCell ⟨g, k / 64, none⟩ (.int .u64 (Z : Int))) S p (bs.set k v) false := by
  have hpg : p ≠ g := h1.ne h2 (by decide)
  refine ⟨g, ws.set (k / 64) Z, A, na, ca, av, ?_, ?_, ?_, ?_, ?_, ?_, ?_, ?_, hS⟩
  · rw [List.length_set, List.length_set]; exact h1.far (p := ⟨g, k / 64, none⟩) hpg _
  · rw [← wordsV_set]; exact h2.set_ _ _
  · exact set_lt h3 (by rw [hZ]; exact put_lt _ _ _ _)
  · rw [List.length_set, List.length_set, h4]
  · rw [hZ]; exact num_put h3 h5 hk hx v
  · rw [List.length_set]; exact h6
  · refine own_kp h7 ((Kp.refl [g] w).setCell (p := ⟨g, k / 64, none⟩) (.inl (by simp)) _) (fun b hb hm => ?_)
    simp only [List.mem_singleton] at hm
    subst hm
    obtain ⟨l, hB⟩ := own_blk_some h7 hb
    exact absurd rfl (hB.ne h2 (by decide))
  · intro h; cases h

set_option maxRecDepth 100000 in
set_option maxHeartbeats 4000000 in
theorem bof_any (A : Option Addr) (n c B : Nat) (bs : List Bool) (w : World) (hx : Rd w B A (bs.map .bool)) (hn : bs.length = n) (h : n ≤ 16777216) : Calls Try.prog 50 #[.slice A n c] w fun e w' =>
    ∃ S p, e = .returned (.tuple #[.pointer (some ⟨p, 0, none⟩), .int .i64 0]) ∧ VecM w' S p bs false ∧ (∀ x ∈ S, w.heap.size ≤ x) ∧ Kp [] w w' := by
  have HX := Lib.hid hx; clear hx
  have HN := Lib.hid hn; clear hn
  go_enter Try.func50, Try.ntmps50
  go_wp2_with fail
  refine (bnew_any n w h).mono ?_
  rintro e w1 ⟨S, p, rfl, hv, hS, hk⟩
  have HV0 := Lib.hid (show VecM w1 S p (ofL bs 0) false by
    have e : ofL bs 0 = List.replicate n false := by unfold ofL; rw [HN.out]; rfl
    rw [e]; exact hv)
  have HS := Lib.hid hS
  have HK0 := Lib.hid hk
  clear hv hS hk
  go_wp2_with fail
  go_loopw [19] (fun x wr => ∃ (k : Nat), x = .int .i64 (k : Int) ∧ k ≤ n ∧ Hid (VecM wr S p (ofL bs k) false) ∧ Hid (Kp [] w wr)) (fun x _ => n - (intOf x).toNat)
  case atStart => exact ⟨0, rfl, by omega, HV0, HK0⟩
  case round =>
    clear HV0 HK0
    obtain ⟨k, rfl, hk, HV, HK⟩ := hrel
    by_cases hlt : k < n
    · obtain ⟨b, hb⟩ : ∃ b, bs[k]? = some b := ⟨_, List.getElem?_eq_getElem (by rw [HN.out]; exact hlt)⟩
      obtain ⟨ad, rfl, _, hcx⟩ := (HX.out.kp0 HK.out).at_ (i := k) (u := .bool b) (by simp [hb])
      cases b with
      | false =>
        have HV2 := Lib.hid (show VecM wr S p (ofL bs (k + 1)) false by rw [ofL_false hb]; exact HV.out)
        clear hb HV
        go_wp2_with fail
        exact ⟨⟨k + 1, by go_num, by omega, HV2, HK⟩, by simp [intOf]; omega⟩
      | true =>
        have HSUB := HV.out.lt
        obtain ⟨g, ws, A', na, ca, av, h1, h2, h3, h4, h5, h6, h7, _, hSS⟩ := HV.out
        have hL : (ofL bs k).length = n := by rw [ofL_len (by rw [HN.out]; exact hk), HN.out]
        obtain ⟨q, hq⟩ : ∃ q, q = k / 64 := ⟨_, rfl⟩
        obtain ⟨r, hr⟩ : ∃ r, r = k % 64 := ⟨_, rfl⟩
        have hqm : q < ws.length := by rw [h4, hL]; omega
        obtain ⟨x, hxq⟩ : ∃ x, ws[q]? = some x := ⟨_, List.getElem?_eq_getElem hqm⟩
        have cx : wr.cell? ⟨g, q, none⟩ = some (.int .u64 (x : Int)) := by rw [h2.cell]; exact wordsV_get hxq
        have cf := h2.free q
        have c0 := h1.cell 0
        simp only [List.getElem?_cons_zero] at c0
        have hxb := h3 x (List.mem_of_getElem? hxq)
        obtain ⟨Z, hZ⟩ : ∃ Z, Z = x ||| 2 ^ r := ⟨_, rfl⟩
        have hr64 : r < 64 := by omega
        obtain ⟨T, hT⟩ : ∃ T, T = 2 ^ r := ⟨_, rfl⟩
        have hTb : T < 2 ^ 64 := by rw [hT]; exact Nat.pow_lt_pow_right (by decide) hr64
        have hor : bits .or .u64 (x : Int) (T : Int) = (Z : Int) := by rw [hZ, ← hT]; exact u64_or_nat x T (by omega) (by omega)
        have hZb : Z < 2 ^ 64 := by rw [hZ, ← hT]; exact Nat.or_lt_two_pow hxb hTb
        have hdiv : (k : Int).tdiv 64 = (q : Int) := by rw [Int.tdiv_eq_ediv_of_nonneg (by omega)]; omega
        have hmod : (k : Int).tmod 64 = (r : Int) := by rw [Int.tmod_eq_emod_of_nonneg (by omega)]; omega
        have hwq : IntKind.i64.wrap (q : Int) = (q : Int) := by rw [IntKind.wrap_i64]; omega
        have hwr : IntKind.i64.wrap (r : Int) = (r : Int) := by rw [IntKind.wrap_i64]; omega
        have hsh : IntKind.u64.wrap (1 * 2 ^ min r 64) = (T : Int) := by
          have e : (1 : Int) * 2 ^ min r 64 = ((2 ^ r : Nat) : Int) := by rw [show min r 64 = r from by omega]; simp
          rw [e, ← hT, u64_wrap_nat, Nat.mod_eq_of_lt hTb]
        have hsh' : IntKind.u64.wrap (2 ^ min r 64) = (T : Int) := by rw [Int.one_mul] at hsh; exact hsh
        have hsh2 : IntKind.u64.wrap (2 ^ r) = (T : Int) := by rw [show min r 64 = r from by omega] at hsh'; exact hsh'
        have HV2 := Lib.hid (show VecM (wr.setCell ⟨g, q, none⟩ (.int .u64 (Z : Int))) S p (ofL bs (k + 1)) false by
          rw [ofL_succ hb, hq]
          exact vec_put h1 h2 h3 h4 h5 h6 h7 hSS (by rw [hL]; exact hlt) (by rw [← hq]; exact hxq) (by rw [hZ, hr]; exact or_put h3 h5 (by rw [← hq]; exact hxq)))
        have HK2 := Lib.hid (show Kp [] w (wr.setCell ⟨g, q, none⟩ (.int .u64 (Z : Int))) from HK.out.trans' ((Kp.refl [g] wr).setCell (p := ⟨g, q, none⟩) (.inl (by simp)) _) (by
          intro z hz
          simp only [List.mem_singleton] at hz
          subst hz
          exact .inr (HS.out z (by rw [hSS]; simp))))
        obtain ⟨m, hm⟩ : ∃ m, m = ws.length := ⟨_, rfl⟩
        rw [← hm] at c0 hqm
        have hqi : (q : Int) < (m : Int) := by omega
        clear hb HV HK HSUB h1 h2 h3 h4 h5 h6 h7 hSS hL hq hr hxq hxb hZ hT hTb hm
        go_wp2_with fail
        go_region
        go_wp2_with fail
        exact ⟨⟨k + 1, by go_num, by omega, Lib.hid (HV2.out.kp0 ((Kp.refl [] _).drew)), Lib.hid (HK2.out.drew)⟩, by simp [intOf]; omega⟩
    · obtain rfl : n = k := by omega
      have HV2 := Lib.hid (show VecM wr S p bs false by
        have e := ofL_all bs
        rw [HN.out] at e
        rw [← e]; exact HV.out)
      go_wp2_with fail
      go_ret2
      exact ⟨S, p, rfl, HV2.out, HS.out, HK.out⟩
end Go.Proofs.Ytpmdfklhgabfgaa
namespace Go.Proofs.Ytpmdfklhgabfgaa
open Go.RowKit

def bytesN (N : Nat) (k : Nat) : List Int := (List.range k).map fun i => ((N / 2 ^ (8 * i) % 256 : Nat) : Int)
theorem bytesN_succ (N k : Nat) : bytesN N (k + 1) = bytesN N k ++ [((N / 2 ^ (8 * k) % 256 : Nat) : Int)] := by simp [bytesN, List.range_succ]

end Go.Proofs.Ytpmdfklhgabfgaa
