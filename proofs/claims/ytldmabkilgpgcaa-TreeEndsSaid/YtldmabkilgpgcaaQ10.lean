/-
  LAYER 1: the place of a one, by how many stand below it.
  LAYER 1: what a vector tells.
  LAYER 1: a vector is made.
  LAYER 1: a vector's bytes.
  PLAIN MATHEMATICS OF LAYER 1, second part: bytes as one number; the bits of a number.
  LAYER 1: Read: a vector of bytes.
  LAYER 1's REFERENCE: the document's vector in memory; Get, Rank, Select, Bytes.
  LAYER 1's REFERENCE: Select, Bytes.
  LAYER 1's REFERENCE: New, Read.
  CHAPTER 01 (bits): the document's Of.
  CONDITIONS: as each lemma says.
-/
import Derived.Test.YtldmabkilgpgcaaQ09
import Derived.Test.YtldmabkilgpgcaaQ00
import Derived.StillTailTactics
namespace Go.Proofs.Ytldmabkilgpgcaa
open Go.RowKit

theorem clrN_zero (l : List Bool) : clrN 0 l = l := by cases l <;> rfl
theorem wordL_sel {bs : List Bool} {wd k i : Nat} (h : IsSel (wordL bs wd) k i) : IsSel bs (k + cntI bs (64 * wd)) (64 * wd + i) := (IsSel.take h).drop
theorem wordL_count (bs : List Bool) (k : Nat) : popN 64 (bitN (wordL bs k)) = (wordL bs k).count true := popN_bitN 64 _ (wordL_len bs k)

end Go.Proofs.Ytldmabkilgpgcaa
namespace Go.Proofs.Ytldmabkilgpgcaa
open Go.RowKit

/-- The place of a one as the document has it. -/
def selO (bs : List Bool) (k : Int) : Option Nat := if k < 0 then none else (List.range bs.length).find? fun i => (bs[i]? == some true) && (cntI bs i == k.toNat)
theorem selO_some {bs : List Bool} {k : Int} {i : Nat} (h0 : 0 ≤ k) (h : IsSel bs k.toNat i) : selO bs k = some i := by
  unfold selO
  rw [if_neg (by omega)]
  have hi : i < bs.length := (List.getElem?_eq_some_iff.1 h.1).1
  cases hf : (List.range bs.length).find? (fun i => (bs[i]? == some true) && (cntI bs i == k.toNat)) with
  | none =>
    have := List.find?_eq_none.1 hf i (List.mem_range.2 hi)
    exfalso
    apply this
    have h2 : cntI bs i = k.toNat := h.2
    simp [h.1, h2]
  | some j =>
    have hj := List.find?_some hf
    simp only [Bool.and_eq_true, beq_iff_eq] at hj
    have : IsSel bs k.toNat j := ⟨hj.1, hj.2⟩
    rw [this.unique h]
theorem selO_none {bs : List Bool} {k : Int} (h : k < 0 ∨ (bs.count true : Int) ≤ k) : selO bs k = none := by
  unfold selO
  by_cases h0 : k < 0
  · rw [if_pos h0]
  · rw [if_neg h0, List.find?_eq_none]
    intro i hi hc
    simp only [Bool.and_eq_true, beq_iff_eq] at hc
    have : IsSel bs k.toNat i := ⟨hc.1, hc.2⟩
    have := this.lt
    omega
def selI (bs : List Bool) (k : Int) : Int := (((selO bs k).getD 0 : Nat) : Int)
def selB (bs : List Bool) (k : Int) : Bool := (selO bs k).isSome
def getB (bs : List Bool) (i : Int) : Bool := if i < 0 then false else bs.getD i.toNat false
/-- How many ones stand below a place, whatever number it is. -/
def rankI (bs : List Bool) (i : Int) : Nat := cntI bs (min (max i 0) (bs.length : Int)).toNat
/-- Behind a call: the vector is what it was; only its own blocks have changed. -/
def VPost (w w' : World) (S : List Nat) (p : Nat) (bs : List Bool) (c : Bool) : Prop := ∃ S' c', VecM w' S' p bs c' ∧ Kp S w w' ∧ Grow w S S' ∧ (c = true → c' = true ∧ S = S' ∧ Kp [] w w')

/-- The same, of a call that counts. -/
def VPostT (w w' : World) (S : List Nat) (p : Nat) (bs : List Bool) (c : Bool) : Prop := ∃ S', VecM w' S' p bs true ∧ Kp S w w' ∧ Grow w S S' ∧ (c = true → S = S' ∧ Kp [] w w')
theorem VPostT.post {w w' : World} {S : List Nat} {p : Nat} {bs : List Bool} {c : Bool} (h : VPostT w w' S p bs c) : VPost w w' S p bs c := by
  obtain ⟨S', h1, h2, h3, h4⟩ := h
  exact ⟨S', true, h1, h2, h3, fun h => ⟨rfl, h4 h⟩⟩

theorem vthere_any (S : List Nat) (p : Nat) (bs : List Bool) (c : Bool) (w : World) (h : VecM w S p bs c) :
    Calls Try.prog 61 #[.pointer (some ⟨p, 0, none⟩)] w fun e w' => e = .returned (.bool true) ∧ w = w' := by
  obtain ⟨_, _, c4, _⟩ := h.tail
  clear h
  go_enter Try.func61, Try.ntmps61
  go_wp2_with fail
  go_ret
  exact ⟨rfl, rfl⟩
theorem vlen_any (S : List Nat) (p n : Nat) (bs : List Bool) (c : Bool) (w : World) (h : VecM w S p bs c) (hn : bs.length = n) :
    Calls Try.prog 45 #[.pointer (some ⟨p, 0, none⟩)] w fun e w' => e = .returned (.int .i64 (n : Int)) ∧ w = w' := by
  obtain ⟨_, c3, _, _⟩ := h.tail
  rw [hn] at c3
  clear hn
  go_enter Try.func45, Try.ntmps45
  go_wp2_with fail
  refine (vthere_any S p bs c w h).mono ?_
  rintro e w1 ⟨rfl, rfl⟩
  go_wp2_with fail
  go_ret
  exact ⟨rfl, rfl⟩
theorem vis_any (S : List Nat) (p n : Nat) (i : Int) (bs : List Bool) (c : Bool) (w : World) (h : VecM w S p bs c) (hn : bs.length = n) :
    Calls Try.prog 66 #[.pointer (some ⟨p, 0, none⟩), .int .i64 i] w fun e w' => e = .returned (.bool (decide (0 ≤ i ∧ i < (n : Int)))) ∧ w = w' := by
  obtain ⟨_, c3, _, _⟩ := h.tail
  rw [hn] at c3
  clear hn h
  by_cases h0 : 0 ≤ i
  · by_cases h1 : i < (n : Int)
    · have hd := Lib.hid (show decide (0 ≤ i ∧ i < (n : Int)) = true by simp; omega)
      obtain ⟨qv, hqv⟩ : ∃ qv, qv = decide (0 ≤ i ∧ i < (n : Int)) := ⟨_, rfl⟩
      rw [← hqv]
      have hd := Lib.hid (hqv.trans hd.out)
      clear hqv
      go_enter Try.func66, Try.ntmps66
      go_wp2_with fail
      go_ret
      exact ⟨by rw [hd.out]; rfl, rfl⟩
    · have hd := Lib.hid (show decide (0 ≤ i ∧ i < (n : Int)) = false by simp; omega)
      have hd1 : decide (i < (n : Int)) = false := by simp; omega
      obtain ⟨qv, hqv⟩ : ∃ qv, qv = decide (0 ≤ i ∧ i < (n : Int)) := ⟨_, rfl⟩
      rw [← hqv]
      have hd := Lib.hid (hqv.trans hd.out)
      clear hqv
      go_enter Try.func66, Try.ntmps66
      go_wp2_with fail
      go_ret
      exact ⟨by rw [hd.out]; rfl, rfl⟩
  · have hd := Lib.hid (show decide (0 ≤ i ∧ i < (n : Int)) = false by simp; omega)
    have h00 : i < 0 := by omega
    obtain ⟨qv, hqv⟩ : ∃ qv, qv = decide (0 ≤ i ∧ i < (n : Int)) := ⟨_, rfl⟩
    rw [← hqv]
    have hd := Lib.hid (hqv.trans hd.out)
    clear hqv
    go_enter Try.func66, Try.ntmps66
    go_wp2_with fail
    go_ret
    exact ⟨by rw [hd.out]; rfl, rfl⟩

set_option maxRecDepth 100000 in
set_option maxHeartbeats 2000000 in
theorem vget_any (S : List Nat) (p : Nat) (i : Int) (bs : List Bool) (c : Bool) (w : World) (h : VecM w S p bs c) :
    Calls Try.prog 56 #[.pointer (some ⟨p, 0, none⟩), .int .i64 i] w fun e w' => e = .returned (.bool (getB bs i)) ∧ w = w' := by
  have HV := Lib.hid h; clear h
  obtain ⟨n, hn⟩ : ∃ n, bs.length = n := ⟨_, rfl⟩
  have HN := Lib.hid hn; clear hn
  by_cases hin : 0 ≤ i ∧ i < (n : Int)
  · obtain ⟨I, rfl⟩ : ∃ I : Nat, i = (I : Int) := ⟨i.toNat, by omega⟩
    have hIn : I < n := by omega
    obtain ⟨b, hb⟩ : ∃ b, bs[I]? = some b := ⟨_, List.getElem?_eq_getElem (by rw [HN.out]; exact hIn)⟩
    have HG := Lib.hid (show getB bs (I : Int) = b by
      unfold getB
      rw [if_neg (by omega), Int.toNat_natCast, List.getD_eq_getElem?_getD, hb]
      rfl)
    obtain ⟨g, c0, hcw⟩ := HV.out.words
    obtain ⟨_, _, _, hnb⟩ := HV.out.tail
    obtain ⟨m, hm⟩ : ∃ m, m = wordsOf bs.length := ⟨_, rfl⟩
    rw [← hm] at c0 hcw
    obtain ⟨q, hq⟩ : ∃ q, q = I / 64 := ⟨_, rfl⟩
    obtain ⟨r, hr⟩ : ∃ r, r = I % 64 := ⟨_, rfl⟩
    have hqm : q < m := by unfold wordsOf at hm; rw [HN.out] at hm; omega
    have cx := hcw q hqm
    obtain ⟨x, hx⟩ : ∃ x, x = bitN (wordL bs q) := ⟨_, rfl⟩
    have hxb : x < 2 ^ 64 := by rw [hx]; exact bitN_wordL_lt _ _
    rw [← hx] at cx
    have hdiv : (I : Int).tdiv 64 = (q : Int) := by rw [Int.tdiv_eq_ediv_of_nonneg (by omega)]; omega
    have hmod : (I : Int).tmod 64 = (r : Int) := by rw [Int.tmod_eq_emod_of_nonneg (by omega)]; omega
    rw [HN.out] at hnb
    have hwq : IntKind.i64.wrap (q : Int) = (q : Int) := by rw [IntKind.wrap_i64]; omega
    have hwr : IntKind.i64.wrap (r : Int) = (r : Int) := by rw [IntKind.wrap_i64]; omega
    have hr64 : r < 64 := by omega
    obtain ⟨y, hy⟩ : ∃ y, y = x / 2 ^ r := ⟨_, rfl⟩
    have hdx : (x : Int) / 2 ^ r = (y : Int) := by rw [hy]; simp
    have hdx' : (x : Int) / 2 ^ min r 64 = (y : Int) := by rw [show min r 64 = r from by omega]; exact hdx
    have hyb : y < 2 ^ 64 := by rw [hy]; exact Nat.lt_of_le_of_lt (Nat.div_le_self _ _) hxb
    obtain ⟨t, ht⟩ : ∃ t, t = y % 2 := ⟨_, rfl⟩
    have hand : bits .and .u64 (y : Int) 1 = (t : Int) := by
      have := u64_and_nat y 1 (by omega) (by omega)
      rw [Nat.and_one_is_mod, ← ht] at this
      exact this
    have htb : t = b.toNat := by
      rw [ht, hy, hx]
      refine bitN_bit (l := wordL bs q) (i := r) ?_
      unfold wordL
      rw [List.getElem?_take, if_pos hr64, List.getElem?_drop, show 64 * q + r = I by omega, hb]
    have heq : ((t : Int) == 1) = b := by rw [htb]; cases b <;> rfl
    have hqi : (q : Int) < (m : Int) := by omega
    have hdd : decide (0 ≤ (I : Int) ∧ (I : Int) < (n : Int)) = true := by simp; omega
    clear hb hcw hnb hm hq hr hx hxb hy hyb ht htb hin
    go_enter Try.func56, Try.ntmps56
    go_wp2_with fail
    refine (vthere_any S p bs c w HV.out).mono ?_
    rintro e w1 ⟨rfl, rfl⟩
    go_wp2_with fail
    refine (vis_any S p n I bs c w HV.out HN.out).mono ?_
    rintro e w1 ⟨rfl, rfl⟩
    rw [hdd]
    go_wp2_with fail
    go_ret
    exact ⟨by rw [HG.out]; rfl, rfl⟩
  · have HG := Lib.hid (show getB bs i = false by
      unfold getB
      by_cases h0 : i < 0
      · rw [if_pos h0]
      · rw [if_neg h0, List.getD_eq_getElem?_getD, List.getElem?_eq_none (by rw [HN.out]; omega)]
        rfl)
    have hdd : decide (0 ≤ i ∧ i < (n : Int)) = false := by simpa using hin
    clear hin
    go_enter Try.func56, Try.ntmps56
    go_wp2_with fail
    refine (vthere_any S p bs c w HV.out).mono ?_
    rintro e w1 ⟨rfl, rfl⟩
    go_wp2_with fail
    refine (vis_any S p n i bs c w HV.out HN.out).mono ?_
    rintro e w1 ⟨rfl, rfl⟩
    rw [hdd]
    go_wp2_with fail
    go_ret
    exact ⟨by rw [HG.out]; rfl, rfl⟩

set_option maxRecDepth 100000 in
set_option maxHeartbeats 2000000 in
theorem vones_any (S : List Nat) (p : Nat) (bs : List Bool) (c : Bool) (w : World) (h : VecM w S p bs c) :
    Calls Try.prog 40 #[.pointer (some ⟨p, 0, none⟩)] w fun e w' => e = .returned (.int .i64 ((bs.count true : Nat) : Int)) ∧ VPostT w w' S p bs c := by
  have HV := Lib.hid h; clear h
  obtain ⟨N, hN⟩ : ∃ N, N = bs.count true := ⟨_, rfl⟩
  rw [← hN]
  have HN := Lib.hid hN; clear hN
  go_enter Try.func40, Try.ntmps40
  go_wp2_with fail
  refine (vthere_any S p bs c w HV.out).mono ?_
  rintro e w1 ⟨rfl, rfl⟩
  go_wp2_with fail
  refine (all_any S p bs c w HV.out).mono ?_
  rw [← HN.out]
  rintro e w2 ⟨rfl, S', hv, hk, hg, hc⟩
  have HP := Lib.hid (show VPostT w w2 S p bs c from ⟨S', hv, hk, hg, fun h => ⟨(hc h).2, (hc h).1⟩⟩)
  clear hv hk hg hc
  go_wp2_with fail
  go_ret
  exact ⟨rfl, HP.out⟩

theorem below_int (S : List Nat) (p : Nat) (x : Int) (i : Nat) (bs : List Bool) (c : Bool) (w : World) (h : VecM w S p bs c) (hi : i ≤ bs.length) (hx : x = (i : Int)) :
    Calls Try.prog 67 #[.pointer (some ⟨p, 0, none⟩), .int .i64 x] w fun e w' => e = .returned (.int .i64 ((cntI bs i : Nat) : Int)) ∧ ∃ S', VecM w' S' p bs true ∧ Kp S w w' ∧ Grow w S S' ∧ (c = true → Kp [] w w' ∧ S = S') := by
  subst hx
  exact below_any S p i bs c w h hi

set_option maxRecDepth 100000 in
set_option maxHeartbeats 4000000 in
theorem vrank_any (S : List Nat) (p : Nat) (i : Int) (bs : List Bool) (c : Bool) (w : World) (h : VecM w S p bs c) :
    Calls Try.prog 57 #[.pointer (some ⟨p, 0, none⟩), .int .i64 i] w fun e w' => e = .returned (.int .i64 ((rankI bs i : Nat) : Int)) ∧ VPostT w w' S p bs c := by
  have HV := Lib.hid h; clear h
  obtain ⟨n, hn⟩ : ∃ n, bs.length = n := ⟨_, rfl⟩
  have HN := Lib.hid hn
  obtain ⟨_, c3, _, _⟩ := HV.out.tail
  rw [hn] at c3
  obtain ⟨I, hI⟩ : ∃ I : Nat, min (max i 0) (n : Int) = (I : Int) := ⟨(min (max i 0) (n : Int)).toNat, by omega⟩
  have hIn : I ≤ n := by omega
  obtain ⟨N, hNN⟩ : ∃ N, N = rankI bs i := ⟨_, rfl⟩
  have HNN := Lib.hid (show cntI bs I = N by rw [hNN]; unfold rankI; rw [hn, hI, Int.toNat_natCast])
  rw [← hNN]
  have HI := Lib.hid hI
  clear hNN hn hI
  go_enter Try.func57, Try.ntmps57
  go_wp2_with fail
  refine (vthere_any S p bs c w HV.out).mono ?_
  rintro e w1 ⟨rfl, rfl⟩
  go_wp2_with fail
  refine wp_region_still_tail 10 (by kernel_rfl) (by kernel_rfl) ?_
  simp only [List.take_succ_cons, List.take_zero, List.drop_succ_cons, List.drop_zero]
  repeat still_step
  refine wpStill_nil ?_
  change wpList _ _ _ _ _ w.drew
  go_wp2_with fail
  all_goals
    refine (below_int S p _ I bs c w.drew (HV.out.kp0 (Kp.refl [] w).drew) (by rw [HN.out]; exact hIn) (by have hI := HI.out; first | omega | (split at * <;> omega))).mono ?_
    rw [HNN.out]
    rintro e w2 ⟨rfl, S', hv, hk, hg, hc⟩
    have HP := Lib.hid (show VPostT w w2 S p bs c from ⟨S', hv, ((Kp.refl S w).drew).trans hk, hg, fun h => ⟨(hc h).2, ((Kp.refl [] w).drew).trans (hc h).1⟩⟩)
    clear hv hk hg hc
    go_wp2_with fail
    go_ret
    exact ⟨rfl, HP.out⟩

end Go.Proofs.Ytldmabkilgpgcaa
namespace Go.Proofs.Ytldmabkilgpgcaa
open Go.RowKit

theorem Try.info_u64 : (Try.prog.info? 100).map (fun i => (i.zero, i.size, i.bytes)) = some (some (.int .u64 0), 1, 8) := by kernel_rfl
theorem num_zero (m : Nat) : num (List.replicate m 0) = 0 := by
  induction m with
  | zero => rfl
  | succ m ih => rw [List.replicate_succ]; show 0 + 2 ^ 64 * num _ = 0; rw [ih]
/-- A word padded to 64 bits. -/
def padL (bs : List Bool) (q : Nat) : List Bool := wordL bs q ++ List.replicate (64 - (wordL bs q).length) false
theorem padL_len (bs : List Bool) (q : Nat) : (padL bs q).length = 64 := by
  unfold padL
  rw [List.length_append, List.length_replicate]
  have := wordL_len bs q
  omega
theorem padL_bitN (bs : List Bool) (q : Nat) : bitN (padL bs q) = bitN (wordL bs q) := by
  unfold padL
  rw [bitN_app, bitN_zeros, Nat.mul_zero, Nat.add_zero]
theorem padL_get {bs : List Bool} {k : Nat} (h : k < bs.length) : (padL bs (k / 64))[k % 64]? = bs[k]? := by
  have hr : k % 64 < 64 := Nat.mod_lt _ (by decide)
  have e : (wordL bs (k / 64))[k % 64]? = bs[k]? := by
    unfold wordL
    rw [List.getElem?_take, if_pos hr, List.getElem?_drop, Nat.div_add_mod]
  have hl : k % 64 < (wordL bs (k / 64)).length := by
    rw [List.getElem?_eq_getElem h] at e
    exact (List.getElem?_eq_some_iff.1 e).1
  unfold padL
  rw [List.getElem?_append_left hl, e]
/-- One bit is put into a word: the words are the bits with that one put. -/
theorem num_put {ws : List Nat} {bs : List Bool} {k x : Nat} (hw : ∀ x ∈ ws, x < 2 ^ 64) (hn : num ws = bitN bs) (hk : k < bs.length) (hx : ws[k / 64]? = some x) (v : Bool) :
    num (ws.set (k / 64) (bitN ((padL bs (k / 64)).set (k % 64) v))) = bitN (bs.set k v) := by
  have e0 : x = bitN (padL bs (k / 64)) := by rw [padL_bitN]; exact word_bits hw hn hx
  obtain ⟨b, hb⟩ : ∃ b, bs[k]? = some b := ⟨_, List.getElem?_eq_getElem hk⟩
  have e1 := bitN_set hb v
  have e2 := bitN_set ((padL_get hk).trans hb) v
  have e3 := num_set hx (bitN ((padL bs (k / 64)).set (k % 64) v))
  rw [← e0] at e2
  obtain ⟨y, hy⟩ : ∃ y, y = bitN ((padL bs (k / 64)).set (k % 64) v) := ⟨_, rfl⟩
  rw [← hy] at e2 e3 ⊢
  have e4 : 2 ^ (64 * (k / 64)) * (y + b.toNat * 2 ^ (k % 64)) = 2 ^ (64 * (k / 64)) * (x + v.toNat * 2 ^ (k % 64)) := by rw [e2]
  have e5 : ∀ c : Nat, 2 ^ (64 * (k / 64)) * (c * 2 ^ (k % 64)) = c * 2 ^ k := fun c => by
    rw [← Nat.mul_assoc, Nat.mul_comm _ c, Nat.mul_assoc, ← Nat.pow_add, Nat.div_add_mod]
  rw [Nat.mul_add, Nat.mul_add, e5, e5] at e4
  rw [hn] at e3
  omega
theorem or_put {ws : List Nat} {bs : List Bool} {k x : Nat} (hw : ∀ x ∈ ws, x < 2 ^ 64) (hn : num ws = bitN bs) (hx : ws[k / 64]? = some x) : x ||| 2 ^ (k % 64) = bitN ((padL bs (k / 64)).set (k % 64) true) := by
  rw [← bitN_set_one (by rw [padL_len]; exact Nat.mod_lt _ (by decide)), padL_bitN]
  rw [show bitN (wordL bs (k / 64)) = x from (word_bits hw hn hx).symm]
theorem clear_put {ws : List Nat} {bs : List Bool} {k x : Nat} (hw : ∀ x ∈ ws, x < 2 ^ 64) (hn : num ws = bitN bs) (hx : ws[k / 64]? = some x) : x &&& (2 ^ 64 - 1 - 2 ^ (k % 64)) = bitN ((padL bs (k / 64)).set (k % 64) false) := by
  have h := bitN_clear_one (l := padL bs (k / 64)) (r := k % 64) (by rw [padL_len]; exact Nat.mod_lt _ (by decide))
  rw [padL_len, padL_bitN, show bitN (wordL bs (k / 64)) = x from (word_bits hw hn hx).symm] at h
  exact h
theorem put_lt (bs : List Bool) (q r : Nat) (v : Bool) : bitN ((padL bs q).set r v) < 2 ^ 64 := by
  have h := bitN_lt ((padL bs q).set r v)
  rwa [List.length_set, padL_len] at h

theorem bnew_neg (n : Int) (w : World) (h : n < 0) : Calls Try.prog 59 #[.int .i64 n] w fun e w' => e = .returned (.tuple #[.pointer none, .int .i64 2]) ∧ w = w' := by
  go_enter Try.func59, Try.ntmps59
  go_wp2_with fail
  go_ret2
  exact ⟨rfl, rfl⟩
theorem bnew_long (n : Nat) (w : World) (h : 16777216 < n) : Calls Try.prog 59 #[.int .i64 n] w fun e w' => e = .returned (.tuple #[.pointer none, .int .i64 3]) ∧ w = w' := by
  go_enter Try.func59, Try.ntmps59
  go_wp2_with fail
  go_ret2
  exact ⟨rfl, rfl⟩

set_option maxRecDepth 100000 in
set_option maxHeartbeats 2000000 in
theorem bnew_any (n : Nat) (w : World) (h : n ≤ 16777216) : Calls Try.prog 59 #[.int .i64 n] w fun e w' =>
    ∃ S p, e = .returned (.tuple #[.pointer (some ⟨p, 0, none⟩), .int .i64 0]) ∧ VecM w' S p (List.replicate n false) false ∧ (∀ x ∈ S, w.heap.size ≤ x) ∧ Kp [] w w' := by
  obtain ⟨i0, hi, hz0, hz1, hz2⟩ := info_parts Try.info_u64
  obtain ⟨m, hm⟩ : ∃ m, m = (n + 63) / 64 := ⟨_, rfl⟩
  have hw1 : IntKind.i64.wrap ((n : Int) + 64) = ((n + 64 : Nat) : Int) := by rw [IntKind.wrap_i64]; omega
  have hw2 : IntKind.i64.wrap ((n : Int) + 64 - 1) = ((n + 63 : Nat) : Int) := by rw [IntKind.wrap_i64]; omega
  have hw3 : Int.tdiv ((n : Int) + 63) 64 = (m : Int) := by rw [Int.tdiv_eq_ediv_of_nonneg (by omega)]; omega
  have hw4 : IntKind.i64.wrap (m : Int) = (m : Int) := by rw [IntKind.wrap_i64]; omega
  have hmb : m ≤ 1000000 := by omega
  have hmk := run_make_list (P := Try.prog) 101 100 i0 (.int .u64 0) Try.underlying101 hi hz0 hz1 rfl .i64 .i64 m (by rw [hz2]; omega) (by omega)
  have HM := Lib.hid hm
  clear hm hi hz0 hz1 hz2
  go_enter Try.func59, Try.ntmps59
  go_wp2_with fail
  go_ret2
  have b1 := Blk.new w 100 (List.replicate m (.int .u64 0))
  have b2 := Blk.new (w.alloc (.cells (List.replicate m (.int .u64 0)).toArray 100)) 105 [.slice (some ⟨w.heap.size, 0, none⟩) m m, .slice none 0 0, .bool false, .int .i64 (n : Int), .bool true]
  have e : (w.alloc (.cells (List.replicate m (.int .u64 0)).toArray 100)).heap.size = w.heap.size + 1 := by simp
  rw [e] at b2
  refine ⟨[w.heap.size + 1, w.heap.size], w.heap.size + 1, rfl, ⟨w.heap.size, List.replicate m 0, none, 0, 0, [], ?_, ?_, ?_, ?_, ?_, ?_, ?_, ?_, rfl⟩, ?_, ((Kp.refl [] w).alloc _).alloc _⟩
  · rw [List.length_replicate, List.length_replicate]
    simpa using b2
  · have := b1.alloc (.cells [.slice (some ⟨w.heap.size, 0, none⟩) m m, .slice none 0 0, .bool false, .int .i64 (n : Int), .bool true].toArray 105)
    simpa [wordsV] using this
  · intro x hx; rw [List.eq_of_mem_replicate hx]; decide
  · rw [List.length_replicate, List.length_replicate, HM.out]
  · rw [num_zero, bitN_zeros]
  · rw [List.length_replicate]; exact h
  · exact ⟨rfl, .inl ⟨rfl, rfl⟩⟩
  · intro h; cases h
  · intro x hx
    simp only [List.mem_cons, List.not_mem_nil, or_false] at hx
    omega

/-- The vector that Of has behind k of its rounds. -/
def ofL (bs : List Bool) (k : Nat) : List Bool := bs.take k ++ List.replicate (bs.length - k) false
theorem ofL_len {bs : List Bool} {k : Nat} (h : k ≤ bs.length) : (ofL bs k).length = bs.length := by
  unfold ofL
  rw [List.length_append, List.length_take, List.length_replicate]
  omega
theorem ofL_succ {bs : List Bool} {k : Nat} {b : Bool} (h : bs[k]? = some b) : ofL bs (k + 1) = (ofL bs k).set k b := by
  have hk := (List.getElem?_eq_some_iff.1 h).1
  have hl : (bs.take k).length = k := by rw [List.length_take]; omega
  unfold ofL
  rw [take_succ_of h, show bs.length - k = bs.length - (k + 1) + 1 by omega, List.replicate_succ, List.set_append_right _ _ (by omega), hl, Nat.sub_self, List.set_cons_zero]
  simp
theorem ofL_false {bs : List Bool} {k : Nat} (h : bs[k]? = some false) : ofL bs (k + 1) = ofL bs k := by
  have hk := (List.getElem?_eq_some_iff.1 h).1
  unfold ofL
  rw [take_succ_of h, show bs.length - k = bs.length - (k + 1) + 1 by omega, List.replicate_succ]
  simp
theorem ofL_all (bs : List Bool) : ofL bs bs.length = bs := by simp [ofL]

theorem bof_long (A : Option Addr) (n c : Nat) (w : World) (h : 16777216 < n) : Calls Try.prog 38 #[.slice A n c] w fun e w' => e = .returned (.tuple #[.pointer none, .int .i64 3]) ∧ w = w' := by
  have HN := Lib.hid h; clear h
  go_enter Try.func38, Try.ntmps38
  go_wp2_with fail
  refine (bnew_long n w HN.out).mono ?_
  rintro e w1 ⟨rfl, rfl⟩
  go_wp2_with fail
  go_ret2
  exact ⟨rfl, rfl⟩
/-- A vector that is not counted: one bit is put. -/
theorem vec_put {w : World} {S : List Nat} {p g : Nat} {ws : List Nat} {A : Option Addr} {na ca : Nat} {av : List Int} {bs : List Bool} {k x Z : Nat} {v : Bool}
    (h1 : Blk w p 105 [.slice (some ⟨g, 0, none⟩) ws.length ws.length, .slice A na ca, .bool false, .int .i64 (bs.length : Int), .bool true])
    (h2 : Blk w g 100 (wordsV ws)) (h3 : ∀ x ∈ ws, x < 2 ^ 64) (h4 : ws.length = (bs.length + 63) / 64) (h5 : num ws = bitN bs) (h6 : bs.length ≤ 16777216)
    (h7 : w.ownsRow 0 3 1 (.slice A na ca) na (av.map (.int .i64))) (hS : S = p :: g :: ownL (.slice A na ca))
    (hk : k < bs.length) (hx : ws[k / 64]? = some x) (hZ : Z = bitN ((padL bs (k / 64)).set (k % 64) v)) :
    VecM (w.setCell ⟨g, k / 64, none⟩ (.int .u64 (Z : Int))) S p (bs.set k v) false := by
  have hpg : p ≠ g := h1.ne h2 (by decide)
  refine ⟨g, ws.set (k / 64) Z, A, na, ca, av, ?_, ?_, ?_, ?_, ?_, ?_, ?_, ?_, hS⟩
  · rw [List.length_set, List.length_set]; exact h1.far (p := ⟨g, k / 64, none⟩) hpg _
  · rw [← wordsV_set]; exact h2.set_ _ _
  · exact set_lt h3 (by rw [hZ]; exact put_lt _ _ _ _)
  · rw [List.length_set, List.length_set, h4]
  · rw [hZ]; exact num_put h3 h5 hk hx v
  · rw [List.length_set]; exact h6
  · refine own_kp h7 ((Kp.refl [g] w).setCell (p := ⟨g, k / 64, none⟩) (.inl (by simp)) _) (fun b hb hm => ?_)
    simp only [List.mem_singleton] at hm
    subst hm
    obtain ⟨l, hB⟩ := own_blk_some h7 hb
    exact absurd rfl (hB.ne h2 (by decide))
  · intro h; cases h

set_option maxRecDepth 100000 in
set_option maxHeartbeats 4000000 in
theorem bof_any (A : Option Addr) (n c B : Nat) (bs : List Bool) (w : World) (hx : Rd w B A (bs.map .bool)) (hn : bs.length = n) (h : n ≤ 16777216) : Calls Try.prog 38 #[.slice A n c] w fun e w' =>
    ∃ S p, e = .returned (.tuple #[.pointer (some ⟨p, 0, none⟩), .int .i64 0]) ∧ VecM w' S p bs false ∧ (∀ x ∈ S, w.heap.size ≤ x) ∧ Kp [] w w' := by
  have HX := Lib.hid hx; clear hx
  have HN := Lib.hid hn; clear hn
  go_enter Try.func38, Try.ntmps38
  go_wp2_with fail
  refine (bnew_any n w h).mono ?_
  rintro e w1 ⟨S, p, rfl, hv, hS, hk⟩
  have HV0 := Lib.hid (show VecM w1 S p (ofL bs 0) false by
    have e : ofL bs 0 = List.replicate n false := by unfold ofL; rw [HN.out]; rfl
    rw [e]; exact hv)
  have HS := Lib.hid hS
  have HK0 := Lib.hid hk
  clear hv hS hk
  go_wp2_with fail
  go_loopw [19] (fun x wr => ∃ (k : Nat), x = .int .i64 (k : Int) ∧ k ≤ n ∧ Hid (VecM wr S p (ofL bs k) false) ∧ Hid (Kp [] w wr)) (fun x _ => n - (intOf x).toNat)
  case atStart => exact ⟨0, rfl, by omega, HV0, HK0⟩
  case round =>
    clear HV0 HK0
    obtain ⟨k, rfl, hk, HV, HK⟩ := hrel
    by_cases hlt : k < n
    · obtain ⟨b, hb⟩ : ∃ b, bs[k]? = some b := ⟨_, List.getElem?_eq_getElem (by rw [HN.out]; exact hlt)⟩
      obtain ⟨ad, rfl, _, hcx⟩ := (HX.out.kp0 HK.out).at_ (i := k) (u := .bool b) (by simp [hb])
      cases b with
      | false =>
        have HV2 := Lib.hid (show VecM wr S p (ofL bs (k + 1)) false by rw [ofL_false hb]; exact HV.out)
        clear hb HV
        go_wp2_with fail
        exact ⟨⟨k + 1, by go_num, by omega, HV2, HK⟩, by simp [intOf]; omega⟩
      | true =>
        have HSUB := HV.out.lt
        obtain ⟨g, ws, A', na, ca, av, h1, h2, h3, h4, h5, h6, h7, _, hSS⟩ := HV.out
        have hL : (ofL bs k).length = n := by rw [ofL_len (by rw [HN.out]; exact hk), HN.out]
        obtain ⟨q, hq⟩ : ∃ q, q = k / 64 := ⟨_, rfl⟩
        obtain ⟨r, hr⟩ : ∃ r, r = k % 64 := ⟨_, rfl⟩
        have hqm : q < ws.length := by rw [h4, hL]; omega
        obtain ⟨x, hxq⟩ : ∃ x, ws[q]? = some x := ⟨_, List.getElem?_eq_getElem hqm⟩
        have cx : wr.cell? ⟨g, q, none⟩ = some (.int .u64 (x : Int)) := by rw [h2.cell]; exact wordsV_get hxq
        have cf := h2.free q
        have c0 := h1.cell 0
        simp only [List.getElem?_cons_zero] at c0
        have hxb := h3 x (List.mem_of_getElem? hxq)
        obtain ⟨Z, hZ⟩ : ∃ Z, Z = x ||| 2 ^ r := ⟨_, rfl⟩
        have hr64 : r < 64 := by omega
        obtain ⟨T, hT⟩ : ∃ T, T = 2 ^ r := ⟨_, rfl⟩
        have hTb : T < 2 ^ 64 := by rw [hT]; exact Nat.pow_lt_pow_right (by decide) hr64
        have hor : bits .or .u64 (x : Int) (T : Int) = (Z : Int) := by rw [hZ, ← hT]; exact u64_or_nat x T (by omega) (by omega)
        have hZb : Z < 2 ^ 64 := by rw [hZ, ← hT]; exact Nat.or_lt_two_pow hxb hTb
        have hdiv : (k : Int).tdiv 64 = (q : Int) := by rw [Int.tdiv_eq_ediv_of_nonneg (by omega)]; omega
        have hmod : (k : Int).tmod 64 = (r : Int) := by rw [Int.tmod_eq_emod_of_nonneg (by omega)]; omega
        have hwq : IntKind.i64.wrap (q : Int) = (q : Int) := by rw [IntKind.wrap_i64]; omega
        have hwr : IntKind.i64.wrap (r : Int) = (r : Int) := by rw [IntKind.wrap_i64]; omega
        have hsh : IntKind.u64.wrap (1 * 2 ^ min r 64) = (T : Int) := by
          have e : (1 : Int) * 2 ^ min r 64 = ((2 ^ r : Nat) : Int) := by rw [show min r 64 = r from by omega]; simp
          rw [e, ← hT, u64_wrap_nat, Nat.mod_eq_of_lt hTb]
        have hsh' : IntKind.u64.wrap (2 ^ min r 64) = (T : Int) := by rw [Int.one_mul] at hsh; exact hsh
        have hsh2 : IntKind.u64.wrap (2 ^ r) = (T : Int) := by rw [show min r 64 = r from by omega] at hsh'; exact hsh'
        have HV2 := Lib.hid (show VecM (wr.setCell ⟨g, q, none⟩ (.int .u64 (Z : Int))) S p (ofL bs (k + 1)) false by
          rw [ofL_succ hb, hq]
          exact vec_put h1 h2 h3 h4 h5 h6 h7 hSS (by rw [hL]; exact hlt) (by rw [← hq]; exact hxq) (by rw [hZ, hr]; exact or_put h3 h5 (by rw [← hq]; exact hxq)))
        have HK2 := Lib.hid (show Kp [] w (wr.setCell ⟨g, q, none⟩ (.int .u64 (Z : Int))) from HK.out.trans' ((Kp.refl [g] wr).setCell (p := ⟨g, q, none⟩) (.inl (by simp)) _) (by
          intro z hz
          simp only [List.mem_singleton] at hz
          subst hz
          exact .inr (HS.out z (by rw [hSS]; simp))))
        obtain ⟨m, hm⟩ : ∃ m, m = ws.length := ⟨_, rfl⟩
        rw [← hm] at c0 hqm
        have hqi : (q : Int) < (m : Int) := by omega
        clear hb HV HK HSUB h1 h2 h3 h4 h5 h6 h7 hSS hL hq hr hxq hxb hZ hT hTb hm
        go_wp2_with fail
        go_region
        go_wp2_with fail
        exact ⟨⟨k + 1, by go_num, by omega, Lib.hid (HV2.out.kp0 ((Kp.refl [] _).drew)), Lib.hid (HK2.out.drew)⟩, by simp [intOf]; omega⟩
    · obtain rfl : n = k := by omega
      have HV2 := Lib.hid (show VecM wr S p bs false by
        have e := ofL_all bs
        rw [HN.out] at e
        rw [← e]; exact HV.out)
      go_wp2_with fail
      go_ret2
      exact ⟨S, p, rfl, HV2.out, HS.out, HK.out⟩
end Go.Proofs.Ytldmabkilgpgcaa
namespace Go.Proofs.Ytldmabkilgpgcaa
open Go.RowKit

def bytesN (N : Nat) (k : Nat) : List Int := (List.range k).map fun i => ((N / 2 ^ (8 * i) % 256 : Nat) : Int)
theorem bytesN_succ (N k : Nat) : bytesN N (k + 1) = bytesN N k ++ [((N / 2 ^ (8 * k) % 256 : Nat) : Int)] := by simp [bytesN, List.range_succ]

set_option maxHeartbeats 1000000 in
theorem vbytes_any (S : List Nat) (p : Nat) (bs : List Bool) (c0 : Bool) (w : World) (h : VecM w S p bs c0) :
    Calls Try.prog 46 #[.pointer (some ⟨p, 0, none⟩)] w fun e w' => ∃ A m c, m = (bs.length + 7) / 8 ∧ e = .returned (.slice A m c) ∧ w'.ownsRow w.heap.size 5 1 (.slice A m c) m ((bytesN (bitN bs) m).map (.int .u8)) ∧ Kp [] w w' := by
  obtain ⟨i0, hi, hz0, hz1, hz2⟩ := info_parts Try.info_u8
  obtain ⟨n, hn⟩ : ∃ n, n = bs.length := ⟨_, rfl⟩
  have HH := Lib.hid h
  obtain ⟨g, ws, A0, na, ca, av, h1, h2, h3, h4, h5, h6, _, _, _⟩ := h
  rw [← hn] at h4 h6
  have hw2 : IntKind.i64.wrap ((n : Int) + 7) = ((n + 7 : Nat) : Int) := by rw [IntKind.wrap_i64]; omega
  obtain ⟨m, hm⟩ : ∃ m, m = (n + 7) / 8 := ⟨_, rfl⟩
  have hw3 : Int.tdiv ((n : Int) + 7) 8 = (m : Int) := by rw [Int.tdiv_eq_ediv_of_nonneg (by omega)]; omega
  have hwm : IntKind.i64.wrap (m : Int) = (m : Int) := by rw [IntKind.wrap_i64]; omega
  have hmb : m ≤ 3000000 := by omega
  have HM := Lib.hid (show m = (bs.length + 7) / 8 by rw [hm, hn])
  have HW := Lib.hid (show Blk w g 100 (wordsV ws) from h2)
  have HR := Lib.hid h1
  have HLT := Lib.hid h3
  have HNM := Lib.hid h5
  obtain ⟨u, hu⟩ : ∃ u, u = ws.length := ⟨_, rfl⟩
  have HU := Lib.hid hu
  have hmu : m ≤ 8 * u := by rw [hu, h4, hm]; omega
  have HN := Lib.hid hn.symm
  clear h1 h2 h3 h4 h5 h6 hm hn hu
  go_enter Try.func46, Try.ntmps46
  go_wp2_with fail
  refine (vlen_any S p n bs c0 w HH.out HN.out).mono ?_
  rintro e w1 ⟨rfl, rfl⟩
  go_wp2_with fail
  go_loopw [2, 8] (fun y x wr => ∃ (k c1 : Nat) (A1 : Option Addr), x = .int .i64 (k : Int) ∧ y = .slice A1 k c1 ∧ k ≤ m ∧ Hid (wr.ownsRow w.heap.size 5 1 (.slice A1 k c1) k ((bytesN (bitN bs) k).map (.int .u8))) ∧ Hid (Kp [] w wr)) (fun _ x _ => m - (intOf x).toNat)
  case atStart => exact ⟨0, 0, none, rfl, rfl, by omega, Lib.hid ⟨rfl, .inl ⟨rfl, rfl⟩⟩, Lib.hid (Kp.refl [] w)⟩
  case round =>
    obtain ⟨k, c1, A1, rfl, rfl, hk, HO, HK⟩ := hrel
    by_cases hlt : k < m
    · have c0 : wr.cell? ⟨p, 0, none⟩ = some (.slice (some ⟨g, 0, none⟩) u u) := by rw [(HR.out.kp0 HK.out).cell, HU.out]; rfl
      obtain ⟨q, hq⟩ : ∃ q, q = k / 8 := ⟨_, rfl⟩
      obtain ⟨r, hr⟩ : ∃ r, r = k % 8 := ⟨_, rfl⟩
      have hdiv : (k : Int).tdiv 8 = (q : Int) := by rw [Int.tdiv_eq_ediv_of_nonneg (by omega)]; omega
      have hmod : (k : Int).tmod 8 = (r : Int) := by rw [Int.tmod_eq_emod_of_nonneg (by omega)]; omega
      have hwq : IntKind.i64.wrap (q : Int) = (q : Int) := by rw [IntKind.wrap_i64]; omega
      have hwr : IntKind.i64.wrap (r : Int) = (r : Int) := by rw [IntKind.wrap_i64]; omega
      have hqu : q < u := by omega
      obtain ⟨r8, hr8⟩ : ∃ r8, r8 = r * 8 := ⟨_, rfl⟩
      have hw8 : IntKind.i64.wrap ((r : Int) * 8) = (r8 : Int) := by rw [IntKind.wrap_i64]; omega
      have hr864 : r8 < 64 := by omega
      obtain ⟨x, hx⟩ : ∃ x, ws[q]? = some x := ⟨_, List.getElem?_eq_getElem (by rw [← HU.out]; exact hqu)⟩
      have cx : wr.cell? ⟨g, q, none⟩ = some (.int .u64 (x : Int)) := by rw [(HW.out.kp0 HK.out).cell]; exact wordsV_get hx
      obtain ⟨X, hX⟩ : ∃ X, X = x / 2 ^ r8 := ⟨_, rfl⟩
      have hdx : (x : Int) / 2 ^ r8 = (X : Int) := by rw [hX]; simp
      have hdx' : (x : Int) / 2 ^ min r8 64 = (X : Int) := by rw [show min r8 64 = r8 from by omega]; exact hdx
      obtain ⟨V, hV⟩ : ∃ V, V = X % 256 := ⟨_, rfl⟩
      have hwV : IntKind.u8.wrap (X : Int) = (V : Int) := by
        have : IntKind.u8.wrap (X : Int) = (X : Int) % 256 := by simp [IntKind.wrap, IntKind.signed, IntKind.bits]
        rw [this, hV]; omega
      have HVAL := Lib.hid (show bitN bs / 2 ^ (8 * k) % 256 = V by
        have := num_get (wd := 8) (r := r8) HLT.out hx (by omega)
        rw [← HNM.out, show 8 * k = 64 * q + r8 from by omega]
        rw [hV, hX]
        exact this)
      have HRX := Lib.hid (show Rd (wr.alloc (.cells #[.int .u8 (V : Int)] 5)) (wr.heap.size + 1) (some ⟨wr.heap.size, 0, none⟩) [.int .u8 (V : Int)] from Rd.new wr #[.int .u8 (V : Int)] 5 (0, 0))
      clear hq hr hr8 hx hX hV
      go_wp2_with (at_builtin; go_loud (refine wpList_append_rd rfl (.tmp 11) (.tmp 26) 38 rfl w.heap.size 5 i0 (.int .u8 0) 1 1 Try.underlying38 hi hz0 hz1 hz2 rfl (by decide) _ k _ rfl (own_kp0 HO.out ((Kp.refl [] _).alloc _)) _ _ 1 1 [.int .u8 (V : Int)] rfl rfl HRX.out (by simp [Value.oneCell']) (by unfold maxLen; omega) (by omega) (Nat.le_trans HK.out.size (by simp)) ?_); intro v2 w2 hown2 hgrow2 hat2
                   obtain ⟨A3, c3, rfl, _⟩ := own_form hown2
                   have HK2 := Lib.hid ((HK.out.alloc (.cells #[.int .u8 (V : Int)] 5)).grown hgrow2 (fun g hg => .inr (own_ge HO.out hg).1))
                   have HO2 := Lib.hid hown2
                   clear hown2 hgrow2 hat2)
      exact ⟨⟨k + 1, c3, A3, by go_num, rfl, by omega, Lib.hid (by rw [bytesN_succ, List.map_append, HVAL.out]; exact HO2.out), HK2⟩, by simp [intOf]; omega⟩
    · obtain rfl : m = k := by omega
      go_wp2_with fail
      go_ret
      exact ⟨A1, m, c1, HM.out, rfl, HO.out, HK.out⟩
end Go.Proofs.Ytldmabkilgpgcaa
namespace Go.Proofs.Ytldmabkilgpgcaa
open Go.RowKit

def packN (wd : Nat) : List Nat → Nat
  | [] => 0
  | x :: l => x + 2 ^ wd * packN wd l
theorem packN_snoc (wd : Nat) : ∀ (l : List Nat) (x : Nat), packN wd (l ++ [x]) = packN wd l + x * 2 ^ (wd * l.length)
  | [], x => by show x + 2 ^ wd * 0 = 0 + x * 2 ^ (wd * 0); simp
  | y :: l, x => by
    show y + 2 ^ wd * packN wd (l ++ [x]) = y + 2 ^ wd * packN wd l + x * 2 ^ (wd * (l.length + 1))
    rw [packN_snoc, Nat.mul_add, Nat.mul_add wd, Nat.mul_one, Nat.pow_add]
    have : 2 ^ wd * (x * 2 ^ (wd * l.length)) = x * (2 ^ (wd * l.length) * 2 ^ wd) := by rw [Nat.mul_comm, Nat.mul_assoc]
    omega
theorem packN_lt {wd : Nat} : ∀ {l : List Nat}, (∀ x ∈ l, x < 2 ^ wd) → packN wd l < 2 ^ (wd * l.length)
  | [], _ => by show 0 < 2 ^ (wd * 0); exact Nat.two_pow_pos _
  | x :: l, h => by
    have h1 := packN_lt (l := l) (fun y hy => h y (by simp [hy]))
    have h2 := h x (by simp)
    show x + 2 ^ wd * packN wd l < 2 ^ (wd * (l.length + 1))
    rw [Nat.mul_add, Nat.mul_one, Nat.add_comm (wd * l.length), Nat.pow_add]
    have h3 : 2 ^ wd * (packN wd l + 1) ≤ 2 ^ wd * 2 ^ (wd * l.length) := Nat.mul_le_mul_left _ h1
    rw [Nat.mul_add, Nat.mul_one] at h3
    omega
theorem packN_get {wd : Nat} : ∀ {l : List Nat} {i x : Nat}, (∀ x ∈ l, x < 2 ^ wd) → l[i]? = some x → packN wd l / 2 ^ (wd * i) % 2 ^ wd = x
  | [], i, x, _, hx => by simp at hx
  | y :: l, 0, x, h, hx => by
    simp at hx
    subst hx
    show (y + 2 ^ wd * packN wd l) / 2 ^ (wd * 0) % 2 ^ wd = y
    rw [Nat.mul_zero, Nat.pow_zero, Nat.div_one, Nat.add_mul_mod_self_left]
    exact Nat.mod_eq_of_lt (h y (by simp))
  | y :: l, i + 1, x, h, hx => by
    show (y + 2 ^ wd * packN wd l) / 2 ^ (wd * (i + 1)) % 2 ^ wd = x
    rw [Nat.mul_add, Nat.mul_one, Nat.add_comm (wd * i), Nat.pow_add, ← Nat.div_div_eq_div_mul, Nat.add_mul_div_left _ _ (Nat.two_pow_pos _), Nat.div_eq_of_lt (h y (by simp)), Nat.zero_add]
    exact packN_get (fun z hz => h z (by simp [hz])) (by simpa using hx)
theorem last_bits {bs : List Nat} {a x : Nat} (hb : ∀ y ∈ bs, y < 2 ^ 8) (hl : bs.length = (a + 7) / 8) (hr : 0 < a % 8) (hx : bs[bs.length - 1]? = some x) : packN 8 bs < 2 ^ a ↔ x / 2 ^ (a % 8) = 0 := by
  have hlen : bs.length = a / 8 + 1 := by omega
  have e : bs = bs.take (a / 8) ++ [x] := by
    rw [← take_succ_of (by rw [← hx, hlen]; rfl), ← hlen, List.take_length]
  have hl2 : (bs.take (a / 8)).length = a / 8 := by rw [List.length_take]; omega
  have h1 := packN_lt (wd := 8) (l := bs.take (a / 8)) (fun y hy => hb y (List.mem_of_mem_take hy))
  rw [hl2] at h1
  have e2 : packN 8 bs = packN 8 (bs.take (a / 8)) + x * 2 ^ (8 * (a / 8)) := by
    have := packN_snoc 8 (bs.take (a / 8)) x
    rw [← e, hl2] at this
    exact this
  have e3 : packN 8 bs / 2 ^ (8 * (a / 8)) = x := by
    rw [e2, Nat.add_mul_div_right _ _ (Nat.two_pow_pos _), Nat.div_eq_of_lt h1, Nat.zero_add]
  have e4 : 2 ^ a = 2 ^ (a % 8) * 2 ^ (8 * (a / 8)) := by rw [← Nat.pow_add, Nat.add_comm, Nat.div_add_mod]
  rw [e4, ← Nat.div_lt_iff_lt_mul (Nat.two_pow_pos _), e3, Nat.div_eq_zero_iff]
  have := Nat.two_pow_pos (a % 8)
  omega
theorem whole_bits {bs : List Nat} {a : Nat} (hb : ∀ y ∈ bs, y < 2 ^ 8) (hl : bs.length = (a + 7) / 8) (hr : a % 8 = 0) : packN 8 bs < 2 ^ a := by
  have h := packN_lt hb
  rwa [show 8 * bs.length = a from by omega] at h
def intsN (ls : List Nat) : List Int := ls.map fun x => ((x : Nat) : Int)
theorem intsN_snoc (ls : List Nat) (x : Nat) : intsN (ls ++ [x]) = intsN ls ++ [(x : Int)] := by simp [intsN]
theorem intsN_bytes {b : List Int} (h : ∀ x ∈ b, 0 ≤ x ∧ x ≤ 255) : intsN (b.map Int.toNat) = b := by
  induction b with
  | nil => rfl
  | cons x l ih =>
    have h1 := h x (by simp)
    have h2 := ih (fun y hy => h y (by simp [hy]))
    simp only [intsN, List.map_cons, List.map_map] at h2 ⊢
    rw [h2, show ((x.toNat : Nat) : Int) = x from by omega]
/-- The bits of a number. -/
def bitsOf (n N : Nat) : List Bool := (List.range n).map fun i => N / 2 ^ i % 2 == 1
theorem bitsOf_len (n N : Nat) : (bitsOf n N).length = n := by simp [bitsOf]
theorem bitsOf_get {n N i : Nat} (h : i < n) : (bitsOf n N)[i]? = some (N / 2 ^ i % 2 == 1) := by simp [bitsOf, h]
theorem bitsOf_succ (n N : Nat) : bitsOf (n + 1) N = bitsOf n N ++ [N / 2 ^ n % 2 == 1] := by simp [bitsOf, List.range_succ]
theorem bitN_bitsOf (N : Nat) : ∀ n, bitN (bitsOf n N) = N % 2 ^ n
  | 0 => by rw [Nat.pow_zero, Nat.mod_one]; rfl
  | n + 1 => by
    rw [bitsOf_succ, bitN_app, bitN_bitsOf N n, bitsOf_len, Nat.pow_succ, Nat.mod_mul]
    have e : bitN [N / 2 ^ n % 2 == 1] = N / 2 ^ n % 2 := by
      rcases Nat.mod_two_eq_zero_or_one (N / 2 ^ n) with h | h <;> rw [h] <;> rfl
    rw [e]
theorem bitsOf_eq {n N : Nat} (h : N < 2 ^ n) : bitN (bitsOf n N) = N := by rw [bitN_bitsOf, Nat.mod_eq_of_lt h]
theorem bitsOf_bitN (bs : List Bool) : bitsOf bs.length (bitN bs) = bs := by
  apply List.ext_getElem?
  intro i
  by_cases hi : i < bs.length
  · rw [bitsOf_get hi, bitN_bit (List.getElem?_eq_getElem hi), List.getElem?_eq_getElem hi]
    cases bs[i] <;> rfl
  · rw [List.getElem?_eq_none (by rw [bitsOf_len]; omega), List.getElem?_eq_none (by omega)]
theorem bytesN_len (N m : Nat) : (bytesN N m).length = m := by simp [bytesN]
theorem bytesN_get (N : Nat) {m j : Nat} (h : j < m) : (bytesN N m)[j]? = some ((N / 2 ^ (8 * j) % 256 : Nat) : Int) := by simp [bytesN, h]
theorem bytesN_val (N m : Nat) : ∀ x ∈ bytesN N m, 0 ≤ x ∧ x ≤ 255 := by
  intro x hx
  obtain ⟨i, _, rfl⟩ := List.mem_map.1 hx
  omega
/-- A number's bytes make it up. -/
theorem packN_bytesN (N : Nat) : ∀ m, packN 8 ((bytesN N m).map Int.toNat) = N % 2 ^ (8 * m)
  | 0 => by rw [Nat.mul_zero, Nat.pow_zero, Nat.mod_one]; rfl
  | m + 1 => by
    rw [bytesN_succ, List.map_append, List.map_cons, List.map_nil, packN_snoc, packN_bytesN N m, List.length_map, bytesN_len, Int.toNat_natCast, Nat.mul_add, Nat.mul_one, Nat.pow_add, Nat.mod_mul, Nat.mul_comm (2 ^ (8 * m))]
theorem bytesN_pack {bs : List Nat} (h : ∀ y ∈ bs, y < 2 ^ 8) : bytesN (packN 8 bs) bs.length = intsN bs := by
  apply List.ext_getElem?
  intro i
  by_cases hi : i < bs.length
  · rw [bytesN_get _ hi]
    have := packN_get (wd := 8) h (List.getElem?_eq_getElem hi)
    rw [show (256 : Nat) = 2 ^ 8 from rfl, this]
    simp [intsN, hi]
  · rw [List.getElem?_eq_none (by rw [bytesN_len]; omega), List.getElem?_eq_none (by simp [intsN]; omega)]
theorem bytesN_zero (m : Nat) : bytesN 0 m = List.replicate m 0 := by
  refine List.eq_replicate_iff.2 ⟨bytesN_len _ _, fun v hv => ?_⟩
  obtain ⟨k, _, rfl⟩ := List.mem_map.1 hv
  simp
theorem bytesN_step {N a m : Nat} (h : a / 8 < m) : (bytesN (N % 2 ^ a) m).set (a / 8) (((N % 2 ^ a / 2 ^ (8 * (a / 8)) % 256 + (N / 2 ^ a % 2) * 2 ^ (a % 8) : Nat)) : Int) = bytesN (N % 2 ^ (a + 1)) m := by
  apply List.ext_getElem?
  intro j
  rw [List.getElem?_set, bytesN_len]
  have hM : N % 2 ^ a < 2 ^ a := Nat.mod_lt _ (Nat.two_pow_pos _)
  have hb : N / 2 ^ a % 2 ≤ 1 := by omega
  by_cases hj : a / 8 = j
  · rw [if_pos hj, if_pos h, ← hj, bytesN_get _ h, mod_step, byte_step hM hb, if_pos rfl]
  · rw [if_neg hj]
    by_cases hjm : j < m
    · rw [bytesN_get _ hjm, bytesN_get _ hjm, mod_step, byte_step hM hb, if_neg (fun e => hj e.symm), Nat.add_zero]
    · rw [List.getElem?_eq_none (by rw [bytesN_len]; omega), List.getElem?_eq_none (by rw [bytesN_len]; omega)]
theorem bit_at {wd i k x : Nat} {ls : List Nat} (hl : ∀ x ∈ ls, x < 2 ^ wd) (hx : ls[i]? = some x) (hk : k < wd) : packN wd ls / 2 ^ (wd * i + k) % 2 = x / 2 ^ k % 2 := by
  have h := packN_get hl hx
  have e := Nat.div_add_mod (packN wd ls / 2 ^ (wd * i)) (2 ^ wd)
  rw [h] at e
  rw [Nat.pow_add, ← Nat.div_div_eq_div_mul, ← e]
  generalize packN wd ls / 2 ^ (wd * i) / 2 ^ wd = q
  have e2 : 2 ^ wd * q = 2 ^ k * (2 * (2 ^ (wd - k - 1) * q)) := by
    rw [← Nat.mul_assoc 2, ← Nat.mul_assoc]
    congr 1
    rw [show (2 : Nat) * 2 ^ (wd - k - 1) = 2 ^ (wd - k - 1 + 1) from by rw [Nat.pow_succ, Nat.mul_comm], ← Nat.pow_add]
    exact congrArg (2 ^ ·) (by omega)
  rw [e2, Nat.add_comm, Nat.add_mul_div_left _ _ (Nat.two_pow_pos _), Nat.add_mul_mod_self_left]
end Go.Proofs.Ytldmabkilgpgcaa
namespace Go.Proofs.Ytldmabkilgpgcaa
open Go.RowKit

/-- What is wrong with a length. -/
def lenE (n : Int) : Int := if n < 0 then 2 else if 16777216 < n then 3 else 0
/-- What is wrong with bytes as so many bits. -/
def readE (n : Int) (bs : List Nat) : Int := if lenE n = 0 then (if bs.length = (n.toNat + 7) / 8 ∧ packN 8 bs < 2 ^ n.toNat then 0 else 4) else lenE n
theorem readE_err {n : Int} {bs : List Nat} (h : lenE n ≠ 0) : readE n bs = lenE n := by unfold readE; rw [if_neg h]
theorem readE_ok {n : Nat} {bs : List Nat} (h : lenE n = 0) (h1 : bs.length = (n + 7) / 8) (h2 : packN 8 bs < 2 ^ n) : readE n bs = 0 := by
  unfold readE; rw [if_pos h, Int.toNat_natCast, if_pos ⟨h1, h2⟩]
theorem readE_no {n : Nat} {bs : List Nat} (h : lenE n = 0) (h1 : ¬ (bs.length = (n + 7) / 8 ∧ packN 8 bs < 2 ^ n)) : readE n bs = 4 := by
  unfold readE; rw [if_pos h, Int.toNat_natCast, if_neg h1]
theorem lenE_ok {n : Int} (h : lenE n = 0) : 0 ≤ n ∧ n ≤ 16777216 := by
  unfold lenE at h
  by_cases h1 : n < 0
  · rw [if_pos h1] at h; cases h
  · rw [if_neg h1] at h
    by_cases h2 : 16777216 < n
    · rw [if_pos h2] at h; cases h
    · omega
theorem lenE_nat {n : Nat} (h : n ≤ 16777216) : lenE (n : Int) = 0 := by unfold lenE; rw [if_neg (by omega), if_neg (by omega)]

theorem bnew_no (n : Int) (w : World) (h : lenE n ≠ 0) : Calls Try.prog 59 #[.int .i64 n] w fun e w' => e = .returned (.tuple #[.pointer none, .int .i64 (lenE n)]) ∧ w = w' := by
  by_cases h0 : n < 0
  · refine (bnew_neg n w h0).mono fun e w' hh => ?_
    unfold lenE
    rw [if_pos h0]
    exact hh
  · by_cases h1 : 16777216 < n
    · obtain ⟨m, rfl⟩ : ∃ m : Nat, n = (m : Int) := ⟨n.toNat, by omega⟩
      refine (bnew_long m w (by omega)).mono fun e w' hh => ?_
      unfold lenE
      rw [if_neg h0, if_pos h1]
      exact hh
    · exact absurd (show lenE n = 0 by unfold lenE; rw [if_neg h0, if_neg h1]) h

set_option maxRecDepth 100000 in
set_option maxHeartbeats 2000000 in
theorem bnew_raw (n : Nat) (w : World) (h : n ≤ 16777216) : Calls Try.prog 59 #[.int .i64 n] w fun e w' =>
    ∃ g p m, e = .returned (.tuple #[.pointer (some ⟨p, 0, none⟩), .int .i64 0]) ∧ m = (n + 63) / 64 ∧ w.heap.size ≤ g ∧ w.heap.size ≤ p ∧ Blk w' g 100 (wordsV (List.replicate m 0)) ∧
      Blk w' p 105 [.slice (some ⟨g, 0, none⟩) m m, .slice none 0 0, .bool false, .int .i64 (n : Int), .bool true] ∧ Kp [] w w' := by
  obtain ⟨i0, hi, hz0, hz1, hz2⟩ := info_parts Try.info_u64
  obtain ⟨m, hm⟩ : ∃ m, m = (n + 63) / 64 := ⟨_, rfl⟩
  have hw1 : IntKind.i64.wrap ((n : Int) + 64) = ((n + 64 : Nat) : Int) := by rw [IntKind.wrap_i64]; omega
  have hw2 : IntKind.i64.wrap ((n : Int) + 64 - 1) = ((n + 63 : Nat) : Int) := by rw [IntKind.wrap_i64]; omega
  have hw3 : Int.tdiv ((n : Int) + 63) 64 = (m : Int) := by rw [Int.tdiv_eq_ediv_of_nonneg (by omega)]; omega
  have hw4 : IntKind.i64.wrap (m : Int) = (m : Int) := by rw [IntKind.wrap_i64]; omega
  have hmb : m ≤ 1000000 := by omega
  have hmk := run_make_list (P := Try.prog) 101 100 i0 (.int .u64 0) Try.underlying101 hi hz0 hz1 rfl .i64 .i64 m (by rw [hz2]; omega) (by omega)
  have HM := Lib.hid hm
  clear hm hi hz0 hz1 hz2
  go_enter Try.func59, Try.ntmps59
  go_wp2_with fail
  go_ret2
  have b1 := Blk.new w 100 (List.replicate m (.int .u64 0))
  have b2 := Blk.new (w.alloc (.cells (List.replicate m (.int .u64 0)).toArray 100)) 105 [.slice (some ⟨w.heap.size, 0, none⟩) m m, .slice none 0 0, .bool false, .int .i64 (n : Int), .bool true]
  have e : (w.alloc (.cells (List.replicate m (.int .u64 0)).toArray 100)).heap.size = w.heap.size + 1 := by simp
  rw [e] at b2
  refine ⟨w.heap.size, w.heap.size + 1, m, rfl, HM.out, Nat.le_refl _, Nat.le_succ _, ?_, ?_, ((Kp.refl [] w).alloc _).alloc _⟩
  · have := b1.alloc (.cells [.slice (some ⟨w.heap.size, 0, none⟩) m m, .slice none 0 0, .bool false, .int .i64 (n : Int), .bool true].toArray 105)
    simpa [wordsV] using this
  · simpa using b2

set_option maxRecDepth 100000 in
set_option maxHeartbeats 2000000 in
theorem vread_any (n : Int) (A : Option Addr) (L c B : Nat) (bs : List Nat) (w : World) (hx : Rd w B A ((intsN bs).map (.int .u8))) (hn : bs.length = L) (hb : L ≤ 1000000000) (hs : ∀ y ∈ bs, y < 2 ^ 8) :
    Calls Try.prog 48 #[.int .i64 n, .slice A L c] w fun e w' => Kp [] w w' ∧ ((readE n bs ≠ 0 ∧ e = .returned (.tuple #[.pointer none, .int .i64 (readE n bs)])) ∨
      (readE n bs = 0 ∧ lenE n = 0 ∧ bs.length = (n.toNat + 7) / 8 ∧ packN 8 bs < 2 ^ n.toNat ∧ ∃ S p, e = .returned (.tuple #[.pointer (some ⟨p, 0, none⟩), .int .i64 0]) ∧ VecM w' S p (bitsOf n.toNat (packN 8 bs)) false ∧ (∀ x ∈ S, w.heap.size ≤ x))) := by
  have HX := Lib.hid hx; clear hx
  have HN := Lib.hid hn; clear hn
  have HS := Lib.hid hs; clear hs
  by_cases he : lenE n ≠ 0
  · have HE := Lib.hid he
    have HR := Lib.hid (readE_err (bs := bs) he)
    have hE1 : (lenE n != 0) = true := by simpa using he
    obtain ⟨E, hE⟩ : ∃ E, E = lenE n := ⟨_, rfl⟩
    rw [← hE] at hE1
    have HEE := Lib.hid hE; clear hE he
    go_enter Try.func48, Try.ntmps48
    go_wp2_with fail
    refine (bnew_no n w HE.out).mono ?_
    rintro e w2 ⟨rfl, rfl⟩
    rw [← HEE.out]
    go_wp2_with fail
    go_ret2
    exact ⟨Kp.refl [] w, .inl ⟨by rw [HR.out]; exact HE.out, by rw [HR.out, HEE.out]; rfl⟩⟩
  have he0 : lenE n = 0 := by omega
  have hwn := lenE_ok he0
  obtain ⟨T, rfl⟩ : ∃ T : Nat, n = (T : Int) := ⟨n.toNat, by omega⟩
  have hDK : T ≤ 16777216 := by omega
  have HE := Lib.hid he0
  clear he he0
  rw [Int.toNat_natCast]
  have hw2 : IntKind.i64.wrap ((T : Int) + 7) = ((T + 7 : Nat) : Int) := by rw [IntKind.wrap_i64]; omega
  obtain ⟨s, hs⟩ : ∃ s, s = (T + 7) / 8 := ⟨_, rfl⟩
  have hw3 : Int.tdiv ((T : Int) + 7) 8 = (s : Int) := by rw [Int.tdiv_eq_ediv_of_nonneg (by omega)]; omega
  have hws : IntKind.i64.wrap (s : Int) = (s : Int) := by rw [IntKind.wrap_i64]; omega
  obtain ⟨r, hr⟩ : ∃ r, r = T % 8 := ⟨_, rfl⟩
  have hmod : (T : Int).tmod 8 = (r : Int) := by rw [Int.tmod_eq_emod_of_nonneg (by omega)]; omega
  have hwr : IntKind.i64.wrap (r : Int) = (r : Int) := by rw [IntKind.wrap_i64]; omega
  have hr8 : r < 8 := by omega
  have HSS := Lib.hid hs; clear hs
  have HRR := Lib.hid hr; clear hr
  have HDK := Lib.hid hDK
  go_enter Try.func48, Try.ntmps48
  go_wp2_with fail
  refine (bnew_raw T w HDK.out).mono ?_
  rintro e w2 ⟨g, p, m, rfl, hm, hg, hp, hbg, hbp, hk2⟩
  have HX2 := Lib.hid (HX.out.kp0 hk2)
  by_cases hls : L ≠ s
  · have hls1 : ((L : Int) != (s : Int)) = true := by simpa using (fun h : (L : Int) = (s : Int) => hls (by omega))
    have HRE := Lib.hid (readE_no (bs := bs) HE.out (fun h => hls (by rw [← HN.out, HSS.out]; exact h.1)))
    clear hls
    go_wp2_with fail
    go_ret2
    exact ⟨hk2, .inl ⟨by rw [HRE.out]; decide, by rw [HRE.out]; rfl⟩⟩
  obtain rfl : L = s := by omega
  clear hls
  by_cases hbad : 0 < r ∧ ∃ x, bs[bs.length - 1]? = some x ∧ x / 2 ^ r ≠ 0
  · obtain ⟨hr0, x, hxl, hxr⟩ := hbad
    have HRE := Lib.hid (readE_no (bs := bs) HE.out (fun h => hxr (by
      rw [HRR.out]
      exact (last_bits HS.out h.1 (by rw [← HRR.out]; exact hr0) hxl).1 h.2)))
    have hL0 : 0 < L := by have := HSS.out; have := HRR.out; omega
    have hxb := HS.out x (List.mem_of_getElem? hxl)
    obtain ⟨X, hX⟩ : ∃ X, X = x / 2 ^ r := ⟨_, rfl⟩
    have hdx : (x : Int) / 2 ^ r = (X : Int) := by rw [hX]; simp
    have hdx' : (x : Int) / 2 ^ min r 8 = (X : Int) := by rw [show min r 8 = r from by omega]; exact hdx
    have hX0 : 0 < X := by rw [hX]; omega
    obtain ⟨l1, hl1⟩ : ∃ l1, L = l1 + 1 := ⟨L - 1, by omega⟩
    rw [HN.out, hl1] at hxl
    obtain ⟨ad, rfl, _, cx⟩ := HX2.out.at_ (i := l1) (u := .int .u8 (x : Int)) (by simp only [Nat.add_sub_cancel] at hxl; simp [intsN, hxl])
    have hwl : IntKind.i64.wrap ((L : Int) - 1) = (l1 : Int) := by rw [IntKind.wrap_i64]; omega
    have hwl' : IntKind.i64.wrap ((l1 : Int) + 1 - 1) = (l1 : Int) := by rw [IntKind.wrap_i64]; omega
    have hll : l1 < L := by omega
    clear hxl hxr hX hxb hl1
    go_wp2_with fail
    go_ret2
    exact ⟨hk2, .inl ⟨by rw [HRE.out]; decide, by rw [HRE.out]; rfl⟩⟩
  have hgood : packN 8 bs < 2 ^ T := by
    rcases Nat.eq_zero_or_pos r with h0 | h0
    · exact whole_bits HS.out (by rw [HN.out]; exact HSS.out) (by rw [← HRR.out]; exact h0)
    · have hL0 : 0 < L := by have := HSS.out; have := HRR.out; omega
      obtain ⟨x, hx⟩ : ∃ x, bs[bs.length - 1]? = some x := ⟨_, List.getElem?_eq_getElem (by rw [HN.out]; omega)⟩
      refine (last_bits HS.out (by rw [HN.out]; exact HSS.out) (by rw [← HRR.out]; exact h0) hx).2 ?_
      rw [← HRR.out]
      rcases Nat.eq_zero_or_pos (x / 2 ^ r) with h1 | h1
      · exact h1
      · exact absurd ⟨h0, x, hx, by omega⟩ hbad
  have HGD := Lib.hid hgood; clear hgood
  have HRE := Lib.hid (readE_ok (bs := bs) HE.out (by rw [HN.out, HSS.out]) HGD.out)
  have hgp : g ≠ p := hbg.ne hbp (by decide)
  have HGP := Lib.hid (show g ≠ p ∧ w.heap.size ≤ g ∧ w.heap.size ≤ p from ⟨hgp, hg, hp⟩)
  have HM := Lib.hid hm
  have hmb : m ≤ 1000000 := by omega
  have hLm : L ≤ 8 * m := by have := HSS.out; omega
  have HB0 := Lib.hid hbg; clear hbg
  have HP0 := Lib.hid hbp; clear hbp
  have HK := Lib.hid hk2
  clear hm hgp hg hp
  have hr2 : r = 0 ∨ (0 < r ∧ ∃ x, bs[bs.length - 1]? = some x ∧ x / 2 ^ r = 0) := by
    rcases Nat.eq_zero_or_pos r with h0 | h0
    · exact .inl h0
    · have hL0 : 0 < L := by have := HSS.out; have := HRR.out; omega
      obtain ⟨x, hx⟩ : ∃ x, bs[bs.length - 1]? = some x := ⟨_, List.getElem?_eq_getElem (by rw [HN.out]; omega)⟩
      refine .inr ⟨h0, x, hx, ?_⟩
      rcases Nat.eq_zero_or_pos (x / 2 ^ r) with h1 | h1
      · exact h1
      · exact absurd ⟨h0, x, hx, by omega⟩ hbad
  clear hbad
  rcases hr2 with hr0 | ⟨hr0, x, hxl, hxr⟩
  focus (
                subst hr0
                go_wp2_with fail)
  rotate_left
  focus (
                have hL0 : 0 < L := by have := HSS.out; have := HRR.out; omega
                have hxb := HS.out x (List.mem_of_getElem? hxl)
                have hdx : (x : Int) / 2 ^ r = 0 := by rw [show (x : Int) / 2 ^ r = ((x / 2 ^ r : Nat) : Int) from by simp, hxr]; rfl
                have hdx' : (x : Int) / 2 ^ min r 8 = 0 := by rw [show min r 8 = r from by omega]; exact hdx
                obtain ⟨l1, hl1⟩ : ∃ l1, L = l1 + 1 := ⟨L - 1, by omega⟩
                rw [HN.out, hl1] at hxl
                obtain ⟨ad, rfl, _, cx⟩ := HX2.out.at_ (i := l1) (u := .int .u8 (x : Int)) (by simp only [Nat.add_sub_cancel] at hxl; simp [intsN, hxl])
                have hwl : IntKind.i64.wrap ((L : Int) - 1) = (l1 : Int) := by rw [IntKind.wrap_i64]; omega
                have hwl' : IntKind.i64.wrap ((l1 : Int) + 1 - 1) = (l1 : Int) := by rw [IntKind.wrap_i64]; omega
                have hll : l1 < L := by omega
                clear hxl hxr hxb hl1
                go_wp2_with fail)
  all_goals
    go_loopw [43] (fun x wr => ∃ (k : Nat) (ws : List Nat), x = .int .i64 (k : Int) ∧ k ≤ L ∧ Hid (Blk wr g 100 (wordsV ws)) ∧ Hid (ws.length = m) ∧ Hid (∀ x ∈ ws, x < 2 ^ 64) ∧ Hid (num ws = packN 8 (bs.take k)) ∧ Hid (Blk wr p 105 [.slice (some ⟨g, 0, none⟩) m m, .slice none 0 0, .bool false, .int .i64 (T : Int), .bool true]) ∧ Hid (Kp [] w wr)) (fun x _ => L - (intOf x).toNat)
    case atStart => exact ⟨0, List.replicate m 0, rfl, by omega, HB0, Lib.hid List.length_replicate, Lib.hid (fun x hx => by rw [List.eq_of_mem_replicate hx]; decide), Lib.hid (by rw [num_zero]; rfl), HP0, HK⟩
    case round =>
      clear HB0 HP0 HK
      obtain ⟨k, ws, rfl, hk, HB, HL, HLT, HNM, HP, HK3⟩ := hrel
      by_cases hlt : k < L
      · obtain ⟨y, hy⟩ : ∃ y, bs[k]? = some y := ⟨_, List.getElem?_eq_getElem (by rw [HN.out]; exact hlt)⟩
        obtain ⟨ad2, had2, _, cy⟩ := (HX.out.kp0 HK3.out).at_ (i := k) (u := .int .u8 (y : Int)) (by simp [intsN, hy])
        first | (injection had2 with had2; subst had2) | subst had2
        have hyb := HS.out y (List.mem_of_getElem? hy)
        have c0 := HP.out.cell 0
        simp only [List.getElem?_cons_zero] at c0
        obtain ⟨q, hq⟩ : ∃ q, q = k / 8 := ⟨_, rfl⟩
        obtain ⟨r1, hr1⟩ : ∃ r1, r1 = k % 8 := ⟨_, rfl⟩
        have hdiv : (k : Int).tdiv 8 = (q : Int) := by rw [Int.tdiv_eq_ediv_of_nonneg (by omega)]; omega
        have hmod1 : (k : Int).tmod 8 = (r1 : Int) := by rw [Int.tmod_eq_emod_of_nonneg (by omega)]; omega
        have hwq : IntKind.i64.wrap (q : Int) = (q : Int) := by rw [IntKind.wrap_i64]; omega
        have hwr1 : IntKind.i64.wrap (r1 : Int) = (r1 : Int) := by rw [IntKind.wrap_i64]; omega
        have hqu : q < m := by omega
        obtain ⟨r8, hr8'⟩ : ∃ r8, r8 = r1 * 8 := ⟨_, rfl⟩
        have hw8 : IntKind.i64.wrap ((r1 : Int) * 8) = (r8 : Int) := by rw [IntKind.wrap_i64]; omega
        have hr864 : r8 < 64 := by omega
        obtain ⟨z, hz⟩ : ∃ z, ws[q]? = some z := ⟨_, List.getElem?_eq_getElem (by rw [HL.out]; exact hqu)⟩
        have cz : wr.cell? ⟨g, q, none⟩ = some (.int .u64 (z : Int)) := by rw [HB.out.cell]; exact wordsV_get hz
        have cf := HB.out.free q
        have hzb := HLT.out z (List.mem_of_getElem? hz)
        have hwy : IntKind.u64.wrap (y : Int) = (y : Int) := by rw [u64_wrap_nat]; omega
        obtain ⟨Y, hY⟩ : ∃ Y, Y = y * 2 ^ r8 := ⟨_, rfl⟩
        have hYb : Y < 2 ^ 64 := by
          rw [hY]
          have h1 : y * 2 ^ r8 < 2 ^ 8 * 2 ^ r8 := Nat.mul_lt_mul_of_pos_right hyb (Nat.two_pow_pos _)
          rw [← Nat.pow_add] at h1
          exact Nat.lt_of_lt_of_le h1 (Nat.pow_le_pow_right (by omega) (by omega))
        have hsh' : IntKind.u64.wrap ((y : Int) * 2 ^ r8) = (Y : Int) := by
          have e : (y : Int) * 2 ^ r8 = ((y * 2 ^ r8 : Nat) : Int) := by simp
          rw [e, u64_wrap_nat, ← hY, Nat.mod_eq_of_lt hYb]
        have hsh : IntKind.u64.wrap ((y : Int) * 2 ^ min r8 64) = (Y : Int) := by rw [show min r8 64 = r8 from by omega]; exact hsh'
        obtain ⟨Z, hZ⟩ : ∃ Z, Z = z ||| Y := ⟨_, rfl⟩
        have hor : bits .or .u64 (z : Int) (Y : Int) = (Z : Int) := by rw [hZ]; exact u64_or_nat z Y (by omega) (by omega)
        have hZb : Z < 2 ^ 64 := by rw [hZ]; exact Nat.or_lt_two_pow hzb hYb
        have hkq : 8 * k = 64 * q + r8 := by omega
        have hnz : num ws < 2 ^ (64 * q + r8) := by
          rw [HNM.out, ← hkq]
          have h1 := packN_lt (wd := 8) (l := bs.take k) (fun y hy => HS.out y (List.mem_of_mem_take hy))
          rwa [List.length_take, Nat.min_eq_left (by rw [HN.out]; omega)] at h1
        have hres := num_put1 (n := y) hz hnz
        rw [← hY, ← hZ, HNM.out, ← hkq] at hres
        have HRES := Lib.hid (show num (ws.set q Z) = packN 8 (bs.take (k + 1)) by
          rw [hres, take_succ_of hy, packN_snoc, List.length_take, Nat.min_eq_left (by rw [HN.out]; omega)])
        have HB3 := Lib.hid (HB.out.set_ q (.int .u64 (Z : Int))).drew
        have HP3 := Lib.hid (HP.out.far (p := ⟨g, q, none⟩) (Ne.symm HGP.out.1) (.int .u64 (Z : Int))).drew
        have HL3 := Lib.hid (show (ws.set q Z).length = m by rw [List.length_set, HL.out])
        have HLT3 := Lib.hid (set_lt (q := q) HLT.out hZb)
        have HKK := Lib.hid ((HK3.out.setCell (p := ⟨g, q, none⟩) (.inr HGP.out.2.1) (.int .u64 (Z : Int))).drew)
        rw [wordsV_set] at HB3
        clear hy hyb hq hr1 hr8' hz hzb hY hYb hZ hZb hkq hnz hres
        go_wp2_with fail
        go_region
        go_wp2_with fail
        exact ⟨⟨k + 1, ws.set q Z, by go_num, by omega, HB3, HL3, HLT3, HRES, HP3, HKK⟩, by simp [intOf]; omega⟩
      · obtain rfl : L = k := by omega
        have HROW := Lib.hid (show VecM wr [p, g] p (bitsOf T (packN 8 bs)) false from by
          refine ⟨g, ws, none, 0, 0, [], ?_, HB.out, HLT.out, ?_, ?_, ?_, ?_, ?_, rfl⟩
          · rw [bitsOf_len, HL.out]; exact HP.out
          · rw [bitsOf_len, HL.out, HM.out]
          · rw [HNM.out, List.take_of_length_le (by rw [HN.out]; exact Nat.le_refl _), bitsOf_eq HGD.out]
          · rw [bitsOf_len]; exact HDK.out
          · exact ⟨rfl, .inl ⟨rfl, rfl⟩⟩
          · intro h; cases h)
        have HSB := Lib.hid (show ∀ x ∈ [p, g], w.heap.size ≤ x from by
          intro x hx
          simp only [List.mem_cons, List.not_mem_nil, or_false] at hx
          rcases hx with rfl | rfl
          · exact HGP.out.2.2
          · exact HGP.out.2.1)
        go_wp2_with fail
        go_ret2
        exact ⟨HK3.out, .inr ⟨HRE.out, HE.out, by rw [HN.out, HSS.out], HGD.out, [p, g], p, rfl, HROW.out, HSB.out⟩⟩
end Go.Proofs.Ytldmabkilgpgcaa
namespace Go.Proofs.Ytldmabkilgpgcaa
open Go.RowKit

/-- The document's vector in memory: its blocks, its place, its bits. -/
def RefV (w : World) (S : List Nat) (p : Nat) (bs : List Bool) : Prop :=
  ∃ (A : Option Addr) (c : Nat), Blk w p 92 [.slice A bs.length c] ∧ w.ownsRow 0 4 1 (.slice A bs.length c) bs.length (bs.map .bool) ∧ S = p :: ownL (.slice A bs.length c)
theorem RefV.lt {w : World} {S : List Nat} {p : Nat} {bs : List Bool} (h : RefV w S p bs) : ∀ g ∈ S, g < w.heap.size := by
  obtain ⟨A, c, h1, h2, rfl⟩ := h
  intro x hx
  simp only [List.mem_cons] at hx
  rcases hx with rfl | hx
  · exact h1.lt
  · exact (own_ge h2 (mem_ownL.1 hx)).2
theorem RefV.kp {w w' : World} {S T : List Nat} {p : Nat} {bs : List Bool} (h : RefV w S p bs) (hk : Kp T w w') (hd : ∀ g ∈ S, g ∉ T) : RefV w' S p bs := by
  obtain ⟨A, c, h1, h2, rfl⟩ := h
  exact ⟨A, c, h1.kp hk (hd p (by simp)), own_kp h2 hk (fun x hx => hd x (by simp [mem_ownL, hx])), rfl⟩
theorem RefV.kp0 {w w' : World} {S : List Nat} {p : Nat} {bs : List Bool} (h : RefV w S p bs) (hk : Kp [] w w') : RefV w' S p bs := h.kp hk (by simp)
theorem RefV.open {w : World} {S : List Nat} {p : Nat} {bs : List Bool} (h : RefV w S p bs) : ∃ (A : Option Addr) (c : Nat), w.cell? ⟨p, 0, none⟩ = some (.slice A bs.length c) ∧ Rd w w.heap.size A (bs.map .bool) := by
  obtain ⟨A, c, h1, h2, _⟩ := h
  exact ⟨A, c, by rw [h1.cell]; rfl, own_rd h2⟩

end Go.Proofs.Ytldmabkilgpgcaa
namespace Go.Proofs.Ytldmabkilgpgcaa
open Go.RowKit

theorem selO_of_none {bs : List Bool} {k : Int} (h : ∀ j : Nat, bs[j]? = some true → ((cntI bs j : Nat) : Int) ≠ k) : selO bs k = none := by
  unfold selO
  by_cases h0 : k < 0
  · rw [if_pos h0]
  · rw [if_neg h0, List.find?_eq_none]
    intro i hi hc
    simp only [Bool.and_eq_true, beq_iff_eq] at hc
    exact h i hc.1 (by omega)
theorem cntI_next {bs : List Bool} {k : Nat} {b : Bool} (h : bs[k]? = some b) : cntI bs (k + 1) = cntI bs k + b.toNat := by
  unfold cntI
  rw [take_succ_of h, List.count_append]
  cases b <;> rfl

set_option maxRecDepth 100000 in
set_option maxHeartbeats 2000000 in
theorem rbbytes_any (S : List Nat) (p : Nat) (bs : List Bool) (w : World) (h : RefV w S p bs) (hl : bs.length ≤ 16777216) :
    Calls Try.prog 54 #[.pointer (some ⟨p, 0, none⟩)] w fun e w' => ∃ g m, m = (bs.length + 7) / 8 ∧ e = .returned (.slice (some ⟨g, 0, none⟩) m m) ∧ Blk w' g 5 ((bytesN (bitN bs) m).map (.int .u8)) ∧ w.heap.size ≤ g ∧ Kp [] w w' := by
  obtain ⟨i0, hi, hz0, hz1, hz2⟩ := info_parts Try.info_u8
  have HV := Lib.hid h
  obtain ⟨A, c, c0, hr⟩ := h.open
  obtain ⟨n, hn⟩ : ∃ n, n = bs.length := ⟨_, rfl⟩
  rw [← hn] at c0 hl
  have hw2 : IntKind.i64.wrap ((n : Int) + 7) = ((n + 7 : Nat) : Int) := by rw [IntKind.wrap_i64]; omega
  obtain ⟨m, hm⟩ : ∃ m, m = (n + 7) / 8 := ⟨_, rfl⟩
  have hw3 : Int.tdiv ((n : Int) + 7) 8 = (m : Int) := by rw [Int.tdiv_eq_ediv_of_nonneg (by omega)]; omega
  have hwm : IntKind.i64.wrap (m : Int) = (m : Int) := by rw [IntKind.wrap_i64]; omega
  have hmb : m ≤ 3000000 := by omega
  have hmk := run_make_list (P := Try.prog) 38 5 i0 (.int .u8 0) Try.underlying38 hi hz0 hz1 rfl .i64 .i64 m (by rw [hz2]; omega) (by omega)
  have HC := Lib.hid c0
  have HX := Lib.hid hr
  have HM := Lib.hid (show m = (bs.length + 7) / 8 by rw [hm, hn])
  have HN := Lib.hid hn
  have hnm : n ≤ 8 * m := by omega
  clear hm hn hr h hi hz0 hz1 hz2
  go_enter Try.func54, Try.ntmps54
  go_wp2_with fail
  have HG0 := Lib.hid (show Blk (w.alloc (.cells (Array.replicate m (.int .u8 0)) 5)) w.heap.size 5 ((bytesN (bitN bs % 2 ^ 0) m).map (.int .u8)) by
    rw [Nat.pow_zero, Nat.mod_one, bytesN_zero]
    have h2 : Blk (w.alloc (.cells (Array.replicate m (.int .u8 0)) 5)) w.heap.size 5 ((List.replicate m (0 : Int)).map (.int .u8)) := by simpa using Blk.new w 5 (List.replicate m (.int .u8 0))
    exact h2)
  go_loopw [4] (fun x wr => ∃ i : Nat, x = .int .i64 (i : Int) ∧ i ≤ n ∧ Hid (Blk wr w.heap.size 5 ((bytesN (bitN bs % 2 ^ i) m).map (.int .u8))) ∧ Hid (Kp [] w wr)) (fun x _ => n - (intOf x).toNat)
  case atStart => exact ⟨0, rfl, by omega, HG0, Lib.hid ((Kp.refl [] w).alloc _)⟩
  case round =>
    clear HG0 c0
    obtain ⟨i, rfl, hin, HB, HK⟩ := hrel
    have c0 : wr.cell? ⟨p, 0, none⟩ = some (.slice A n c) := HK.out.cell HC.out (by simp)
    by_cases hlt : i < n
    · obtain ⟨b, hb⟩ : ∃ b, bs[i]? = some b := ⟨_, List.getElem?_eq_getElem (by rw [← HN.out]; exact hlt)⟩
      obtain ⟨ad, rfl, _, hcx⟩ := (HX.out.kp0 HK.out).at_ (i := i) (u := .bool b) (by simp [hb])
      have hbit := bitN_bit hb
      have hstep := bytesN_step (N := bitN bs) (a := i) (m := m) (by omega)
      obtain ⟨q, hq⟩ : ∃ q, q = i / 8 := ⟨_, rfl⟩
      obtain ⟨r, hr⟩ : ∃ r, r = i % 8 := ⟨_, rfl⟩
      obtain ⟨N, hN⟩ : ∃ N, N = bitN bs := ⟨_, rfl⟩
      rw [← hN] at HB hbit hstep
      obtain ⟨old, hold⟩ : ∃ old, old = N % 2 ^ i / 2 ^ (8 * q) % 256 := ⟨_, rfl⟩
      rw [hbit, ← hq, ← hr, ← hold] at hstep
      have hqm : q < m := by omega
      have cq : wr.cell? ⟨w.heap.size, q, none⟩ = some (.int .u8 (old : Int)) := by
        rw [HB.out.cell, List.getElem?_map, bytesN_get _ hqm, ← hold]; rfl
      have cf := HB.out.free q
      have hob : old < 2 ^ r := by
        have h1 : N % 2 ^ i / 2 ^ (8 * q) < 2 ^ r := by
          rw [Nat.div_lt_iff_lt_mul (Nat.two_pow_pos _), ← Nat.pow_add, show r + 8 * q = i from by omega]
          exact Nat.mod_lt _ (Nat.two_pow_pos _)
        have h2 : old ≤ N % 2 ^ i / 2 ^ (8 * q) := by rw [hold]; exact Nat.mod_le _ _
        omega
      cases b with
      | false =>
        have e : (bytesN (N % 2 ^ i) m).set q ((old : Nat) : Int) = bytesN (N % 2 ^ i) m := by
          rw [hold]
          apply List.ext_getElem?
          intro j
          rw [List.getElem?_set]
          by_cases hj : q = j
          · subst hj
            rw [if_pos rfl, if_pos (by rw [bytesN_len]; exact hqm), bytesN_get _ hqm]
          · rw [if_neg hj]
        have hs2 : (bytesN (N % 2 ^ i) m).set q ((old + false.toNat * 2 ^ r : Nat) : Int) = bytesN (N % 2 ^ (i + 1)) m := hstep
        rw [show old + false.toNat * 2 ^ r = old by simp, e] at hs2
        have HB2 := Lib.hid (show Blk wr w.heap.size 5 ((bytesN (bitN bs % 2 ^ (i + 1)) m).map (.int .u8)) by rw [← hN, ← hs2]; exact HB.out)
        clear hb hbit hstep hq hr hN hold hqm cq cf hob e hs2 HB
        go_wp2_with fail
        exact ⟨⟨i + 1, by go_num, by omega, HB2, HK⟩, by simp [intOf]; omega⟩
      | true =>
        have hdiv : (i : Int).tdiv 8 = (q : Int) := by rw [Int.tdiv_eq_ediv_of_nonneg (by omega)]; omega
        have hmod : (i : Int).tmod 8 = (r : Int) := by rw [Int.tmod_eq_emod_of_nonneg (by omega)]; omega
        have hwq : IntKind.i64.wrap (q : Int) = (q : Int) := by rw [IntKind.wrap_i64]; omega
        have hwr : IntKind.i64.wrap (r : Int) = (r : Int) := by rw [IntKind.wrap_i64]; omega
        have hr8 : r < 8 := by omega
        have hu8 : ∀ z : Nat, z < 256 → IntKind.u8.wrap (z : Int) = (z : Int) := fun z hz => by
          have : IntKind.u8.wrap (z : Int) = (z : Int) % 256 := by simp [IntKind.wrap, IntKind.signed, IntKind.bits]
          rw [this]; omega
        obtain ⟨sh, hsh⟩ : ∃ sh, sh = 2 ^ r := ⟨_, rfl⟩
        have hp7 : 2 ^ r ≤ 2 ^ 7 := Nat.pow_le_pow_right (by omega) (by omega)
        have hws2 : IntKind.u8.wrap (2 ^ r) = (sh : Int) := by
          rw [show ((2 : Int) ^ r) = ((2 ^ r : Nat) : Int) from by simp, ← hsh]
          exact hu8 sh (by omega)
        have hws : IntKind.u8.wrap (1 * 2 ^ r) = (sh : Int) := by rw [Int.one_mul]; exact hws2
        have hws' : IntKind.u8.wrap (1 * 2 ^ min r 8) = (sh : Int) := by rw [show min r 8 = r from by omega]; exact hws
        have hws3 : IntKind.u8.wrap (2 ^ min r 8) = (sh : Int) := by rw [show min r 8 = r from by omega]; exact hws2
        have hwn : IntKind.u8.wrap ((old : Int) + (sh : Int)) = ((old + sh : Nat) : Int) := hu8 (old + sh) (by omega)
        have hs2 : (bytesN (N % 2 ^ i) m).set q ((old + sh : Nat) : Int) = bytesN (N % 2 ^ (i + 1)) m := by
          rw [← hstep, hsh]
          show _ = (bytesN (N % 2 ^ i) m).set q ((old + 1 * 2 ^ r : Nat) : Int)
          rw [Nat.one_mul]
        have HST := Lib.hid hs2
        have HNN := Lib.hid hN
        clear hb hbit hstep hq hr hN hold hob hu8 hsh hp7 hs2
        go_wp2_with fail
        go_region
        go_wp2_with fail
        have h := (HB.out.set_ q (.int .u8 ((old + sh : Nat) : Int))).drew
        rw [← List.map_set, HST.out, HNN.out, Int.natCast_add] at h
        exact ⟨⟨i + 1, by go_num, by omega, Lib.hid h, Lib.hid ((HK.out.setCell (.inr (Nat.le_refl _)) _).drew)⟩, by simp [intOf]; omega⟩
    · obtain rfl : n = i := by omega
      have hN : bitN bs % 2 ^ n = bitN bs := Nat.mod_eq_of_lt (by rw [HN.out]; exact bitN_lt bs)
      have HB2 := Lib.hid (show Blk wr w.heap.size 5 ((bytesN (bitN bs) m).map (.int .u8)) by have := HB.out; rwa [hN] at this)
      clear hN
      go_wp2_with fail
      go_ret
      exact ⟨w.heap.size, m, HM.out, rfl, HB2.out, Nat.le_refl _, HK.out⟩
end Go.Proofs.Ytldmabkilgpgcaa
namespace Go.Proofs.Ytldmabkilgpgcaa
open Go.RowKit

theorem Try.info_bool_ : (Try.prog.info? 4).map (fun i => (i.zero, i.size, i.bytes)) = some (some (.bool false), 1, 1) := by kernel_rfl
theorem rbnew_no (n : Int) (w : World) (h : lenE n ≠ 0) : Calls Try.prog 65 #[.int .i64 n] w fun e w' => e = .returned (.tuple #[.pointer none, .int .i64 (lenE n)]) ∧ w = w' := by
  by_cases h0 : n < 0
  · have HE := Lib.hid (show lenE n = 2 by unfold lenE; rw [if_pos h0])
    rw [HE.out]
    clear h
    go_enter Try.func65, Try.ntmps65
    go_wp2_with fail
    go_ret2
    exact ⟨rfl, rfl⟩
  · by_cases h1 : 16777216 < n
    · have HE := Lib.hid (show lenE n = 3 by unfold lenE; rw [if_neg h0, if_pos h1])
      rw [HE.out]
      clear h
      go_enter Try.func65, Try.ntmps65
      go_wp2_with fail
      go_ret2
      exact ⟨rfl, rfl⟩
    · exact absurd (show lenE n = 0 by unfold lenE; rw [if_neg h0, if_neg h1]) h

set_option maxRecDepth 100000 in
set_option maxHeartbeats 2000000 in
theorem rbnew_raw (n : Nat) (w : World) (h : n ≤ 16777216) : Calls Try.prog 65 #[.int .i64 n] w fun e w' =>
    ∃ g p, e = .returned (.tuple #[.pointer (some ⟨p, 0, none⟩), .int .i64 0]) ∧ w.heap.size ≤ g ∧ w.heap.size ≤ p ∧ g ≠ p ∧ Blk w' g 4 ((List.replicate n false).map .bool) ∧ Blk w' p 92 [.slice (some ⟨g, 0, none⟩) n n] ∧ Kp [] w w' := by
  obtain ⟨i0, hi, hz0, hz1, hz2⟩ := info_parts Try.info_bool_
  have hmk := run_make_list (P := Try.prog) 67 4 i0 (.bool false) Try.underlying67 hi hz0 hz1 rfl .i64 .i64 n (by rw [hz2]; omega) (by omega)
  clear hi hz0 hz1 hz2
  go_enter Try.func65, Try.ntmps65
  go_wp2_with fail
  go_ret2
  have b1 := Blk.new w 4 (List.replicate n (.bool false))
  have b2 := Blk.new (w.alloc (.cells (List.replicate n (.bool false)).toArray 4)) 92 [.slice (some ⟨w.heap.size, 0, none⟩) n n]
  have e : (w.alloc (.cells (List.replicate n (.bool false)).toArray 4)).heap.size = w.heap.size + 1 := by simp
  rw [e] at b2
  refine ⟨w.heap.size, w.heap.size + 1, rfl, Nat.le_refl _, Nat.le_succ _, by omega, ?_, ?_, ((Kp.refl [] w).alloc _).alloc _⟩
  · have := b1.alloc (.cells [.slice (some ⟨w.heap.size, 0, none⟩) n n].toArray 92)
    simpa using this
  · simpa using b2
theorem RefV.of_blk {w : World} {g p n : Nat} {bs : List Bool} (hn : bs.length = n) (hm : n ≤ maxLen) (hg : Blk w g 4 (bs.map .bool)) (hp : Blk w p 92 [.slice (some ⟨g, 0, none⟩) n n]) : RefV w [p, g] p bs := by
  subst hn
  refine ⟨some ⟨g, 0, none⟩, bs.length, hp, ?_, rfl⟩
  exact own_of_blk (xs := bs.map .bool) (rest := []) (by rw [List.append_nil]; exact hg) (Nat.zero_le _) (Nat.le_refl _) hm (by simp) (by simp)

theorem top_zero {N n : Nat} : ∀ {j : Nat}, n ≤ j → N < 2 ^ j → (∀ i, n ≤ i → i < j → N / 2 ^ i % 2 = 0) → N < 2 ^ n
  | 0, hj, h, _ => by
    obtain rfl : n = 0 := by omega
    exact h
  | j + 1, hj, h, hb => by
    by_cases hnj : n = j + 1
    · rw [hnj]; exact h
    · refine top_zero (j := j) (by omega) ?_ (fun i h1 h2 => hb i h1 (by omega))
      have h1 := hb j (by omega) (by omega)
      have h2 : N / 2 ^ j < 2 := by rw [Nat.div_lt_iff_lt_mul (Nat.two_pow_pos _), Nat.mul_comm, ← Nat.pow_succ]; exact h
      have h3 : N / 2 ^ j = 0 := by
        obtain ⟨z, hz⟩ : ∃ z, z = N / 2 ^ j := ⟨_, rfl⟩
        rw [← hz] at h1 h2 ⊢
        omega
      rw [Nat.div_eq_zero_iff] at h3
      have := Nat.two_pow_pos j
      omega

set_option maxRecDepth 100000 in
set_option maxHeartbeats 4000000 in
theorem rbread_any (n : Int) (A : Option Addr) (L c B : Nat) (bs : List Nat) (w : World) (hx : Rd w B A ((intsN bs).map (.int .u8))) (hn : bs.length = L) (hb : L ≤ 1000000000) (hs : ∀ y ∈ bs, y < 2 ^ 8) :
    Calls Try.prog 51 #[.int .i64 n, .slice A L c] w fun e w' => Kp [] w w' ∧ ((readE n bs ≠ 0 ∧ e = .returned (.tuple #[.pointer none, .int .i64 (readE n bs)])) ∨
      (readE n bs = 0 ∧ ∃ S p, e = .returned (.tuple #[.pointer (some ⟨p, 0, none⟩), .int .i64 0]) ∧ RefV w' S p (bitsOf n.toNat (packN 8 bs)) ∧ (∀ x ∈ S, w.heap.size ≤ x))) := by
  have HX := Lib.hid hx; clear hx
  have HN := Lib.hid hn; clear hn
  have HS := Lib.hid hs; clear hs
  by_cases he : lenE n ≠ 0
  · have HE := Lib.hid he
    have HR := Lib.hid (readE_err (bs := bs) he)
    have hE1 : (lenE n != 0) = true := by simpa using he
    obtain ⟨E, hE⟩ : ∃ E, E = lenE n := ⟨_, rfl⟩
    rw [← hE] at hE1
    have HEE := Lib.hid hE; clear hE he
    go_enter Try.func51, Try.ntmps51
    go_wp2_with fail
    refine (rbnew_no n w HE.out).mono ?_
    rintro e w2 ⟨rfl, rfl⟩
    rw [← HEE.out]
    go_wp2_with fail
    go_ret2
    exact ⟨Kp.refl [] w, .inl ⟨by rw [HR.out]; exact HE.out, by rw [HR.out, HEE.out]; rfl⟩⟩
  have he0 : lenE n = 0 := by omega
  have hwn := lenE_ok he0
  obtain ⟨T, rfl⟩ : ∃ T : Nat, n = (T : Int) := ⟨n.toNat, by omega⟩
  have hDK : T ≤ 16777216 := by omega
  have HE := Lib.hid he0
  clear he he0
  rw [Int.toNat_natCast]
  have hw2 : IntKind.i64.wrap ((T : Int) + 7) = ((T + 7 : Nat) : Int) := by rw [IntKind.wrap_i64]; omega
  obtain ⟨s, hs⟩ : ∃ s, s = (T + 7) / 8 := ⟨_, rfl⟩
  have hw3 : Int.tdiv ((T : Int) + 7) 8 = (s : Int) := by rw [Int.tdiv_eq_ediv_of_nonneg (by omega)]; omega
  have hws : IntKind.i64.wrap (s : Int) = (s : Int) := by rw [IntKind.wrap_i64]; omega
  have HSS := Lib.hid hs; clear hs
  have HDK := Lib.hid hDK
  go_enter Try.func51, Try.ntmps51
  go_wp2_with fail
  refine (rbnew_raw T w HDK.out).mono ?_
  rintro e w2 ⟨g, p, rfl, hg, hp, hgp, hbg, hbp, hk2⟩
  by_cases hls : L ≠ s
  · have hls1 : ((L : Int) != (s : Int)) = true := by simpa using (fun h : (L : Int) = (s : Int) => hls (by omega))
    have HRE := Lib.hid (readE_no (bs := bs) HE.out (fun h => hls (by rw [← HN.out, HSS.out]; exact h.1)))
    clear hls
    go_wp2_with fail
    go_ret2
    exact ⟨hk2, .inl ⟨by rw [HRE.out]; decide, by rw [HRE.out]; rfl⟩⟩
  obtain rfl : L = s := by omega
  clear hls
  have hw8 : IntKind.i64.wrap (8 * (L : Int)) = ((8 * L : Nat) : Int) := by rw [IntKind.wrap_i64]; omega
  have hw8' : 8 * (L : Int) = ((8 * L : Nat) : Int) := by omega
  obtain ⟨M, hM⟩ : ∃ M, M = 8 * L := ⟨_, rfl⟩
  rw [← hM] at hw8
  have hw8c := hw8
  obtain ⟨N, hN⟩ : ∃ N, N = packN 8 bs := ⟨_, rfl⟩
  have HNB := Lib.hid (show N < 2 ^ M by
    have h1 := packN_lt (wd := 8) (l := bs) HS.out
    rw [HN.out, ← hM, ← hN] at h1
    exact h1)
  have HNN := Lib.hid hN
  have HM := Lib.hid hM
  have hTM : T ≤ M := by have := HSS.out; omega
  have hMb : M ≤ 16777230 := by have := HSS.out; omega
  have HGP := Lib.hid (show g ≠ p ∧ w.heap.size ≤ g ∧ w.heap.size ≤ p from ⟨hgp, hg, hp⟩)
  have HB0 := Lib.hid (show Blk w2 g 4 ((ofL (bitsOf T N) (min 0 T)).map .bool) by
    rw [Nat.zero_min]
    unfold ofL
    rw [bitsOf_len, List.take_zero, List.nil_append]
    exact hbg)
  have HP0 := Lib.hid hbp
  have HK0 := Lib.hid hk2
  clear hN hM hw8' hg hp hgp hbg hbp hk2
  go_wp2_with fail
  go_loopw [8] (fun x wr => ∃ (k : Nat), x = .int .i64 (k : Int) ∧ k ≤ M ∧ Hid (Blk wr g 4 ((ofL (bitsOf T N) (min k T)).map .bool)) ∧ Hid (Blk wr p 92 [.slice (some ⟨g, 0, none⟩) T T]) ∧ Hid (Kp [] w wr) ∧ Hid (∀ i, T ≤ i → i < k → N / 2 ^ i % 2 = 0)) (fun x _ => M - (intOf x).toNat)
  case atStart => exact ⟨0, rfl, by omega, HB0, HP0, HK0, Lib.hid (fun i _ h => by omega)⟩
  case round =>
    clear HB0 HP0 HK0
    obtain ⟨k, rfl, hk, HB, HP, HK, HZ⟩ := hrel
    by_cases hlt : k < M
    · obtain ⟨q, hq⟩ : ∃ q, q = k / 8 := ⟨_, rfl⟩
      obtain ⟨r, hr⟩ : ∃ r, r = k % 8 := ⟨_, rfl⟩
      have hqL : q < L := by have := HM.out; omega
      obtain ⟨y, hy⟩ : ∃ y, bs[q]? = some y := ⟨_, List.getElem?_eq_getElem (by rw [HN.out]; exact hqL)⟩
      obtain ⟨ad, rfl, _, cy⟩ := (HX.out.kp0 HK.out).at_ (i := q) (u := .int .u8 (y : Int)) (by simp [intsN, hy])
      have hyb := HS.out y (List.mem_of_getElem? hy)
      have hdiv : (k : Int).tdiv 8 = (q : Int) := by rw [Int.tdiv_eq_ediv_of_nonneg (by omega)]; omega
      have hmod : (k : Int).tmod 8 = (r : Int) := by rw [Int.tmod_eq_emod_of_nonneg (by omega)]; omega
      have hwq : IntKind.i64.wrap (q : Int) = (q : Int) := by rw [IntKind.wrap_i64]; omega
      have hwr : IntKind.i64.wrap (r : Int) = (r : Int) := by rw [IntKind.wrap_i64]; omega
      have hr8 : r < 8 := by omega
      obtain ⟨X, hX⟩ : ∃ X, X = y / 2 ^ r := ⟨_, rfl⟩
      have hXb : X ≤ y := by rw [hX]; exact Nat.div_le_self _ _
      have hdx : (y : Int) / 2 ^ r = (X : Int) := by rw [hX]; simp
      have hdx' : (y : Int) / 2 ^ min r 8 = (X : Int) := by rw [show min r 8 = r from by omega]; exact hdx
      obtain ⟨t, ht⟩ : ∃ t, t = X % 2 := ⟨_, rfl⟩
      have hbt : N / 2 ^ k % 2 = t := by
        have := bit_at (wd := 8) HS.out hy hr8
        rw [HNN.out, ht, hX, show k = 8 * q + r by omega]
        exact this
      have hmt : (X : Int).tmod 2 = (t : Int) := by rw [Int.tmod_eq_emod_of_nonneg (by omega)]; omega
      have hu8 : ∀ z : Nat, z < 256 → IntKind.u8.wrap (z : Int) = (z : Int) := fun z hz => by
        have : IntKind.u8.wrap (z : Int) = (z : Int) % 256 := by simp [IntKind.wrap, IntKind.signed, IntKind.bits]
        rw [this]; omega
      have hwt : IntKind.u8.wrap (t : Int) = (t : Int) := hu8 t (by omega)
      have hwX : IntKind.u8.wrap (X : Int) = (X : Int) := hu8 X (by omega)
      have c0 := HP.out.cell 0
      simp only [List.getElem?_cons_zero] at c0
      by_cases hkT : k < T
      · have hbk : (bitsOf T N)[k]? = some (t == 1) := by rw [bitsOf_get hkT, hbt]
        have HST := Lib.hid (show ofL (bitsOf T N) (min (k + 1) T) = (ofL (bitsOf T N) (min k T)).set k (t == 1) by
          rw [show min (k + 1) T = k + 1 by omega, show min k T = k by omega]
          exact ofL_succ hbk)
        have HZ2 := Lib.hid (show ∀ i, T ≤ i → i < k + 1 → N / 2 ^ i % 2 = 0 from fun i h1 h2 => by omega)
        have cf := HB.out.free k
        have cg : ∃ u, wr.cell? ⟨g, k, none⟩ = some u := by
          rw [HB.out.cell, List.getElem?_map]
          exact ⟨_, by rw [List.getElem?_eq_getElem (by rw [ofL_len (by rw [bitsOf_len]; omega), bitsOf_len]; exact hkT)]; rfl⟩
        obtain ⟨u, cu⟩ := cg
        rcases (show t = 0 ∨ t = 1 by omega) with ht0 | ht1
        · subst ht0
          clear hy hyb hq hr hX hXb ht hbt hu8 hbk
          have HB2 := Lib.hid (HB.out.set_ k (.bool false))
          rw [← List.map_set, show (ofL (bitsOf T N) (min k T)).set k false = ofL (bitsOf T N) (min (k + 1) T) from HST.out.symm] at HB2
          have HP2 := Lib.hid (HP.out.far (p := ⟨g, k, none⟩) (Ne.symm HGP.out.1) (.bool false))
          have HK2 := Lib.hid (HK.out.setCell (p := ⟨g, k, none⟩) (.inr HGP.out.2.1) (.bool false))
          go_wp2_with fail
          exact ⟨⟨k + 1, by go_num, by omega, HB2, HP2, HK2, HZ2⟩, by simp [intOf]; omega⟩
        · subst ht1
          clear hy hyb hq hr hX hXb ht hbt hu8 hbk
          have HB2 := Lib.hid (HB.out.set_ k (.bool true))
          rw [← List.map_set, show (ofL (bitsOf T N) (min k T)).set k true = ofL (bitsOf T N) (min (k + 1) T) from HST.out.symm] at HB2
          have HP2 := Lib.hid (HP.out.far (p := ⟨g, k, none⟩) (Ne.symm HGP.out.1) (.bool true))
          have HK2 := Lib.hid (HK.out.setCell (p := ⟨g, k, none⟩) (.inr HGP.out.2.1) (.bool true))
          go_wp2_with fail
          exact ⟨⟨k + 1, by go_num, by omega, HB2, HP2, HK2, HZ2⟩, by simp [intOf]; omega⟩
      · have hTk : T ≤ k := by omega
        rcases (show t = 0 ∨ t = 1 by omega) with ht0 | ht1
        · subst ht0
          have HZ2 := Lib.hid (show ∀ i, T ≤ i → i < k + 1 → N / 2 ^ i % 2 = 0 from fun i h1 h2 => by
            rcases Nat.lt_or_ge i k with h | h
            · exact HZ.out i h1 h
            · obtain rfl : i = k := by omega
              exact hbt)
          have HB2 := Lib.hid (show Blk wr g 4 ((ofL (bitsOf T N) (min (k + 1) T)).map .bool) by rw [show min (k + 1) T = min k T by omega]; exact HB.out)
          clear hy hyb hq hr hX hXb ht hbt hu8
          go_wp2_with fail
          exact ⟨⟨k + 1, by go_num, by omega, HB2, HP, HK, HZ2⟩, by simp [intOf]; omega⟩
        · subst ht1
          have HRE := Lib.hid (readE_no (bs := bs) HE.out (fun h => by
            have h2 := h.2
            rw [← HNN.out] at h2
            have h3 : N / 2 ^ k = 0 := Nat.div_eq_of_lt (Nat.lt_of_lt_of_le h2 (Nat.pow_le_pow_right (by omega) hTk))
            rw [h3] at hbt
            omega))
          clear hy hyb hq hr hX hXb ht hbt hu8
          go_wp2_with fail
          go_ret2
          exact ⟨HK.out, .inl ⟨by rw [HRE.out]; decide, by rw [HRE.out]; rfl⟩⟩
    · obtain rfl : M = k := by omega
      have hlow := top_zero hTM HNB.out HZ.out
      have HRE := Lib.hid (readE_ok (bs := bs) HE.out (by rw [HN.out, HSS.out]) (by rw [← HNN.out]; exact hlow))
      have HRV := Lib.hid (show RefV wr [p, g] p (bitsOf T N) from RefV.of_blk (bitsOf_len _ _) (by unfold maxLen; omega) (by
        have h := HB.out
        have e := ofL_all (bitsOf T N)
        rw [bitsOf_len] at e
        rw [show min M T = T by omega, e] at h
        exact h) HP.out)
      have HSB := Lib.hid (show ∀ x ∈ [p, g], w.heap.size ≤ x from by
        intro x hx
        simp only [List.mem_cons, List.not_mem_nil, or_false] at hx
        rcases hx with rfl | rfl
        · exact HGP.out.2.2
        · exact HGP.out.2.1)
      clear hlow
      go_wp2_with fail
      go_ret2
      exact ⟨HK.out, .inr ⟨HRE.out, [p, g], p, rfl, by rw [← HNN.out]; exact HRV.out, HSB.out⟩⟩
end Go.Proofs.Ytldmabkilgpgcaa
namespace Go.Proofs.Ytldmabkilgpgcaa
open Go.RowKit

theorem ownBlock_some {g n c k : Nat} (h : (Value.slice (some ⟨g, 0, none⟩) n c).ownBlock = some k) : g = k := by
  have h' : some g = some k := h
  injection h'
theorem rbof_long (A : Option Addr) (n c : Nat) (w : World) (h : 16777216 < n) (hm : n ≤ 9223372036854775807) : Calls Try.prog 53 #[.slice A n c] w fun e w' => e = .returned (.tuple #[.pointer none, .int .i64 3]) ∧ w = w' := by
  have HL := Lib.hid (show lenE (n : Int) = 3 by unfold lenE; rw [if_neg (by omega), if_pos (by omega)])
  go_enter Try.func53, Try.ntmps53
  go_wp2_with fail
  refine (rbnew_no (n : Int) w (by rw [HL.out]; decide)).mono ?_
  rw [HL.out]
  rintro e w1 ⟨rfl, rfl⟩
  go_wp2_with fail
  go_ret2
  exact ⟨rfl, rfl⟩
set_option maxRecDepth 100000 in
set_option maxHeartbeats 4000000 in
theorem rbof_any (A : Option Addr) (n c B : Nat) (bs : List Bool) (w : World) (hx : Rd w B A (bs.map .bool)) (hn : bs.length = n) (h : n ≤ 16777216) : Calls Try.prog 53 #[.slice A n c] w fun e w' =>
    ∃ S p, e = .returned (.tuple #[.pointer (some ⟨p, 0, none⟩), .int .i64 0]) ∧ RefV w' S p bs ∧ (∀ x ∈ S, w.heap.size ≤ x) ∧ Kp [] w w' := by
  obtain ⟨i0, hi, hz0, hz1, hz2⟩ := info_parts Try.info_bool_
  have HX := Lib.hid hx; clear hx
  have HN := Lib.hid hn; clear hn
  go_enter Try.func53, Try.ntmps53
  go_wp2_with fail
  refine (rbnew_raw n w h).mono ?_
  rintro e w1 ⟨g, p, rfl, hg, hp, hgp, hbg, hbp, hk⟩
  have HK := Lib.hid hk
  replace HX := Lib.hid (HX.out.kp0 hk)
  clear hk
  have HP := Lib.hid hp
  have cf := hbp.free 0
  have HBP := Lib.hid hbp
  clear hp hg hgp hbg hbp
  have HW := Lib.hid (show w.heap.size ≤ w1.heap.size from HK.out.size)
  have hown : (w1.alloc (.cells #[] 4)).ownsRow w.heap.size 4 1 (.slice (some ⟨w1.heap.size, 0, none⟩) 0 0) 0 [] :=
    own_of_blk (xs := []) (rest := []) (Blk.new w1 4 []) HW.out (Nat.le_refl _) (Nat.zero_le _) rfl rfl
  have HO := Lib.hid hown; clear hown
  go_wp2_with (at_builtin; go_loud (refine wpList_append_rd rfl (.tmp 16) (.tmp 17) 67 rfl w.heap.size 4 i0 (.bool false) 1 1 Try.underlying67 hi hz0 hz1 hz2 rfl (by decide) (.slice (some ⟨w1.heap.size, 0, none⟩) 0 0) 0 [] rfl HO.out B A n c (bs.map .bool) rfl (by rw [List.length_map, HN.out, Nat.mul_one]) (HX.out.kp0 ((Kp.refl [] _).alloc _)) (by intro u hu; obtain ⟨b, _, rfl⟩ := List.mem_map.1 hu; rfl) (by unfold maxLen; omega) (by omega) (by have := HW.out; simp; omega) ?_); intro v2 w2 hown2 hgrow2 hat2
               go_loud (obtain ⟨A2, c2, rfl, _⟩ := own_form hown2)
               go_loud (rw [Nat.zero_add] at hown2)
               go_loud (have hk2 : Kp [] w1 w2 := ((Kp.refl [] w1).alloc (.cells #[] 4)).grown hgrow2 (fun k hk => .inr (Nat.le_of_eq (ownBlock_some hk))))
               have HB2 := Lib.hid (HBP.out.kp0 hk2)
               have cf2 := HB2.out.free 0
               have cp2 : w2.cell? ⟨p, 0, none⟩ = some (.slice (some ⟨g, 0, none⟩) n n) := by rw [HB2.out.cell]; rfl
               have HO2 := Lib.hid hown2
               have HK2 := Lib.hid (HK.out.trans hk2)
               clear hown2 hgrow2 hat2 hk2)
  go_ret2
  have ho := HO2.out
  rw [List.nil_append] at ho
  have hpA : ∀ b, (Value.slice A2 n c2).ownBlock = some b → b ≠ p := fun b hb e => by
    subst e
    obtain ⟨l, hl⟩ := own_blk_some ho hb
    exact absurd rfl (hl.ne HB2.out (by decide))
  have hk3 : Kp [p] w2 (w2.setCell ⟨p, 0, none⟩ (.slice A2 n c2)) := (Kp.refl [p] w2).setCell (.inl (by simp)) _
  refine ⟨p :: ownL (.slice A2 n c2), p, rfl, ⟨A2, c2, ?_, ?_, ?_⟩, ?_, ?_⟩
  · rw [HN.out]; exact HB2.out.set_ 0 _
  · rw [HN.out]
    exact own_base (own_kp ho hk3 (fun b hb hm => by simp only [List.mem_singleton] at hm; exact hpA b hb hm)) (Nat.zero_le _)
  · rw [HN.out]
  · intro x hx
    simp only [List.mem_cons] at hx
    rcases hx with rfl | hx
    · exact HP.out
    · exact (own_ge ho (mem_ownL.1 hx)).1
  · exact HK2.out.trans' hk3 (fun z hz => by simp only [List.mem_singleton] at hz; subst hz; exact .inr HP.out)
end Go.Proofs.Ytldmabkilgpgcaa
