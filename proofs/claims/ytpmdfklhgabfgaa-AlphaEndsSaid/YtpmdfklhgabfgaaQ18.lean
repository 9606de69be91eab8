/-
  PLAIN MATHEMATICS OF LAYER 1, second part: bytes as one number; the bits of a number.
  LAYER 1: the calls on a vector that is counted: nothing that was there changes.
  BitsRanks: the walk.
  LAYER 1: Read: a vector of bytes.
  CONDITIONS: as each lemma says.
-/
import Derived.Test.YtpmdfklhgabfgaaQ17
import Derived.Test.YtpmdfklhgabfgaaQ00
namespace Go.Proofs.Ytpmdfklhgabfgaa
open Go.RowKit

def packN (wd : Nat) : List Nat → Nat
  | [] => 0
  | x :: l => x + 2 ^ wd * packN wd l
theorem packN_snoc (wd : Nat) : ∀ (l : List Nat) (x : Nat), packN wd (l ++ [x]) = packN wd l + x * 2 ^ (wd * l.length)
  | [], x => by show x + 2 ^ wd * 0 = 0 + x * 2 ^ (wd * 0); simp
  | y :: l, x => by
    show y + 2 ^ wd * packN wd (l ++ [x]) = y + 2 ^ wd * packN wd l + x * 2 ^ (wd * (l.length + 1))
    rw [packN_snoc, Nat.mul_add, Nat.mul_add wd, Nat.mul_one, Nat.pow_add]
    have : 2 ^ wd * (x * 2 ^ (wd * l.length)) = x * (2 ^ (wd * l.length) * 2 ^ wd) := by rw [Nat.mul_comm, Nat.mul_assoc]
    omega
theorem packN_lt {wd : Nat} : ∀ {l : List Nat}, (∀ x ∈ l, x < 2 ^ wd) → packN wd l < 2 ^ (wd * l.length)
  | [], _ => by show 0 < 2 ^ (wd * 0); exact Nat.two_pow_pos _
  | x :: l, h => by
    have h1 := packN_lt (l := l) (fun y hy => h y (by simp [hy]))
    have h2 := h x (by simp)
    show x + 2 ^ wd * packN wd l < 2 ^ (wd * (l.length + 1))
    rw [Nat.mul_add, Nat.mul_one, Nat.add_comm (wd * l.length), Nat.pow_add]
    have h3 : 2 ^ wd * (packN wd l + 1) ≤ 2 ^ wd * 2 ^ (wd * l.length) := Nat.mul_le_mul_left _ h1
    rw [Nat.mul_add, Nat.mul_one] at h3
    omega
theorem packN_get {wd : Nat} : ∀ {l : List Nat} {i x : Nat}, (∀ x ∈ l, x < 2 ^ wd) → l[i]? = some x → packN wd l / 2 ^ (wd * i) % 2 ^ wd = x
  | [], i, x, _, hx => by simp at hx
  | y :: l, 0, x, h, hx => by
    simp at hx
    subst hx
    show (y + 2 ^ wd * packN wd l) / 2 ^ (wd * 0) % 2 ^ wd = y
    rw [Nat.mul_zero, Nat.pow_zero, Nat.div_one, Nat.add_mul_mod_self_left]
    exact Nat.mod_eq_of_lt (h y (by simp))
  | y :: l, i + 1, x, h, hx => by
    show (y + 2 ^ wd * packN wd l) / 2 ^ (wd * (i + 1)) % 2 ^ wd = x
    rw [Nat.mul_add, Nat.mul_one, Nat.add_comm (wd * i), Nat.pow_add, ← Nat.div_div_eq_div_mul, Nat.add_mul_div_left _ _ (Nat.two_pow_pos _), Nat.div_eq_of_lt (h y (by simp)), Nat.zero_add]
    exact packN_get (fun z hz => h z (by simp [hz])) (by simpa using hx)
theorem last_bits {bs : List Nat} {a x : Nat} (hb : ∀ y ∈ bs, y < 2 ^ 8) (hl : bs.length = (a + 7) / 8) (hr : 0 < a % 8) (hx : bs[bs.length - 1]? = some x) : packN 8 bs < 2 ^ a ↔ x / 2 ^ (a % 8) = 0 := by
  have hlen : bs.length = a / 8 + 1 := by omega
  have e : bs = bs.take (a / 8) ++ [x] := by
    rw [← take_succ_of (by rw [← hx, hlen]; rfl), ← hlen, List.take_length]
  have hl2 : (bs.take (a / 8)).length = a / 8 := by rw [List.length_take]; omega
  have h1 := packN_lt (wd := 8) (l := bs.take (a / 8)) (fun y hy => hb y (List.mem_of_mem_take hy))
  rw [hl2] at h1
  have e2 : packN 8 bs = packN 8 (bs.take (a / 8)) + x * 2 ^ (8 * (a / 8)) := by
    have := packN_snoc 8 (bs.take (a / 8)) x
    rw [← e, hl2] at this
    exact this
  have e3 : packN 8 bs / 2 ^ (8 * (a / 8)) = x := by
    rw [e2, Nat.add_mul_div_right _ _ (Nat.two_pow_pos _), Nat.div_eq_of_lt h1, Nat.zero_add]
  have e4 : 2 ^ a = 2 ^ (a % 8) * 2 ^ (8 * (a / 8)) := by rw [← Nat.pow_add, Nat.add_comm, Nat.div_add_mod]
  rw [e4, ← Nat.div_lt_iff_lt_mul (Nat.two_pow_pos _), e3, Nat.div_eq_zero_iff]
  have := Nat.two_pow_pos (a % 8)
  omega
theorem whole_bits {bs : List Nat} {a : Nat} (hb : ∀ y ∈ bs, y < 2 ^ 8) (hl : bs.length = (a + 7) / 8) (hr : a % 8 = 0) : packN 8 bs < 2 ^ a := by
  have h := packN_lt hb
  rwa [show 8 * bs.length = a from by omega] at h
def intsN (ls : List Nat) : List Int := ls.map fun x => ((x : Nat) : Int)
theorem intsN_snoc (ls : List Nat) (x : Nat) : intsN (ls ++ [x]) = intsN ls ++ [(x : Int)] := by simp [intsN]
theorem intsN_bytes {b : List Int} (h : ∀ x ∈ b, 0 ≤ x ∧ x ≤ 255) : intsN (b.map Int.toNat) = b := by
  induction b with
  | nil => rfl
  | cons x l ih =>
    have h1 := h x (by simp)
    have h2 := ih (fun y hy => h y (by simp [hy]))
    simp only [intsN, List.map_cons, List.map_map] at h2 ⊢
    rw [h2, show ((x.toNat : Nat) : Int) = x from by omega]
/-- The bits of a number. -/
def bitsOf (n N : Nat) : List Bool := (List.range n).map fun i => N / 2 ^ i % 2 == 1
theorem bitsOf_len (n N : Nat) : (bitsOf n N).length = n := by simp [bitsOf]
theorem bitsOf_get {n N i : Nat} (h : i < n) : (bitsOf n N)[i]? = some (N / 2 ^ i % 2 == 1) := by simp [bitsOf, h]
theorem bitsOf_succ (n N : Nat) : bitsOf (n + 1) N = bitsOf n N ++ [N / 2 ^ n % 2 == 1] := by simp [bitsOf, List.range_succ]
theorem bitN_bitsOf (N : Nat) : ∀ n, bitN (bitsOf n N) = N % 2 ^ n
  | 0 => by rw [Nat.pow_zero, Nat.mod_one]; rfl
  | n + 1 => by
    rw [bitsOf_succ, bitN_app, bitN_bitsOf N n, bitsOf_len, Nat.pow_succ, Nat.mod_mul]
    have e : bitN [N / 2 ^ n % 2 == 1] = N / 2 ^ n % 2 := by
      rcases Nat.mod_two_eq_zero_or_one (N / 2 ^ n) with h | h <;> rw [h] <;> rfl
    rw [e]
theorem bitsOf_eq {n N : Nat} (h : N < 2 ^ n) : bitN (bitsOf n N) = N := by rw [bitN_bitsOf, Nat.mod_eq_of_lt h]
theorem bitsOf_bitN (bs : List Bool) : bitsOf bs.length (bitN bs) = bs := by
  apply List.ext_getElem?
  intro i
  by_cases hi : i < bs.length
  · rw [bitsOf_get hi, bitN_bit (List.getElem?_eq_getElem hi), List.getElem?_eq_getElem hi]
    cases bs[i] <;> rfl
  · rw [List.getElem?_eq_none (by rw [bitsOf_len]; omega), List.getElem?_eq_none (by omega)]
theorem bytesN_len (N m : Nat) : (bytesN N m).length = m := by simp [bytesN]
theorem bytesN_get (N : Nat) {m j : Nat} (h : j < m) : (bytesN N m)[j]? = some ((N / 2 ^ (8 * j) % 256 : Nat) : Int) := by simp [bytesN, h]
theorem bytesN_val (N m : Nat) : ∀ x ∈ bytesN N m, 0 ≤ x ∧ x ≤ 255 := by
  intro x hx
  obtain ⟨i, _, rfl⟩ := List.mem_map.1 hx
  omega
/-- A number's bytes make it up. -/
theorem packN_bytesN (N : Nat) : ∀ m, packN 8 ((bytesN N m).map Int.toNat) = N % 2 ^ (8 * m)
  | 0 => by rw [Nat.mul_zero, Nat.pow_zero, Nat.mod_one]; rfl
  | m + 1 => by
    rw [bytesN_succ, List.map_append, List.map_cons, List.map_nil, packN_snoc, packN_bytesN N m, List.length_map, bytesN_len, Int.toNat_natCast, Nat.mul_add, Nat.mul_one, Nat.pow_add, Nat.mod_mul, Nat.mul_comm (2 ^ (8 * m))]
theorem bytesN_pack {bs : List Nat} (h : ∀ y ∈ bs, y < 2 ^ 8) : bytesN (packN 8 bs) bs.length = intsN bs := by
  apply List.ext_getElem?
  intro i
  by_cases hi : i < bs.length
  · rw [bytesN_get _ hi]
    have := packN_get (wd := 8) h (List.getElem?_eq_getElem hi)
    rw [show (256 : Nat) = 2 ^ 8 from rfl, this]
    simp [intsN, hi]
  · rw [List.getElem?_eq_none (by rw [bytesN_len]; omega), List.getElem?_eq_none (by simp [intsN]; omega)]
theorem bytesN_zero (m : Nat) : bytesN 0 m = List.replicate m 0 := by
  refine List.eq_replicate_iff.2 ⟨bytesN_len _ _, fun v hv => ?_⟩
  obtain ⟨k, _, rfl⟩ := List.mem_map.1 hv
  simp
theorem bytesN_step {N a m : Nat} (h : a / 8 < m) : (bytesN (N % 2 ^ a) m).set (a / 8) (((N % 2 ^ a / 2 ^ (8 * (a / 8)) % 256 + (N / 2 ^ a % 2) * 2 ^ (a % 8) : Nat)) : Int) = bytesN (N % 2 ^ (a + 1)) m := by
  apply List.ext_getElem?
  intro j
  rw [List.getElem?_set, bytesN_len]
  have hM : N % 2 ^ a < 2 ^ a := Nat.mod_lt _ (Nat.two_pow_pos _)
  have hb : N / 2 ^ a % 2 ≤ 1 := by omega
  by_cases hj : a / 8 = j
  · rw [if_pos hj, if_pos h, ← hj, bytesN_get _ h, mod_step, byte_step hM hb, if_pos rfl]
  · rw [if_neg hj]
    by_cases hjm : j < m
    · rw [bytesN_get _ hjm, bytesN_get _ hjm, mod_step, byte_step hM hb, if_neg (fun e => hj e.symm), Nat.add_zero]
    · rw [List.getElem?_eq_none (by rw [bytesN_len]; omega), List.getElem?_eq_none (by rw [bytesN_len]; omega)]
theorem bit_at {wd i k x : Nat} {ls : List Nat} (hl : ∀ x ∈ ls, x < 2 ^ wd) (hx : ls[i]? = some x) (hk : k < wd) : packN wd ls / 2 ^ (wd * i + k) % 2 = x / 2 ^ k % 2 := by
  have h := packN_get hl hx
  have e := Nat.div_add_mod (packN wd ls / 2 ^ (wd * i)) (2 ^ wd)
  rw [h] at e
  rw [Nat.pow_add, ← Nat.div_div_eq_div_mul, ← e]
  generalize packN wd ls / 2 ^ (wd * i) / 2 ^ wd = q
  have e2 : 2 ^ wd * q = 2 ^ k * (2 * (2 ^ (wd - k - 1) * q)) := by
    rw [← Nat.mul_assoc 2, ← Nat.mul_assoc]
    congr 1
    rw [show (2 : Nat) * 2 ^ (wd - k - 1) = 2 ^ (wd - k - 1 + 1) from by rw [Nat.pow_succ, Nat.mul_comm], ← Nat.pow_add]
    exact congrArg (2 ^ ·) (by omega)
  rw [e2, Nat.add_comm, Nat.add_mul_div_left _ _ (Nat.two_pow_pos _), Nat.add_mul_mod_self_left]
end Go.Proofs.Ytpmdfklhgabfgaa
namespace Go.Proofs.Ytpmdfklhgabfgaa
open Go.RowKit

theorem qget {S : List Nat} {p : Nat} {bs : List Bool} {c : Bool} {w : World} (i : Int) (h : VecM w S p bs c) {b : Bool} (hb : getB bs i = b) :
    Calls Try.prog 55 #[.pointer (some ⟨p, 0, none⟩), .int .i64 i] w fun e w' => e = .returned (.bool b) ∧ Kp [] w w' := by
  refine (vget_any S p i bs c w h).mono fun e w' hh => ?_
  rw [hb] at hh
  obtain ⟨he, rfl⟩ := hh
  exact ⟨he, Kp.refl _ _⟩
/-- The first call that counts, of a vector that is new since w0. -/
theorem first_count {w0 w w' : World} {S : List Nat} {p : Nat} {bs : List Bool} {c : Bool} (hk : Kp [] w0 w) (hS : ∀ x ∈ S, w0.heap.size ≤ x) (h : VPostT w w' S p bs c) : ∃ S', VecM w' S' p bs true ∧ Kp [] w0 w' ∧ ∀ x ∈ S', w0.heap.size ≤ x := by
  obtain ⟨S', h1, h2, h3, _⟩ := h
  refine ⟨S', h1, hk.trans' h2 (fun g hg => .inr (hS g hg)), fun x hx => ?_⟩
  rcases h3 x hx with h | h
  · exact hS x h
  · exact Nat.le_trans hk.size h
abbrev B5 : List Bool := [true, false, true, true, false]
end Go.Proofs.Ytpmdfklhgabfgaa
namespace Go.Proofs.Ytpmdfklhgabfgaa
open Go.RowKit

theorem rankI_in {bs : List Bool} {k : Nat} (h : k ≤ bs.length) : rankI bs (k : Int) = cntI bs k := by
  unfold rankI
  rw [show (min (max (k : Int) 0) (bs.length : Int)).toNat = k by omega]
theorem getB_in {bs : List Bool} {k : Nat} {b : Bool} (h : bs[k]? = some b) : getB bs (k : Int) = b := by
  unfold getB
  rw [if_neg (by omega), Int.toNat_natCast, List.getD_eq_getElem?_getD, h]
  rfl
theorem cntI_succ {bs : List Bool} {k : Nat} {b : Bool} (h : bs[k]? = some b) : cntI bs (k + 1) = cntI bs k + b.toNat := by
  unfold cntI
  rw [take_succ_of h, List.count_append]
  cases b <;> rfl

end Go.Proofs.Ytpmdfklhgabfgaa
namespace Go.Proofs.Ytpmdfklhgabfgaa
open Go.RowKit

/-- What is wrong with a length. -/
def lenE (n : Int) : Int := if n < 0 then 2 else if 16777216 < n then 3 else 0
/-- What is wrong with bytes as so many bits. -/
def readE (n : Int) (bs : List Nat) : Int := if lenE n = 0 then (if bs.length = (n.toNat + 7) / 8 ∧ packN 8 bs < 2 ^ n.toNat then 0 else 4) else lenE n
theorem readE_err {n : Int} {bs : List Nat} (h : lenE n ≠ 0) : readE n bs = lenE n := by unfold readE; rw [if_neg h]
theorem readE_ok {n : Nat} {bs : List Nat} (h : lenE n = 0) (h1 : bs.length = (n + 7) / 8) (h2 : packN 8 bs < 2 ^ n) : readE n bs = 0 := by
  unfold readE; rw [if_pos h, Int.toNat_natCast, if_pos ⟨h1, h2⟩]
theorem readE_no {n : Nat} {bs : List Nat} (h : lenE n = 0) (h1 : ¬ (bs.length = (n + 7) / 8 ∧ packN 8 bs < 2 ^ n)) : readE n bs = 4 := by
  unfold readE; rw [if_pos h, Int.toNat_natCast, if_neg h1]
theorem lenE_ok {n : Int} (h : lenE n = 0) : 0 ≤ n ∧ n ≤ 16777216 := by
  unfold lenE at h
  by_cases h1 : n < 0
  · rw [if_pos h1] at h; cases h
  · rw [if_neg h1] at h
    by_cases h2 : 16777216 < n
    · rw [if_pos h2] at h; cases h
    · omega
theorem lenE_nat {n : Nat} (h : n ≤ 16777216) : lenE (n : Int) = 0 := by unfold lenE; rw [if_neg (by omega), if_neg (by omega)]

theorem bnew_no (n : Int) (w : World) (h : lenE n ≠ 0) : Calls Try.prog 69 #[.int .i64 n] w fun e w' => e = .returned (.tuple #[.pointer none, .int .i64 (lenE n)]) ∧ w = w' := by
  by_cases h0 : n < 0
  · refine (bnew_neg n w h0).mono fun e w' hh => ?_
    unfold lenE
    rw [if_pos h0]
    exact hh
  · by_cases h1 : 16777216 < n
    · obtain ⟨m, rfl⟩ : ∃ m : Nat, n = (m : Int) := ⟨n.toNat, by omega⟩
      refine (bnew_long m w (by omega)).mono fun e w' hh => ?_
      unfold lenE
      rw [if_neg h0, if_pos h1]
      exact hh
    · exact absurd (show lenE n = 0 by unfold lenE; rw [if_neg h0, if_neg h1]) h

set_option maxRecDepth 100000 in
set_option maxHeartbeats 2000000 in
theorem bnew_raw (n : Nat) (w : World) (h : n ≤ 16777216) : Calls Try.prog 69 #[.int .i64 n] w fun e w' =>
    ∃ g p m, e = .returned (.tuple #[.pointer (some ⟨p, 0, none⟩), .int .i64 0]) ∧ m = (n + 63) / 64 ∧ w.heap.size ≤ g ∧ w.heap.size ≤ p ∧ Blk w' g 122 (wordsV (List.replicate m 0)) ∧
      Blk w' p 103 [.slice (some ⟨g, 0, none⟩) m m, .slice none 0 0, .bool false, .int .i64 (n : Int), .bool true] ∧ Kp [] w w' := by
  obtain ⟨i0, hi, hz0, hz1, hz2⟩ := info_parts Try.info_u64
  obtain ⟨m, hm⟩ : ∃ m, m = (n + 63) / 64 := ⟨_, rfl⟩
  have hw1 : IntKind.i64.wrap ((n : Int) + 64) = ((n + 64 : Nat) : Int) := by rw [IntKind.wrap_i64]; omega
  have hw2 : IntKind.i64.wrap ((n : Int) + 64 - 1) = ((n + 63 : Nat) : Int) := by rw [IntKind.wrap_i64]; omega
  have hw3 : Int.tdiv ((n : Int) + 63) 64 = (m : Int) := by rw [Int.tdiv_eq_ediv_of_nonneg (by omega)]; omega
  have hw4 : IntKind.i64.wrap (m : Int) = (m : Int) := by rw [IntKind.wrap_i64]; omega
  have hmb : m ≤ 1000000 := by omega
  have hmk := run_make_list (P := Try.prog) 99 122 i0 (.int .u64 0) Try.underlying99 hi hz0 hz1 rfl .i64 .i64 m (by rw [hz2]; omega) (by omega)
  have HM := Lib.hid hm
  clear hm hi hz0 hz1 hz2
  go_enter Try.func69, Try.ntmps69
  go_wp2_with fail
  go_ret2
  have b1 := Blk.new w 122 (List.replicate m (.int .u64 0))
  have b2 := Blk.new (w.alloc (.cells (List.replicate m (.int .u64 0)).toArray 122)) 103 [.slice (some ⟨w.heap.size, 0, none⟩) m m, .slice none 0 0, .bool false, .int .i64 (n : Int), .bool true]
  have e : (w.alloc (.cells (List.replicate m (.int .u64 0)).toArray 122)).heap.size = w.heap.size + 1 := by simp
  rw [e] at b2
  refine ⟨w.heap.size, w.heap.size + 1, m, rfl, HM.out, Nat.le_refl _, Nat.le_succ _, ?_, ?_, ((Kp.refl [] w).alloc _).alloc _⟩
  · have := b1.alloc (.cells [.slice (some ⟨w.heap.size, 0, none⟩) m m, .slice none 0 0, .bool false, .int .i64 (n : Int), .bool true].toArray 103)
    simpa [wordsV] using this
  · simpa using b2

end Go.Proofs.Ytpmdfklhgabfgaa
