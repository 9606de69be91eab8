/-
  PLAIN MATHEMATICS OF LAYER 1, second part: bytes as one number; the bits of a number.
  LAYER 1: the calls on a vector that is counted: nothing that was there changes.
  BitsRanks: the walk.
  LAYER 1: Read: a vector of bytes.
  CONDITIONS: as each lemma says.
-/
import Derived.Test.YtanacapkfllbnaaGreatDoorQ18
import Derived.Test.YtanacapkfllbnaaGreatDoorQ00
namespace Go.Proofs.YtanacapkfllbnaaGreatDoor
open Go.RowKit

def packN (wd : Nat) : List Nat → Nat
  | [] => 0
  | x :: l => x + 2 ^ wd * packN wd l
theorem packN_snoc (wd : Nat) : ∀ (l : List Nat) (x : Nat), packN wd (l ++ [x]) = packN wd l + x * 2 ^ (wd * l.length)
  | [], x => by show x + 2 ^ wd * 0 = 0 + x * 2 ^ (wd * 0); simp
  | y :: l, x => by
    show y + 2 ^ wd * packN wd (l ++ [x]) = y + 2 ^ wd * packN wd l + x * 2 ^ (wd * (l.length + 1))
    rw [packN_snoc, Nat.mul_add, Nat.mul_add wd, Nat.mul_one, Nat.pow_add]
    have : 2 ^ wd * (x * 2 ^ (wd * l.length)) = x * (2 ^ (wd * l.length) * 2 ^ wd) := by rw [Nat.mul_comm, Nat.mul_assoc]
    omega
theorem packN_lt {wd : Nat} : ∀ {l : List Nat}, (∀ x ∈ l, x < 2 ^ wd) → packN wd l < 2 ^ (wd * l.length)
  | [], _ => by show 0 < 2 ^ (wd * 0); exact Nat.two_pow_pos _
  | x :: l, h => by
    have h1 := packN_lt (l := l) (fun y hy => h y (by simp [hy]))
    have h2 := h x (by simp)
    show x + 2 ^ wd * packN wd l < 2 ^ (wd * (l.length + 1))
    rw [Nat.mul_add, Nat.mul_one, Nat.add_comm (wd * l.length), Nat.pow_add]
    have h3 : 2 ^ wd * (packN wd l + 1) ≤ 2 ^ wd * 2 ^ (wd * l.length) := Nat.mul_le_mul_left _ h1
    rw [Nat.mul_add, Nat.mul_one] at h3
    omega
theorem last_bits {bs : List Nat} {a x : Nat} (hb : ∀ y ∈ bs, y < 2 ^ 8) (hl : bs.length = (a + 7) / 8) (hr : 0 < a % 8) (hx : bs[bs.length - 1]? = some x) : packN 8 bs < 2 ^ a ↔ x / 2 ^ (a % 8) = 0 := by
  have hlen : bs.length = a / 8 + 1 := by omega
  have e : bs = bs.take (a / 8) ++ [x] := by
    rw [← take_succ_of (by rw [← hx, hlen]; rfl), ← hlen, List.take_length]
  have hl2 : (bs.take (a / 8)).length = a / 8 := by rw [List.length_take]; omega
  have h1 := packN_lt (wd := 8) (l := bs.take (a / 8)) (fun y hy => hb y (List.mem_of_mem_take hy))
  rw [hl2] at h1
  have e2 : packN 8 bs = packN 8 (bs.take (a / 8)) + x * 2 ^ (8 * (a / 8)) := by
    have := packN_snoc 8 (bs.take (a / 8)) x
    rw [← e, hl2] at this
    exact this
  have e3 : packN 8 bs / 2 ^ (8 * (a / 8)) = x := by
    rw [e2, Nat.add_mul_div_right _ _ (Nat.two_pow_pos _), Nat.div_eq_of_lt h1, Nat.zero_add]
  have e4 : 2 ^ a = 2 ^ (a % 8) * 2 ^ (8 * (a / 8)) := by rw [← Nat.pow_add, Nat.add_comm, Nat.div_add_mod]
  rw [e4, ← Nat.div_lt_iff_lt_mul (Nat.two_pow_pos _), e3, Nat.div_eq_zero_iff]
  have := Nat.two_pow_pos (a % 8)
  omega
theorem whole_bits {bs : List Nat} {a : Nat} (hb : ∀ y ∈ bs, y < 2 ^ 8) (hl : bs.length = (a + 7) / 8) (hr : a % 8 = 0) : packN 8 bs < 2 ^ a := by
  have h := packN_lt hb
  rwa [show 8 * bs.length = a from by omega] at h
def intsN (ls : List Nat) : List Int := ls.map fun x => ((x : Nat) : Int)
theorem intsN_bytes {b : List Int} (h : ∀ x ∈ b, 0 ≤ x ∧ x ≤ 255) : intsN (b.map Int.toNat) = b := by
  induction b with
  | nil => rfl
  | cons x l ih =>
    have h1 := h x (by simp)
    have h2 := ih (fun y hy => h y (by simp [hy]))
    simp only [intsN, List.map_cons, List.map_map] at h2 ⊢
    rw [h2, show ((x.toNat : Nat) : Int) = x from by omega]
/-- The bits of a number. -/
def bitsOf (n N : Nat) : List Bool := (List.range n).map fun i => N / 2 ^ i % 2 == 1
theorem bitsOf_len (n N : Nat) : (bitsOf n N).length = n := by simp [bitsOf]
theorem bitsOf_get {n N i : Nat} (h : i < n) : (bitsOf n N)[i]? = some (N / 2 ^ i % 2 == 1) := by simp [bitsOf, h]
theorem bitsOf_succ (n N : Nat) : bitsOf (n + 1) N = bitsOf n N ++ [N / 2 ^ n % 2 == 1] := by simp [bitsOf, List.range_succ]
theorem bitN_bitsOf (N : Nat) : ∀ n, bitN (bitsOf n N) = N % 2 ^ n
  | 0 => by rw [Nat.pow_zero, Nat.mod_one]; rfl
  | n + 1 => by
    rw [bitsOf_succ, bitN_app, bitN_bitsOf N n, bitsOf_len, Nat.pow_succ, Nat.mod_mul]
    have e : bitN [N / 2 ^ n % 2 == 1] = N / 2 ^ n % 2 := by
      rcases Nat.mod_two_eq_zero_or_one (N / 2 ^ n) with h | h <;> rw [h] <;> rfl
    rw [e]
theorem bitsOf_eq {n N : Nat} (h : N < 2 ^ n) : bitN (bitsOf n N) = N := by rw [bitN_bitsOf, Nat.mod_eq_of_lt h]
theorem bitsOf_bitN (bs : List Bool) : bitsOf bs.length (bitN bs) = bs := by
  apply List.ext_getElem?
  intro i
  by_cases hi : i < bs.length
  · rw [bitsOf_get hi, bitN_bit (List.getElem?_eq_getElem hi), List.getElem?_eq_getElem hi]
    cases bs[i] <;> rfl
  · rw [List.getElem?_eq_none (by rw [bitsOf_len]; omega), List.getElem?_eq_none (by omega)]
theorem bytesN_len (N m : Nat) : (bytesN N m).length = m := by simp [bytesN]
theorem bytesN_val (N m : Nat) : ∀ x ∈ bytesN N m, 0 ≤ x ∧ x ≤ 255 := by
  intro x hx
  obtain ⟨i, _, rfl⟩ := List.mem_map.1 hx
  omega
/-- A number's bytes make it up. -/
theorem packN_bytesN (N : Nat) : ∀ m, packN 8 ((bytesN N m).map Int.toNat) = N % 2 ^ (8 * m)
  | 0 => by rw [Nat.mul_zero, Nat.pow_zero, Nat.mod_one]; rfl
  | m + 1 => by
    rw [bytesN_succ, List.map_append, List.map_cons, List.map_nil, packN_snoc, packN_bytesN N m, List.length_map, bytesN_len, Int.toNat_natCast, Nat.mul_add, Nat.mul_one, Nat.pow_add, Nat.mod_mul, Nat.mul_comm (2 ^ (8 * m))]
end Go.Proofs.YtanacapkfllbnaaGreatDoor
namespace Go.Proofs.YtanacapkfllbnaaGreatDoor
open Go.RowKit

theorem qselect {S : List Nat} {p : Nat} {bs : List Bool} {w : World} (k : Int) (h : VecM w S p bs true) (ht : Tab64 w) (h0 : 0 ∉ S) {x : Int} {b : Bool} (hx : selI bs k = x) (hb : selB bs k = b) :
    Calls Tryz.prog 146 #[.pointer (some ⟨p, 0, none⟩), .int .i64 k] w fun e w' => e = .returned (.tuple #[.int .i64 x, .bool b]) ∧ Kp [] w w' := by
  refine (vselect_any S p k bs true w h ht h0).mono fun e w' hh => ?_
  rw [hx, hb] at hh
  obtain ⟨he, S', c', _, _, _, hc⟩ := hh
  exact ⟨he, (hc rfl).2.2⟩
theorem Tab64.lt {w : World} (h : Tab64 w) : 0 < w.heap.size := by
  obtain ⟨v, hv⟩ : ∃ v, dbTab[0]? = some v := ⟨_, rfl⟩
  exact World.block_lt_of_cell? w ⟨0, 0, none⟩ (h 0 v hv)

end Go.Proofs.YtanacapkfllbnaaGreatDoor
namespace Go.Proofs.YtanacapkfllbnaaGreatDoor
open Go.RowKit

end Go.Proofs.YtanacapkfllbnaaGreatDoor
namespace Go.Proofs.YtanacapkfllbnaaGreatDoor
open Go.RowKit

/-- What is wrong with a length. -/
def lenE (n : Int) : Int := if n < 0 then 2 else if 16777216 < n then 3 else 0
/-- What is wrong with bytes as so many bits. -/
def readE (n : Int) (bs : List Nat) : Int := if lenE n = 0 then (if bs.length = (n.toNat + 7) / 8 ∧ packN 8 bs < 2 ^ n.toNat then 0 else 4) else lenE n
theorem readE_err {n : Int} {bs : List Nat} (h : lenE n ≠ 0) : readE n bs = lenE n := by unfold readE; rw [if_neg h]
theorem readE_ok {n : Nat} {bs : List Nat} (h : lenE n = 0) (h1 : bs.length = (n + 7) / 8) (h2 : packN 8 bs < 2 ^ n) : readE n bs = 0 := by
  unfold readE; rw [if_pos h, Int.toNat_natCast, if_pos ⟨h1, h2⟩]
theorem readE_no {n : Nat} {bs : List Nat} (h : lenE n = 0) (h1 : ¬ (bs.length = (n + 7) / 8 ∧ packN 8 bs < 2 ^ n)) : readE n bs = 4 := by
  unfold readE; rw [if_pos h, Int.toNat_natCast, if_neg h1]
theorem lenE_ok {n : Int} (h : lenE n = 0) : 0 ≤ n ∧ n ≤ 16777216 := by
  unfold lenE at h
  by_cases h1 : n < 0
  · rw [if_pos h1] at h; cases h
  · rw [if_neg h1] at h
    by_cases h2 : 16777216 < n
    · rw [if_pos h2] at h; cases h
    · omega
theorem lenE_nat {n : Nat} (h : n ≤ 16777216) : lenE (n : Int) = 0 := by unfold lenE; rw [if_neg (by omega), if_neg (by omega)]

theorem bnew_no (n : Int) (w : World) (h : lenE n ≠ 0) : Calls Tryz.prog 70 #[.int .i64 n] w fun e w' => e = .returned (.tuple #[.pointer none, .int .i64 (lenE n)]) ∧ w = w' := by
  by_cases h0 : n < 0
  · refine (bnew_neg n w h0).mono fun e w' hh => ?_
    unfold lenE
    rw [if_pos h0]
    exact hh
  · by_cases h1 : 16777216 < n
    · obtain ⟨m, rfl⟩ : ∃ m : Nat, n = (m : Int) := ⟨n.toNat, by omega⟩
      refine (bnew_long m w (by omega)).mono fun e w' hh => ?_
      unfold lenE
      rw [if_neg h0, if_pos h1]
      exact hh
    · exact absurd (show lenE n = 0 by unfold lenE; rw [if_neg h0, if_neg h1]) h

set_option maxRecDepth 100000 in
set_option maxHeartbeats 2000000 in
theorem bnew_raw (n : Nat) (w : World) (h : n ≤ 16777216) : Calls Tryz.prog 70 #[.int .i64 n] w fun e w' =>
    ∃ g p m, e = .returned (.tuple #[.pointer (some ⟨p, 0, none⟩), .int .i64 0]) ∧ m = (n + 63) / 64 ∧ w.heap.size ≤ g ∧ w.heap.size ≤ p ∧ Blk w' g 149 (wordsV (List.replicate m 0)) ∧
      Blk w' p 190 [.slice (some ⟨g, 0, none⟩) m m, .slice none 0 0, .bool false, .int .i64 (n : Int), .bool true] ∧ Kp [] w w' := by
  obtain ⟨i0, hi, hz0, hz1, hz2⟩ := info_parts Tryz.info_u64
  obtain ⟨m, hm⟩ : ∃ m, m = (n + 63) / 64 := ⟨_, rfl⟩
  have hw1 : IntKind.i64.wrap ((n : Int) + 64) = ((n + 64 : Nat) : Int) := by rw [IntKind.wrap_i64]; omega
  have hw2 : IntKind.i64.wrap ((n : Int) + 64 - 1) = ((n + 63 : Nat) : Int) := by rw [IntKind.wrap_i64]; omega
  have hw3 : Int.tdiv ((n : Int) + 63) 64 = (m : Int) := by rw [Int.tdiv_eq_ediv_of_nonneg (by omega)]; omega
  have hw4 : IntKind.i64.wrap (m : Int) = (m : Int) := by rw [IntKind.wrap_i64]; omega
  have hmb : m ≤ 1000000 := by omega
  have hmk := run_make_list (P := Tryz.prog) 186 149 i0 (.int .u64 0) Tryz.underlying186 hi hz0 hz1 rfl .i64 .i64 m (by rw [hz2]; omega) (by omega)
  have HM := Lib.hid hm
  clear hm hi hz0 hz1 hz2
  go_enter Tryz.func70, Tryz.ntmps70
  go_wp2_with fail
  go_ret2
  have b1 := Blk.new w 149 (List.replicate m (.int .u64 0))
  have b2 := Blk.new (w.alloc (.cells (List.replicate m (.int .u64 0)).toArray 149)) 190 [.slice (some ⟨w.heap.size, 0, none⟩) m m, .slice none 0 0, .bool false, .int .i64 (n : Int), .bool true]
  have e : (w.alloc (.cells (List.replicate m (.int .u64 0)).toArray 149)).heap.size = w.heap.size + 1 := by simp
  rw [e] at b2
  refine ⟨w.heap.size, w.heap.size + 1, m, rfl, HM.out, Nat.le_refl _, Nat.le_succ _, ?_, ?_, ((Kp.refl [] w).alloc _).alloc _⟩
  · have := b1.alloc (.cells [.slice (some ⟨w.heap.size, 0, none⟩) m m, .slice none 0 0, .bool false, .int .i64 (n : Int), .bool true].toArray 190)
    simpa [wordsV] using this
  · simpa using b2

set_option maxRecDepth 100000 in
set_option maxHeartbeats 2000000 in
theorem vread_any (n : Int) (A : Option Addr) (L c B : Nat) (bs : List Nat) (w : World) (hx : Rd w B A ((intsN bs).map (.int .u8))) (hn : bs.length = L) (hb : L ≤ 1000000000) (hs : ∀ y ∈ bs, y < 2 ^ 8) :
    Calls Tryz.prog 100 #[.int .i64 n, .slice A L c] w fun e w' => Kp [] w w' ∧ ((readE n bs ≠ 0 ∧ e = .returned (.tuple #[.pointer none, .int .i64 (readE n bs)])) ∨
      (readE n bs = 0 ∧ lenE n = 0 ∧ bs.length = (n.toNat + 7) / 8 ∧ packN 8 bs < 2 ^ n.toNat ∧ ∃ S p, e = .returned (.tuple #[.pointer (some ⟨p, 0, none⟩), .int .i64 0]) ∧ VecM w' S p (bitsOf n.toNat (packN 8 bs)) false ∧ (∀ x ∈ S, w.heap.size ≤ x))) := by
  have HX := Lib.hid hx; clear hx
  have HN := Lib.hid hn; clear hn
  have HS := Lib.hid hs; clear hs
  by_cases he : lenE n ≠ 0
  · have HE := Lib.hid he
    have HR := Lib.hid (readE_err (bs := bs) he)
    have hE1 : (lenE n != 0) = true := by simpa using he
    obtain ⟨E, hE⟩ : ∃ E, E = lenE n := ⟨_, rfl⟩
    rw [← hE] at hE1
    have HEE := Lib.hid hE; clear hE he
    go_enter Tryz.func100, Tryz.ntmps100
    go_wp2_with fail
    refine (bnew_no n w HE.out).mono ?_
    rintro e w2 ⟨rfl, rfl⟩
    rw [← HEE.out]
    go_wp2_with fail
    go_ret2
    exact ⟨Kp.refl [] w, .inl ⟨by rw [HR.out]; exact HE.out, by rw [HR.out, HEE.out]; rfl⟩⟩
  have he0 : lenE n = 0 := by omega
  have hwn := lenE_ok he0
  obtain ⟨T, rfl⟩ : ∃ T : Nat, n = (T : Int) := ⟨n.toNat, by omega⟩
  have hDK : T ≤ 16777216 := by omega
  have HE := Lib.hid he0
  clear he he0
  rw [Int.toNat_natCast]
  have hw2 : IntKind.i64.wrap ((T : Int) + 7) = ((T + 7 : Nat) : Int) := by rw [IntKind.wrap_i64]; omega
  obtain ⟨s, hs⟩ : ∃ s, s = (T + 7) / 8 := ⟨_, rfl⟩
  have hw3 : Int.tdiv ((T : Int) + 7) 8 = (s : Int) := by rw [Int.tdiv_eq_ediv_of_nonneg (by omega)]; omega
  have hws : IntKind.i64.wrap (s : Int) = (s : Int) := by rw [IntKind.wrap_i64]; omega
  obtain ⟨r, hr⟩ : ∃ r, r = T % 8 := ⟨_, rfl⟩
  have hmod : (T : Int).tmod 8 = (r : Int) := by rw [Int.tmod_eq_emod_of_nonneg (by omega)]; omega
  have hwr : IntKind.i64.wrap (r : Int) = (r : Int) := by rw [IntKind.wrap_i64]; omega
  have hr8 : r < 8 := by omega
  have HSS := Lib.hid hs; clear hs
  have HRR := Lib.hid hr; clear hr
  have HDK := Lib.hid hDK
  go_enter Tryz.func100, Tryz.ntmps100
  go_wp2_with fail
  refine (bnew_raw T w HDK.out).mono ?_
  rintro e w2 ⟨g, p, m, rfl, hm, hg, hp, hbg, hbp, hk2⟩
  have HX2 := Lib.hid (HX.out.kp0 hk2)
  by_cases hls : L ≠ s
  · have hls1 : ((L : Int) != (s : Int)) = true := by simpa using (fun h : (L : Int) = (s : Int) => hls (by omega))
    have HRE := Lib.hid (readE_no (bs := bs) HE.out (fun h => hls (by rw [← HN.out, HSS.out]; exact h.1)))
    clear hls
    go_wp2_with fail
    go_ret2
    exact ⟨hk2, .inl ⟨by rw [HRE.out]; decide, by rw [HRE.out]; rfl⟩⟩
  obtain rfl : L = s := by omega
  clear hls
  by_cases hbad : 0 < r ∧ ∃ x, bs[bs.length - 1]? = some x ∧ x / 2 ^ r ≠ 0
  · obtain ⟨hr0, x, hxl, hxr⟩ := hbad
    have HRE := Lib.hid (readE_no (bs := bs) HE.out (fun h => hxr (by
      rw [HRR.out]
      exact (last_bits HS.out h.1 (by rw [← HRR.out]; exact hr0) hxl).1 h.2)))
    have hL0 : 0 < L := by have := HSS.out; have := HRR.out; omega
    have hxb := HS.out x (List.mem_of_getElem? hxl)
    obtain ⟨X, hX⟩ : ∃ X, X = x / 2 ^ r := ⟨_, rfl⟩
    have hdx : (x : Int) / 2 ^ r = (X : Int) := by rw [hX]; simp
    have hdx' : (x : Int) / 2 ^ min r 8 = (X : Int) := by rw [show min r 8 = r from by omega]; exact hdx
    have hX0 : 0 < X := by rw [hX]; omega
    obtain ⟨l1, hl1⟩ : ∃ l1, L = l1 + 1 := ⟨L - 1, by omega⟩
    rw [HN.out, hl1] at hxl
    obtain ⟨ad, rfl, _, cx⟩ := HX2.out.at_ (i := l1) (u := .int .u8 (x : Int)) (by simp only [Nat.add_sub_cancel] at hxl; simp [intsN, hxl])
    have hwl : IntKind.i64.wrap ((L : Int) - 1) = (l1 : Int) := by rw [IntKind.wrap_i64]; omega
    have hwl' : IntKind.i64.wrap ((l1 : Int) + 1 - 1) = (l1 : Int) := by rw [IntKind.wrap_i64]; omega
    have hll : l1 < L := by omega
    clear hxl hxr hX hxb hl1
    go_wp2_with fail
    go_ret2
    exact ⟨hk2, .inl ⟨by rw [HRE.out]; decide, by rw [HRE.out]; rfl⟩⟩
  have hgood : packN 8 bs < 2 ^ T := by
    rcases Nat.eq_zero_or_pos r with h0 | h0
    · exact whole_bits HS.out (by rw [HN.out]; exact HSS.out) (by rw [← HRR.out]; exact h0)
    · have hL0 : 0 < L := by have := HSS.out; have := HRR.out; omega
      obtain ⟨x, hx⟩ : ∃ x, bs[bs.length - 1]? = some x := ⟨_, List.getElem?_eq_getElem (by rw [HN.out]; omega)⟩
      refine (last_bits HS.out (by rw [HN.out]; exact HSS.out) (by rw [← HRR.out]; exact h0) hx).2 ?_
      rw [← HRR.out]
      rcases Nat.eq_zero_or_pos (x / 2 ^ r) with h1 | h1
      · exact h1
      · exact absurd ⟨h0, x, hx, by omega⟩ hbad
  have HGD := Lib.hid hgood; clear hgood
  have HRE := Lib.hid (readE_ok (bs := bs) HE.out (by rw [HN.out, HSS.out]) HGD.out)
  have hgp : g ≠ p := hbg.ne hbp (by decide)
  have HGP := Lib.hid (show g ≠ p ∧ w.heap.size ≤ g ∧ w.heap.size ≤ p from ⟨hgp, hg, hp⟩)
  have HM := Lib.hid hm
  have hmb : m ≤ 1000000 := by omega
  have hLm : L ≤ 8 * m := by have := HSS.out; omega
  have HB0 := Lib.hid hbg; clear hbg
  have HP0 := Lib.hid hbp; clear hbp
  have HK := Lib.hid hk2
  clear hm hgp hg hp
  have hr2 : r = 0 ∨ (0 < r ∧ ∃ x, bs[bs.length - 1]? = some x ∧ x / 2 ^ r = 0) := by
    rcases Nat.eq_zero_or_pos r with h0 | h0
    · exact .inl h0
    · have hL0 : 0 < L := by have := HSS.out; have := HRR.out; omega
      obtain ⟨x, hx⟩ : ∃ x, bs[bs.length - 1]? = some x := ⟨_, List.getElem?_eq_getElem (by rw [HN.out]; omega)⟩
      refine .inr ⟨h0, x, hx, ?_⟩
      rcases Nat.eq_zero_or_pos (x / 2 ^ r) with h1 | h1
      · exact h1
      · exact absurd ⟨h0, x, hx, by omega⟩ hbad
  clear hbad
  rcases hr2 with hr0 | ⟨hr0, x, hxl, hxr⟩
  focus (
                subst hr0
                go_wp2_with fail)
  rotate_left
  focus (
                have hL0 : 0 < L := by have := HSS.out; have := HRR.out; omega
                have hxb := HS.out x (List.mem_of_getElem? hxl)
                have hdx : (x : Int) / 2 ^ r = 0 := by rw [show (x : Int) / 2 ^ r = ((x / 2 ^ r : Nat) : Int) from by simp, hxr]; rfl
                have hdx' : (x : Int) / 2 ^ min r 8 = 0 := by rw [show min r 8 = r from by omega]; exact hdx
                obtain ⟨l1, hl1⟩ : ∃ l1, L = l1 + 1 := ⟨L - 1, by omega⟩
                rw [HN.out, hl1] at hxl
                obtain ⟨ad, rfl, _, cx⟩ := HX2.out.at_ (i := l1) (u := .int .u8 (x : Int)) (by simp only [Nat.add_sub_cancel] at hxl; simp [intsN, hxl])
                have hwl : IntKind.i64.wrap ((L : Int) - 1) = (l1 : Int) := by rw [IntKind.wrap_i64]; omega
                have hwl' : IntKind.i64.wrap ((l1 : Int) + 1 - 1) = (l1 : Int) := by rw [IntKind.wrap_i64]; omega
                have hll : l1 < L := by omega
                clear hxl hxr hxb hl1
                go_wp2_with fail)
  all_goals
    go_loopw [43] (fun x wr => ∃ (k : Nat) (ws : List Nat), x = .int .i64 (k : Int) ∧ k ≤ L ∧ Hid (Blk wr g 149 (wordsV ws)) ∧ Hid (ws.length = m) ∧ Hid (∀ x ∈ ws, x < 2 ^ 64) ∧ Hid (num ws = packN 8 (bs.take k)) ∧ Hid (Blk wr p 190 [.slice (some ⟨g, 0, none⟩) m m, .slice none 0 0, .bool false, .int .i64 (T : Int), .bool true]) ∧ Hid (Kp [] w wr)) (fun x _ => L - (intOf x).toNat)
    case atStart => exact ⟨0, List.replicate m 0, rfl, by omega, HB0, Lib.hid List.length_replicate, Lib.hid (fun x hx => by rw [List.eq_of_mem_replicate hx]; decide), Lib.hid (by rw [num_zero]; rfl), HP0, HK⟩
    case round =>
      clear HB0 HP0 HK
      obtain ⟨k, ws, rfl, hk, HB, HL, HLT, HNM, HP, HK3⟩ := hrel
      by_cases hlt : k < L
      · obtain ⟨y, hy⟩ : ∃ y, bs[k]? = some y := ⟨_, List.getElem?_eq_getElem (by rw [HN.out]; exact hlt)⟩
        obtain ⟨ad2, had2, _, cy⟩ := (HX.out.kp0 HK3.out).at_ (i := k) (u := .int .u8 (y : Int)) (by simp [intsN, hy])
        first | (injection had2 with had2; subst had2) | subst had2
        have hyb := HS.out y (List.mem_of_getElem? hy)
        have c0 := HP.out.cell 0
        simp only [List.getElem?_cons_zero] at c0
        obtain ⟨q, hq⟩ : ∃ q, q = k / 8 := ⟨_, rfl⟩
        obtain ⟨r1, hr1⟩ : ∃ r1, r1 = k % 8 := ⟨_, rfl⟩
        have hdiv : (k : Int).tdiv 8 = (q : Int) := by rw [Int.tdiv_eq_ediv_of_nonneg (by omega)]; omega
        have hmod1 : (k : Int).tmod 8 = (r1 : Int) := by rw [Int.tmod_eq_emod_of_nonneg (by omega)]; omega
        have hwq : IntKind.i64.wrap (q : Int) = (q : Int) := by rw [IntKind.wrap_i64]; omega
        have hwr1 : IntKind.i64.wrap (r1 : Int) = (r1 : Int) := by rw [IntKind.wrap_i64]; omega
        have hqu : q < m := by omega
        obtain ⟨r8, hr8'⟩ : ∃ r8, r8 = r1 * 8 := ⟨_, rfl⟩
        have hw8 : IntKind.i64.wrap ((r1 : Int) * 8) = (r8 : Int) := by rw [IntKind.wrap_i64]; omega
        have hr864 : r8 < 64 := by omega
        obtain ⟨z, hz⟩ : ∃ z, ws[q]? = some z := ⟨_, List.getElem?_eq_getElem (by rw [HL.out]; exact hqu)⟩
        have cz : wr.cell? ⟨g, q, none⟩ = some (.int .u64 (z : Int)) := by rw [HB.out.cell]; exact wordsV_get hz
        have cf := HB.out.free q
        have hzb := HLT.out z (List.mem_of_getElem? hz)
        have hwy : IntKind.u64.wrap (y : Int) = (y : Int) := by rw [u64_wrap_nat]; omega
        obtain ⟨Y, hY⟩ : ∃ Y, Y = y * 2 ^ r8 := ⟨_, rfl⟩
        have hYb : Y < 2 ^ 64 := by
          rw [hY]
          have h1 : y * 2 ^ r8 < 2 ^ 8 * 2 ^ r8 := Nat.mul_lt_mul_of_pos_right hyb (Nat.two_pow_pos _)
          rw [← Nat.pow_add] at h1
          exact Nat.lt_of_lt_of_le h1 (Nat.pow_le_pow_right (by omega) (by omega))
        have hsh' : IntKind.u64.wrap ((y : Int) * 2 ^ r8) = (Y : Int) := by
          have e : (y : Int) * 2 ^ r8 = ((y * 2 ^ r8 : Nat) : Int) := by simp
          rw [e, u64_wrap_nat, ← hY, Nat.mod_eq_of_lt hYb]
        have hsh : IntKind.u64.wrap ((y : Int) * 2 ^ min r8 64) = (Y : Int) := by rw [show min r8 64 = r8 from by omega]; exact hsh'
        obtain ⟨Z, hZ⟩ : ∃ Z, Z = z ||| Y := ⟨_, rfl⟩
        have hor : bits .or .u64 (z : Int) (Y : Int) = (Z : Int) := by rw [hZ]; exact u64_or_nat z Y (by omega) (by omega)
        have hZb : Z < 2 ^ 64 := by rw [hZ]; exact Nat.or_lt_two_pow hzb hYb
        have hkq : 8 * k = 64 * q + r8 := by omega
        have hnz : num ws < 2 ^ (64 * q + r8) := by
          rw [HNM.out, ← hkq]
          have h1 := packN_lt (wd := 8) (l := bs.take k) (fun y hy => HS.out y (List.mem_of_mem_take hy))
          rwa [List.length_take, Nat.min_eq_left (by rw [HN.out]; omega)] at h1
        have hres := num_put1 (n := y) hz hnz
        rw [← hY, ← hZ, HNM.out, ← hkq] at hres
        have HRES := Lib.hid (show num (ws.set q Z) = packN 8 (bs.take (k + 1)) by
          rw [hres, take_succ_of hy, packN_snoc, List.length_take, Nat.min_eq_left (by rw [HN.out]; omega)])
        have HB3 := Lib.hid (HB.out.set_ q (.int .u64 (Z : Int))).drew
        have HP3 := Lib.hid (HP.out.far (p := ⟨g, q, none⟩) (Ne.symm HGP.out.1) (.int .u64 (Z : Int))).drew
        have HL3 := Lib.hid (show (ws.set q Z).length = m by rw [List.length_set, HL.out])
        have HLT3 := Lib.hid (set_lt (q := q) HLT.out hZb)
        have HKK := Lib.hid ((HK3.out.setCell (p := ⟨g, q, none⟩) (.inr HGP.out.2.1) (.int .u64 (Z : Int))).drew)
        rw [wordsV_set] at HB3
        clear hy hyb hq hr1 hr8' hz hzb hY hYb hZ hZb hkq hnz hres
        go_wp2_with fail
        go_region
        go_wp2_with fail
        exact ⟨⟨k + 1, ws.set q Z, by go_num, by omega, HB3, HL3, HLT3, HRES, HP3, HKK⟩, by simp [intOf]; omega⟩
      · obtain rfl : L = k := by omega
        have HROW := Lib.hid (show VecM wr [p, g] p (bitsOf T (packN 8 bs)) false from by
          refine ⟨g, ws, none, 0, 0, [], ?_, HB.out, HLT.out, ?_, ?_, ?_, ?_, ?_, rfl⟩
          · rw [bitsOf_len, HL.out]; exact HP.out
          · rw [bitsOf_len, HL.out, HM.out]
          · rw [HNM.out, List.take_of_length_le (by rw [HN.out]; exact Nat.le_refl _), bitsOf_eq HGD.out]
          · rw [bitsOf_len]; exact HDK.out
          · exact ⟨rfl, .inl ⟨rfl, rfl⟩⟩
          · intro h; cases h)
        have HSB := Lib.hid (show ∀ x ∈ [p, g], w.heap.size ≤ x from by
          intro x hx
          simp only [List.mem_cons, List.not_mem_nil, or_false] at hx
          rcases hx with rfl | rfl
          · exact HGP.out.2.2
          · exact HGP.out.2.1)
        go_wp2_with fail
        go_ret2
        exact ⟨HK3.out, .inr ⟨HRE.out, HE.out, by rw [HN.out, HSS.out], HGD.out, [p, g], p, rfl, HROW.out, HSB.out⟩⟩
end Go.Proofs.YtanacapkfllbnaaGreatDoor
