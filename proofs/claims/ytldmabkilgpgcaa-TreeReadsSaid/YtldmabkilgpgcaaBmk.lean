/-
  LAYER 1: a vector is made.
  CONDITIONS: as each says.
-/
import Derived.Test.YtldmabkilgpgcaaBrd
namespace Go.Proofs.Ytldmabkilgpgcaa
open Go.RowKit

theorem Try.info_u64 : (Try.prog.info? 100).map (fun i => (i.zero, i.size, i.bytes)) = some (some (.int .u64 0), 1, 8) := by kernel_rfl
theorem num_zero (m : Nat) : num (List.replicate m 0) = 0 := by
  induction m with
  | zero => rfl
  | succ m ih => rw [List.replicate_succ]; show 0 + 2 ^ 64 * num _ = 0; rw [ih]
/-- A word padded to 64 bits. -/
def padL (bs : List Bool) (q : Nat) : List Bool := wordL bs q ++ List.replicate (64 - (wordL bs q).length) false
theorem padL_len (bs : List Bool) (q : Nat) : (padL bs q).length = 64 := by
  unfold padL
  rw [List.length_append, List.length_replicate]
  have := wordL_len bs q
  omega
theorem padL_bitN (bs : List Bool) (q : Nat) : bitN (padL bs q) = bitN (wordL bs q) := by
  unfold padL
  rw [bitN_app, bitN_zeros, Nat.mul_zero, Nat.add_zero]
theorem padL_get {bs : List Bool} {k : Nat} (h : k < bs.length) : (padL bs (k / 64))[k % 64]? = bs[k]? := by
  have hr : k % 64 < 64 := Nat.mod_lt _ (by decide)
  have e : (wordL bs (k / 64))[k % 64]? = bs[k]? := by
    unfold wordL
    rw [List.getElem?_take, if_pos hr, List.getElem?_drop, Nat.div_add_mod]
  have hl : k % 64 < (wordL bs (k / 64)).length := by
    rw [List.getElem?_eq_getElem h] at e
    exact (List.getElem?_eq_some_iff.1 e).1
  unfold padL
  rw [List.getElem?_append_left hl, e]
/-- One bit is put into a word: the words are the bits with that one put. -/
theorem num_put {ws : List Nat} {bs : List Bool} {k x : Nat} (hw : ∀ x ∈ ws, x < 2 ^ 64) (hn : num ws = bitN bs) (hk : k < bs.length) (hx : ws[k / 64]? = some x) (v : Bool) :
    num (ws.set (k / 64) (bitN ((padL bs (k / 64)).set (k % 64) v))) = bitN (bs.set k v) := by
  have e0 : x = bitN (padL bs (k / 64)) := by rw [padL_bitN]; exact word_bits hw hn hx
  obtain ⟨b, hb⟩ : ∃ b, bs[k]? = some b := ⟨_, List.getElem?_eq_getElem hk⟩
  have e1 := bitN_set hb v
  have e2 := bitN_set ((padL_get hk).trans hb) v
  have e3 := num_set hx (bitN ((padL bs (k / 64)).set (k % 64) v))
  rw [← e0] at e2
  obtain ⟨y, hy⟩ : ∃ y, y = bitN ((padL bs (k / 64)).set (k % 64) v) := ⟨_, rfl⟩
  rw [← hy] at e2 e3 ⊢
  have e4 : 2 ^ (64 * (k / 64)) * (y + b.toNat * 2 ^ (k % 64)) = 2 ^ (64 * (k / 64)) * (x + v.toNat * 2 ^ (k % 64)) := by rw [e2]
  have e5 : ∀ c : Nat, 2 ^ (64 * (k / 64)) * (c * 2 ^ (k % 64)) = c * 2 ^ k := fun c => by
    rw [← Nat.mul_assoc, Nat.mul_comm _ c, Nat.mul_assoc, ← Nat.pow_add, Nat.div_add_mod]
  rw [Nat.mul_add, Nat.mul_add, e5, e5] at e4
  rw [hn] at e3
  omega
theorem or_put {ws : List Nat} {bs : List Bool} {k x : Nat} (hw : ∀ x ∈ ws, x < 2 ^ 64) (hn : num ws = bitN bs) (hx : ws[k / 64]? = some x) : x ||| 2 ^ (k % 64) = bitN ((padL bs (k / 64)).set (k % 64) true) := by
  rw [← bitN_set_one (by rw [padL_len]; exact Nat.mod_lt _ (by decide)), padL_bitN]
  rw [show bitN (wordL bs (k / 64)) = x from (word_bits hw hn hx).symm]
theorem clear_put {ws : List Nat} {bs : List Bool} {k x : Nat} (hw : ∀ x ∈ ws, x < 2 ^ 64) (hn : num ws = bitN bs) (hx : ws[k / 64]? = some x) : x &&& (2 ^ 64 - 1 - 2 ^ (k % 64)) = bitN ((padL bs (k / 64)).set (k % 64) false) := by
  have h := bitN_clear_one (l := padL bs (k / 64)) (r := k % 64) (by rw [padL_len]; exact Nat.mod_lt _ (by decide))
  rw [padL_len, padL_bitN, show bitN (wordL bs (k / 64)) = x from (word_bits hw hn hx).symm] at h
  exact h
theorem put_lt (bs : List Bool) (q r : Nat) (v : Bool) : bitN ((padL bs q).set r v) < 2 ^ 64 := by
  have h := bitN_lt ((padL bs q).set r v)
  rwa [List.length_set, padL_len] at h

theorem bnew_neg (n : Int) (w : World) (h : n < 0) : Calls Try.prog 59 #[.int .i64 n] w fun e w' => e = .returned (.tuple #[.pointer none, .int .i64 2]) ∧ w = w' := by
  go_enter Try.func59, Try.ntmps59
  go_wp2_with fail
  go_ret2
  exact ⟨rfl, rfl⟩
theorem bnew_long (n : Nat) (w : World) (h : 16777216 < n) : Calls Try.prog 59 #[.int .i64 n] w fun e w' => e = .returned (.tuple #[.pointer none, .int .i64 3]) ∧ w = w' := by
  go_enter Try.func59, Try.ntmps59
  go_wp2_with fail
  go_ret2
  exact ⟨rfl, rfl⟩

set_option maxRecDepth 100000 in
set_option maxHeartbeats 2000000 in
theorem bnew_any (n : Nat) (w : World) (h : n ≤ 16777216) : Calls Try.prog 59 #[.int .i64 n] w fun e w' =>
    ∃ S p, e = .returned (.tuple #[.pointer (some ⟨p, 0, none⟩), .int .i64 0]) ∧ VecM w' S p (List.replicate n false) false ∧ (∀ x ∈ S, w.heap.size ≤ x) ∧ Kp [] w w' := by
  obtain ⟨i0, hi, hz0, hz1, hz2⟩ := info_parts Try.info_u64
  obtain ⟨m, hm⟩ : ∃ m, m = (n + 63) / 64 := ⟨_, rfl⟩
  have hw1 : IntKind.i64.wrap ((n : Int) + 64) = ((n + 64 : Nat) : Int) := by rw [IntKind.wrap_i64]; omega
  have hw2 : IntKind.i64.wrap ((n : Int) + 64 - 1) = ((n + 63 : Nat) : Int) := by rw [IntKind.wrap_i64]; omega
  have hw3 : Int.tdiv ((n : Int) + 63) 64 = (m : Int) := by rw [Int.tdiv_eq_ediv_of_nonneg (by omega)]; omega
  have hw4 : IntKind.i64.wrap (m : Int) = (m : Int) := by rw [IntKind.wrap_i64]; omega
  have hmb : m ≤ 1000000 := by omega
  have hmk := run_make_list (P := Try.prog) 101 100 i0 (.int .u64 0) Try.underlying101 hi hz0 hz1 rfl .i64 .i64 m (by rw [hz2]; omega) (by omega)
  have HM := Lib.hid hm
  clear hm hi hz0 hz1 hz2
  go_enter Try.func59, Try.ntmps59
  go_wp2_with fail
  go_ret2
  have b1 := Blk.new w 100 (List.replicate m (.int .u64 0))
  have b2 := Blk.new (w.alloc (.cells (List.replicate m (.int .u64 0)).toArray 100)) 105 [.slice (some ⟨w.heap.size, 0, none⟩) m m, .slice none 0 0, .bool false, .int .i64 (n : Int), .bool true]
  have e : (w.alloc (.cells (List.replicate m (.int .u64 0)).toArray 100)).heap.size = w.heap.size + 1 := by simp
  rw [e] at b2
  refine ⟨[w.heap.size + 1, w.heap.size], w.heap.size + 1, rfl, ⟨w.heap.size, List.replicate m 0, none, 0, 0, [], ?_, ?_, ?_, ?_, ?_, ?_, ?_, ?_, rfl⟩, ?_, ((Kp.refl [] w).alloc _).alloc _⟩
  · rw [List.length_replicate, List.length_replicate]
    simpa using b2
  · have := b1.alloc (.cells [.slice (some ⟨w.heap.size, 0, none⟩) m m, .slice none 0 0, .bool false, .int .i64 (n : Int), .bool true].toArray 105)
    simpa [wordsV] using this
  · intro x hx; rw [List.eq_of_mem_replicate hx]; decide
  · rw [List.length_replicate, List.length_replicate, HM.out]
  · rw [num_zero, bitN_zeros]
  · rw [List.length_replicate]; exact h
  · exact ⟨rfl, .inl ⟨rfl, rfl⟩⟩
  · intro h; cases h
  · intro x hx
    simp only [List.mem_cons, List.not_mem_nil, or_false] at hx
    omega

/-- The vector that Of has behind k of its rounds. -/
def ofL (bs : List Bool) (k : Nat) : List Bool := bs.take k ++ List.replicate (bs.length - k) false
theorem ofL_len {bs : List Bool} {k : Nat} (h : k ≤ bs.length) : (ofL bs k).length = bs.length := by
  unfold ofL
  rw [List.length_append, List.length_take, List.length_replicate]
  omega
theorem ofL_succ {bs : List Bool} {k : Nat} {b : Bool} (h : bs[k]? = some b) : ofL bs (k + 1) = (ofL bs k).set k b := by
  have hk := (List.getElem?_eq_some_iff.1 h).1
  have hl : (bs.take k).length = k := by rw [List.length_take]; omega
  unfold ofL
  rw [take_succ_of h, show bs.length - k = bs.length - (k + 1) + 1 by omega, List.replicate_succ, List.set_append_right _ _ (by omega), hl, Nat.sub_self, List.set_cons_zero]
  simp
theorem ofL_false {bs : List Bool} {k : Nat} (h : bs[k]? = some false) : ofL bs (k + 1) = ofL bs k := by
  have hk := (List.getElem?_eq_some_iff.1 h).1
  unfold ofL
  rw [take_succ_of h, show bs.length - k = bs.length - (k + 1) + 1 by omega, List.replicate_succ]
  simp
theorem ofL_all (bs : List Bool) : ofL bs bs.length = bs := by simp [ofL]

theorem bof_long (A : Option Addr) (n c : Nat) (w : World) (h : 16777216 < n) : Calls Try.prog 38 #[.slice A n c] w fun e w' => e = .returned (.tuple #[.pointer none, .int .i64 3]) ∧ w = w' := by
  have HN := Lib.hid h; clear h
  go_enter Try.func38, Try.ntmps38
  go_wp2_with fail
  refine (bnew_long n w HN.out).mono ?_
  rintro e w1 ⟨rfl, rfl⟩
  go_wp2_with fail
  go_ret2
  exact ⟨rfl, rfl⟩
/-- A vector that is not counted: one bit is put. -/
theorem vec_put {w : World} {S : List Nat} {p g : Nat} {ws : List Nat} {A : Option Addr} {na ca : Nat} {av : List Int} {bs : List Bool} {k x Z : Nat} {v : Bool}
    (h1 : Blk w p 105 [.slice (some ⟨g, 0, none⟩) ws.length ws.length, .slice A na ca, .bool false, .int .i64 (bs.length : Int), .bool true])
    (h2 : Blk w g 100 (wordsV ws)) (h3 : ∀ x ∈ ws, x < 2 ^ 64) (h4 : ws.length = (bs.length + 63) / 64) (h5 : num ws = bitN bs) (h6 : bs.length ≤ 16777216)
    (h7 : w.ownsRow 0 3 1 (.slice A na ca) na (av.map (.int .i64))) (hS : S = p :: g :: ownL (.slice A na ca))
    (hk : k < bs.length) (hx : ws[k / 64]? = some x) (hZ : Z = bitN ((padL bs (k / 64)).set (k % 64) v)) :
    VecM (w.setCell ⟨g, k / 64, none⟩ (.int .u64 (Z : Int))) S p (bs.set k v) false := by
  have hpg : p ≠ g := h1.ne h2 (by decide)
  refine ⟨g, ws.set (k / 64) Z, A, na, ca, av, ?_, ?_, ?_, ?_, ?_, ?_, ?_, ?_, hS⟩
  · rw [List.length_set, List.length_set]; exact h1.far (p := ⟨g, k / 64, none⟩) hpg _
  · rw [← wordsV_set]; exact h2.set_ _ _
  · exact set_lt h3 (by rw [hZ]; exact put_lt _ _ _ _)
  · rw [List.length_set, List.length_set, h4]
  · rw [hZ]; exact num_put h3 h5 hk hx v
  · rw [List.length_set]; exact h6
  · refine own_kp h7 ((Kp.refl [g] w).setCell (p := ⟨g, k / 64, none⟩) (.inl (by simp)) _) (fun b hb hm => ?_)
    simp only [List.mem_singleton] at hm
    subst hm
    obtain ⟨l, hB⟩ := own_blk_some h7 hb
    exact absurd rfl (hB.ne h2 (by decide))
  · intro h; cases h

set_option maxRecDepth 100000 in
set_option maxHeartbeats 4000000 in
theorem bof_any (A : Option Addr) (n c B : Nat) (bs : List Bool) (w : World) (hx : Rd w B A (bs.map .bool)) (hn : bs.length = n) (h : n ≤ 16777216) : Calls Try.prog 38 #[.slice A n c] w fun e w' =>
    ∃ S p, e = .returned (.tuple #[.pointer (some ⟨p, 0, none⟩), .int .i64 0]) ∧ VecM w' S p bs false ∧ (∀ x ∈ S, w.heap.size ≤ x) ∧ Kp [] w w' := by
  have HX := Lib.hid hx; clear hx
  have HN := Lib.hid hn; clear hn
  go_enter Try.func38, Try.ntmps38
  go_wp2_with fail
  refine (bnew_any n w h).mono ?_
  rintro e w1 ⟨S, p, rfl, hv, hS, hk⟩
  have HV0 := Lib.hid (show VecM w1 S p (ofL bs 0) false by
    have e : ofL bs 0 = List.replicate n false := by unfold ofL; rw [HN.out]; rfl
    rw [e]; exact hv)
  have HS := Lib.hid hS
  have HK0 := Lib.hid hk
  clear hv hS hk
  go_wp2_with fail
  go_loopw [19] (fun x wr => ∃ (k : Nat), x = .int .i64 (k : Int) ∧ k ≤ n ∧ Hid (VecM wr S p (ofL bs k) false) ∧ Hid (Kp [] w wr)) (fun x _ => n - (intOf x).toNat)
  case atStart => exact ⟨0, rfl, by omega, HV0, HK0⟩
  case round =>
    clear HV0 HK0
    obtain ⟨k, rfl, hk, HV, HK⟩ := hrel
    by_cases hlt : k < n
    · obtain ⟨b, hb⟩ : ∃ b, bs[k]? = some b := ⟨_, List.getElem?_eq_getElem (by rw [HN.out]; exact hlt)⟩
      obtain ⟨ad, rfl, _, hcx⟩ := (HX.out.kp0 HK.out).at_ (i := k) (u := .bool b) (by simp [hb])
      cases b with
      | false =>
        have HV2 := Lib.hid (show VecM wr S p (ofL bs (k + 1)) false by rw [ofL_false hb]; exact HV.out)
        clear hb HV
        go_wp2_with fail
        exact ⟨⟨k + 1, by go_num, by omega, HV2, HK⟩, by simp [intOf]; omega⟩
      | true =>
        have HSUB := HV.out.lt
        obtain ⟨g, ws, A', na, ca, av, h1, h2, h3, h4, h5, h6, h7, _, hSS⟩ := HV.out
        have hL : (ofL bs k).length = n := by rw [ofL_len (by rw [HN.out]; exact hk), HN.out]
        obtain ⟨q, hq⟩ : ∃ q, q = k / 64 := ⟨_, rfl⟩
        obtain ⟨r, hr⟩ : ∃ r, r = k % 64 := ⟨_, rfl⟩
        have hqm : q < ws.length := by rw [h4, hL]; omega
        obtain ⟨x, hxq⟩ : ∃ x, ws[q]? = some x := ⟨_, List.getElem?_eq_getElem hqm⟩
        have cx : wr.cell? ⟨g, q, none⟩ = some (.int .u64 (x : Int)) := by rw [h2.cell]; exact wordsV_get hxq
        have cf := h2.free q
        have c0 := h1.cell 0
        simp only [List.getElem?_cons_zero] at c0
        have hxb := h3 x (List.mem_of_getElem? hxq)
        obtain ⟨Z, hZ⟩ : ∃ Z, Z = x ||| 2 ^ r := ⟨_, rfl⟩
        have hr64 : r < 64 := by omega
        obtain ⟨T, hT⟩ : ∃ T, T = 2 ^ r := ⟨_, rfl⟩
        have hTb : T < 2 ^ 64 := by rw [hT]; exact Nat.pow_lt_pow_right (by decide) hr64
        have hor : bits .or .u64 (x : Int) (T : Int) = (Z : Int) := by rw [hZ, ← hT]; exact u64_or_nat x T (by omega) (by omega)
        have hZb : Z < 2 ^ 64 := by rw [hZ, ← hT]; exact Nat.or_lt_two_pow hxb hTb
        have hdiv : (k : Int).tdiv 64 = (q : Int) := by rw [Int.tdiv_eq_ediv_of_nonneg (by omega)]; omega
        have hmod : (k : Int).tmod 64 = (r : Int) := by rw [Int.tmod_eq_emod_of_nonneg (by omega)]; omega
        have hwq : IntKind.i64.wrap (q : Int) = (q : Int) := by rw [IntKind.wrap_i64]; omega
        have hwr : IntKind.i64.wrap (r : Int) = (r : Int) := by rw [IntKind.wrap_i64]; omega
        have hsh : IntKind.u64.wrap (1 * 2 ^ min r 64) = (T : Int) := by
          have e : (1 : Int) * 2 ^ min r 64 = ((2 ^ r : Nat) : Int) := by rw [show min r 64 = r from by omega]; simp
          rw [e, ← hT, u64_wrap_nat, Nat.mod_eq_of_lt hTb]
        have hsh' : IntKind.u64.wrap (2 ^ min r 64) = (T : Int) := by rw [Int.one_mul] at hsh; exact hsh
        have hsh2 : IntKind.u64.wrap (2 ^ r) = (T : Int) := by rw [show min r 64 = r from by omega] at hsh'; exact hsh'
        have HV2 := Lib.hid (show VecM (wr.setCell ⟨g, q, none⟩ (.int .u64 (Z : Int))) S p (ofL bs (k + 1)) false by
          rw [ofL_succ hb, hq]
          exact vec_put h1 h2 h3 h4 h5 h6 h7 hSS (by rw [hL]; exact hlt) (by rw [← hq]; exact hxq) (by rw [hZ, hr]; exact or_put h3 h5 (by rw [← hq]; exact hxq)))
        have HK2 := Lib.hid (show Kp [] w (wr.setCell ⟨g, q, none⟩ (.int .u64 (Z : Int))) from HK.out.trans' ((Kp.refl [g] wr).setCell (p := ⟨g, q, none⟩) (.inl (by simp)) _) (by
          intro z hz
          simp only [List.mem_singleton] at hz
          subst hz
          exact .inr (HS.out z (by rw [hSS]; simp))))
        obtain ⟨m, hm⟩ : ∃ m, m = ws.length := ⟨_, rfl⟩
        rw [← hm] at c0 hqm
        have hqi : (q : Int) < (m : Int) := by omega
        clear hb HV HK HSUB h1 h2 h3 h4 h5 h6 h7 hSS hL hq hr hxq hxb hZ hT hTb hm
        go_wp2_with fail
        go_region
        go_wp2_with fail
        exact ⟨⟨k + 1, by go_num, by omega, Lib.hid (HV2.out.kp0 ((Kp.refl [] _).drew)), Lib.hid (HK2.out.drew)⟩, by simp [intOf]; omega⟩
    · obtain rfl : n = k := by omega
      have HV2 := Lib.hid (show VecM wr S p bs false by
        have e := ofL_all bs
        rw [HN.out] at e
        rw [← e]; exact HV.out)
      go_wp2_with fail
      go_ret2
      exact ⟨S, p, rfl, HV2.out, HS.out, HK.out⟩
end Go.Proofs.Ytldmabkilgpgcaa
