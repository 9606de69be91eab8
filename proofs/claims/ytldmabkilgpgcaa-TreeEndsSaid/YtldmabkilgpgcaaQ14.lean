/-
  bytes.Equal, of two rows of bytes.
  LAYER 15 (tree): Read.
  LAYER 15 (tree), plain: a tree's bytes are read to the same.
  CONDITIONS: as each lemma says.
-/
import Derived.Test.YtldmabkilgpgcaaQ12
import Derived.Test.YtldmabkilgpgcaaQ10
import Derived.Lib.Strings
import Derived.Lib.Bytes
import Derived.Laws.BytesArg
import Derived.Deep.RegionHeld3
namespace Go.Proofs.Ytldmabkilgpgcaa
open Go.RowKit

theorem conv_rd {P : Program} (w : World) (src e : TypeId) (hs : P.underlying src = some (.slice e)) (he : P.underlying e = some (.int .u8)) (ad : Addr) (B n c : Nat) (xs : List Int) (hn : xs.length = n) (hx : Rd w B (some ad) (xs.map (.int .u8))) (dst : TypeId) (hd : P.underlying dst = some .string) :
    (convert src dst (.slice (some ad) n c)).run P w = .ok (.string (strOfNums xs)) w := by
  have hl : (loadCells ad n).run P w = .ok (xs.map (Value.int .u8)).toArray w := by
    have := run_loadCells_list (P := P) w ad (xs.map (Value.int .u8)) (fun j v hj => by
      obtain ⟨ad', e', _, hc⟩ := hx j v hj
      injection e' with e'
      subst e'
      exact hc)
    simpa [hn] using this
  rw [run_convert_bytes_string w src dst e _ n c hs he hd, run_bytesToString w _ n c xs hl, foldl_push_bytes]
  simp [strOfNums, ByteArray.empty, ByteArray.emptyWithCapacity]
  rfl
theorem bytes_inj : ∀ {xs ys : List Int}, (∀ x ∈ xs, 0 ≤ x ∧ x < 256) → (∀ x ∈ ys, 0 ≤ x ∧ x < 256) → (Lib.bytesOf xs == Lib.bytesOf ys) = decide (xs = ys)
  | [], [], _, _ => rfl
  | [], y :: ys, _, _ => rfl
  | x :: xs, [], _, _ => rfl
  | x :: xs, y :: ys, h1, h2 => by
    have ih := bytes_inj (fun z hz => h1 z (List.mem_cons_of_mem _ hz)) (fun z hz => h2 z (List.mem_cons_of_mem _ hz))
    obtain ⟨a, b⟩ := h1 x List.mem_cons_self
    obtain ⟨c, d⟩ := h2 y List.mem_cons_self
    unfold Lib.bytesOf at ih ⊢
    rw [List.map_cons, List.map_cons, List.cons_beq_cons, ih]
    by_cases hxy : x = y
    · subst hxy
      simp
    · have hne : (UInt8.ofNat x.toNat == UInt8.ofNat y.toNat) = false := by
        rw [beq_eq_false_iff_ne]
        intro e
        have := congrArg UInt8.toNat e
        simp only [UInt8.toNat_ofNat'] at this
        omega
      rw [hne]
      simp [hxy]
set_option maxRecDepth 100000 in
set_option maxHeartbeats 4000000 in
theorem beq_any (a1 a2 : Addr) (B1 B2 n m c d : Nat) (xs ys : List Int) (w : World) (hx : Rd w B1 (some a1) (xs.map (.int .u8))) (hy : Rd w B2 (some a2) (ys.map (.int .u8))) (hn : xs.length = n) (hm : ys.length = m) (h1 : ∀ x ∈ xs, 0 ≤ x ∧ x < 256) (h2 : ∀ x ∈ ys, 0 ≤ x ∧ x < 256) :
    Calls Try.prog 50 #[.slice (some a1) n c, .slice (some a2) m d] w fun e w' => e = .returned (.bool (decide (xs = ys))) ∧ w = w' := by
  have e1 := conv_rd (P := Try.prog) w 38 5 Try.underlying38 Try.underlying5 a1 B1 n c xs hn hx 9 Try.underlying9
  have e2 := conv_rd (P := Try.prog) w 38 5 Try.underlying38 Try.underlying5 a2 B2 m d ys hm hy 9 Try.underlying9
  have HE := Lib.hid (show ((strOfNums xs).toList == (strOfNums ys).toList) = decide (xs = ys) by rw [Lib.strOfNums_toList, Lib.strOfNums_toList, bytes_inj h1 h2])
  clear hx hy h1 h2
  go_enter Try.func50, Try.ntmps50
  go_wp2_with fail
  go_ret
  exact ⟨by rw [← HE.out]; rfl, rfl⟩
end Go.Proofs.Ytldmabkilgpgcaa
namespace Go.Proofs.Ytldmabkilgpgcaa
open Go.RowKit

theorem or_hi (a b k : Nat) (ha : a * 2 ^ k < 2 ^ 62) (hb : b < 2 ^ k) (hk : k ≤ 62) : bits .or .i64 ((a * 2 ^ k : Nat) : Int) (b : Int) = ((a * 2 ^ k + b : Nat) : Int) := by
  have hb' : b < 2 ^ 62 := Nat.lt_of_lt_of_le hb (Nat.pow_le_pow_right (by omega) hk)
  have := (bits_nat .i64 62 (by decide) (fun n h0 h1 => by rw [IntKind.wrap_i64]; omega) (a * 2 ^ k) b ha hb').2
  rw [this, Nat.mul_comm, ← Nat.two_pow_add_eq_or_of_lt hb]
/-- How many bits four bytes say. -/
def manyB (b1 b2 b3 b4 : Nat) : Nat := b1 * 2 ^ 24 + b2 * 2 ^ 16 + b3 * 2 ^ 8 + b4
theorem many_or (b1 b2 b3 b4 : Nat) (h1 : b1 < 256) (h2 : b2 < 256) (h3 : b3 < 256) (h4 : b4 < 256) :
    bits .or .i64 (bits .or .i64 (bits .or .i64 ((b1 * 2 ^ 24 : Nat) : Int) ((b2 * 2 ^ 16 : Nat) : Int)) ((b3 * 2 ^ 8 : Nat) : Int)) (b4 : Int) = ((manyB b1 b2 b3 b4 : Nat) : Int) := by
  have e1 := or_hi b1 (b2 * 2 ^ 16) 24 (by omega) (by omega) (by omega)
  rw [e1]
  have e2 := or_hi (b1 * 2 ^ 8 + b2) (b3 * 2 ^ 8) 16 (by omega) (by omega) (by omega)
  rw [show b1 * 2 ^ 24 + b2 * 2 ^ 16 = (b1 * 2 ^ 8 + b2) * 2 ^ 16 by omega, e2]
  have e3 := or_hi (b1 * 2 ^ 16 + b2 * 2 ^ 8 + b3) b4 8 (by omega) (by omega) (by omega)
  rw [show (b1 * 2 ^ 8 + b2) * 2 ^ 16 + b3 * 2 ^ 8 = (b1 * 2 ^ 16 + b2 * 2 ^ 8 + b3) * 2 ^ 8 by omega, e3]
  exact congrArg (fun n : Nat => (n : Int)) (by unfold manyB; omega)
theorem shl_min (b : Nat) : IntKind.wrap .i64 ((2 : Int) ^ min b 64) = wrap64 ((2 : Int) ^ b) := by
  rw [IntKind.wrap_i64]
  rcases Nat.le_total b 64 with h | h
  · rw [Nat.min_eq_left h]
    generalize (2 : Int) ^ b = z
    unfold wrap64
    omega
  · rw [Nat.min_eq_right h]
    obtain ⟨j, rfl⟩ : ∃ j, b = 64 + j := ⟨b - 64, by omega⟩
    rw [Int.pow_add]
    generalize (2 : Int) ^ j = z
    unfold wrap64
    omega
theorem hgt_shl (b : Nat) : hgt (wrap64 ((2 : Int) ^ b)) = if 1 ≤ b ∧ b ≤ 17 then b else 0 := by
  by_cases h : 1 ≤ b ∧ b ≤ 17
  · rw [if_pos h, g_pow h.2, hgt_pow h.1 h.2]
  · rw [if_neg h]
    rcases hgt_spec (wrap64 ((2 : Int) ^ b)) with h' | ⟨h1, h2, h3⟩
    · exact h'.1
    · exfalso
      have hp : 2 ^ hgt (wrap64 ((2 : Int) ^ b)) ≤ 2 ^ 17 := Nat.pow_le_pow_right (by omega) h2
      have hp1 : 2 ^ 1 ≤ 2 ^ hgt (wrap64 ((2 : Int) ^ b)) := Nat.pow_le_pow_right (by omega) h1
      generalize 2 ^ hgt (wrap64 ((2 : Int) ^ b)) = P at h3 hp hp1
      rcases Nat.lt_or_ge b 18 with hlt | hge
      · obtain rfl : b = 0 := by omega
        unfold wrap64 at h3
        omega
      · obtain ⟨j, rfl⟩ : ∃ j, b = 18 + j := ⟨b - 18, by omega⟩
        rw [Int.pow_add] at h3
        have : ∃ m : Int, wrap64 ((2 : Int) ^ 18 * 2 ^ j) = 262144 * m := ⟨wrap64 ((2 : Int) ^ 18 * 2 ^ j) / 262144, by unfold wrap64; omega⟩
        obtain ⟨m, hm⟩ := this
        rw [hm] at h3
        omega
/-- What tree stands at the beginning of bytes: its height, the pairs that its bits are of, how many bytes it has; h its first byte, m how many bits it says, rest what stands behind. -/
def readC (h m L : Nat) (b rest : List Nat) : Option (Nat × List (Nat × Nat) × Nat) :=
  if ¬ (1 ≤ h ∧ h ≤ 17) then none else
  if L < 5 + (m + 7) / 8 then none else
  if readE (m : Int) (rest.take ((m + 7) / 8)) ≠ 0 then none else
  match growB h (bitsOf m (packN 8 (rest.take ((m + 7) / 8)))) [(0, 0)] with
  | none => none
  | some C => if treeB h (levL h [C]) = intsN (b.take (5 + (m + 7) / 8)) then some (h, C, 5 + (m + 7) / 8) else none
def readT : List Nat → Option (Nat × List (Nat × Nat) × Nat)
  | b0 :: b1 :: b2 :: b3 :: b4 :: rest => readC b0 (manyB b1 b2 b3 b4) (rest.length + 5) (b0 :: b1 :: b2 :: b3 :: b4 :: rest) rest
  | _ => none
theorem k_bound {k m : Nat} (h : k = (m + 7) / 8) (h2 : m < 4294967296) : k ≤ 536870913 := by omega
theorem treeB_range {h : Nat} {bs : List Bool} (hh : h ≤ 17) : ∀ y ∈ treeB h bs, 0 ≤ y ∧ y < 256 := fun y hy => by
  unfold treeB headB at hy
  rcases List.mem_append.1 hy with h1 | h1
  · simp only [List.mem_cons, List.not_mem_nil, or_false] at h1
    rcases h1 with rfl | rfl | rfl | rfl | rfl <;> omega
  · unfold bytesN at h1
    obtain ⟨i, _, rfl⟩ := List.mem_map.1 h1
    omega
/-- What Read gives. -/
def ReadP (b : List Nat) (w : World) (e : Ending) (w' : World) : Prop := Kp [] w w' ∧ ((readT b = none ∧ e = .returned (.tuple #[.pointer none, .int .i64 0, .int .i64 4])) ∨
  ∃ (h : Nat) (C : List (Nat × Nat)) (n : Nat) (S : List Nat) (p q : Nat), readT b = some (h, C, n) ∧ e = .returned (.tuple #[.pointer (some ⟨p, 0, none⟩), .int .i64 (n : Int), .int .i64 0]) ∧ TreeM w' S p q h (kOf (levL h [C])) (levL h [C]) true ∧ (∀ x ∈ S, w.heap.size ≤ x) ∧ w.heap.size ≤ p ∧ 1 ≤ h ∧ h ≤ 17 ∧ ∀ p ∈ C, p.1 < 2 ^ h ∧ p.2 < 2 ^ h)
set_option maxRecDepth 100000 in
set_option maxHeartbeats 4000000 in
theorem tread_any (A : Option Addr) (L c B : Nat) (b : List Nat) (w : World) (hx : Rd w B A ((intsN b).map (.int .u8))) (hn : b.length = L) (hb : L ≤ 20000) (hc : L ≤ c) (hs : ∀ y ∈ b, y < 256) :
    Calls Try.prog 23 #[.slice A L c] w (ReadP b w) := by
  obtain ⟨R, hR⟩ : ∃ R, R = readT b := ⟨_, rfl⟩
  have HRR := Lib.hid hR.symm
  clear hR
  have HX := Lib.hid hx; clear hx
  have HN := Lib.hid hn; clear hn
  have HS := Lib.hid hs; clear hs
  go_enter Try.func23, Try.ntmps23
  by_cases h5 : L < 5
  · have HR := Lib.hid (show readT b = none by
      have := HN.out
      match b, this with
      | b0 :: b1 :: b2 :: b3 :: b4 :: rest, h => simp at h; omega
      | [_, _, _, _], _ => rfl
      | [_, _, _], _ => rfl
      | [_, _], _ => rfl
      | [_], _ => rfl
      | [], _ => rfl)
    have hd5 : decide ((L : Int) < 5) = true := decide_eq_true (by omega)
    go_wp2_with fail
    go_quiet (fail)
    go_wp2_with fail
    go_ret3
    exact ⟨(Kp.refl [] w).drewN _, .inl ⟨HR.out, rfl⟩⟩
  have hd5 : decide ((L : Int) < 5) = false := decide_eq_false (by omega)
  obtain ⟨b0, b1, b2, b3, b4, rest, rfl⟩ : ∃ b0 b1 b2 b3 b4 rest, b = b0 :: b1 :: b2 :: b3 :: b4 :: rest := by
    have := HN.out
    match b, this with
    | b0 :: b1 :: b2 :: b3 :: b4 :: rest, _ => exact ⟨b0, b1, b2, b3, b4, rest, rfl⟩
    | [_, _, _, _], h => simp at h; omega
    | [_, _, _], h => simp at h; omega
    | [_, _], h => simp at h; omega
    | [_], h => simp at h; omega
    | [], h => simp at h; omega
  obtain ⟨ad, rfl, hadB, hq0⟩ := HX.out 0 (.int .u8 (b0 : Int)) rfl
  have hy0 : b0 < 256 := HS.out b0 (by simp)
  have hsr := hgt_shl b0
  obtain ⟨s, hs⟩ : ∃ s, s = wrap64 ((2 : Int) ^ b0) := ⟨_, rfl⟩
  have hs2 := hs.symm
  have hs4 : IntKind.wrap .i64 ((2 : Int) ^ min b0 64) = s := by rw [hs]; exact shl_min b0
  have hs3 : IntKind.wrap .i64 ((2 : Int) ^ b0) = s := by rw [hs]; generalize (2 : Int) ^ b0 = z; rw [IntKind.wrap_i64]; unfold wrap64; omega
  rw [← hs] at hsr
  have hsb : -9223372036854775808 ≤ s ∧ s ≤ 9223372036854775807 := by rw [hs]; unfold wrap64; omega
  obtain ⟨H, hH⟩ : ∃ H, H = hgt s := ⟨_, rfl⟩
  have HHT := Lib.hid (show ∀ w, Calls Try.prog 34 #[.int .i64 s] w fun e w' => e = .returned (.int .i64 (H : Int)) ∧ w = w' from fun w => by rw [hH]; exact height_any s w hsb.1 hsb.2)
  rw [← hH] at hsr
  clear hs hH hsb
  have hL0 : 0 < L := by omega
  have hL1 : 1 < L := by omega
  have hL2 : 2 < L := by omega
  have hL3 : 3 < L := by omega
  have hL4 : 4 < L := by omega
  have hI1 : (1 : Int) < (L : Int) := by omega
  have hI2 : (2 : Int) < (L : Int) := by omega
  have hI3 : (3 : Int) < (L : Int) := by omega
  have hI4 : (4 : Int) < (L : Int) := by omega
  have hadd : ad.add 0 = ad := by rcases ad with ⟨a1, a2, a3⟩; rfl
  rw [hadd] at hq0
  by_cases hok : 1 ≤ b0 ∧ b0 ≤ 17
  · rw [if_pos hok] at hsr
    rw [hsr] at HHT
    have hz : ((b0 : Int) == 0) = false := by simp; omega
    have hne : ((b0 : Int) != (b0 : Int)) = false := by simp
    obtain ⟨m, hm⟩ : ∃ m, m = manyB b1 b2 b3 b4 := ⟨_, rfl⟩
    have hy1 : b1 < 256 := HS.out b1 (by simp)
    have hy2 : b2 < 256 := HS.out b2 (by simp)
    have hy3 : b3 < 256 := HS.out b3 (by simp)
    have hy4 : b4 < 256 := HS.out b4 (by simp)
    have hmor : bits .or .i64 (bits .or .i64 (bits .or .i64 ((b1 : Int) * 16777216) ((b2 : Int) * 65536)) ((b3 : Int) * 256)) (b4 : Int) = (m : Int) := by
      rw [hm, show (b1 : Int) * 16777216 = ((b1 * 2 ^ 24 : Nat) : Int) by omega, show (b2 : Int) * 65536 = ((b2 * 2 ^ 16 : Nat) : Int) by omega, show (b3 : Int) * 256 = ((b3 * 2 ^ 8 : Nat) : Int) by omega]
      exact many_or b1 b2 b3 b4 hy1 hy2 hy3 hy4
    have hmb : m < 4294967296 := by rw [hm]; unfold manyB; omega
    obtain ⟨k, hk⟩ : ∃ k, k = (m + 7) / 8 := ⟨_, rfl⟩
    have htd : Int.tdiv ((m : Int) + 7) 8 = (k : Int) := by rw [hk]; rfl
    have hkb : k ≤ 536870913 := k_bound hk hmb
    obtain ⟨x, hx⟩ : ∃ x, x = rest.take k := ⟨_, rfl⟩
    have HRT := Lib.hid (show readT (b0 :: b1 :: b2 :: b3 :: b4 :: rest) = if L < 5 + k then none else if readE (m : Int) x ≠ 0 then none else match growB b0 (bitsOf m (packN 8 x)) [(0, 0)] with
        | none => none
        | some C => if treeB b0 (levL b0 [C]) = intsN ((b0 :: b1 :: b2 :: b3 :: b4 :: rest).take (5 + k)) then some (b0, C, 5 + k) else none by
      show readC b0 (manyB b1 b2 b3 b4) (rest.length + 5) (b0 :: b1 :: b2 :: b3 :: b4 :: rest) rest = _
      rw [← hm, show rest.length + 5 = L from HN.out]
      unfold readC
      rw [if_neg (not_not_intro hok), ← hk, ← hx])
    obtain ⟨ad1, e1, _, hq1⟩ := HX.out 1 (.int .u8 (b1 : Int)) rfl
    injection e1 with e1; subst e1
    obtain ⟨ad1, e1, _, hq2⟩ := HX.out 2 (.int .u8 (b2 : Int)) rfl
    injection e1 with e1; subst e1
    obtain ⟨ad1, e1, _, hq3⟩ := HX.out 3 (.int .u8 (b3 : Int)) rfl
    injection e1 with e1; subst e1
    obtain ⟨ad1, e1, _, hq4⟩ := HX.out 4 (.int .u8 (b4 : Int)) rfl
    injection e1 with e1; subst e1
    rw [addr_fld ad (n := 1) (by omega)] at hq1
    rw [addr_fld ad (n := 2) (by omega)] at hq2
    rw [addr_fld ad (n := 3) (by omega)] at hq3
    rw [addr_fld ad (n := 4) (by omega)] at hq4
    have HMM := Lib.hid hm
    have HKM := Lib.hid hk
    have HXX := Lib.hid hx
    have hok' := hok
    clear hm hk hx hsr hok
    go_wp2_with fail
    go_quiet ((go_at_call 34; first | (rw [hs2]; with_reducible exact quiet_eq (HHT.out _)) | (rw [hs4]; with_reducible exact quiet_eq (HHT.out _)) | (rw [hs3]; with_reducible exact quiet_eq (HHT.out _)) | with_reducible exact quiet_eq (HHT.out _)))
    go_wp2_with fail
    go_quiet (fail)
    by_cases hbig : L < 5 + k
    · have HR2 := Lib.hid (show readT (b0 :: b1 :: b2 :: b3 :: b4 :: rest) = none by rw [HRT.out, if_pos hbig])
      have hbig' : (L : Int) < 5 + (k : Int) := by omega
      go_wp2_with fail
      go_ret3
      exact ⟨(Kp.refl [] w).drewN _, .inl ⟨HR2.out, rfl⟩⟩
    have hbig' : ¬ ((L : Int) < 5 + (k : Int)) := by omega
    have HR2 := Lib.hid (show readT (b0 :: b1 :: b2 :: b3 :: b4 :: rest) = if readE (m : Int) x ≠ 0 then none else match growB b0 (bitsOf m (packN 8 x)) [(0, 0)] with
        | none => none
        | some C => if treeB b0 (levL b0 [C]) = intsN ((b0 :: b1 :: b2 :: b3 :: b4 :: rest).take (5 + k)) then some (b0, C, 5 + k) else none by rw [HRT.out, if_neg hbig])
    have hk5 : 5 + k ≤ L := by omega
    have hk5c : 5 + k ≤ c := by omega
    have h5c : 5 ≤ c := by omega
    obtain ⟨z, hz5⟩ : ∃ z, z = 5 + k := ⟨_, rfl⟩
    have HZ := Lib.hid hz5
    have hzI : 5 + (k : Int) = (z : Int) := by omega
    have hzk : z - 5 = k := by omega
    have hzL : z ≤ L := by omega
    have hzc : z ≤ c := by omega
    have hz5' : 5 ≤ z := by omega
    have hzc' : (z : Int) ≤ (c : Int) := by omega
    have hz0 : (0 : Int) ≤ (z : Int) := by omega
    have hz5I : (5 : Int) ≤ (z : Int) := by omega
    have hbig2 : ¬ ((L : Int) < (z : Int)) := by omega
    clear hz5
    by_cases hc5 : c = 5
    · have hk0 : k = 0 := by omega
      have hm0 : m = 0 := by have := HKM.out; omega
      have HR3 := Lib.hid (show readT (b0 :: b1 :: b2 :: b3 :: b4 :: rest) = none by
        rw [HR2.out, hm0, HXX.out, hk0, List.take_zero]
        rw [if_neg (by decide)]
        obtain ⟨a, ha⟩ : ∃ a, b0 = a + 1 := ⟨b0 - 1, by omega⟩
        rw [ha]
        rfl)
      subst hc5
      subst hk0
      subst hm0
      have hL5 : L = 5 := by omega
      clear HR2 HXX HKM HMM hmor hzI htd
      go_wp2_with fail
      refine (vread_any ((0 : Nat) : Int) _ 0 _ B [] _ (Rd.nil _ _ _) rfl (by omega) (by simp)).mono ?_
      rintro e w2 ⟨hk2, hcase⟩
      have hk02 : Kp [] w w2 := ((Kp.refl [] w).drewN _).trans hk2
      have hr0 := hk02.cell hq0 (by simp)
      have HK2 := Lib.hid hk02
      rw [show readE ((0 : Nat) : Int) [] = 0 from rfl] at hcase
      clear hk2 hk02 hq0 hq1 hq2 hq3 hq4
      rcases hcase with ⟨hEn, _⟩ | ⟨_, _, _, _, S, q, rfl, hv, hS⟩
      · exact absurd rfl hEn
      · have HV := Lib.hid hv
        clear hv hS
        go_wp2_with fail
        refine (grown_any S q 0 b0 _ false w2 HV.out rfl (by omega)).mono ?_
        rintro e w3 ⟨hk3, hcase⟩
        have HK3 := Lib.hid (HK2.out.trans hk3)
        obtain ⟨a, ha⟩ : ∃ a, b0 = a + 1 := ⟨b0 - 1, by omega⟩
        have hgn : growB b0 (bitsOf (((0 : Nat) : Int)).toNat (packN 8 [])) [(0, 0)] = none := by rw [ha]; rfl
        clear hk3 hr0 ha
        rcases hcase with ⟨_, rfl⟩ | ⟨C, AC, nC, cC, hg, _⟩
        · go_wp2_with fail
          go_ret3
          exact ⟨HK3.out, .inl ⟨HR3.out, rfl⟩⟩
        · rw [hgn] at hg
          cases hg
    have h5lt : 5 < c := by omega
    have h5I : (5 : Int) < (c : Int) := by omega
    clear HRT hbig
    go_wp2_with fail
    have hbb : (b0 :: b1 :: b2 :: b3 :: b4 :: rest).length = rest.length + 5 := rfl
    have hxl : x.length = k := by
      have := HN.out
      rw [HXX.out, List.length_take]
      rw [hbb] at this
      omega
    have HXR := Lib.hid (show Rd w B (some ⟨ad.block, ad.off + 5, none⟩) ((intsN x).map (.int .u8)) by
      have h1 := (HX.out.drop 5).take k
      rw [addr_fld ad (by omega)] at h1
      have e : (((intsN (b0 :: b1 :: b2 :: b3 :: b4 :: rest)).map (Value.int .u8)).drop 5).take k = (intsN x).map (.int .u8) := by
        rw [HXX.out]
        unfold intsN
        simp [List.map_take]
      rw [e] at h1
      exact h1)
    have HXS := Lib.hid (show ∀ y ∈ x, y < 2 ^ 8 from fun y hy => by
      rw [HXX.out] at hy
      exact HS.out y (by
        have := List.mem_of_mem_take hy
        simp [this]))
    have hm16 : m ≤ 160000 := by have := HKM.out; omega
    have HXL := Lib.hid hxl
    clear hbb hxl
    refine (vread_any (m : Int) (some ⟨ad.block, ad.off + 5, none⟩) k (c - 5) B x _ (HXR.out.kp0 ((Kp.refl [] w).drewN _)) HXL.out (by omega) HXS.out).mono ?_
    rintro e w2 ⟨hk2, hcase⟩
    have hk02 : Kp [] w w2 := ((Kp.refl [] w).drewN _).trans hk2
    have hr0 := hk02.cell hq0 (by simp)
    have HK2 := Lib.hid hk02
    obtain ⟨E, hE⟩ : ∃ E, E = readE (m : Int) x := ⟨_, rfl⟩
    rw [← hE] at hcase HR2
    clear hk2 hk02 hq0 hq1 hq2 hq3 hq4 hE
    rcases hcase with ⟨hEn, rfl⟩ | ⟨hE0, _, _, _, S, q, rfl, hv, hS⟩
    · have hEb : (E != 0) = true := by simpa using hEn
      have HR3 := Lib.hid (show readT (b0 :: b1 :: b2 :: b3 :: b4 :: rest) = none by rw [HR2.out, if_pos hEn])
      clear hEn
      go_wp2_with fail
      go_ret3
      exact ⟨HK2.out, .inl ⟨HR3.out, rfl⟩⟩
    · subst hE0
      obtain ⟨bs, hbs⟩ : ∃ bs, bs = bitsOf m (packN 8 x) := ⟨_, rfl⟩
      rw [Int.toNat_natCast, ← hbs] at hv
      have hbl : bs.length = m := by rw [hbs, bitsOf_len]
      have HR3 := Lib.hid (show readT (b0 :: b1 :: b2 :: b3 :: b4 :: rest) = match growB b0 bs [(0, 0)] with
        | none => none
        | some C => if treeB b0 (levL b0 [C]) = intsN ((b0 :: b1 :: b2 :: b3 :: b4 :: rest).take (5 + k)) then some (b0, C, 5 + k) else none by rw [HR2.out, if_neg (by simp), hbs])
      have HV := Lib.hid hv
      have HBL := Lib.hid hbl
      clear hv hS hbs hbl HR2
      go_wp2_with fail
      refine (grown_any S q m b0 bs false w2 HV.out HBL.out (by omega)).mono ?_
      rintro e w3 ⟨hk3, hcase⟩
      have HK3 := Lib.hid (HK2.out.trans hk3)
      have hr0' := hk3.cell hr0 (by simp)
      clear hk3 hr0
      rcases hcase with ⟨hg, rfl⟩ | ⟨C, AC, nC, cC, hg, hCl, hCn, rfl, hRC, hCB⟩
      · have HR4 := Lib.hid (show readT (b0 :: b1 :: b2 :: b3 :: b4 :: rest) = none by rw [HR3.out, hg])
        clear hg
        go_wp2_with fail
        go_ret3
        exact ⟨HK3.out, .inl ⟨HR4.out, rfl⟩⟩
      · have HR4 := Lib.hid (show readT (b0 :: b1 :: b2 :: b3 :: b4 :: rest) = if treeB b0 (levL b0 [C]) = intsN ((b0 :: b1 :: b2 :: b3 :: b4 :: rest).take (5 + k)) then some (b0, C, 5 + k) else none by rw [HR3.out, hg])
        have HSP := Lib.hid (show s = ((2 ^ b0 : Nat) : Int) by rw [← hs2]; exact g_pow hok'.2)
        have HOF := Lib.hid (tof_ok b0 nC cC _ AC C w3 hok'.1 hok'.2 hRC hCl (by omega) hCB (k_all hok'.1 C).1)
        rw [← HSP.out] at HOF
        have HCB := Lib.hid hCB
        clear hg hRC hCl hCB HR3
        go_wp2_with fail
        refine HOF.out.mono ?_
        rintro e w4 ⟨S4, p4, q4, rfl, ht4, hS4, hp4, hk4⟩
        have HT4 := Lib.hid ht4
        have HS4 := Lib.hid (show (∀ x ∈ S4, w.heap.size ≤ x) ∧ w.heap.size ≤ p4 from ⟨fun x hx => Nat.le_trans HK3.out.size (hS4 x hx), Nat.le_trans HK3.out.size hp4⟩)
        have HK4 := Lib.hid (HK3.out.trans hk4)
        have hr4 := hk4.cell hr0' (by simp)
        clear ht4 hS4 hp4 hk4 HOF hr0'
        obtain ⟨tb, htb⟩ : ∃ tb, tb = treeB b0 (levL b0 [C]) := ⟨_, rfl⟩
        obtain ⟨ib, hib⟩ : ∃ ib, ib = intsN ((b0 :: b1 :: b2 :: b3 :: b4 :: rest).take (5 + k)) := ⟨_, rfl⟩
        have HTB := Lib.hid (show ∀ w', TreeM w' S4 p4 q4 b0 (kOf (levL b0 [C])) (levL b0 [C]) true → Calls Try.prog 16 #[.pointer (some ⟨p4, 0, none⟩)] w' fun e w'' => ∃ A m c, m = tb.length ∧ 0 < m ∧ e = .returned (.slice A m c) ∧ w''.ownsRow w'.heap.size 5 1 (.slice A m c) m (tb.map (.int .u8)) ∧ Kp [] w' w'' from fun w' ht => by
          refine (tbytes_any S4 p4 q4 b0 _ _ w' ht hok'.2).mono ?_
          rintro e w'' ⟨A, m, c, hm, rfl, ho, hk⟩
          have hl : tb.length = m := by have := ho.1; rw [List.length_map, ← htb] at this; omega
          exact ⟨A, m, c, hl.symm, by omega, rfl, by rw [htb]; exact ho, hk⟩)
        have HTR := Lib.hid (show ∀ y ∈ tb, 0 ≤ y ∧ y < 256 by rw [htb]; exact treeB_range hok'.2)
        have HIR := Lib.hid (show ∀ y ∈ ib, 0 ≤ y ∧ y < 256 from fun y hy => by
          rw [hib] at hy
          unfold intsN at hy
          obtain ⟨z, hz, rfl⟩ := List.mem_map.1 hy
          have := HS.out z (List.mem_of_mem_take hz)
          omega)
        have HIL := Lib.hid (show ib.length = 5 + k by
          rw [hib]
          unfold intsN
          rw [List.length_map, List.length_take, HN.out]
          omega)
        have HIX := Lib.hid (show Rd w B (some ad) (ib.map (.int .u8)) by
          have h1 := HX.out.take (5 + k)
          rw [hib]
          unfold intsN at h1 ⊢
          simpa [List.map_take] using h1)
        have HR5 := Lib.hid (show readT (b0 :: b1 :: b2 :: b3 :: b4 :: rest) = if tb = ib then some (b0, C, 5 + k) else none by rw [HR4.out, htb, hib])
        obtain ⟨D, hD⟩ : ∃ D, D = decide (tb = ib) := ⟨_, rfl⟩
        have HD := Lib.hid hD
        clear htb hib HR4 hD
        go_wp2_with fail
        go_region_held3 (fun w' => w'.cell? ad = some (.int .u8 (b0 : Int))) (go_keep)
          (first
           | (go_at_call 16
              refine (HTB.out _ (HT4.out.kp0 (Kp.refl [] w4).drew)).mono ?_
              rintro e w5 ⟨A5, m5, c5, hm5, hm0, rfl, ho5, hk5'⟩
              have hk5w : Kp [] w4 w5 := ((Kp.refl [] w4).drew).trans hk5'
              have hr5 : w5.cell? ad = some (.int .u8 (b0 : Int)) := hk5w.cell hr4 (by simp)
              have HO5 := Lib.hid ho5
              have HM5 := Lib.hid hm5
              have HK5 := Lib.hid (HK4.out.trans hk5w)
              have HT5 := Lib.hid (HT4.out.kp0 hk5w)
              obtain ⟨a5, rfl⟩ : ∃ a5, A5 = some a5 := by
                rcases A5 with _ | a5
                · obtain ⟨_, _, e', _, _, hz, _⟩ := own_form ho5
                  injection e' with e1 e2 e3
                  have := (hz e1.symm).1
                  omega
                · exact ⟨a5, rfl⟩
              clear hk5' hk5w ho5 hm5)
           | (go_at_call 50
              refine (beq_any a5 ad _ B m5 z c5 _ tb ib _ (own_rd HO5.out) (HIX.out.kp0 HK5.out) HM5.out.symm (HIL.out.trans HZ.out.symm) HTR.out HIR.out).mono ?_
              rw [← HD.out]
              rintro e w6 ⟨rfl, rfl⟩))
        cases D with
        | false =>
          have hne' : tb ≠ ib := of_decide_eq_false HD.out.symm
          have HR6 := Lib.hid (show readT (b0 :: b1 :: b2 :: b3 :: b4 :: rest) = none by rw [HR5.out, if_neg hne'])
          clear hne'
          go_wp2_with fail
          go_ret3
          exact ⟨HK5.out, .inl ⟨HR6.out, rfl⟩⟩
        | true =>
          have heq : tb = ib := of_decide_eq_true HD.out.symm
          have HR6 := Lib.hid (show readT (b0 :: b1 :: b2 :: b3 :: b4 :: rest) = some (b0, C, z) by rw [HR5.out, if_pos heq, HZ.out])
          clear heq
          go_wp2_with fail
          go_ret3
          exact ⟨HK5.out, .inr ⟨b0, C, z, S4, p4, q4, HR6.out, rfl, HT5.out, HS4.out.1, HS4.out.2, hok'.1, hok'.2, HCB.out⟩⟩
  · have HR := Lib.hid (show readT (b0 :: b1 :: b2 :: b3 :: b4 :: rest) = none by unfold readT readC; exact if_pos hok)
    rw [if_neg hok] at hsr
    subst hsr
    by_cases hb0 : b0 = 0
    · have hne : ((0 : Int) != (b0 : Int)) = false := by rw [hb0]; rfl
      have hz : ((b0 : Int) == 0) = true := by rw [hb0]; rfl
      clear hb0 hok
      go_wp2_with fail
      go_quiet ((go_at_call 34; first | (rw [hs2]; with_reducible exact quiet_eq (HHT.out _)) | (rw [hs4]; with_reducible exact quiet_eq (HHT.out _)) | (rw [hs3]; with_reducible exact quiet_eq (HHT.out _)) | with_reducible exact quiet_eq (HHT.out _)))
      go_wp2_with fail
      go_ret3
      exact ⟨(Kp.refl [] w).drewN _, .inl ⟨HR.out, rfl⟩⟩
    · have hne : ((0 : Int) != (b0 : Int)) = true := by simp; omega
      go_wp2_with fail
      go_quiet ((go_at_call 34; first | (rw [hs2]; with_reducible exact quiet_eq (HHT.out _)) | (rw [hs4]; with_reducible exact quiet_eq (HHT.out _)) | (rw [hs3]; with_reducible exact quiet_eq (HHT.out _)) | with_reducible exact quiet_eq (HHT.out _)))
      go_wp2_with fail
      go_ret3
      exact ⟨(Kp.refl [] w).drewN _, .inl ⟨HR.out, rfl⟩⟩
end Go.Proofs.Ytldmabkilgpgcaa
namespace Go.Proofs.Ytldmabkilgpgcaa

theorem many_back {N : Nat} (h : N ≤ 16777216) : manyB (N / 16777216 % 256) (N / 65536 % 256) (N / 256 % 256) (N % 256) = N := by
  unfold manyB
  omega
theorem head_nat (h N : Nat) : (headB h N).map Int.toNat = [h, N / 16777216 % 256, N / 65536 % 256, N / 256 % 256, N % 256] := by
  unfold headB
  simp only [List.map_cons, List.map_nil]
  congr 1
theorem same_one {l l' : List (Nat × Nat)} (h : SameS l l') : Tog SameS [l] [l'] := .cons h .nil
/-- A tree's bytes, whatever stands behind them, are read to the same bits. -/
theorem read_back {h : Nat} {l : List (Nat × Nat)} (h1 : 1 ≤ h) (h17 : h ≤ 17) (hl : ∀ p ∈ l, p.1 < 2 ^ h ∧ p.2 < 2 ^ h) (hN : (levL h [l]).length ≤ 16777216) (tail : List Nat) :
    ∃ C, readT ((treeB h (levL h [l])).map Int.toNat ++ tail) = some (h, C, 5 + ((levL h [l]).length + 7) / 8) ∧ SameS C l ∧ levL h [C] = levL h [l] := by
  obtain ⟨C, hg, hs, _, _⟩ := grow_tree h1 hl []
  rw [List.append_nil] at hg
  have hlev : levL h [C] = levL h [l] := lev_same h (same_one hs)
  refine ⟨C, ?_, hs, hlev⟩
  obtain ⟨bs, hbs⟩ : ∃ bs, bs = levL h [l] := ⟨_, rfl⟩
  rw [← hbs] at hN hg hlev ⊢
  obtain ⟨N, hNN⟩ : ∃ N, N = bs.length := ⟨_, rfl⟩
  obtain ⟨X, hX⟩ : ∃ X, X = (bytesN (bitN bs) ((bs.length + 7) / 8)).map Int.toNat := ⟨_, rfl⟩
  have hXl : X.length = (N + 7) / 8 := by rw [hX, List.length_map, bytesN_len, hNN]
  have hT : (treeB h bs).map Int.toNat = h :: N / 16777216 % 256 :: N / 65536 % 256 :: N / 256 % 256 :: N % 256 :: X := by
    unfold treeB
    rw [List.map_append, head_nat, ← hX, hNN]
    rfl
  have hpk : packN 8 X = bitN bs := by
    rw [hX, packN_bytesN]
    refine Nat.mod_eq_of_lt (Nat.lt_of_lt_of_le (bitN_lt bs) (Nat.pow_le_pow_right (by omega) ?_))
    omega
  have hrange : ∀ x ∈ treeB h bs, 0 ≤ x ∧ x ≤ 255 := fun x hx => by have := treeB_range h17 x hx; omega
  have hlen : ((treeB h bs).map Int.toNat).length = 5 + (N + 7) / 8 := by rw [hT]; simp [hXl]; omega
  have htk : intsN (((treeB h bs).map Int.toNat ++ tail).take (5 + (N + 7) / 8)) = treeB h bs := by
    rw [List.take_append_of_le_length (by omega), List.take_of_length_le (by omega), intsN_bytes hrange]
  rw [hT] at htk ⊢
  rw [← hNN]
  rw [← hNN] at hN
  show readC h (manyB (N / 16777216 % 256) (N / 65536 % 256) (N / 256 % 256) (N % 256)) ((X ++ tail).length + 5) _ (X ++ tail) = _
  rw [many_back hN]
  have htX : (X ++ tail).take ((N + 7) / 8) = X := by rw [← hXl, List.take_left]
  unfold readC
  rw [if_neg (not_not_intro ⟨h1, h17⟩), if_neg (by rw [List.length_append]; omega), htX]
  have hlE : lenE (N : Int) = 0 := by unfold lenE; rw [if_neg (by omega), if_neg (by omega)]
  have hE : readE (N : Int) X = 0 := readE_ok hlE hXl (by rw [hpk, hNN]; exact bitN_lt bs)
  rw [hE, if_neg (by simp), hpk]
  have hbo : bitsOf N (bitN bs) = bs := by rw [hNN]; exact bitsOf_bitN bs
  rw [hbo, hg]
  simp only [hlev]
  exact if_pos htk.symm
end Go.Proofs.Ytldmabkilgpgcaa
