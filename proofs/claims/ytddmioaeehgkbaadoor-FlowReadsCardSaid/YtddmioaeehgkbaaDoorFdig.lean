/-
  LAYER 3: width, digits.
  CONDITIONS: as each says.
-/
import Derived.Test.YtddmioaeehgkbaaDoorFwr
import Derived.Test.YtddmioaeehgkbaaDoorLen
import Derived.Laws.BitsLemmas
namespace Go.Proofs.YtddmioaeehgkbaaDoor
open Go.RowKit

theorem i64_and1 (y : Nat) (h : y < 2 ^ 63) : bits .and .i64 (y : Int) 1 = ((y % 2 : Nat) : Int) := by
  have := (bits_nat .i64 63 (by decide) (fun n h0 h1 => by rw [IntKind.wrap_i64]; omega) y 1 h (by decide)).1
  rw [Nat.and_one_is_mod] at this
  exact this
theorem shr_bit (x k : Nat) (hx : x ≤ 9223372036854775807) : (bits .and .i64 ((x : Int) / 2 ^ min k 64) 1 == 1) = (x / 2 ^ k % 2 == 1) := by
  have e : (x : Int) / 2 ^ min k 64 = ((x / 2 ^ k : Nat) : Int) := by
    by_cases hk : k ≤ 64
    · rw [Nat.min_eq_left hk]; simp
    · rw [Nat.min_eq_right (by omega)]
      have h1 : x / 2 ^ k = 0 := Nat.div_eq_of_lt (Nat.lt_of_lt_of_le (show x < 2 ^ 64 by omega) (Nat.pow_le_pow_right (by omega) (by omega)))
      rw [h1]
      omega
  have hb : x / 2 ^ k < 2 ^ 63 := Nat.lt_of_le_of_lt (Nat.div_le_self _ _) (by omega)
  rw [e, i64_and1 _ hb]
  rcases (show x / 2 ^ k % 2 = 0 ∨ x / 2 ^ k % 2 = 1 by omega) with h | h <;> rw [h] <;> rfl
theorem fwidth_any (n : Nat) (w : World) (hn : n ≤ 9223372036854775807) : Calls Tryd.prog 53 #[.int .i64 (n : Int)] w fun e w' => e = .returned (.int .i64 ((bl n : Nat) : Int)) ∧ w = w' := by
  obtain ⟨b, hb⟩ : ∃ b, b = bl n := ⟨_, rfl⟩
  rw [← hb]
  have HB := Lib.hid hb; clear hb
  go_enter Tryd.func53, Tryd.ntmps53
  go_wp2_with fail
  have hl := Tryd.bits_Len (n : Int) w (by omega) (by omega)
  rw [Int.toNat_natCast, show Lib.bitLen n = b from HB.out.symm] at hl
  refine hl.mono ?_
  clear hl
  rintro e w1 ⟨rfl, rfl⟩
  go_wp2_with fail
  go_ret
  exact ⟨rfl, rfl⟩
theorem app_facts {w w2 : World} {o : Obj} {v v' : Value} (hg : (w.alloc o).grownBy w2 v.ownBlock) (hat : v'.ownBlock = v.ownBlock ∨ v'.ownBlock = some (w.alloc o).heap.size) : Kp (ownL v) w w2 ∧ ∀ x ∈ ownL v', x ∈ ownL v ∨ w.heap.size ≤ x := by
  refine ⟨((Kp.refl _ w).alloc o).grown hg (fun b hb => .inl (mem_ownL.2 hb)), fun x hx => ?_⟩
  rw [mem_ownL] at hx
  rcases hat with h | h
  · exact .inl (mem_ownL.2 (by rw [← h]; exact hx))
  · rw [h] at hx
    injection hx with hx
    rw [← hx]
    exact .inr (by simp)
set_option maxRecDepth 100000 in
set_option maxHeartbeats 4000000 in
theorem fdigits_any (base : Nat) (A : Option Addr) (c n m x : Nat) (l : List Bool) (w : World) (ho : w.ownsRow base 4 1 (.slice A n c) n (l.map .bool)) (hb : base ≤ w.heap.size) (hm : m ≤ 200) (hn : n ≤ 1000000000) (hx : x ≤ 9223372036854775807) :
    Calls Tryd.prog 56 #[.slice A n c, .int .i64 (m : Int), .int .i64 (x : Int)] w fun e w' => ∃ A' c', e = .returned (.slice A' (n + m) c') ∧ w'.ownsRow base 4 1 (.slice A' (n + m) c') (n + m) ((l ++ digL m x).map .bool) ∧ Kp (ownL (.slice A n c)) w w' ∧ ∀ b ∈ ownL (.slice A' (n + m) c'), b ∈ ownL (.slice A n c) ∨ w.heap.size ≤ b := by
  obtain ⟨i0, hi, hz0, hz1, hz2⟩ := info_parts Tryd.info_bool_
  have HO := Lib.hid ho; clear ho
  have HB := Lib.hid hb; clear hb
  go_enter Tryd.func56, Tryd.ntmps56
  go_wp2_with fail
  go_loopw [0, 7] (fun s y wr => ∃ (j r : Nat) (q : Int) (A' : Option Addr) (c' : Nat), y = .int .i64 q ∧ q + 1 = (r : Int) ∧ j + r = m ∧ s = .slice A' (n + j) c' ∧ Hid (wr.ownsRow base 4 1 (.slice A' (n + j) c') (n + j) ((l ++ (digL m x).take j).map .bool)) ∧ Hid (Kp (ownL (.slice A n c)) w wr) ∧ Hid (∀ b ∈ ownL (.slice A' (n + j) c'), b ∈ ownL (.slice A n c) ∨ w.heap.size ≤ b)) (fun _ y _ => (intOf y + 1).toNat)
  case atStart => exact ⟨0, m, (m : Int) - 1, A, c, rfl, by omega, by omega, rfl, Lib.hid (by simpa using HO.out), Lib.hid (Kp.refl _ _), Lib.hid (fun b hb => .inl hb)⟩
  case round =>
    obtain ⟨j, r, q, A', c', rfl, hq, hjr, rfl, HO1, HK, HA⟩ := hrel
    by_cases hlt : 0 < r
    · obtain ⟨k, rfl⟩ : ∃ k : Nat, q = (k : Int) := ⟨q.toNat, by omega⟩
      obtain rfl : r = k + 1 := by omega
      clear hq
      have hd := digL_get (m := m) (x := x) (j := j) (by omega)
      rw [show m - 1 - j = k by omega] at hd
      have HD := Lib.hid hd; clear hd
      have hjb : j + 1 ≤ 200 := by omega
      have hkb : k ≤ 200 := by omega
      have HJR := Lib.hid hjr; clear hjr
      obtain ⟨b, hb⟩ : ∃ b, b = (x / 2 ^ k % 2 == 1) := ⟨_, rfl⟩
      have hbt : (bits .and .i64 ((x : Int) / 2 ^ min k 64) 1 == 1) = b := by rw [hb]; exact shr_bit x k hx
      have HB2 := Lib.hid hb; clear hb
      have HSZ := Lib.hid (Nat.le_trans HB.out HK.out.size)
      go_wp2_with (at_builtin; go_loud (refine wpList_append_rd rfl (.tmp 14) (.tmp 20) 22 rfl base 4 i0 (.bool false) 1 1 Tryd.underlying22 hi hz0 hz1 hz2 rfl (by decide) (.slice A' (n + j) c') (n + j) _ rfl (own_kp0 HO1.out ((Kp.refl [] _).alloc _)) _ _ 1 1 [.bool b] rfl rfl (Rd.new wr #[.bool b] 4 (0, 0)) (by intro u hu; simp at hu; subst hu; rfl) (by unfold maxLen; omega) (by omega) (by have := HSZ.out; simp; omega) ?_); intro v2 w2 hown2 hgrow2 hat2
                   go_loud (obtain ⟨hka, hga⟩ := app_facts hgrow2 hat2)
                   go_loud (obtain ⟨A2, c2, rfl, _⟩ := own_form hown2)
                   have HO2 := Lib.hid hown2
                   have HK2 := Lib.hid hka
                   have HA2 := Lib.hid hga
                   clear hown2 hgrow2 hat2 hka hga)
      exact ⟨⟨j + 1, k, (k : Int) - 1, A2, c2, rfl, by omega, by have := HJR.out; omega, rfl, Lib.hid (by
        rw [take_succ_of HD.out, ← HB2.out, ← List.append_assoc, List.map_append]
        exact HO2.out), Lib.hid (HK.out.trans' HK2.out (fun x hx => HA.out x hx)), Lib.hid (fun x hx => by
          rcases HA2.out x hx with h | h
          · exact HA.out x h
          · exact .inr (Nat.le_trans HK.out.size h))⟩, by simp [intOf]⟩
    · obtain rfl : r = 0 := by omega
      obtain rfl : q = -1 := by omega
      obtain rfl : m = j := by omega
      have HE := Lib.hid (show (digL m x).take m = digL m x from List.take_of_length_le (by rw [digL_len]; exact Nat.le_refl _))
      clear hq hjr
      go_wp2_with fail
      go_ret
      exact ⟨A', c', rfl, by rw [← HE.out]; exact HO1.out, HK.out, HA.out⟩
end Go.Proofs.YtddmioaeehgkbaaDoor
