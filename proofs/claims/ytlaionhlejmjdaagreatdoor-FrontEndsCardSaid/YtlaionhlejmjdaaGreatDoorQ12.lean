/-
  THE CONTRACTS OF LAYER 5, fourth part: the lengths of a row.
  CONDITIONS: as each says.
-/
import Derived.Test.YtlaionhlejmjdaaGreatDoorQ11
import Derived.Test.YtlaionhlejmjdaaGreatDoorQ00
namespace Go.Proofs.YtlaionhlejmjdaaGreatDoor
open Go.RowKit

set_option maxRecDepth 100000 in
set_option maxHeartbeats 1000000 in
theorem lengths_any (g G n cs : Nat) (R : Nat → Nat) (D : Nat → Nat → Nat × Nat) (As : Option Addr) (l : List Int) (hn : n ≤ 257) : ∀ (m i j deep : Nat) (w : World), j - i = m → i ≤ j → j < n → deep + m ≤ 1000 → Tab w g G n R D As cs l →
    (∀ a b, a ≤ b → b < n → D a b = cellW (wt l) a b) →
    Calls Tryz.prog 67 #[.pointer (some ⟨g, 0, none⟩), .int .i64 i, .int .i64 j, .int .i64 deep] w fun e w' => ∃ A c, e = .returned (.slice A (j - i + 1) c) ∧ w'.ownsRow w.heap.size 3 1 (.slice A (j - i + 1) c) (j - i + 1) ((lens (wt l) i j deep).map (.int .i64)) ∧ Kp [] w w' := by
  obtain ⟨i0, hi, hz0, hz1, hz2⟩ := info_parts Tryz.info_int
  intro m
  induction m using Nat.strongRecOn with
  | ind m ih =>
    intro i j deep w hm hij hj hdp ht hD
    have IH := Lib.hid ih; clear ih
    have HT := Lib.hid ht; clear ht
    have HD := Lib.hid hD; clear hD
    have HM := Lib.hid hm; clear hm
    rcases Nat.eq_or_lt_of_le hij with hij | hlt
    · subst hij
      go_enter Tryz.func67, Tryz.ntmps67
      go_wp2_with fail
      go_ret
      refine ⟨some ⟨w.heap.size, 0, none⟩, 1, by rw [Nat.sub_self]; rfl, ?_, (Kp.refl [] w).alloc _⟩
      rw [lens_self, Nat.sub_self]
      exact own_of_blk (xs := [.int .i64 (deep : Int)]) (rest := []) (Blk.new w 3 [.int .i64 (deep : Int)]) (Nat.le_refl _) (Nat.le_refl _) (by unfold maxLen; omega) rfl rfl
    · obtain ⟨c1, c2, c3, c4⟩ := HT.out.at_ (i := i) (j := j) (by omega) (by omega)
      rw [HD.out i j (by omega) hj] at c4
      have hKb := K_bound (wt l) hlt
      have e : (cellW (wt l) i j).2 = K (wt l) i j := by
        show (if i = j then i + 1 else K (wt l) i j) = _
        rw [if_neg (by omega)]
      rw [e] at c4
      clear e c3
      obtain ⟨k, hk⟩ : ∃ k, k = K (wt l) i j := ⟨_, rfl⟩
      rw [← hk] at c4 hKb
      obtain ⟨k1, hk1⟩ : ∃ k1, k = k1 + 1 := ⟨k - 1, by omega⟩
      have hwk : IntKind.i64.wrap ((k : Int) - 1) = (k1 : Int) := by rw [IntKind.wrap_i64]; omega
      have hwd : IntKind.i64.wrap ((deep : Int) + 1) = ((deep + 1 : Nat) : Int) := by rw [IntKind.wrap_i64]; omega
      have hin : i < n := by omega
      have hne : ((i : Int) == (j : Int)) = false := by simp; omega
      have HKC := Lib.hid (show lens (wt l) i j deep = lens (wt l) i k1 (deep + 1) ++ lens (wt l) k j (deep + 1) by rw [lens_cut _ _ hlt, ← hk, hk1]; rfl)
      have HK1 := Lib.hid hk1; clear hk1 hk
      go_enter Tryz.func67, Tryz.ntmps67
      go_wp2_with fail
      refine (IH.out (k1 - i) (by have := HM.out; have := HK1.out; omega) i k1 (deep + 1) w rfl (by have := HK1.out; omega) (by have := HK1.out; omega) (by have := HM.out; have := HK1.out; omega) HT.out HD.out).mono ?_
      rintro e w1 ⟨A1, d1, rfl, hown1, hkp1⟩
      have HO1 := Lib.hid hown1; clear hown1
      have HP1 := Lib.hid hkp1; clear hkp1
      go_wp2_with fail
      refine (IH.out (j - k) (by have := HM.out; omega) k j (deep + 1) w1 rfl (by omega) hj (by have := HM.out; omega) (HT.out.kp0 HP1.out) HD.out).mono ?_
      rintro e w2 ⟨A2, d2, rfl, hown2, hkp2⟩
      have HO2 := Lib.hid (own_rd hown2); clear hown2
      have HP2 := Lib.hid hkp2; clear hkp2
      have HO1' := Lib.hid (own_kp0 HO1.out HP2.out)
      obtain ⟨p, hp⟩ : ∃ p, p = k1 - i + 1 := ⟨_, rfl⟩
      obtain ⟨q, hq⟩ : ∃ q, q = j - k + 1 := ⟨_, rfl⟩
      have hpq : j - i + 1 = p + q := by have := HK1.out; omega
      have hlq : (lens (wt l) k j (deep + 1)).length = q := by rw [lens_len _ _ _ _ _ rfl (by omega), hq]
      rw [← hp] at HO1'
      rw [← hp, ← hq]
      have hpb : p + q ≤ 1000 := by have := HM.out; omega
      have HPQ := Lib.hid hpq
      clear hp hpq
      have HLQ := Lib.hid hlq; clear hlq hq
      go_wp2_with (at_builtin; go_loud (refine wpList_append_rd rfl (.tmp 32) (.tmp 38) 51 rfl w.heap.size 3 i0 (.int .i64 0) 1 8 Tryz.underlying51 hi hz0 hz1 hz2 rfl (by decide) _ p _ rfl HO1'.out _ _ q _ _ rfl (by rw [List.length_map, HLQ.out, Nat.mul_one]) HO2.out (oc_ints _ _) (by unfold maxLen; omega) (by omega) (Nat.le_trans HP1.out.size HP2.out.size) ?_); intro v2 w3 hown3 hgrow3 hat3)
      obtain ⟨A3, c3, rfl, _⟩ := own_form hown3
      go_ret
      rw [HPQ.out, HKC.out]
      refine ⟨A3, c3, rfl, ?_, (HP1.out.trans HP2.out).grown hgrow3 (fun g hg => .inr (own_ge HO1'.out hg).1)⟩
      rw [List.map_append]
      exact hown3
end Go.Proofs.YtlaionhlejmjdaaGreatDoor
