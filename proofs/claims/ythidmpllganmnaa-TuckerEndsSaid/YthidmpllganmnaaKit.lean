/-
  THE CONTRACTS OF THE STATEMENTS' OWN KIT (marks; lists with marks behind their ends; what is the same), at bytes and at numbers.
  CONDITIONS: lists of at most 10^9 elements.
-/
import Derived.Test.YthidmpllganmnaaProg
import Derived.Test.YthidmpllganmnaaBase
import Derived.WalkSpells
import Derived.WalkLawsBesides
import Derived.Deep.QuietTactic
import Derived.BigQuiet
import Derived.KernelRfl
namespace Go.Proofs.Ythidmpllganmnaa
open Go.RowKit

/-- The marks, as the code reckons them. -/
def markI (k i : Int) : Int := 1000003 * (k + 7) + i
def marksI (k : Int) (n : Nat) : List Int := (List.range n).map fun (i : Nat) => markI k (i : Int)
theorem marksI_succ (k : Int) (n : Nat) : marksI k (n + 1) = marksI k n ++ [markI k n] := by simp [marksI, List.range_succ]
theorem marksI_len (k : Int) (n : Nat) : (marksI k n).length = n := by simp [marksI]
theorem marksI_get (k : Int) (n i : Nat) (h : i < n) : (marksI k n)[i]? = some (markI k i) := by simp [marksI, h]

/-- The blocks that a slice value of the call's own lies in. -/
def ownL (v : Value) : List Nat := v.ownBlock.toList
theorem ownL_some (g n c o : Nat) : ownL (.slice (some ⟨g, o, none⟩) n c) = [g] := rfl
theorem ownL_none (n c : Nat) : ownL (.slice none n c) = [] := rfl
theorem mem_ownL {v : Value} {g : Nat} : g ∈ ownL v ↔ v.ownBlock = some g := by unfold ownL; cases v.ownBlock <;> simp; exact eq_comm

set_option maxRecDepth 100000 in
set_option maxHeartbeats 400000 in
theorem mark_any (k i : Int) (w : World) (hk : 0 ≤ k) (hk' : k ≤ 10) (hi : 0 ≤ i) (hi' : i ≤ 1000000000000) :
    Calls Try.prog 21 #[.int .i64 k, .int .i64 i] w fun e w' => e = .returned (.int .i64 (markI k i)) ∧ w = w' := by
  go_enter Try.func21, Try.ntmps21
  go_wp2_with fail
  go_ret
  exact ⟨rfl, rfl⟩

def markB (k i : Int) : Int := IntKind.u64.wrap (IntKind.u64.wrap (markI k i) * 11400714819323198485) / 72057594037927936 % 256
def marksB (k : Int) (n : Nat) : List Int := (List.range n).map fun (i : Nat) => markB k (i : Int)
theorem marksB_succ (k : Int) (n : Nat) : marksB k (n + 1) = marksB k n ++ [markB k n] := by simp [marksB, List.range_succ]
theorem marksB_len (k : Int) (n : Nat) : (marksB k n).length = n := by simp [marksB]
theorem marksB_get (k : Int) (n i : Nat) (h : i < n) : (marksB k n)[i]? = some (markB k i) := by simp [marksB, h]
theorem Try.info_u8 : (Try.prog.info? 5).map (fun i => (i.zero, i.size, i.bytes)) = some (some (.int .u8 0), 1, 1) := by kernel_rfl

theorem Try.info_int : (Try.prog.info? 3).map (fun i => (i.zero, i.size, i.bytes)) = some (some (.int .i64 0), 1, 8) := by kernel_rfl

set_option maxRecDepth 100000 in
set_option maxHeartbeats 400000 in
theorem lentI (A : Option Addr) (n c B : Nat) (xs : List Int) (w : World) (hx : Rd w B A (xs.map (.int .i64))) (hn : xs.length = n) (hb : n ≤ 1000000000) :
    Calls Try.prog 9 #[.slice A n c] w fun e w' => e = .returned (.slice (some ⟨w.heap.size, 0, none⟩) n (n + 12)) ∧ Kp [] w w' ∧ Blk w' w.heap.size 3 ((xs ++ marksI 1 12).map (.int .i64)) := by
  obtain ⟨i0, hi, hz0, hz1, hz2⟩ := info_parts Try.info_int
  have HN := Lib.hid hn; clear hn
  have HX := Lib.hid hx; clear hx
  go_enter Try.func9, Try.ntmps9
  go_wp2_with (first | (at_make; refine wpList_make_own _ rfl _ _ 22 rfl w.heap.size 3 i0 (.int .i64 0) 1 Try.underlying22 hi hz0 hz1 .i64 .i64 _ (n + 12) rfl rfl (by simp) (by rw [hz2]; omega) (by unfold maxLen; omega) (Nat.le_refl _) ?_; intro w1 hown1 hgrow1) | (at_builtin; refine wpList_append_fits_rd rfl (.tmp 9) (.tmp 10) 22 rfl w.heap.size 3 i0 1 Try.underlying22 hi hz1 (by omega) w.heap.size 0 (n + 12) [] rfl hown1 B A n c (xs.map (.int .i64)) rfl (by simpa using HN.out) (HX.out.kp0 ((Kp.refl [] w).grown hgrow1 (by simp))) (by simp [Value.oneCell']) (by omega) ?_; intro w2 hown2 hgrow2; simp only [Nat.zero_add, List.nil_append] at hown2))
  go_loopw [3, 4] (fun s i wr => ∃ k : Nat, k ≤ 12 ∧ i = .int .i64 k ∧ s = .slice (some ⟨w.heap.size, 0, none⟩) (n + k) (n + 12) ∧ wr.ownsRow w.heap.size 3 1 s (n + k) ((xs ++ marksI 1 k).map (.int .i64)) ∧ Kp [] w wr) (fun _ i _ => 12 - (intOf i).toNat)
  case atStart => exact ⟨0, by omega, rfl, rfl, by simpa [marksI] using hown2, ((Kp.refl [] w).grown hgrow1 (by simp)).trans' ((Kp.refl [w.heap.size] w1).grown hgrow2 (by simp)) (by simp)⟩
  case round =>
    obtain ⟨k, hk, rfl, rfl, hown, hkp⟩ := hrel
    clear hown1 hown2 hgrow1 hgrow2
    by_cases hlt : k < 12
    · go_wp2_with (first | (go_at_call 21; refine (mark_any 1 (k : Int) _ (by omega) (by omega) (by omega) (by omega)).mono ?_; rintro e w' ⟨rfl, rfl⟩) | (at_builtin; refine wpList_append_fits _ rfl (.tmp 16) (.tmp 19) 22 rfl w.heap.size 3 i0 1 Try.underlying22 hi hz1 w.heap.size (n + k) (n + 12) _ rfl (hown.alloc _) ⟨wr.heap.size, 0, none⟩ 1 1 [.int .i64 (markI 1 k)] rfl rfl (cell_one_new _ _ _) (by simp [Value.oneCell']) (by omega) ?_; intro w3 hown3 hgrow3))
      go_roundw
      case rel => exact ⟨k + 1, by omega, by go_num, rfl, by rw [marksI_succ, ← List.append_assoc, List.map_append]; exact hown3, (hkp.alloc _).grown hgrow3 (by simp)⟩
      case measure => simp [intOf]; omega
    · have hk12 : k = 12 := by omega
      have HK := Lib.hid hk12; clear hk12
      go_wp2
      go_ret
      have h0 := HK.out
      subst h0
      exact ⟨rfl, hkp, own_full hown⟩

set_option maxHeartbeats 1000000 in
theorem keptI (A A' : Option Addr) (n c c' B B' : Nat) (xs : List Int) (w : World) (hy : Rd w B A ((xs ++ marksI 1 12).map (.int .i64))) (hx : Rd w B' A' (xs.map (.int .i64))) (hn : xs.length = n) (hb : n ≤ 1000000000) (hc : n + 12 ≤ c) :
    Calls Try.prog 13 #[.slice A n c, .slice A' n c'] w fun e w' => e = .returned (.bool true) ∧ Dr w w' := by
  have HN := Lib.hid hn; clear hn
  have HX := Lib.hid hx; clear hx
  have HY := Lib.hid hy; clear hy
  go_enter Try.func13, Try.ntmps13
  go_wp2
  go_loopw [6] (fun i wr => ∃ k : Nat, k ≤ n + 12 ∧ i = .int .i64 k ∧ Dr w wr) (fun i _ => n + 12 - (intOf i).toNat)
  case atStart => exact ⟨0, by omega, rfl, Dr.refl w⟩
  case round =>
    obtain ⟨k, hk, rfl, hd⟩ := hrel
    by_cases hlt : k < n + 12
    · obtain ⟨y, ad, hyk, rfl, _, hcy⟩ := (HY.out.kp0 (hd.kp [])).ix (i := k) (by have := HN.out; rw [List.length_append, marksI_len]; omega)
      by_cases hkn : k < n
      · obtain ⟨x, bd, hxk, rfl, _, hcx⟩ := (HX.out.kp0 (hd.kp [])).ix (i := k) (by have := HN.out; omega)
        have he : y = x := by
          rw [List.getElem?_append_left (by have := HN.out; omega), hxk] at hyk
          exact (Option.some.inj hyk).symm
        subst he
        clear hxk hyk
        have hd1 : decide ((k : Int) < (n : Int)) = true := by simp; omega
        have hd2 : decide (n ≤ k) = false := by simp; omega
        go_wp2
        go_quiet (fail)
        go_wp2
        go_roundw
        case rel => exact ⟨k + 1, by omega, by go_num, hd.drewN _⟩
        case measure => simp [intOf]; omega
      · have he : y = markI 1 ((k : Int) - n) := by
          rw [List.getElem?_append_right (by have := HN.out; omega), marksI_get _ _ _ (by have := HN.out; omega)] at hyk
          rw [← Option.some.inj hyk, HN.out]
          congr 1
          omega
        subst he
        clear hyk
        have hd1 : decide ((k : Int) < (n : Int)) = false := by simp; omega
        have hd2 : decide (n ≤ k) = true := by simp; omega
        go_wp2
        go_quiet ((go_at_call 21; exact quiet_eq (mark_any _ _ _ (by omega) (by omega) (by omega) (by omega))))
        go_wp2
        go_roundw
        case rel => exact ⟨k + 1, by omega, by go_num, hd.drewN _⟩
        case measure => simp [intOf]; omega
    · go_wp2
      go_ret
      exact ⟨rfl, hd⟩

set_option maxRecDepth 100000 in
set_option maxHeartbeats 400000 in
theorem sameI (A A' : Option Addr) (n m c c' B B' : Nat) (xs ys : List Int) (w : World) (hx : Rd w B A (xs.map (.int .i64))) (hy : Rd w B' A' (ys.map (.int .i64))) (hn : xs.length = n) (hm : ys.length = m) (hb : n ≤ 1000000000) (hb' : m ≤ 1000000000) :
    Calls Try.prog 12 #[.slice A n c, .slice A' m c'] w fun e w' => e = .returned (.bool (decide (xs = ys))) ∧ Dr w w' := by
  have HN := Lib.hid hn; clear hn
  have HM := Lib.hid hm; clear hm
  have HX := Lib.hid hx; clear hx
  have HY := Lib.hid hy; clear hy
  by_cases hnm : n = m
  · subst hnm
    go_enter Try.func12, Try.ntmps12
    go_wp2
    go_loopw [5] (fun i wr => ∃ k : Nat, k ≤ n ∧ i = .int .i64 k ∧ Hid (xs.take k = ys.take k) ∧ Dr w wr) (fun i _ => n - (intOf i).toNat)
    case atStart => exact ⟨0, by omega, rfl, Lib.hid (by simp), Dr.refl w⟩
    case round =>
      obtain ⟨k, hk, rfl, hpre, hd⟩ := hrel
      by_cases hlt : k < n
      · obtain ⟨x, ad, hxk, rfl, _, hcx⟩ := (HX.out.kp0 (hd.kp [])).ix (i := k) (by have := HN.out; omega)
        obtain ⟨y, bd, hyk, rfl, _, hcy⟩ := (HY.out.kp0 (hd.kp [])).ix (i := k) (by have := HM.out; omega)
        have hp1 := take_succ_of hxk
        have hp2 := take_succ_of hyk
        have HP1 := Lib.hid hp1; clear hp1
        have HP2 := Lib.hid hp2; clear hp2
        have HXK := Lib.hid hxk; clear hxk
        have HYK := Lib.hid hyk; clear hyk
        by_cases hxy : x = y
        · subst hxy
          go_wp2
          go_quiet (fail)
          go_wp2
          go_roundw
          case rel => exact ⟨k + 1, by omega, by go_num, Lib.hid (by rw [HP1.out, HP2.out, hpre.out]), hd.drewN _⟩
          case measure => simp [intOf]; omega
        · have hne : (x != y) = true := by simpa using hxy
          have HXY := Lib.hid hxy; clear hxy
          go_wp2
          go_quiet (fail)
          go_wp2
          go_ret
          refine ⟨?_, hd.drewN _⟩
          have : xs ≠ ys := fun e => HXY.out (by
            have := HXK.out
            rw [e, HYK.out] at this
            exact (Option.some.inj this).symm)
          simp [this]
      · go_wp2
        go_ret
        refine ⟨?_, hd⟩
        have h1 := hpre.out
        rw [List.take_of_length_le (by have := HN.out; omega), List.take_of_length_le (by have := HM.out; omega)] at h1
        simp [h1]
  · have hne : xs ≠ ys := fun e => hnm (by rw [← HN.out, ← HM.out, e])
    have hd1 : ((n : Int) != (m : Int)) = true := by simp; omega
    have HE := Lib.hid hne; clear hne
    have HF := Lib.hid hnm; clear hnm
    go_enter Try.func12, Try.ntmps12
    go_wp2
    go_ret
    exact ⟨by simp [HE.out], Dr.refl w⟩

set_option maxRecDepth 100000 in
set_option maxHeartbeats 400000 in
theorem overI_some (g n c : Nat) (l : List Value) (w : World) (hg : Blk w g 3 l) (hl : l.length = c) (hn : n ≤ c) (hc : c ≤ 9223372036854775807) (hb : n ≤ 1000000000) :
    Calls Try.prog 14 #[.slice (some ⟨g, 0, none⟩) n c] w fun e w' => e = .returned (.tuple #[]) ∧ Kp [g] w w' := by
  have HL := Lib.hid hl; clear hl
  have HG := Lib.hid hg; clear hg
  by_cases hcn : c ≤ n + 12
  · go_enter Try.func14, Try.ntmps14
    go_wp2
    go_loopw [3] (fun i wr => ∃ k : Nat, k ≤ c ∧ i = .int .i64 k ∧ (∃ l' : List Value, Blk wr g 3 l' ∧ l'.length = c) ∧ Kp [g] w wr) (fun i _ => c - (intOf i).toNat)
    case atStart => exact ⟨0, by omega, rfl, ⟨l, HG.out, HL.out⟩, Kp.refl _ w⟩
    case round =>
      obtain ⟨k, hk, rfl, ⟨l', hbk, hll⟩, hkp⟩ := hrel
      by_cases hlt : k < c
      · obtain ⟨u0, _, hcell⟩ := hbk.ix (i := k) (by omega)
        have hfree := hbk.free k
        have HB := Lib.hid hbk; clear hbk
        have HLL := Lib.hid hll; clear hll
        go_wp2_with (first | (go_at_call 21; refine (mark_any 2 (k : Int) _ (by omega) (by omega) (by omega) (by omega)).mono ?_; rintro e w' ⟨rfl, rfl⟩))
        go_roundw
        case rel => exact ⟨k + 1, by omega, by go_num, ⟨_, HB.out.set_ k _, by rw [List.length_set]; exact HLL.out⟩, hkp.setCell (.inl (by simp)) _⟩
        case measure => simp [intOf]; omega
      · clear hbk hll
        go_wp2
        go_end0
        exact ⟨rfl, hkp⟩
  · go_enter Try.func14, Try.ntmps14
    go_wp2
    go_loopw [3] (fun i wr => ∃ k : Nat, k ≤ n + 12 ∧ i = .int .i64 k ∧ (∃ l' : List Value, Blk wr g 3 l' ∧ l'.length = c) ∧ Kp [g] w wr) (fun i _ => n + 12 - (intOf i).toNat)
    case atStart => exact ⟨0, by omega, rfl, ⟨l, HG.out, HL.out⟩, Kp.refl _ w⟩
    case round =>
      obtain ⟨k, hk, rfl, ⟨l', hbk, hll⟩, hkp⟩ := hrel
      by_cases hlt : k < n + 12
      · obtain ⟨u0, _, hcell⟩ := hbk.ix (i := k) (by omega)
        have hfree := hbk.free k
        have HB := Lib.hid hbk; clear hbk
        have HLL := Lib.hid hll; clear hll
        go_wp2_with (first | (go_at_call 21; refine (mark_any 2 (k : Int) _ (by omega) (by omega) (by omega) (by omega)).mono ?_; rintro e w' ⟨rfl, rfl⟩))
        go_roundw
        case rel => exact ⟨k + 1, by omega, by go_num, ⟨_, HB.out.set_ k _, by rw [List.length_set]; exact HLL.out⟩, hkp.setCell (.inl (by simp)) _⟩
        case measure => simp [intOf]; omega
      · clear hbk hll
        go_wp2
        go_end0
        exact ⟨rfl, hkp⟩

set_option maxRecDepth 100000 in
set_option maxHeartbeats 400000 in
theorem overI_none (w : World) :
    Calls Try.prog 14 #[.slice none 0 0] w fun e w' => e = .returned (.tuple #[]) ∧ w = w' := by
  go_enter Try.func14, Try.ntmps14
  go_wp2
  go_loopw [3] (fun i wr => i = .int .i64 0 ∧ w = wr) (fun _ _ => 0)
  case atStart => exact ⟨rfl, rfl⟩
  case round =>
    obtain ⟨rfl, rfl⟩ := hrel
    go_wp2
    go_end0
    exact ⟨rfl, rfl⟩

theorem overI (base n c : Nat) (A : Option Addr) (xs : List Value) (w : World) (h : w.ownsRow base 3 1 (.slice A n c) n xs) (hb : n ≤ 1000000000) :
    Calls Try.prog 14 #[.slice A n c] w fun e w' => e = .returned (.tuple #[]) ∧ Kp (ownL (.slice A n c)) w w' := by
  rcases own_blk h with ⟨hv, rfl, _⟩ | ⟨g, cap, rest, hv, _, hg, hn, hm, hl, hc⟩
  · injection hv with h1 h2 h3
    subst h1 h3
    exact (overI_none w).mono fun e w' ⟨he, hw⟩ => ⟨he, hw ▸ Kp.refl _ _⟩
  · injection hv with h1 h2 h3
    subst h1 h3
    exact overI_some g n c _ w hg (by simpa using hc) hn (by simpa only [maxLen] using hm) hb

end Go.Proofs.Ythidmpllganmnaa
