/-
  THE CONTRACTS OF THE LIBRARY'S slices.Clone, Equal, Grow (of the nil slice), Concat, at rows of bytes.
  CONDITIONS: at most 10^9 elements in all.
-/
import Derived.Test.YtlaionhlejmjdaaGreatDoorQ07
import Derived.Lib.AppendZerosOnto
import Derived.Lib.SliceRun
import Derived.Lib.Walk
namespace Go.Proofs.YtlaionhlejmjdaaGreatDoor
open Go.RowKit


set_option maxHeartbeats 400000 in
theorem equalB (A A' : Option Addr) (n m c c' B B' : Nat) (xs ys : List Int) (w : World) (hx : Rd w B A (xs.map (.int .u8))) (hy : Rd w B' A' (ys.map (.int .u8))) (hn : xs.length = n) (hm : ys.length = m) (hb : n ≤ 1000000000) (hb' : m ≤ 1000000000) :
    Calls Tryz.prog 51 #[.slice A n c, .slice A' m c'] w fun e w' => e = .returned (.bool (decide (xs = ys))) ∧ Dr w w' := by
  have HN := Lib.hid hn; clear hn
  have HM := Lib.hid hm; clear hm
  have HX := Lib.hid hx; clear hx
  have HY := Lib.hid hy; clear hy
  by_cases hnm : n = m
  · subst hnm
    go_enter Tryz.func51, Tryz.ntmps51
    go_wp2
    go_loopw [13] (fun i wr => ∃ k : Nat, k ≤ n ∧ i = .int .i64 k ∧ Hid (xs.take k = ys.take k) ∧ Dr w wr) (fun i _ => n - (intOf i).toNat)
    case atStart => exact ⟨0, by omega, rfl, Lib.hid (by simp), Dr.refl w⟩
    case round =>
      obtain ⟨k, hk, rfl, hpre, hd⟩ := hrel
      by_cases hlt : k < n
      · obtain ⟨x, ad, hxk, rfl, _, hcx⟩ := (HX.out.kp0 (hd.kp [])).ix (i := k) (by have := HN.out; omega)
        obtain ⟨y, bd, hyk, rfl, _, hcy⟩ := (HY.out.kp0 (hd.kp [])).ix (i := k) (by have := HM.out; omega)
        have hp1 := take_succ_of hxk
        have hp2 := take_succ_of hyk
        have HP1 := Lib.hid hp1; clear hp1
        have HP2 := Lib.hid hp2; clear hp2
        have HXK := Lib.hid hxk; clear hxk
        have HYK := Lib.hid hyk; clear hyk
        by_cases hxy : x = y
        · subst hxy
          go_wp2
          go_quiet (fail)
          go_wp2
          go_roundw
          case rel => exact ⟨k + 1, by omega, by go_num, Lib.hid (by rw [HP1.out, HP2.out, hpre.out]), hd.drewN _⟩
          case measure => simp [intOf]; omega
        · have hne : (x != y) = true := by simpa using hxy
          have HXY := Lib.hid hxy; clear hxy
          go_wp2
          go_quiet (fail)
          go_wp2
          go_ret
          refine ⟨?_, hd.drewN _⟩
          have : xs ≠ ys := fun e => HXY.out (by
            have := HXK.out
            rw [e, HYK.out] at this
            exact (Option.some.inj this).symm)
          simp [this]
      · go_wp2
        go_ret
        refine ⟨?_, hd⟩
        have h1 := hpre.out
        rw [List.take_of_length_le (by have := HN.out; omega), List.take_of_length_le (by have := HM.out; omega)] at h1
        simp [h1]
  · have hne : xs ≠ ys := fun e => hnm (by rw [← HN.out, ← HM.out, e])
    have hd1 : ((n : Int) != (m : Int)) = true := by simp; omega
    have HE := Lib.hid hne; clear hne
    have HF := Lib.hid hnm; clear hnm
    go_enter Tryz.func51, Tryz.ntmps51
    go_wp2
    go_ret
    exact ⟨by simp [HE.out], Dr.refl w⟩

end Go.Proofs.YtlaionhlejmjdaaGreatDoor
