/-
  THE CONTRACTS OF LAYER 2's REFERENCE, second part: Of, At.
  CONDITIONS: numbers of 64 bits; rows of at most 10^9 numbers.
-/
import Derived.Test.YtlkgepojjjcaoaaPrnew
namespace Go.Proofs.Ytlkgepojjjcaoaa
open Go.RowKit

set_option maxRecDepth 100000 in
set_option maxHeartbeats 1000000 in
theorem rof_any (A : Option Addr) (n c B : Nat) (l : List Int) (w : World) (hx : Rd w B A (l.map (.int .i64))) (hn : l.length = n) (hb : n ≤ 1000000000) (hs : Small l) :
    Calls Try.prog 17 #[.slice A n c] w fun e w' => Kp [] w w' ∧ ((ofE l ≠ 0 ∧ e = .returned (.tuple #[.pointer none, .int .i64 (ofE l)])) ∨
      (ofE l = 0 ∧ ∃ p, e = .returned (.tuple #[.pointer (some ⟨p, 0, none⟩), .int .i64 0]) ∧ RowR w' w.heap.size p (wideF 1 l) l)) := by
  have HX := Lib.hid hx; clear hx
  have HN := Lib.hid hn; clear hn
  have HS := Lib.hid hs; clear hs
  go_enter Try.func17, Try.ntmps17
  go_wp2_with fail
  refine (rwidth_any A n c B l w HX.out HN.out hb HS.out).mono ?_
  rintro e w1 ⟨rfl, rfl⟩
  by_cases hok : okN l
  · rw [wideL_ok hok, wideE_ok hok]
    have HE := Lib.hid (show ofE l = newE (wideF 1 l) l by unfold ofE; rw [if_pos hok])
    clear hok
    obtain ⟨W, hW⟩ : ∃ W, W = wideF 1 l := ⟨_, rfl⟩
    rw [← hW] at HE ⊢
    have HW := Lib.hid hW; clear hW
    go_wp2_with fail
    refine (rnew_any W A n c B l w HX.out HN.out hb HS.out).mono ?_
    rintro e w2 ⟨hk2, ⟨hne, rfl⟩ | ⟨hz, p, rfl, hrow⟩⟩
    · go_wp2_with fail
      go_ret2
      exact ⟨hk2, .inl ⟨by rw [HE.out]; exact hne, by rw [HE.out]; rfl⟩⟩
    · have HROW := Lib.hid hrow; clear hrow
      go_wp2_with fail
      go_ret2
      exact ⟨hk2, .inr ⟨by rw [HE.out]; exact hz, p, rfl, by rw [← HW.out]; exact HROW.out⟩⟩
  · rw [wideL_no hok, wideE_no hok]
    have HE := Lib.hid (show ofE l = 2 by unfold ofE; rw [if_neg hok])
    clear hok
    go_wp2_with fail
    go_ret2
    exact ⟨Kp.refl [] w, .inl ⟨by rw [HE.out]; decide, by rw [HE.out]; rfl⟩⟩
end Go.Proofs.Ytlkgepojjjcaoaa
