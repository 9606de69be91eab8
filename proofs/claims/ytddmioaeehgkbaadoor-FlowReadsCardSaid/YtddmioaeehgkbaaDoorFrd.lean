/-
  LAYER 3: the reader in memory; has, Next, Number, Gamma, At, Err, NewReader.
  CONDITIONS: as each says.
-/
import Derived.Test.YtddmioaeehgkbaaDoorFnum
import Derived.Test.YtddmioaeehgkbaaDoorBq
import Derived.Test.YtddmioaeehgkbaaDoorBset3
import Derived.Deep.RegionHeld3
namespace Go.Proofs.YtddmioaeehgkbaaDoor
open Go.RowKit

theorem getB_nat {bs : List Bool} {k : Nat} {b : Bool} (h : bs[k]? = some b) : getB bs (k : Int) = b := by
  unfold getB
  rw [if_neg (by omega), Int.toNat_natCast, List.getD_eq_getElem?_getD, h]
  rfl
def errB (b : Bool) : Int := if b then 4 else 0
/-- A reader in memory: its vector's place, where it stands, whether it is spoilt. -/
def RdM (w : World) (p q at_ : Nat) (bad : Bool) : Prop := Blk w p 82 [.int .i64 (errB bad), .pointer (some ⟨q, 0, none⟩), .int .i64 (at_ : Int)]
theorem RdM.kp {w w' : World} {p q a : Nat} {bad : Bool} {T : List Nat} (h : RdM w p q a bad) (hk : Kp T w w') (hp : p ∉ T) : RdM w' p q a bad := Blk.kp h hk hp
theorem RdM.kp0 {w w' : World} {p q a : Nat} {bad : Bool} (h : RdM w p q a bad) (hk : Kp [] w w') : RdM w' p q a bad := h.kp hk (by simp)
theorem RdM.cells {w : World} {p q a : Nat} {bad : Bool} (h : RdM w p q a bad) : w.cell? ⟨p, 0, none⟩ = some (.int .i64 (errB bad)) ∧ w.cell? ⟨p, 1, none⟩ = some (.pointer (some ⟨q, 0, none⟩)) ∧ w.cell? ⟨p, 2, none⟩ = some (.int .i64 (a : Int)) :=
  ⟨by rw [Blk.cell h]; rfl, by rw [Blk.cell h]; rfl, by rw [Blk.cell h]; rfl⟩
theorem rthere_any (p q a : Nat) (bad : Bool) (w : World) (h : RdM w p q a bad) : Calls Tryd.prog 48 #[.pointer (some ⟨p, 0, none⟩)] w fun e w' => e = .returned (.bool true) ∧ w = w' := by
  obtain ⟨_, hc1, _⟩ := h.cells
  clear h
  go_enter Tryd.func48, Tryd.ntmps48
  go_wp2_with fail
  go_ret
  exact ⟨rfl, rfl⟩
theorem rat_any (p q a : Nat) (bad : Bool) (w : World) (h : RdM w p q a bad) : Calls Tryd.prog 18 #[.pointer (some ⟨p, 0, none⟩)] w fun e w' => e = .returned (.int .i64 (a : Int)) ∧ w = w' := by
  obtain ⟨_, _, hc2⟩ := h.cells
  have H := Lib.hid h; clear h
  go_enter Tryd.func18, Tryd.ntmps18
  go_wp2_with fail
  refine (rthere_any p q a bad w H.out).mono ?_
  rintro e w1 ⟨rfl, rfl⟩
  go_wp2_with fail
  go_ret
  exact ⟨rfl, rfl⟩
theorem rerr_any (p q a : Nat) (bad : Bool) (w : World) (h : RdM w p q a bad) : Calls Tryd.prog 19 #[.pointer (some ⟨p, 0, none⟩)] w fun e w' => e = .returned (.int .i64 (errB bad)) ∧ w = w' := by
  obtain ⟨hc0, _, _⟩ := h.cells
  have H := Lib.hid h; clear h
  go_enter Tryd.func19, Tryd.ntmps19
  go_wp2_with fail
  refine (rthere_any p q a bad w H.out).mono ?_
  rintro e w1 ⟨rfl, rfl⟩
  go_wp2_with fail
  go_ret
  exact ⟨rfl, rfl⟩
/-- Is so much there? -/
def hasB (N a : Nat) (bad : Bool) (m : Int) : Bool := bad || decide (m < 0 ∨ 60 < m ∨ (N : Int) - (a : Int) < m)
set_option maxRecDepth 100000 in
set_option maxHeartbeats 4000000 in
theorem rhas_any (S : List Nat) (p q a N : Nat) (bad : Bool) (m : Int) (bs : List Bool) (c : Bool) (w : World) (h : RdM w p q a bad) (hv : VecM w S q bs c) (hN : bs.length = N) (ha : a ≤ N) :
    Calls Tryd.prog 43 #[.pointer (some ⟨p, 0, none⟩), .int .i64 m] w fun e w' => e = .returned (.bool (!hasB N a bad m)) ∧ RdM w' p q a (hasB N a bad m) ∧ Kp [p] w w' := by
  have hN16 : N ≤ 16777216 := by rw [← hN]; exact hv.tail.2.2.2
  obtain ⟨hc0, hc1, hc2⟩ := h.cells
  have HZ : ∀ b, decide (m < 0 ∨ 60 < m ∨ (N : Int) - (a : Int) < m) = b → hasB N a bad m = (bad || b) := fun b hb => by unfold hasB; rw [hb]
  by_cases h1 : m < 0
  · have hz := HZ true (decide_eq_true (.inl h1))
    rw [Bool.or_true] at hz
    rw [hz]
    have hd1 : decide (m < 0) = true := decide_eq_true h1
    have H := Lib.hid h; clear h
    have HV := Lib.hid hv; clear hv
    have HN := Lib.hid hN; clear hN
    clear hc0 hz HZ
    go_enter Tryd.func43, Tryd.ntmps43
    go_wp2_with fail
    refine (rthere_any p q a _ w H.out).mono ?_
    rintro e w1 ⟨rfl, rfl⟩
    go_wp2_with fail
    go_quiet (fail)
    go_wp2_with fail
    cases bad with
    | false =>
      refine (spoil_new p 82 4 [.pointer (some ⟨q, 0, none⟩), .int .i64 (a : Int)] _ (H.out.kp0 ((Kp.refl [] w).drewN _))).mono ?_
      rintro e w2 ⟨rfl, hb2, hk2⟩
      have HB2 := Lib.hid hb2
      have HK2 := Lib.hid (((Kp.refl [p] w).drewN _).trans hk2)
      clear hb2 hk2
      go_wp2_with fail
      refine (sound_no p _ 4 _ w2 HB2.out (by decide)).mono ?_
      rintro e w3 ⟨rfl, rfl⟩
      go_wp2_with fail
      go_ret
      exact ⟨rfl, HB2.out, HK2.out⟩
    | true =>
      refine (spoil_old p 82 4 4 [.pointer (some ⟨q, 0, none⟩), .int .i64 (a : Int)] _ (H.out.kp0 ((Kp.refl [] w).drewN _)) (by decide)).mono ?_
      rintro e w2 ⟨rfl, rfl⟩
      go_wp2_with fail
      refine (sound_no p 82 4 [.pointer (some ⟨q, 0, none⟩), .int .i64 (a : Int)] _ (H.out.kp0 ((Kp.refl [] w).drewN _)) (by decide)).mono ?_
      rintro e w3 ⟨rfl, rfl⟩
      go_wp2_with fail
      go_ret
      exact ⟨rfl, H.out.kp0 ((Kp.refl [] w).drewN _), (Kp.refl [p] w).drewN _⟩
  by_cases h2 : 60 < m
  · have hz := HZ true (decide_eq_true (.inr (.inl h2)))
    rw [Bool.or_true] at hz
    rw [hz]
    have hd1 : decide (m < 0) = false := decide_eq_false h1
    have hd2 : decide (60 < m) = true := decide_eq_true h2
    have H := Lib.hid h; clear h
    have HV := Lib.hid hv; clear hv
    have HN := Lib.hid hN; clear hN
    clear hc0 hz HZ
    go_enter Tryd.func43, Tryd.ntmps43
    go_wp2_with fail
    refine (rthere_any p q a _ w H.out).mono ?_
    rintro e w1 ⟨rfl, rfl⟩
    go_wp2_with fail
    go_quiet (fail)
    go_wp2_with fail
    cases bad with
    | false =>
      refine (spoil_new p 82 4 [.pointer (some ⟨q, 0, none⟩), .int .i64 (a : Int)] _ (H.out.kp0 ((Kp.refl [] w).drewN _))).mono ?_
      rintro e w2 ⟨rfl, hb2, hk2⟩
      have HB2 := Lib.hid hb2
      have HK2 := Lib.hid (((Kp.refl [p] w).drewN _).trans hk2)
      clear hb2 hk2
      go_wp2_with fail
      refine (sound_no p _ 4 _ w2 HB2.out (by decide)).mono ?_
      rintro e w3 ⟨rfl, rfl⟩
      go_wp2_with fail
      go_ret
      exact ⟨rfl, HB2.out, HK2.out⟩
    | true =>
      refine (spoil_old p 82 4 4 [.pointer (some ⟨q, 0, none⟩), .int .i64 (a : Int)] _ (H.out.kp0 ((Kp.refl [] w).drewN _)) (by decide)).mono ?_
      rintro e w2 ⟨rfl, rfl⟩
      go_wp2_with fail
      refine (sound_no p 82 4 [.pointer (some ⟨q, 0, none⟩), .int .i64 (a : Int)] _ (H.out.kp0 ((Kp.refl [] w).drewN _)) (by decide)).mono ?_
      rintro e w3 ⟨rfl, rfl⟩
      go_wp2_with fail
      go_ret
      exact ⟨rfl, H.out.kp0 ((Kp.refl [] w).drewN _), (Kp.refl [p] w).drewN _⟩
  obtain ⟨M, rfl⟩ : ∃ M : Nat, m = (M : Int) := ⟨m.toNat, by omega⟩
  have hd1 : decide ((M : Int) < 0) = false := decide_eq_false h1
  have hd2 : decide (60 < (M : Int)) = false := decide_eq_false h2
  by_cases h3 : (N : Int) - (a : Int) < (M : Int)
  · have hz := HZ true (decide_eq_true (.inr (.inr h3)))
    rw [Bool.or_true] at hz
    rw [hz]
    have hd3 : decide ((N : Int) - (a : Int) < (M : Int)) = true := decide_eq_true h3
    have H := Lib.hid h; clear h
    have HV := Lib.hid hv; clear hv
    have HN := Lib.hid hN; clear hN
    clear hc0 hz HZ
    go_enter Tryd.func43, Tryd.ntmps43
    go_wp2_with fail
    refine (rthere_any p q a _ w H.out).mono ?_
    rintro e w1 ⟨rfl, rfl⟩
    go_wp2_with fail
    go_quiet ((go_at_call 37; exact quiet_eq (vlen_any S q N bs c _ (HV.out.kp0 ((Kp.refl [] w).drewN _)) HN.out)))
    go_wp2_with fail
    cases bad with
    | false =>
      refine (spoil_new p 82 4 [.pointer (some ⟨q, 0, none⟩), .int .i64 (a : Int)] _ (H.out.kp0 ((Kp.refl [] w).drewN _))).mono ?_
      rintro e w2 ⟨rfl, hb2, hk2⟩
      have HB2 := Lib.hid hb2
      have HK2 := Lib.hid (((Kp.refl [p] w).drewN _).trans hk2)
      clear hb2 hk2
      go_wp2_with fail
      refine (sound_no p _ 4 _ w2 HB2.out (by decide)).mono ?_
      rintro e w3 ⟨rfl, rfl⟩
      go_wp2_with fail
      go_ret
      exact ⟨rfl, HB2.out, HK2.out⟩
    | true =>
      refine (spoil_old p 82 4 4 [.pointer (some ⟨q, 0, none⟩), .int .i64 (a : Int)] _ (H.out.kp0 ((Kp.refl [] w).drewN _)) (by decide)).mono ?_
      rintro e w2 ⟨rfl, rfl⟩
      go_wp2_with fail
      refine (sound_no p 82 4 [.pointer (some ⟨q, 0, none⟩), .int .i64 (a : Int)] _ (H.out.kp0 ((Kp.refl [] w).drewN _)) (by decide)).mono ?_
      rintro e w3 ⟨rfl, rfl⟩
      go_wp2_with fail
      go_ret
      exact ⟨rfl, H.out.kp0 ((Kp.refl [] w).drewN _), (Kp.refl [p] w).drewN _⟩
  · have hz := HZ false (decide_eq_false (by omega))
    rw [Bool.or_false] at hz
    rw [hz]
    have hd3 : decide ((N : Int) - (a : Int) < (M : Int)) = false := decide_eq_false h3
    have H := Lib.hid h; clear h
    have HV := Lib.hid hv; clear hv
    have HN := Lib.hid hN; clear hN
    clear hc0 hz HZ
    go_enter Tryd.func43, Tryd.ntmps43
    go_wp2_with fail
    refine (rthere_any p q a _ w H.out).mono ?_
    rintro e w1 ⟨rfl, rfl⟩
    go_wp2_with fail
    go_quiet ((go_at_call 37; exact quiet_eq (vlen_any S q N bs c _ (HV.out.kp0 ((Kp.refl [] w).drewN _)) HN.out)))
    go_wp2_with fail
    cases bad with
    | false =>
      refine (sound_ok p 82 [.pointer (some ⟨q, 0, none⟩), .int .i64 (a : Int)] _ (H.out.kp0 ((Kp.refl [] w).drewN _))).mono ?_
      rintro e w3 ⟨rfl, rfl⟩
      go_wp2_with fail
      go_ret
      exact ⟨rfl, H.out.kp0 ((Kp.refl [] w).drewN _), (Kp.refl [p] w).drewN _⟩
    | true =>
      refine (sound_no p 82 4 [.pointer (some ⟨q, 0, none⟩), .int .i64 (a : Int)] _ (H.out.kp0 ((Kp.refl [] w).drewN _)) (by decide)).mono ?_
      rintro e w3 ⟨rfl, rfl⟩
      go_wp2_with fail
      go_ret
      exact ⟨rfl, H.out.kp0 ((Kp.refl [] w).drewN _), (Kp.refl [p] w).drewN _⟩
end Go.Proofs.YtddmioaeehgkbaaDoor
