/-
  LAYER 1's REFERENCE: the document's vector in memory; Get, Rank, Select, Bytes.
  LAYER 1's REFERENCE: Select, Bytes.
  LAYER 1's REFERENCE: New, Read.
  THE RELATION OF WORLDS ALONG A REGION THAT MAY COUNT A VECTOR.
  CONDITIONS: as each lemma says.
-/
import Derived.Test.YtanacapkfllbnaaGreatDoorQ19
import Derived.Test.YtanacapkfllbnaaGreatDoorQ04
namespace Go.Proofs.YtanacapkfllbnaaGreatDoor
open Go.RowKit

end Go.Proofs.YtanacapkfllbnaaGreatDoor
namespace Go.Proofs.YtanacapkfllbnaaGreatDoor
open Go.RowKit

end Go.Proofs.YtanacapkfllbnaaGreatDoor
namespace Go.Proofs.YtanacapkfllbnaaGreatDoor
open Go.RowKit

theorem Tryz.info_bool_ : (Tryz.prog.info? 4).map (fun i => (i.zero, i.size, i.bytes)) = some (some (.bool false), 1, 1) := by kernel_rfl
end Go.Proofs.YtanacapkfllbnaaGreatDoor
namespace Go.Proofs.YtanacapkfllbnaaGreatDoor
open Go.RowKit

/-- A vector, counted or not, whose blocks are those it had or new. -/
def VecI (S0 : List Nat) (B p : Nat) (bs : List Bool) (w : World) : Prop := ∃ S c, VecM w S p bs c ∧ (c = false → S = S0) ∧ B ≤ w.heap.size ∧ ∀ x ∈ S, x ∈ S0 ∨ B ≤ x
def VecC (S0 : List Nat) (B p : Nat) (bs : List Bool) (w : World) : Prop := ∃ S, VecM w S p bs true ∧ B ≤ w.heap.size ∧ ∀ x ∈ S, x ∈ S0 ∨ B ≤ x
theorem VecI.kp0 {S0 : List Nat} {B p : Nat} {bs : List Bool} {w w' : World} (h : VecI S0 B p bs w) (hk : Kp [] w w') : VecI S0 B p bs w' := by
  obtain ⟨S, c, h1, h2, h3, h4⟩ := h
  exact ⟨S, c, h1.kp0 hk, h2, Nat.le_trans h3 hk.size, h4⟩
theorem VecC.kp0 {S0 : List Nat} {B p : Nat} {bs : List Bool} {w w' : World} (h : VecC S0 B p bs w) (hk : Kp [] w w') : VecC S0 B p bs w' := by
  obtain ⟨S, h1, h3, h4⟩ := h
  exact ⟨S, h1.kp0 hk, Nat.le_trans h3 hk.size, h4⟩
def cntR (S0 : List Nat) (B p : Nat) (bs : List Bool) (w w' : World) : Prop := Kp S0 w w' ∧ (VecI S0 B p bs w → VecI S0 B p bs w') ∧ (VecC S0 B p bs w → VecC S0 B p bs w')
theorem cntR.of_kp {S0 : List Nat} {B p : Nat} {bs : List Bool} {w w' : World} (hk : Kp [] w w') : cntR S0 B p bs w w' := ⟨hk.mono (by simp), fun h => h.kp0 hk, fun h => h.kp0 hk⟩
@[reducible] def cntRel (S0 : List Nat) (B p : Nat) (bs : List Bool) : RG.Rel where
  R := cntR S0 B p bs
  refl w := cntR.of_kp (Kp.refl _ w)
  trans h k := ⟨h.1.trans k.1, fun x => k.2.1 (h.2.1 x), fun x => k.2.2 (h.2.2 x)⟩
  drew w := cntR.of_kp (Kp.refl [] w).drew
/-- Bytes whose block is none of the vector's. -/
def IsRdS (S0 : List Nat) (xs : List Int) (v : Value) (w : World) : Prop := ∃ A c, v = .slice A xs.length c ∧ xs.length ≤ c ∧ Rd w w.heap.size A (xs.map (.int .u8)) ∧ ∀ ad, A = some ad → ad.block ∉ S0
theorem IsRdS.kp {S0 : List Nat} {xs : List Int} {v : Value} {w w' : World} (h : IsRdS S0 xs v w) (hk : Kp S0 w w') : IsRdS S0 xs v w' := by
  obtain ⟨A, c, h1, h2, h3, h4⟩ := h
  exact ⟨A, c, h1, h2, (h3.kp_ne hk h4).here, h4⟩
theorem IsRdS.len {S0 : List Nat} {xs : List Int} {v : Value} {w : World} (h : IsRdS S0 xs v w) {n : Nat} (hn : xs.length = n) : ∃ A c, v = .slice A n c ∧ n ≤ c ∧ Rd w w.heap.size A (xs.map (.int .u8)) ∧ ∀ ad, A = some ad → ad.block ∉ S0 := by
  subst hn; exact h
@[reducible] def rdS (S0 : List Nat) (B p : Nat) (bs : List Bool) (xs : List Int) : @RG.GFact (cntRel S0 B p bs) := @RG.GFact.mk (cntRel S0 B p bs) (IsRdS S0 xs) (fun _ _ _ h (hk : cntR S0 B p bs _ _) => h.kp hk.1)
@[reducible] def cntF (S0 : List Nat) (B p : Nat) (bs : List Bool) (u : Value) : @RG.GFact (cntRel S0 B p bs) := @RG.GFact.mk (cntRel S0 B p bs) (fun v w => v = u ∧ VecC S0 B p bs w) (fun _ _ _ h (hk : cntR S0 B p bs _ _) => ⟨h.1, hk.2.2 h.2⟩)
end Go.Proofs.YtanacapkfllbnaaGreatDoor
