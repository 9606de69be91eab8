/-
  FrontBack, for every input: the row and its tied card.
  CONDITIONS: none.
-/
import Derived.Test.YtlaionhlejmjdaaDoorQ04
import Derived.Test.YtlaionhlejmjdaaDoorQ20
import Derived.Test.YtlaionhlejmjdaaDoorQ35
import Derived.Test.YtlaionhlejmjdaaDoorRows
import Derived.Test.YtlaionhlejmjdaaDoorCards
import Derived.Test.YtlaionhlejmjdaaDoorTie
import Derived.ChangeOld
import Derived.Below
import Derived.SevenTiedAt
import Derived.Stop.Joined
import Derived.LaidMore
import Derived.Lay
import Derived.ProofKit
import Derived.OpenShut
namespace Go.Proofs.YtlaionhlejmjdaaDoor.frontBack
open Go.ChangeShapes Go.WideShapes Go.ChangeAt Go.RowKit

theorem own : ownKnob Tryd.prog.godebug = none := by kernel_rfl
theorem laidOut : laidOutB Tryd.prog = true := by kernel_rfl

set_option maxRecDepth 100000 in
theorem lifted (os : Os) (started : os.Started) (H : Type) (enc : TypeId × Value → H) :
    ReturnsInHanded {} Tryd.checked os 4 .any (fun w args => (Rows.frontBackSpec.pre enc Tryd.prog Tryd.f4 Rows.frontBackRow.domain false w args ∧ laidMetH Tryd.prog [("math/bits.deBruijn64tab", Rows.laid_math_bits_deBruijn64tab)] w) ∧ sizedMet enc Tryd.prog Tryd.f4 (OpenSpec.ofChange Rows.frontBackSpec) false w args)
      (Rows.frontBackSpec.post enc Tryd.prog Tryd.f4 false true false false) := by
  refine returnsInHanded_of_change_and (C := Tryd.checked) (X := fun w _ => laidMetH Tryd.prog [("math/bits.deBruijn64tab", Rows.laid_math_bits_deBruijn64tab)] w) (fun _ _ _ hh h => h.of_heap hh) own started (by kernel_rfl) Tryd.func4
    (ChangeSpec.witness_shaped (enc := enc) (C := Tryd.checked) (os := os) (X := fun w _ => laidMetH Tryd.prog [("math/bits.deBruijn64tab", Rows.laid_math_bits_deBruijn64tab)] w) false (World.laidAll Tryd.prog os [("math/bits.deBruijn64tab", Rows.laid_math_bits_deBruijn64tab)]) #[.slice none 0 0, .slice none 0 0, .string ⟨#[]⟩] 8 (World.laidAll_os _ _ _)
      (World.shaped_of_ZipB (by kernel_rfl) (by kernel_rfl)) (by kernel_rfl) (by kernel_rfl) (by kernel_rfl)
      (by rw [MakeChecks.laidMetH_plain _ _ _ (by kernel_rfl)]; exact laidMet_laidAll _ (by kernel_rfl) (by kernel_rfl))) ?_
  intro W base args ds gs before hval0 hW _ hsz0 hL _
  have hval : ∀ (j : Nat) t v, Tryd.f4.params[j]? = some t → args[j]? = some v → Value.okWide Tryd.prog W .any base t v := hval0
  have hsz : (DataW.weightsEach Tryd.prog (Tryd.f4.params.toList ++ Rows.frontBackSpec.plain.varTypes Tryd.prog) (ds ++ gs)).all (· ≤ reachBytes) = true := hsz0
  have hW' := hW
  obtain ⟨p, q, hA0, hV, rfl, hfz, hnd⟩ := hW
  have hA : DataW.TrodAll enc Tryd.prog W 0 (fun _ => true) true Tryd.f4.params.toList args.toList ds p := hA0
  rw [Tryd.params4] at hA hval hsz
  obtain ⟨v0, vs0, d0, ds0, p0, q0, hargs, rfl, rfl, h0, r0⟩ := trodAll_cons hA
  obtain ⟨v1, vs1, d1, ds1, p1, q1, rfl, rfl, rfl, h1, r1⟩ := trodAll_cons r0
  obtain ⟨v2, vs2, d2, ds2, p2, q2, rfl, rfl, rfl, h2, r2⟩ := trodAll_cons r1
  obtain ⟨rfl, rfl, rfl⟩ := trodAll_nil r2
  obtain rfl : args = #[v0, v1, v2] := by cases args; simp_all
  obtain ⟨rfl, rfl⟩ := trodVars_none hV
  obtain ⟨l0A, l0n, l0c, rfl⟩ := okWide_slice Tryd.underlying22 (hval 0 22 v0 rfl rfl)
  obtain ⟨l1A, l1n, l1c, rfl⟩ := okWide_slice Tryd.underlying22 (hval 1 22 v1 rfl rfl)
  have k0 := h0
  have lt0 : ∀ x ∈ p0, x.block < W.heap.size := by obtain ⟨m, hm⟩ := k0; exact DataW.trod_lt m _ _ _ hm
  have wt0 : ∀ q ∈ d0.weights Tryd.prog 22, q ≤ reachBytes := fun q hq => by simpa using List.all_eq_true.1 hsz q (DataW.weights_mem_each (j := 0) rfl rfl q hq)
  obtain ⟨l0, l0R, l0N, l0C, l0B, l0W⟩ := open_texts Tryd.underlying22 Tryd.underlying9 (by kernel_rfl) (by kernel_rfl) h0 wt0
  have k1 := h1
  have lt1 : ∀ x ∈ p1, x.block < W.heap.size := by obtain ⟨m, hm⟩ := k1; exact DataW.trod_lt m _ _ _ hm
  have wt1 : ∀ q ∈ d1.weights Tryd.prog 22, q ≤ reachBytes := fun q hq => by simpa using List.all_eq_true.1 hsz q (DataW.weights_mem_each (j := 1) rfl rfl q hq)
  obtain ⟨l1, l1R, l1N, l1C, l1B, l1W⟩ := open_texts Tryd.underlying22 Tryd.underlying9 (by kernel_rfl) (by kernel_rfl) h1 wt1
  have wt2 : ∀ q ∈ d2.weights Tryd.prog 9, q ≤ reachBytes := fun q hq => by simpa using List.all_eq_true.1 hsz q (DataW.weights_mem_each (j := 2) rfl rfl q hq)
  obtain ⟨t2, rfl, rfl, rfl, t2M, t2B⟩ := open_text Tryd.underlying9 (hval 2 9 v2 rfl rfl) h2 wt2
  clear hA0 hval0
  refine (frontback_any l0A l1A l0n l0c l1n l1c l0 l1 t2 W l0R l1R l0N l1N (by omega) (by omega) l0W l1W t2B (tab64_of_laid hL)).mono fun e W' ⟨he, hk⟩ => ?_
  subst he
  have bel := Kp.below hk
  exact ⟨_, rfl, _, _, _, [], _, [], hW', trodAll_mk1 (shut_bool Tryd.underlying4 _), (trodAll_cons_mk (Below.trod laidOut (by kernel_rfl) (of_decide_eq_true (by kernel_rfl)) k0 bel lt0) (trodAll_cons_mk (Below.trod laidOut (by kernel_rfl) (of_decide_eq_true (by kernel_rfl)) k1 bel lt1) (trodAll_cons_mk (shut_text Tryd.underlying9 t2M) trodAll_mk0))), rfl, bel.frame _, fun h => by cases h⟩

theorem over : Rows.FrontBackSaid :=
  OpenClaim.holds_of_wide 4 Tryd.f4 rfl rfl rfl rfl rfl rfl rfl ⟨rfl, rfl, rfl, rfl, rfl⟩ rfl rfl rfl rfl rfl (by kernel_rfl) Tryd.func4 (by kernel_rfl)
    (of_decide_eq_true (by kernel_rfl)) (by unfold Func.isWrapper; first | (rw [if_pos (by decide +kernel)]; kernel_rfl) | (rw [if_neg (by decide +kernel)]; exact ⟨rfl, rfl⟩))
    (fun os started H enc _ => lifted os started H enc)

theorem proved : Rows.FrontBackCardSaid :=
  Claim7.holds_tied_plain_at .later [] [.data] true (true, "f5bf6f0a3eb301dd5bd150a34d1b23b7e39223f21a89fe8fb53c5b6a9a5f91fd") false over (fun _ h => by cases h) (by kernel_rfl) (fun _ h => by cases h) frontBack_row_tie rfl ⟨rfl, rfl⟩ (by kernel_rfl) rfl
    (fun f fn hf hfn => by
      obtain rfl : f = 4 := Option.some.inj ((show Tryd.prog.funcNamed "ossuary/ossuarylaw12.FrontBack" = some 4 by kernel_rfl).symm.trans hf) |>.symm
      obtain rfl : fn = Tryd.f4 := (Option.some.inj (Tryd.func4.symm.trans hfn)).symm
      exact ⟨by kernel_rfl, fun j t ht => by
        rw [Tryd.params4] at ht
        have hm : t ∈ [22, 22, 9] := by simpa using Array.mem_of_getElem? ht
        have hall : ([22, 22, 9].all fun u => !Tryd.prog.wantsStandIn u) = true := by kernel_rfl
        exact (show Tryd.prog.wantsStandIn t = false by simpa using List.all_eq_true.1 hall t hm)⟩)
    (by kernel_rfl)
#print axioms proved
end Go.Proofs.YtlaionhlejmjdaaDoor.frontBack
