/-
  LAYER 12's law: texts in order, each once: the walk of sorted.
  CONDITIONS: texts in memory, at most 100000.
-/
import Derived.Test.YtlaionhlejmjdaaGreatDoorQ40
import Derived.Test.YtlaionhlejmjdaaGreatDoorQ09
import Derived.Test.YtlaionhlejmjdaaGreatDoorQ07
import Derived.Test.YtlaionhlejmjdaaGreatDoorQ26
import Derived.Deep.DeepCutAuto
import Derived.Deep.CutBlock
import Derived.Deep.RegionLaw
namespace Go.Proofs.YtlaionhlejmjdaaGreatDoor
open Go.RowKit

theorem Tryz.info_str12 : (Tryz.prog.info? 9).map (fun i => (i.zero, i.size, i.bytes)) = some (some (.string ⟨#[]⟩), 1, 16) := by kernel_rfl
theorem findN_step {L : List ByteArray} {s t : ByteArray} {j : Nat} (hj : j ≤ findN L s) (ht : L[j]? = some t) : (lexN (txt t) (txt s) = true → j + 1 ≤ findN L s) ∧ (lexN (txt t) (txt s) = false → findN L s = j) := by
  constructor
  · intro h
    by_cases e : j = findN L s
    · rw [e] at ht
      exact absurd h (findN_at L s t ht)
    · omega
  · intro h
    by_cases e : j < findN L s
    · have := findN_pre L s j t e ht
      unfold LtT at this
      rw [h] at this
      cases this
    · omega
theorem own_nilS (w : World) (base : Nat) (e : TypeId) (size : Nat) (hb : base ≤ w.heap.size) : (w.alloc (.cells #[] e)).ownsRow base e size (.slice (some ⟨w.heap.size, 0, none⟩) 0 0) 0 [] :=
  ⟨by simp, .inr ⟨_, 0, #[], rfl, hb, Blk.new w e [], Nat.le_refl _, Nat.zero_le _, by simp, by simp⟩⟩
theorem ocS (L : List ByteArray) : ∀ u ∈ L.map Value.string, u.oneCell' = true := by intro u hu; obtain ⟨x, _, rfl⟩ := List.mem_map.1 hu; rfl
end Go.Proofs.YtlaionhlejmjdaaGreatDoor
