/-
  LAYER 12's law: texts in order, each once: the walk of sorted.
  CONDITIONS: texts in memory, at most 100000.
-/
import Derived.Test.YtlaionhlejmjdaaGreatDoorQ38
import Derived.Test.YtlaionhlejmjdaaGreatDoorQ09
import Derived.Test.YtlaionhlejmjdaaGreatDoorQ07
import Derived.Test.YtlaionhlejmjdaaGreatDoorQ25
import Derived.Deep.DeepCutAuto
import Derived.Deep.CutBlock
import Derived.Deep.RegionLaw
namespace Go.Proofs.YtlaionhlejmjdaaGreatDoor
open Go.RowKit

theorem Tryz.info_str12 : (Tryz.prog.info? 9).map (fun i => (i.zero, i.size, i.bytes)) = some (some (.string ⟨#[]⟩), 1, 16) := by kernel_rfl
theorem findN_step {L : List ByteArray} {s t : ByteArray} {j : Nat} (hj : j ≤ findN L s) (ht : L[j]? = some t) : (lexN (txt t) (txt s) = true → j + 1 ≤ findN L s) ∧ (lexN (txt t) (txt s) = false → findN L s = j) := by
  constructor
  · intro h
    by_cases e : j = findN L s
    · rw [e] at ht
      exact absurd h (findN_at L s t ht)
    · omega
  · intro h
    by_cases e : j < findN L s
    · have := findN_pre L s j t e ht
      unfold LtT at this
      rw [h] at this
      cases this
    · omega
theorem own_oneS (w : World) (base : Nat) (e : TypeId) (u : Value) (hb : base ≤ w.heap.size) : (w.alloc (.cells #[u] e)).ownsRow base e 1 (.slice (some ⟨w.heap.size, 0, none⟩) 1 1) 1 [u] :=
  ⟨by simp, .inr ⟨_, 1, #[u], rfl, hb, Blk.new w e [u], Nat.le_refl _, by decide, by simp, by simp⟩⟩
theorem own_nilS (w : World) (base : Nat) (e : TypeId) (size : Nat) (hb : base ≤ w.heap.size) : (w.alloc (.cells #[] e)).ownsRow base e size (.slice (some ⟨w.heap.size, 0, none⟩) 0 0) 0 [] :=
  ⟨by simp, .inr ⟨_, 0, #[], rfl, hb, Blk.new w e [], Nat.le_refl _, Nat.zero_le _, by simp, by simp⟩⟩
theorem ocS (L : List ByteArray) : ∀ u ∈ L.map Value.string, u.oneCell' = true := by intro u hu; obtain ⟨x, _, rfl⟩ := List.mem_map.1 hu; rfl
theorem cutS {w : World} {B : Nat} {A : Option Addr} {m : List ByteArray} {k n c : Nat} (h : Rd w B A (m.map .string)) (hl : m.length = n) (hk : k ≤ n) (hc : n ≤ c) : Rd w B (if c = k then A else A.map fun x => x.add k) ((m.drop k).map .string) := by
  by_cases he : c = k
  · rw [List.drop_of_length_le (by omega)]
    exact Rd.nil _ _ _
  · rw [if_neg he]
    rcases A with _ | a
    · rcases m with _ | ⟨x, m⟩
      · rw [List.drop_nil]; exact Rd.nil _ _ _
      · obtain ⟨_, e, _⟩ := h 0 _ rfl
        cases e
    · rw [List.map_drop]
      exact h.drop k
theorem takeS {w : World} {B : Nat} {A : Option Addr} {m : List ByteArray} (h : Rd w B A (m.map .string)) (j : Nat) : Rd w B A ((m.take j).map .string) := by
  rw [List.map_take]; exact h.take j
theorem sort_take {l : List ByteArray} {k : Nat} {s : ByteArray} (h : l[k]? = some s) : sortS (l.take (k + 1)) = insS (sortS (l.take k)) s := by rw [take_succ_of h, sort_snoc]
end Go.Proofs.YtlaionhlejmjdaaGreatDoor
