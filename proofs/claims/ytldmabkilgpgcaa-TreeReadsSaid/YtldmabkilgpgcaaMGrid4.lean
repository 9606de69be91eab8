/-
  LAYER 15 (tree), plain: a tree's bytes are read to the same.
  CONDITIONS: as each says.
-/
import Derived.Test.YtldmabkilgpgcaaGread
namespace Go.Proofs.Ytldmabkilgpgcaa

theorem many_back {N : Nat} (h : N ≤ 16777216) : manyB (N / 16777216 % 256) (N / 65536 % 256) (N / 256 % 256) (N % 256) = N := by
  unfold manyB
  omega
theorem head_nat (h N : Nat) : (headB h N).map Int.toNat = [h, N / 16777216 % 256, N / 65536 % 256, N / 256 % 256, N % 256] := by
  unfold headB
  simp only [List.map_cons, List.map_nil]
  congr 1
theorem same_one {l l' : List (Nat × Nat)} (h : SameS l l') : Tog SameS [l] [l'] := .cons h .nil
/-- A tree's bytes, whatever stands behind them, are read to the same bits. -/
theorem read_back {h : Nat} {l : List (Nat × Nat)} (h1 : 1 ≤ h) (h17 : h ≤ 17) (hl : ∀ p ∈ l, p.1 < 2 ^ h ∧ p.2 < 2 ^ h) (hN : (levL h [l]).length ≤ 16777216) (tail : List Nat) :
    ∃ C, readT ((treeB h (levL h [l])).map Int.toNat ++ tail) = some (h, C, 5 + ((levL h [l]).length + 7) / 8) ∧ SameS C l ∧ levL h [C] = levL h [l] := by
  obtain ⟨C, hg, hs, _, _⟩ := grow_tree h1 hl []
  rw [List.append_nil] at hg
  have hlev : levL h [C] = levL h [l] := lev_same h (same_one hs)
  refine ⟨C, ?_, hs, hlev⟩
  obtain ⟨bs, hbs⟩ : ∃ bs, bs = levL h [l] := ⟨_, rfl⟩
  rw [← hbs] at hN hg hlev ⊢
  obtain ⟨N, hNN⟩ : ∃ N, N = bs.length := ⟨_, rfl⟩
  obtain ⟨X, hX⟩ : ∃ X, X = (bytesN (bitN bs) ((bs.length + 7) / 8)).map Int.toNat := ⟨_, rfl⟩
  have hXl : X.length = (N + 7) / 8 := by rw [hX, List.length_map, bytesN_len, hNN]
  have hT : (treeB h bs).map Int.toNat = h :: N / 16777216 % 256 :: N / 65536 % 256 :: N / 256 % 256 :: N % 256 :: X := by
    unfold treeB
    rw [List.map_append, head_nat, ← hX, hNN]
    rfl
  have hpk : packN 8 X = bitN bs := by
    rw [hX, packN_bytesN]
    refine Nat.mod_eq_of_lt (Nat.lt_of_lt_of_le (bitN_lt bs) (Nat.pow_le_pow_right (by omega) ?_))
    omega
  have hrange : ∀ x ∈ treeB h bs, 0 ≤ x ∧ x ≤ 255 := fun x hx => by have := treeB_range h17 x hx; omega
  have hlen : ((treeB h bs).map Int.toNat).length = 5 + (N + 7) / 8 := by rw [hT]; simp [hXl]; omega
  have htk : intsN (((treeB h bs).map Int.toNat ++ tail).take (5 + (N + 7) / 8)) = treeB h bs := by
    rw [List.take_append_of_le_length (by omega), List.take_of_length_le (by omega), intsN_bytes hrange]
  rw [hT] at htk ⊢
  rw [← hNN]
  rw [← hNN] at hN
  show readC h (manyB (N / 16777216 % 256) (N / 65536 % 256) (N / 256 % 256) (N % 256)) ((X ++ tail).length + 5) _ (X ++ tail) = _
  rw [many_back hN]
  have htX : (X ++ tail).take ((N + 7) / 8) = X := by rw [← hXl, List.take_left]
  unfold readC
  rw [if_neg (not_not_intro ⟨h1, h17⟩), if_neg (by rw [List.length_append]; omega), htX]
  have hlE : lenE (N : Int) = 0 := by unfold lenE; rw [if_neg (by omega), if_neg (by omega)]
  have hE : readE (N : Int) X = 0 := readE_ok hlE hXl (by rw [hpk, hNN]; exact bitN_lt bs)
  rw [hE, if_neg (by simp), hpk]
  have hbo : bitsOf N (bitN bs) = bs := by rw [hNN]; exact bitsOf_bitN bs
  rw [hbo, hg]
  simp only [hlev]
  exact if_pos htk.symm
end Go.Proofs.Ytldmabkilgpgcaa
