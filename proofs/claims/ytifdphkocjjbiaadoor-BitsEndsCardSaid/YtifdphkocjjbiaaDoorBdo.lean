/-
  LAYER 1: what BitsDo wants besides: size; an own row written into; the bytes of a vector read again.
  CONDITIONS: as each says.
-/
import Derived.Test.YtifdphkocjjbiaaDoorBref4
import Derived.Test.YtifdphkocjjbiaaDoorBbytes
namespace Go.Proofs.YtifdphkocjjbiaaDoor
open Go.RowKit

theorem own_put {w : World} {base : Nat} {e : TypeId} {A : Option Addr} {n c : Nat} {xs : List Value} (h : w.ownsRow base e 1 (.slice A n c) n xs) {k : Nat} (hk : k < n) :
    ∃ g u, A = some ⟨g, 0, none⟩ ∧ xs[k]? = some u ∧ w.cell? ⟨g, k, none⟩ = some u ∧ w.frozen? ⟨g, k, none⟩ = false ∧ ∀ z, (w.setCell ⟨g, k, none⟩ z).ownsRow base e 1 (.slice A n c) n (xs.set k z) := by
  rcases own_blk h with ⟨_, hn, _⟩ | ⟨g, cap, rest, hv, hb, hB, hn, hm, hx, hc⟩
  · omega
  · injection hv with hv _ hcc
    subst hv hcc
    rw [Nat.mul_one] at hx
    obtain ⟨u, hu⟩ : ∃ u, xs[k]? = some u := ⟨_, List.getElem?_eq_getElem (by omega)⟩
    refine ⟨g, u, rfl, hu, by rw [hB.cell, List.getElem?_append_left (by omega)]; exact hu, hB.free k, fun z => ?_⟩
    have h3 := hB.set_ k z
    rw [List.set_append_left _ _ (by omega)] at h3
    exact own_of_blk h3 hb hn hm (by rw [List.length_set, hx, Nat.mul_one]) (by simpa using hc)

theorem DeedRd.ix {w : World} {B : Nat} {A : Option Addr} {ds : List (Bool × List Int)} (h : DeedRd w B A ds) {i : Nat} (hi : i < ds.length) :
    ∃ b l ad Ai ci, ds[i]? = some (b, l) ∧ A = some ad ∧ ad.block < B ∧ w.cell? (ad.add (i * 2)) = some (.bool b) ∧ w.cell? ⟨(ad.add (i * 2)).block, (ad.add (i * 2)).off + 1, none⟩ = some (.slice Ai l.length ci) ∧ l.length ≤ ci ∧ Rd w B Ai (l.map (.int .i64)) := by
  obtain ⟨ad, Ai, ci, h1, h2, h3, h4, h5, h6⟩ := h i ds[i] (List.getElem?_eq_getElem hi)
  exact ⟨ds[i].1, ds[i].2, ad, Ai, ci, List.getElem?_eq_getElem hi, h1, h2, h3, h4, h5, h6⟩

/-- What size says. -/
def BSize (n : Nat) (ds : List (Bool × List Int)) (w : World) (e : Ending) (w' : World) : Prop := (∃ Z : Nat, e = .returned (.int .i64 (Z : Int)) ∧ Z ≤ 281474976710656 ∧ (Z ≤ 3000 → n ≤ 3000 ∧ ∀ d ∈ ds, d.2.length ≤ 3000)) ∧ w = w'
set_option maxRecDepth 100000 in
set_option maxHeartbeats 4000000 in
theorem bsize_any (A : Option Addr) (n c B : Nat) (ds : List (Bool × List Int)) (w : World) (hx : DeedRd w B A ds) (hn : ds.length = n) (hb : n ≤ 140737488351232) (hl : ∀ d ∈ ds, d.2.length ≤ 140737488351232) :
    Calls Tryd.prog 21 #[.slice A n c] w (BSize n ds w) := by
  have HX := Lib.hid hx; clear hx
  have HN := Lib.hid hn; clear hn
  have HL := Lib.hid hl; clear hl
  go_enter Tryd.func21, Tryd.ntmps21
  go_wp2_with fail
  go_loop [3, 4] (fun y x => ∃ k N : Nat, x = .int .i64 (k : Int) ∧ y = .int .i64 (N : Int) ∧ k ≤ n ∧ n ≤ N ∧ N ≤ 281474976710656 ∧ Hid (∀ d ∈ ds.take k, d.2.length ≤ N)) (fun _ x => n - (intOf x).toNat)
  case atStart => exact ⟨0, n, rfl, rfl, by omega, by omega, by omega, Lib.hid (by simp)⟩
  case round =>
    obtain ⟨k, N, rfl, rfl, hk, hnN, hNb, HA⟩ := hrel
    by_cases hlt : k < n
    · by_cases hN : N ≤ 3000
      · obtain ⟨b, l, ad, Ai, ci, hd, rfl, _, _, hc1, _, _⟩ := HX.out.ix (i := k) (by rw [HN.out]; exact hlt)
        have hlb : l.length ≤ 140737488351232 := HL.out (b, l) (List.mem_of_getElem? hd)
        have HA2 := Lib.hid (show ∀ d ∈ ds.take (k + 1), d.2.length ≤ N + l.length from fun d hm => by
          rw [take_succ_of hd] at hm
          rcases List.mem_append.1 hm with h | h
          · have := HA.out d h; omega
          · simp only [List.mem_singleton] at h; subst h; show l.length ≤ _; omega)
        obtain ⟨L, hL⟩ : ∃ L, L = l.length := ⟨_, rfl⟩
        rw [← hL] at hlb hc1 HA2
        clear hd hL HA
        go_wp2_with fail
        exact ⟨⟨k + 1, N + L, by go_num, by go_num, by omega, by omega, by omega, HA2⟩, by simp [intOf]; omega⟩
      · go_wp2_with fail
        go_ret
        exact ⟨⟨N, rfl, by omega, fun h => by omega⟩, rfl⟩
    · obtain rfl : n = k := by omega
      have HA2 := Lib.hid (show ∀ d ∈ ds, d.2.length ≤ N from fun d hm => HA.out d (by rw [List.take_of_length_le (by rw [HN.out]; exact Nat.le_refl _)]; exact hm))
      by_cases hN : N ≤ 3000
      all_goals
        go_wp2_with fail
        go_ret
        exact ⟨⟨N, rfl, by omega, fun h => ⟨by omega, fun d hd => Nat.le_trans (HA2.out d hd) h⟩⟩, rfl⟩
end Go.Proofs.YtifdphkocjjbiaaDoor
