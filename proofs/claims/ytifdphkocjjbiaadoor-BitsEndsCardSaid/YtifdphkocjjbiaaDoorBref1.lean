/-
  LAYER 1's REFERENCE: the document's vector in memory; Get, Rank, Select, Bytes.
  CONDITIONS: as each says.
-/
import Derived.Test.YtifdphkocjjbiaaDoorBread0
namespace Go.Proofs.YtifdphkocjjbiaaDoor
open Go.RowKit

/-- The document's vector in memory: its blocks, its place, its bits. -/
def RefV (w : World) (S : List Nat) (p : Nat) (bs : List Bool) : Prop :=
  ∃ (A : Option Addr) (c : Nat), Blk w p 68 [.slice A bs.length c] ∧ w.ownsRow 0 4 1 (.slice A bs.length c) bs.length (bs.map .bool) ∧ S = p :: ownL (.slice A bs.length c)
theorem RefV.lt {w : World} {S : List Nat} {p : Nat} {bs : List Bool} (h : RefV w S p bs) : ∀ g ∈ S, g < w.heap.size := by
  obtain ⟨A, c, h1, h2, rfl⟩ := h
  intro x hx
  simp only [List.mem_cons] at hx
  rcases hx with rfl | hx
  · exact h1.lt
  · exact (own_ge h2 (mem_ownL.1 hx)).2
theorem RefV.kp {w w' : World} {S T : List Nat} {p : Nat} {bs : List Bool} (h : RefV w S p bs) (hk : Kp T w w') (hd : ∀ g ∈ S, g ∉ T) : RefV w' S p bs := by
  obtain ⟨A, c, h1, h2, rfl⟩ := h
  exact ⟨A, c, h1.kp hk (hd p (by simp)), own_kp h2 hk (fun x hx => hd x (by simp [mem_ownL, hx])), rfl⟩
theorem RefV.kp0 {w w' : World} {S : List Nat} {p : Nat} {bs : List Bool} (h : RefV w S p bs) (hk : Kp [] w w') : RefV w' S p bs := h.kp hk (by simp)
theorem RefV.open {w : World} {S : List Nat} {p : Nat} {bs : List Bool} (h : RefV w S p bs) : ∃ (A : Option Addr) (c : Nat), w.cell? ⟨p, 0, none⟩ = some (.slice A bs.length c) ∧ Rd w w.heap.size A (bs.map .bool) := by
  obtain ⟨A, c, h1, h2, _⟩ := h
  exact ⟨A, c, by rw [h1.cell]; rfl, own_rd h2⟩

theorem rbget_any (S : List Nat) (p : Nat) (i : Int) (bs : List Bool) (w : World) (h : RefV w S p bs) :
    Calls Tryd.prog 42 #[.pointer (some ⟨p, 0, none⟩), .int .i64 i] w fun e w' => e = .returned (.bool (getB bs i)) ∧ w = w' := by
  obtain ⟨A, c, c0, hr⟩ := h.open
  obtain ⟨n, hn⟩ : ∃ n, n = bs.length := ⟨_, rfl⟩
  rw [← hn] at c0
  have HN := Lib.hid hn; clear hn
  by_cases h0 : i < 0
  · have HG := Lib.hid (show getB bs i = false by unfold getB; rw [if_pos h0])
    rw [HG.out]
    clear hr
    go_enter Tryd.func42, Tryd.ntmps42
    go_wp2_with fail
    go_ret
    exact ⟨rfl, rfl⟩
  · obtain ⟨I, rfl⟩ : ∃ I : Nat, i = (I : Int) := ⟨i.toNat, by omega⟩
    by_cases h1 : I < n
    · obtain ⟨b, hb⟩ : ∃ b, bs[I]? = some b := ⟨_, List.getElem?_eq_getElem (by rw [← HN.out]; exact h1)⟩
      obtain ⟨ad, rfl, _, hcx⟩ := hr.at_ (i := I) (u := .bool b) (by simp [hb])
      have HG := Lib.hid (show getB bs (I : Int) = b by
        unfold getB
        rw [if_neg h0, Int.toNat_natCast, List.getD_eq_getElem?_getD, hb]
        rfl)
      rw [HG.out]
      have h2 : (I : Int) < (n : Int) := by omega
      clear hr hb
      go_enter Tryd.func42, Tryd.ntmps42
      go_wp2_with fail
      go_ret
      exact ⟨rfl, rfl⟩
    · have HG := Lib.hid (show getB bs (I : Int) = false by
        unfold getB
        rw [if_neg h0, Int.toNat_natCast, List.getD_eq_getElem?_getD, List.getElem?_eq_none (by rw [← HN.out]; omega)]
        rfl)
      rw [HG.out]
      clear hr
      go_enter Tryd.func42, Tryd.ntmps42
      go_wp2_with fail
      go_ret
      exact ⟨rfl, rfl⟩

set_option maxRecDepth 100000 in
set_option maxHeartbeats 2000000 in
theorem rbrank_any (S : List Nat) (p : Nat) (i : Int) (bs : List Bool) (w : World) (h : RefV w S p bs) (hl : bs.length ≤ 16777216) :
    Calls Tryd.prog 40 #[.pointer (some ⟨p, 0, none⟩), .int .i64 i] w fun e w' => e = .returned (.int .i64 ((rankI bs i : Nat) : Int)) ∧ w = w' := by
  obtain ⟨A, c, c0, hr⟩ := h.open
  obtain ⟨n, hn⟩ : ∃ n, n = bs.length := ⟨_, rfl⟩
  rw [← hn] at c0 hl
  obtain ⟨I, hI⟩ : ∃ I : Nat, min (max i 0) (n : Int) = (I : Int) := ⟨(min (max i 0) (n : Int)).toNat, by omega⟩
  obtain ⟨R, hR⟩ : ∃ R, R = rankI bs i := ⟨_, rfl⟩
  rw [← hR]
  have HR := Lib.hid (show cntI bs I = R by rw [hR]; unfold rankI; rw [← hn, hI, Int.toNat_natCast])
  have HI := Lib.hid hI
  have HN := Lib.hid hn
  have HX := Lib.hid hr
  clear hR hI hn hr h
  go_enter Tryd.func40, Tryd.ntmps40
  go_wp2_with fail
  go_loop [5, 6] (fun y x => ∃ k N : Nat, x = .int .i64 (k : Int) ∧ y = .int .i64 (N : Int) ∧ k ≤ I ∧ Hid (N = cntI bs k)) (fun _ x => n - (intOf x).toNat)
  case atStart => exact ⟨0, 0, rfl, rfl, by omega, Lib.hid (by simp [cntI])⟩
  case round =>
    obtain ⟨k, N, rfl, rfl, hk, HNN⟩ := hrel
    have hIn : I ≤ n := by have := HI.out; omega
    by_cases hlt : k < I
    · obtain ⟨b, hb⟩ : ∃ b, bs[k]? = some b := ⟨_, List.getElem?_eq_getElem (by rw [← HN.out]; omega)⟩
      obtain ⟨ad, rfl, _, hcx⟩ := HX.out.at_ (i := k) (u := .bool b) (by simp [hb])
      have hki : (k : Int) < i := by have := HI.out; omega
      have hkn : k < n := by omega
      have hNb : N ≤ 16777216 := by have h1 := cntI_le bs k; rw [← HNN.out, ← HN.out] at h1; omega
      have HN1 := Lib.hid (show N + b.toNat = cntI bs (k + 1) by
        rw [HNN.out]; unfold cntI; rw [take_succ_of hb, List.count_append]; cases b <;> rfl)
      clear hb HNN
      cases b with
      | true =>
        go_wp2_with fail
        exact ⟨⟨k + 1, N + 1, by go_num, by go_num, by omega, HN1⟩, by simp [intOf]; omega⟩
      | false =>
        go_wp2_with fail
        exact ⟨⟨k + 1, N, by go_num, rfl, by omega, HN1⟩, by simp [intOf]; omega⟩
    · obtain rfl : I = k := by omega
      have HE := Lib.hid (show N = R by rw [HNN.out, HR.out])
      rw [HE.out]
      by_cases hki : i ≤ (I : Int)
      · go_wp2_with fail
        go_ret
        exact ⟨rfl, rfl⟩
      · have hnI : n = I := by have := HI.out; omega
        subst hnI
        go_wp2_with fail
        go_ret
        exact ⟨rfl, rfl⟩
end Go.Proofs.YtifdphkocjjbiaaDoor
