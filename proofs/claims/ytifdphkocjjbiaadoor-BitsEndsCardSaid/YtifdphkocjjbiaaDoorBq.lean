/-
  LAYER 1: the calls on a vector that is counted: nothing that was there changes.
  CONDITIONS: as each says.
-/
import Derived.Test.YtifdphkocjjbiaaDoorBby
namespace Go.Proofs.YtifdphkocjjbiaaDoor
open Go.RowKit

theorem qrank {S : List Nat} {p : Nat} {bs : List Bool} {w : World} (i : Int) (h : VecM w S p bs true) {N : Nat} (hN : rankI bs i = N) :
    Calls Tryd.prog 11 #[.pointer (some ⟨p, 0, none⟩), .int .i64 i] w fun e w' => e = .returned (.int .i64 (N : Int)) ∧ Kp [] w w' := by
  refine (vrank_any S p i bs true w h).mono fun e w' hh => ?_
  rw [hN] at hh
  obtain ⟨he, S', _, _, _, hc⟩ := hh
  exact ⟨he, (hc rfl).2⟩
theorem qones {S : List Nat} {p : Nat} {bs : List Bool} {w : World} (h : VecM w S p bs true) {N : Nat} (hN : bs.count true = N) :
    Calls Tryd.prog 12 #[.pointer (some ⟨p, 0, none⟩)] w fun e w' => e = .returned (.int .i64 (N : Int)) ∧ Kp [] w w' := by
  refine (vones_any S p bs true w h).mono fun e w' hh => ?_
  rw [hN] at hh
  obtain ⟨he, S', _, _, _, hc⟩ := hh
  exact ⟨he, (hc rfl).2⟩
theorem qselect {S : List Nat} {p : Nat} {bs : List Bool} {w : World} (k : Int) (h : VecM w S p bs true) (ht : Tab64 w) (h0 : 0 ∉ S) {x : Int} {b : Bool} (hx : selI bs k = x) (hb : selB bs k = b) :
    Calls Tryd.prog 14 #[.pointer (some ⟨p, 0, none⟩), .int .i64 k] w fun e w' => e = .returned (.tuple #[.int .i64 x, .bool b]) ∧ Kp [] w w' := by
  refine (vselect_any S p k bs true w h ht h0).mono fun e w' hh => ?_
  rw [hx, hb] at hh
  obtain ⟨he, S', c', _, _, _, hc⟩ := hh
  exact ⟨he, (hc rfl).2.2⟩
theorem qget {S : List Nat} {p : Nat} {bs : List Bool} {c : Bool} {w : World} (i : Int) (h : VecM w S p bs c) {b : Bool} (hb : getB bs i = b) :
    Calls Tryd.prog 13 #[.pointer (some ⟨p, 0, none⟩), .int .i64 i] w fun e w' => e = .returned (.bool b) ∧ Kp [] w w' := by
  refine (vget_any S p i bs c w h).mono fun e w' hh => ?_
  rw [hb] at hh
  obtain ⟨he, rfl⟩ := hh
  exact ⟨he, Kp.refl _ _⟩
/-- The first call that counts, of a vector that is new since w0. -/
theorem first_count {w0 w w' : World} {S : List Nat} {p : Nat} {bs : List Bool} {c : Bool} (hk : Kp [] w0 w) (hS : ∀ x ∈ S, w0.heap.size ≤ x) (h : VPostT w w' S p bs c) : ∃ S', VecM w' S' p bs true ∧ Kp [] w0 w' ∧ ∀ x ∈ S', w0.heap.size ≤ x := by
  obtain ⟨S', h1, h2, h3, _⟩ := h
  refine ⟨S', h1, hk.trans' h2 (fun g hg => .inr (hS g hg)), fun x hx => ?_⟩
  rcases h3 x hx with h | h
  · exact hS x h
  · exact Nat.le_trans hk.size h
theorem Tab64.lt {w : World} (h : Tab64 w) : 0 < w.heap.size := by
  obtain ⟨v, hv⟩ : ∃ v, dbTab[0]? = some v := ⟨_, rfl⟩
  exact World.block_lt_of_cell? w ⟨0, 0, none⟩ (h 0 v hv)

abbrev B5 : List Bool := [true, false, true, true, false]
set_option maxRecDepth 100000 in
set_option maxHeartbeats 2000000 in
theorem bawake_any (w : World) (ht : Tab64 w) : Calls Tryd.prog 8 #[] w fun e w' => e = .returned (.bool true) ∧ Kp [] w w' := by
  have HT := Lib.hid ht; clear ht
  go_enter Tryd.func8, Tryd.ntmps8
  go_wp2_with fail
  refine (bof_any _ 5 5 _ B5 _ (Rd.new w #[.bool true, .bool false, .bool true, .bool true, .bool false] 4 (0, 0)) rfl (by omega)).mono ?_
  rintro e w1 ⟨S, p, rfl, hv, hS, hk⟩
  have HV := Lib.hid hv
  have HS := Lib.hid (show ∀ x ∈ S, w.heap.size ≤ x from fun x hx => Nat.le_trans (by simp) (hS x hx))
  have HK := Lib.hid (((Kp.refl [] w).alloc _).trans hk)
  clear hv hS hk
  go_wp2_with fail
  refine (vrank_any S p 2 B5 false w1 HV.out).mono ?_
  rw [show rankI B5 2 = 1 from by decide]
  rintro e w2 ⟨rfl, hp⟩
  obtain ⟨S2, hv2, hk2, hs2⟩ := first_count HK.out HS.out hp
  have HV2 := Lib.hid hv2
  have HK2 := Lib.hid hk2
  have HT2 := Lib.hid (HT.out.kp0 hk2)
  have H02 := Lib.hid (show 0 ∉ S2 from fun h => by have := hs2 _ h; have := HT.out.lt; omega)
  clear hp hv2 hk2 hs2 HV HS HK
  go_wp2_with fail
  refine (qrank 3 HV2.out (N := 2) (by decide)).mono ?_
  rintro e w3 ⟨rfl, hk⟩
  have HV3 := Lib.hid (HV2.out.kp0 hk)
  have HK3 := Lib.hid (HK2.out.trans hk)
  have HT3 := Lib.hid (HT2.out.kp0 hk)
  clear hk HV2 HK2 HT2
  go_wp2_with fail
  refine (qrank 5 HV3.out (N := 3) (by decide)).mono ?_
  rintro e w4 ⟨rfl, hk⟩
  have HV4 := Lib.hid (HV3.out.kp0 hk)
  have HK4 := Lib.hid (HK3.out.trans hk)
  have HT4 := Lib.hid (HT3.out.kp0 hk)
  clear hk HV3 HK3 HT3
  go_wp2_with fail
  refine (qselect 2 HV4.out HT4.out H02.out (x := 3) (b := true) (by decide) (by decide)).mono ?_
  rintro e w5 ⟨rfl, hk⟩
  have HV5 := Lib.hid (HV4.out.kp0 hk)
  have HK5 := Lib.hid (HK4.out.trans hk)
  have HT5 := Lib.hid (HT4.out.kp0 hk)
  clear hk HV4 HK4 HT4
  go_wp2_with fail
  refine (qselect 3 HV5.out HT5.out H02.out (x := 0) (b := false) (by decide) (by decide)).mono ?_
  rintro e w6 ⟨rfl, hk⟩
  have HV6 := Lib.hid (HV5.out.kp0 hk)
  have HK6 := Lib.hid (HK5.out.trans hk)
  clear hk HV5 HK5 HT5
  go_wp2_with fail
  refine (vbytes_any S2 p B5 true w6 HV6.out).mono ?_
  rintro e w7 ⟨A, m, c, hm, rfl, hown, hk⟩
  have hm1 : m = 1 := hm
  subst hm1
  have hb : bytesN (bitN B5) 1 = [13] := by decide
  rw [hb] at hown
  obtain ⟨ad, rfl, _, hcx⟩ := (own_rd hown).at_ (i := 0) (u := .int .u8 13) rfl
  have hcx0 := hcx
  rw [addr_add_zero] at hcx0
  have HV7 := Lib.hid (HV6.out.kp0 hk)
  have HK7 := Lib.hid (HK6.out.trans hk)
  clear hk HV6 HK6 hm hb hown
  go_wp2_with fail
  refine (qones HV7.out (N := 3) (by decide)).mono ?_
  rintro e w8 ⟨rfl, hk⟩
  have HK8 := Lib.hid (HK7.out.trans hk)
  clear hk
  go_wp2_with fail
  go_ret
  exact ⟨rfl, HK8.out⟩
end Go.Proofs.YtifdphkocjjbiaaDoor
