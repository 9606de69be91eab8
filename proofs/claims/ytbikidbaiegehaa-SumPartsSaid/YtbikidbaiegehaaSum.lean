/-
  THE CONTRACTS OF PACKAGE sum AND OF ITS REFERENCE: what they compute is the sum of XMSum.
  CONDITIONS: bytes in all at most 10^9.
-/
import Derived.Test.YtbikidbaiegehaaSlices
import Derived.Test.YtbikidbaiegehaaMSum
import Derived.RegionTactic
import Derived.Deep.RegionWith
namespace Go.Proofs.Ytbikidbaiegehaa
open Go.RowKit

def Byt (l : List Int) : Prop := ∀ x ∈ l, 0 ≤ x ∧ x ≤ 255
theorem Byt.at_ {l : List Int} (h : Byt l) {i : Nat} {x : Int} (hx : l[i]? = some x) : 0 ≤ x ∧ x ≤ 255 := h x (List.mem_of_getElem? hx)

def tabV : List Value := (List.range 16).map fun i => Value.int .u32 ((stpN 4 i : Nat) : Int)
/-- A register with its table, in block g. -/
def Reg (w : World) (g : Nat) (r : Nat) : Prop := Blk w g 63 (.int .u32 (r : Int) :: tabV)
theorem Reg.kp {w w' : World} {g r : Nat} {S : List Nat} (h : Reg w g r) (k : Kp S w w') (hg : g ∉ S) : Reg w' g r := Blk.kp h k hg

set_option maxHeartbeats 1000000 in
theorem four_any (g : Nat) (r : Nat) (w : World) (hr : r < 4294967296) (hreg : Reg w g r) :
    Calls Try.prog 51 #[.pointer (some ⟨g, 0, none⟩), .pointer (some ⟨g, 1, none⟩)] w fun e w' => e = .returned (.tuple #[]) ∧ Kp [g] w w' ∧ Reg w' g (stpN 4 r) := by
  have h0 : w.cell? ⟨g, 0, none⟩ = some (.int .u32 r) := by rw [Blk.cell hreg]; rfl
  have h16 : r % 16 < 16 := Nat.mod_lt _ (by omega)
  have hx : w.cell? ⟨g, 1 + r % 16, none⟩ = some (.int .u32 ((stpN 4 (r % 16) : Nat) : Int)) := by
    rw [Blk.cell hreg, Nat.add_comm, List.getElem?_cons_succ]
    simp [tabV, h16]
  have hf := Blk.free hreg 0
  have hxor : bits .xor .u32 ((r : Int) / 16) ((stpN 4 (r % 16) : Nat) : Int) = ((stpN 4 r : Nat) : Int) := by
    rw [show ((r : Int) / 16) = ((r / 16 : Nat) : Int) from by omega, u32_xor_nat _ _ (by omega) (stpN_lt 4 (by omega)), ← stp4_table]
  have hb : bits .and .u32 (r : Int) 15 = ((r % 16 : Nat) : Int) := by
    have := u32_and_nat r 15 hr (by omega)
    rw [show r &&& 15 = r % 16 from Nat.and_two_pow_sub_one_eq_mod r 4] at this
    exact this
  have HR := Lib.hid hreg; clear hreg
  generalize stpN 4 (r % 16) = x at *
  generalize hq : stpN 4 r = q at *
  have HQ := Lib.hid hq; clear hq
  go_enter Try.func51, Try.ntmps51
  go_region
  go_end0
  refine ⟨rfl, ((Kp.refl [g] w).setCell (.inl (by simp)) _).drew, ?_⟩
  have := (Blk.set_ HR.out 0 (.int .u32 (q : Int))).drew
  simpa [Reg] using this

theorem tabTo_set (k : Nat) (hk : k < 16) : ((List.range 16).map fun i => Value.int .u32 ((if i < k then stpN 4 i else 0 : Nat) : Int)).set k (.int .u32 ((stpN 4 k : Nat) : Int)) =
    (List.range 16).map fun i => Value.int .u32 ((if i < k + 1 then stpN 4 i else 0 : Nat) : Int) := by
  apply List.ext_getElem?
  intro i
  rw [List.getElem?_set]
  simp only [List.getElem?_map, List.length_map, List.length_range]
  by_cases hik : k = i
  · subst hik
    simp [hk]
  · rw [if_neg hik]
    by_cases hi : i < 16
    · rw [List.getElem?_range hi]
      have : (i < k + 1) = (i < k) := by simp; omega
      simp [this]
    · rw [List.getElem?_eq_none (by simp; omega)]; rfl

set_option maxHeartbeats 1000000 in
theorem begun_any (w : World) : Calls Try.prog 42 #[] w fun e w' => ∃ g, e = .returned (.pointer (some ⟨g, 0, none⟩)) ∧ w.heap.size ≤ g ∧ Kp [] w w' ∧ Reg w' g 4294967295 := by
  go_enter Try.func42, Try.ntmps42
  go_wp2
  go_loopw [7] (fun i wr => ∃ k : Nat, k ≤ 16 ∧ i = .int .i64 k ∧ Kp [] w wr ∧ w.heap.size < wr.heap.size ∧ Blk wr w.heap.size 63 (.int .u32 4294967295 :: (List.range 16).map fun i => Value.int .u32 ((if i < k then stpN 4 i else 0 : Nat) : Int))) (fun i _ => 16 - (intOf i).toNat)
  case atStart => exact ⟨0, by omega, rfl, (Kp.refl [] w).alloc _, by simp, Blk.new w _ _⟩
  case round =>
    obtain ⟨k, hk, rfl, hkp, hsz, hblk⟩ := hrel
    by_cases hlt : k < 16
    · have hst := tabTo_set k hlt
      obtain ⟨u0, _, hcell⟩ := hblk.ix (i := 1 + k) (by simp; omega)
      have hfree := hblk.free (1 + k)
      have HB := Lib.hid hblk; clear hblk
      have HST := Lib.hid hst; clear hst
      have HK := Lib.hid hkp; clear hkp
      go_wp2
      obtain ⟨wo, rfl⟩ : ∃ wo : World, wo = wr := ⟨_, rfl⟩
      go_loopw [3, 12] (fun n i wi => ∃ j : Nat, j ≤ 4 ∧ i = .int .i64 j ∧ n = .int .u32 ((stpN j k : Nat) : Int) ∧ wo = wi) (fun _ i _ => 4 - (intOf i).toNat)
      case atStart => exact ⟨0, by omega, rfl, by simp [stpN], rfl⟩
      case round =>
        obtain ⟨j, hj, rfl, rfl, rfl⟩ := hrel
        by_cases hj4 : j < 4
        · have hn : stpN j k < 4294967296 := stpN_lt j (by omega)
          have hs := stpN_succ' j k
          generalize hq : stpN j k = n at *
          have hb : bits .and .u32 (n : Int) 1 = ((n % 2 : Nat) : Int) := by
            have := u32_and_nat n 1 hn (by omega)
            rw [show n &&& 1 = n % 2 from Nat.and_two_pow_sub_one_eq_mod n 1] at this
            exact this
          have hx : bits .xor .u32 ((n : Int) / 2) (3988292384 * ((n : Int) % 2)) = ((stp n : Nat) : Int) := by
            rw [show ((n : Int) / 2) = ((n / 2 : Nat) : Int) from by omega, show (3988292384 * ((n : Int) % 2)) = ((if n % 2 = 1 then poly else 0 : Nat) : Int) from by unfold poly; split <;> omega]
            exact u32_xor_nat _ _ (by omega) (by unfold poly; split <;> omega)
          rw [← hs] at hx
          have HS := Lib.hid hs; clear hs
          have HQ := Lib.hid hq; clear hq
          go_wp2
          go_roundw
          case rel => exact ⟨j + 1, by omega, by go_num, rfl, trivial⟩
          case measure => simp [intOf]; omega
        · have hj' : j = 4 := by omega
          subst hj'
          generalize hq : stpN 4 k = q at *
          have HQ := Lib.hid hq; clear hq
          go_wp2
          go_roundw
          case rel =>
            refine ⟨k + 1, by omega, by go_num, HK.out.setCell (.inr (Nat.le_refl _)) _, by simpa using hsz, ?_⟩
            have := HB.out.set_ (1 + k) (.int .u32 (q : Int))
            rw [Nat.add_comm, List.set_cons_succ] at this
            rw [← HST.out, Nat.add_comm 1 k]
            exact this
          case measure => simp [intOf]; omega
    · have hk' : k = 16 := by omega
      subst hk'
      have HB := Lib.hid hblk; clear hblk
      have HK := Lib.hid hkp; clear hkp
      go_wp2
      go_ret
      refine ⟨w.heap.size, rfl, Nat.le_refl _, HK.out, ?_⟩
      have := HB.out
      have he : ((List.range 16).map fun i => Value.int .u32 ((if i < 16 then stpN 4 i else 0 : Nat) : Int)) = tabV :=
        List.map_congr_left (fun i hi => by rw [if_pos (by simpa using hi)])
      rw [he] at this
      exact this
theorem crc_flat_succ {xss : List (List Int)} {k : Nat} {xs : List Int} (r : Nat) (h : xss[k]? = some xs) : crcFrom r (xss.take (k + 1)).flatten = crcFrom (crcFrom r (xss.take k).flatten) xs := by
  rw [flat_take_succ h, crcFrom_append]
theorem crc_take_succ {xs : List Int} {k : Nat} {x : Int} (r : Nat) (h : xs[k]? = some x) : crcFrom r (xs.take (k + 1)) = bstp (crcFrom r (xs.take k)) x.toNat := by
  rw [take_succ_of h, crcFrom_snoc]
theorem Byt.take {l : List Int} (h : Byt l) (n : Nat) : Byt (l.take n) := fun x hx => h x (List.mem_of_mem_take hx)
theorem byt_flat {xss : List (List Int)} (h : ∀ xs ∈ xss, Byt xs) : Byt xss.flatten := fun x hx => by
  obtain ⟨l, hl, hx⟩ := List.mem_flatten.1 hx
  exact h l hl x hx

set_option maxHeartbeats 2000000 in
theorem take_any (g : Nat) (A : Option Addr) (n c B : Nat) (xss : List (List Int)) (r : Nat) (w : World) (hreg : Reg w g r) (hr : r < 4294967296) (hx : RdRows w B .u8 A xss) (hB : B ≤ g) (hn : xss.length = n) (hb : n ≤ 1000000000) (hf : xss.flatten.length ≤ 1000000000) (hby : ∀ xs ∈ xss, Byt xs) :
    Calls Try.prog 43 #[.pointer (some ⟨g, 0, none⟩), .slice A n c] w fun e w' => e = .returned (.tuple #[]) ∧ Kp [g] w w' ∧ Reg w' g (crcFrom r xss.flatten) := by
  have HN := Lib.hid hn; clear hn
  have HX := Lib.hid hx; clear hx
  have HR := Lib.hid hreg; clear hreg
  have HBY := Lib.hid hby; clear hby
  go_enter Try.func43, Try.ntmps43
  go_wp2
  go_loopw [10] (fun i wr => ∃ k : Nat, k ≤ n ∧ i = .int .i64 k ∧ Kp [g] w wr ∧ Reg wr g (crcFrom r (xss.take k).flatten)) (fun i _ => n - (intOf i).toNat)
  case atStart => exact ⟨0, by omega, rfl, Kp.refl _ w, HR.out⟩
  case round =>
    obtain ⟨k, hk, rfl, hkp, hreg⟩ := hrel
    by_cases hlt : k < n
    · obtain ⟨xs, ad, Ai, ci, hxk, rfl, _, hcell, _, hrd⟩ := (HX.out.kp hkp (by simp; exact hB)).ix (i := k) (by have := HN.out; omega)
      have hlen : xs.length ≤ 1000000000 := by
        have := flat_take_le xss (k + 1)
        rw [flat_take_succ hxk, List.length_append] at this
        omega
      have hbx : Byt xs := HBY.out xs (List.mem_of_getElem? hxk)
      have hq1 := crc_flat_succ r hxk
      have hlt0 : crcFrom r (xss.take k).flatten < 4294967296 := crcFrom_lt hr (byt_flat fun y hy => HBY.out y (List.mem_of_mem_take hy))
      generalize hq : crcFrom r (xss.take k).flatten = q at *
      have HQ := Lib.hid hq; clear hq
      have HQ1 := Lib.hid hq1; clear hq1
      have HXK := Lib.hid hxk; clear hxk
      have HRD := Lib.hid hrd; clear hrd
      have HK := Lib.hid hkp; clear hkp
      have HRG := Lib.hid hreg; clear hreg
      have HBX := Lib.hid hbx; clear hbx
      obtain ⟨m, hm⟩ : ∃ m, m = xs.length := ⟨_, rfl⟩
      rw [← hm] at hcell hlen
      have HM := Lib.hid hm; clear hm
      go_wp2
      clear hcell
      obtain ⟨wo, rfl⟩ : ∃ wo : World, wo = wr := ⟨_, rfl⟩
      go_loopw [16] (fun i wi => ∃ j : Nat, j ≤ m ∧ i = .int .i64 j ∧ Kp [g] wo wi ∧ Reg wi g (crcFrom q (xs.take j))) (fun i _ => m - (intOf i).toNat)
      case atStart => exact ⟨0, by omega, rfl, Kp.refl _ _, HRG.out⟩
      case round =>
        obtain ⟨j, hj, rfl, hkj, hrj⟩ := hrel
        by_cases hjm : j < m
        · obtain ⟨x, bd, hxj, rfl, _, hcx⟩ := (HRD.out.kp hkj (by simp; exact hB)).ix (i := j) (by have := HM.out; omega)
          have hx0 := HBX.out.at_ hxj
          have hs1 := crc_take_succ q hxj
          have hltj : crcFrom q (xs.take j) < 4294967296 := crcFrom_lt hlt0 (HBX.out.take j)
          generalize hp : crcFrom q (xs.take j) = p at *
          have h0 : wr.cell? ⟨g, 0, none⟩ = some (.int .u32 p) := by rw [Blk.cell hrj]; rfl
          have hf0 := Blk.free hrj 0
          have hxor : bits .xor .u32 (p : Int) x = ((p ^^^ x.toNat : Nat) : Int) := by
            conv => lhs; rw [show x = ((x.toNat : Nat) : Int) from by omega]
            exact u32_xor_nat _ _ hltj (by omega)
          have hxl : p ^^^ x.toNat < 4294967296 := Nat.xor_lt_two_pow (n := 32) hltj (by omega)
          have hb8 : bstp p x.toNat = stpN 4 (stpN 4 (p ^^^ x.toNat)) := rfl
          rw [hb8] at hs1
          generalize hpx : p ^^^ x.toNat = px at *
          have HP := Lib.hid hp; clear hp
          have HPX := Lib.hid hpx; clear hpx
          have HS1 := Lib.hid hs1; clear hs1
          have HXJ := Lib.hid hxj; clear hxj
          have HKJ := Lib.hid hkj; clear hkj
          have HRJ := Lib.hid hrj; clear hrj
          clear hb8
          go_wp2
          have hr1 : Reg (wr.setCell ⟨g, 0, none⟩ (.int .u32 (px : Int))) g px := by simpa [Reg] using Blk.set_ HRJ.out 0 (.int .u32 (px : Int))
          have hk1 : Kp [g] wo (wr.setCell ⟨g, 0, none⟩ (.int .u32 (px : Int))) := HKJ.out.setCell (.inl (by simp)) _
          generalize wr.setCell ⟨g, 0, none⟩ (.int .u32 (px : Int)) = w1 at hr1 hk1 ⊢
          have HR1 := Lib.hid hr1; clear hr1
          have HK1 := Lib.hid hk1; clear hk1
          clear hcx h0 hf0 hxor
          go_region_with (go_at_call 51; refine (four_any g px _ hxl ?_).mono ?_; exact HR1.out; rintro e w2 ⟨rfl, hk2, hr2⟩)
          have hk3 : Kp [g] wo w2 := HK1.out.trans (show Kp [g] w1 w2 from ⟨hk2.os, hk2.tape, hk2.output, hk2.size, hk2.block⟩)
          have HR2 := Lib.hid hr2; clear hr2
          have HK3 := Lib.hid hk3; clear hk3 hk2 HK1 HR1
          go_wp2
          go_region_with (go_at_call 51; refine (four_any g _ _ (stpN_lt 4 hxl) ?_).mono ?_; exact HR2.out; rintro e w4 ⟨rfl, hk4, hr4⟩)
          have hk5 : Kp [g] wo w4 := HK3.out.trans (show Kp [g] w2 w4 from ⟨hk4.os, hk4.tape, hk4.output, hk4.size, hk4.block⟩)
          have HR4 := Lib.hid hr4; clear hr4
          have HK5 := Lib.hid hk5; clear hk5 hk4 HK3 HR2
          go_wp2
          go_roundw
          case rel => exact ⟨j + 1, by omega, by go_num, HK5.out, by rw [HS1.out]; exact HR4.out⟩
          case measure => simp [intOf]; omega
        · have hj' : j = m := by omega
          subst hj'
          have HKJ := Lib.hid hkj; clear hkj
          have HRJ := Lib.hid hrj; clear hrj
          go_wp2
          go_roundw
          case rel => exact ⟨k + 1, by omega, by go_num, HK.out.trans HKJ.out, by rw [HQ1.out]; have := HRJ.out; rwa [List.take_of_length_le (by have := HM.out; omega)] at this⟩
          case measure => simp [intOf]; omega
    · have hk' : k = n := by omega
      subst hk'
      have HK := Lib.hid hkp; clear hkp
      have HRG := Lib.hid hreg; clear hreg
      go_wp2
      go_end0
      refine ⟨rfl, HK.out, ?_⟩
      have := HRG.out
      rwa [List.take_of_length_le (by have := HN.out; omega)] at this

end Go.Proofs.Ytbikidbaiegehaa
