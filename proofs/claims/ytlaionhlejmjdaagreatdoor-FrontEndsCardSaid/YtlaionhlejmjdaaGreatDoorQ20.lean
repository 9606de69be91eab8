/-
  LAYER 1: Set, walked.
  CONDITIONS: as it says.
-/
import Derived.Test.YtlaionhlejmjdaaGreatDoorQ19
namespace Go.Proofs.YtlaionhlejmjdaaGreatDoor
open Go.RowKit

theorem u64_andNot_ (a b : Nat) (ha : a < 2 ^ 64) (hb : b < 2 ^ 64) : bits .andNot .u64 (a : Int) (b : Int) = ((a &&& (2 ^ 64 - 1 - b) : Nat) : Int) := u64_andNot_nat a b (by omega) (by omega)
def badL (n : Nat) (l : List Int) : Bool := l.any fun x => !decide (0 ≤ x ∧ x < (n : Int))
theorem badL_in {n : Nat} {l : List Int} (h : badL n l = false) : ∀ x ∈ l, 0 ≤ x ∧ x < (n : Int) := by
  intro x hx
  have := (List.any_eq_false.1 h) x hx
  simpa using this

set_option maxRecDepth 100000 in
set_option maxHeartbeats 4000000 in
theorem vset_any (S : List Nat) (p n m c B : Nat) (one : Bool) (A : Option Addr) (l : List Int) (bs : List Bool) (cf : Bool) (w : World) (h : VecM w S p bs cf) (hn : bs.length = n) (hx : Rd w B A (l.map (.int .i64))) (hl : l.length = m) (hm : m ≤ 1000000000) (hA : ∀ ad, A = some ad → ad.block ∉ S) :
    Calls Tryz.prog 88 #[.pointer (some ⟨p, 0, none⟩), .bool one, .slice A m c] w fun e w' => (badL n l = true ∧ e = .returned (.int .i64 6) ∧ Kp [] w w') ∨ (badL n l = false ∧ e = .returned (.int .i64 0) ∧ VecM w' S p (setL bs one l) false ∧ Kp S w w') := by
  have HX := Lib.hid hx
  have HL := Lib.hid hl
  have HV := Lib.hid h
  have HN := Lib.hid hn
  have HAS := Lib.hid hA
  clear hx hl hn hA h
  obtain ⟨q, hq⟩ : ∃ q, q = badL n l := ⟨_, rfl⟩
  have HQ := Lib.hid hq; clear hq
  go_enter Tryz.func88, Tryz.ntmps88
  go_wp2_with fail
  obtain ⟨w1, hw1⟩ : ∃ w1, w1 = w.alloc (.cells #[.pointer (some ⟨p, 0, none⟩)] 44) := ⟨_, rfl⟩
  obtain ⟨b1, hb1⟩ : ∃ b1, b1 = w.heap.size := ⟨_, rfl⟩
  have HK1 := Lib.hid (show Kp [] w w1 by rw [hw1]; exact (Kp.refl [] w).alloc _)
  have HBS := Lib.hid (show b1 ∉ S from fun hm => by have := HV.out.lt _ hm; omega)
  have c1 : w1.cell? ⟨b1, 0, none⟩ = some (.pointer (some ⟨p, 0, none⟩)) := by
    rw [hw1, hb1]
    exact (Blk.new w 44 [.pointer (some ⟨p, 0, none⟩)]).cell 0
  rw [← hw1, ← hb1]
  have HV1 := Lib.hid (HV.out.kp0 HK1.out)
  clear hw1 hb1
  go_wp2_with fail
  refine (vthere_any S p bs cf w1 HV1.out).mono ?_
  rintro e w2 ⟨rfl, rfl⟩
  go_wp2_with fail
  refine (contains_any 102 m c B A _ (fun x => !decide (0 ≤ x ∧ x < (n : Int))) l w1 (HX.out.kp0 HK1.out) HL.out hm (enters_fn Tryz.func102 (by kernel_rfl) rfl) (fun x _ => setc_any S p n b1 x bs cf w1 HV1.out HN.out c1)).mono ?_
  rw [show (l.any fun x => !decide (0 ≤ x ∧ x < (n : Int))) = q from HQ.out.symm]
  rintro e w2 ⟨rfl, rfl⟩
  cases q with
  | true =>
    go_wp2_with fail
    go_ret
    exact .inl ⟨HQ.out.symm, rfl, HK1.out⟩
  | false =>
    have HIN := Lib.hid (badL_in HQ.out.symm)
    go_wp2_with fail
    go_loopw [17] (fun x wr => ∃ k : Nat, x = .int .i64 (k : Int) ∧ k ≤ m ∧ Hid (VecW wr S p (setL bs one (l.take k)) cf) ∧ Hid (Kp S w1 wr)) (fun x _ => m - (intOf x).toNat)
    case atStart => exact ⟨0, rfl, by omega, Lib.hid HV1.out.w, Lib.hid (Kp.refl S w1)⟩
    case round =>
      have C1 := Lib.hid c1
      clear c1
      obtain ⟨k, rfl, hk, HW, HK⟩ := hrel
      have c1 := HK.out.cell C1.out HBS.out
      by_cases hlt : k < m
      · obtain ⟨x, ad, hxk, rfl, _, hcx⟩ := ((HX.out.kp0 HK1.out).kp_ne HK.out HAS.out).ix (i := k) (by rw [HL.out]; exact hlt)
        have hxi := HIN.out x (List.mem_of_getElem? hxk)
        obtain ⟨I, rfl⟩ : ∃ I : Nat, x = (I : Int) := ⟨x.toNat, by omega⟩
        have hlen : (setL bs one (l.take k)).length = n := by rw [setL_len, HN.out]
        have HST := Lib.hid (show setL bs one (l.take (k + 1)) = (setL bs one (l.take k)).set I one by rw [take_succ_of hxk, setL_snoc, Int.toNat_natCast])
        have hIn : I < (setL bs one (l.take k)).length := by rw [hlen]; omega
        have hI16 : I ≤ 16777216 := by
          obtain ⟨_, _, _, _, _, _, _, _, _, _, _, h6, _⟩ := HW.out
          omega
        have hIn2 : I < ((setL bs one (l.take k)).set I false).length := by rw [List.length_set]; exact hIn
        have HI2 := Lib.hid hIn2
        obtain ⟨g, M, y, hgS, c0, hqM, hMb, cy, cf1, hyb, hput, _, hclr⟩ := HW.out.put hIn
        have hWn := hput _ false hclr
        obtain ⟨q, hq⟩ : ∃ q, q = I / 64 := ⟨_, rfl⟩
        obtain ⟨r, hr⟩ : ∃ r, r = I % 64 := ⟨_, rfl⟩
        have hr64 : r < 64 := by omega
        obtain ⟨T, hT⟩ : ∃ T, T = 2 ^ r := ⟨_, rfl⟩
        have hTb : T < 2 ^ 64 := by rw [hT]; exact Nat.pow_lt_pow_right (by decide) hr64
        obtain ⟨Z, hZ⟩ : ∃ Z, Z = y &&& (2 ^ 64 - 1 - T) := ⟨_, rfl⟩
        have hand : bits .andNot .u64 (y : Int) (T : Int) = (Z : Int) := by rw [hZ]; exact u64_andNot_ y T hyb hTb
        rw [← hq, ← hr, ← hT, ← hZ] at hWn
        rw [← hq] at cy cf1 hqM
        have HQR := Lib.hid (show q = I / 64 ∧ r = I % 64 ∧ T = 2 ^ r from ⟨hq, hr, hT⟩)
        have HWn := Lib.hid hWn
        have HGS := Lib.hid hgS
        have hdiv : (I : Int).tdiv 64 = (q : Int) := by rw [Int.tdiv_eq_ediv_of_nonneg (by omega)]; omega
        have hmod : (I : Int).tmod 64 = (r : Int) := by rw [Int.tmod_eq_emod_of_nonneg (by omega)]; omega
        have hwq : IntKind.i64.wrap (q : Int) = (q : Int) := by rw [IntKind.wrap_i64]; omega
        have hwr : IntKind.i64.wrap (r : Int) = (r : Int) := by rw [IntKind.wrap_i64]; omega
        have hsh : IntKind.u64.wrap (1 * 2 ^ min r 64) = (T : Int) := by
          have e : (1 : Int) * 2 ^ min r 64 = ((2 ^ r : Nat) : Int) := by rw [show min r 64 = r from by omega]; simp
          rw [e, ← hT, u64_wrap_nat, Nat.mod_eq_of_lt hTb]
        have hsh' : IntKind.u64.wrap (2 ^ min r 64) = (T : Int) := by rw [Int.one_mul] at hsh; exact hsh
        have hsh2 : IntKind.u64.wrap (2 ^ r) = (T : Int) := by rw [show min r 64 = r from by omega] at hsh'; exact hsh'
        have hqi : (q : Int) < (M : Int) := by omega
        have hI0 : (0 : Int) ≤ (I : Int) := by omega
        clear hxk hxi hlen hIn hIn2 hput hclr hWn hq hr hT hZ hgS HW
        go_wp2_with fail
        go_region
        obtain ⟨w3, hw3⟩ : ∃ w3, w3 = (wr.setCell ⟨g, q, none⟩ (.int .u64 (Z : Int))).drew := ⟨_, rfl⟩
        rw [← hw3]
        have HK3 := Lib.hid (show Kp S w1 w3 by rw [hw3]; exact (HK.out.setCell (.inl HGS.out) _).drew)
        have HW3 := Lib.hid (show VecW w3 S p ((setL bs one (l.take k)).set I false) cf by rw [hw3]; exact HWn.out.kp0 (Kp.refl [] _).drew)
        clear hw3 c0 cy cf1 hcx c1 HK hand hyb
        have c1 := HK3.out.cell C1.out HBS.out
        cases one with
        | false =>
          have HW4 := Lib.hid (show VecW w3 S p (setL bs false (l.take (k + 1))) cf by rw [HST.out]; exact HW3.out)
          go_wp2_with fail
          exact ⟨⟨k + 1, by go_num, by omega, HW4, HK3⟩, by simp [intOf]; omega⟩
        | true =>
          obtain ⟨g2, M2, y2, hgS2, c02, hqM2, hMb2, cy2, cf2, hyb2, hput2, hor2, _⟩ := HW3.out.put HI2.out
          have hWn2 := hput2 _ true hor2
          obtain ⟨Z2, hZ2⟩ : ∃ Z2, Z2 = y2 ||| T := ⟨_, rfl⟩
          have hor : bits .or .u64 (y2 : Int) (T : Int) = (Z2 : Int) := by rw [hZ2]; exact u64_or_nat y2 T (by omega) (by omega)
          rw [List.set_set, ← HQR.out.1, ← HQR.out.2.1, ← HQR.out.2.2, ← hZ2, show (setL bs true (l.take k)).set I true = setL bs true (l.take (k + 1)) from HST.out.symm] at hWn2
          rw [← HQR.out.1] at cy2 cf2 hqM2
          have HWn2 := Lib.hid hWn2
          have HGS2 := Lib.hid hgS2
          have hqi2 : (q : Int) < (M2 : Int) := by omega
          clear hput2 hor2 hWn2 hgS2 hZ2 HW3 hyb2
          go_wp2_with fail
          go_region
          go_wp2_with fail
          exact ⟨⟨k + 1, by go_num, by omega, Lib.hid (HWn2.out.kp0 (Kp.refl [] _).drew), Lib.hid ((HK3.out.setCell (.inl HGS2.out) _).drew)⟩, by simp [intOf]; omega⟩
      · obtain rfl : m = k := by omega
        have HW2 := Lib.hid (show VecW wr S p (setL bs one l) cf by
          have h := HW.out
          rwa [List.take_of_length_le (by rw [HL.out]; exact Nat.le_refl _)] at h)
        obtain ⟨hpS, c2, cf2⟩ := HW2.out.fin_ask
        have HPS := Lib.hid hpS
        clear hpS HW
        go_wp2_with fail
        go_ret
        exact .inr ⟨HQ.out.symm, rfl, HW2.out.fin, (HK1.out.mono (by simp)).trans (HK.out.setCell (.inl HPS.out) _)⟩
end Go.Proofs.YtlaionhlejmjdaaGreatDoor
