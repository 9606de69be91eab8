/-
  BitsRanks: the walk.
  CONDITIONS: none.
-/
import Derived.Test.YtifdphkocjjbiaaDoorBq
namespace Go.Proofs.YtifdphkocjjbiaaDoor
open Go.RowKit

theorem rankI_in {bs : List Bool} {k : Nat} (h : k ≤ bs.length) : rankI bs (k : Int) = cntI bs k := by
  unfold rankI
  rw [show (min (max (k : Int) 0) (bs.length : Int)).toNat = k by omega]
theorem getB_in {bs : List Bool} {k : Nat} {b : Bool} (h : bs[k]? = some b) : getB bs (k : Int) = b := by
  unfold getB
  rw [if_neg (by omega), Int.toNat_natCast, List.getD_eq_getElem?_getD, h]
  rfl
theorem cntI_succ {bs : List Bool} {k : Nat} {b : Bool} (h : bs[k]? = some b) : cntI bs (k + 1) = cntI bs k + b.toNat := by
  unfold cntI
  rw [take_succ_of h, List.count_append]
  cases b <;> rfl

set_option maxRecDepth 100000 in
set_option maxHeartbeats 8000000 in
theorem ranks_any (A : Option Addr) (n c B : Nat) (bs : List Bool) (w : World) (hx : Rd w B A (bs.map .bool)) (hn : bs.length = n) (ht : Tab64 w) :
    Calls Tryd.prog 3 #[.slice A n c] w fun e w' => e = .returned (.bool true) ∧ Kp [] w w' := by
  have HX := Lib.hid hx; clear hx
  have HN := Lib.hid hn; clear hn
  have HT := Lib.hid ht; clear ht
  go_enter Tryd.func3, Tryd.ntmps3
  go_wp2_with fail
  refine (bawake_any w HT.out).mono ?_
  rintro e w0 ⟨rfl, hk0⟩
  have HK0 := Lib.hid hk0; clear hk0
  by_cases hbig : 3000 < n
  · go_wp2_with fail
    go_ret
    exact ⟨rfl, HK0.out⟩
  have hn16 : n ≤ 16777216 := by omega
  go_wp2_with fail
  refine (bof_any A n c B bs w0 (HX.out.kp0 HK0.out) HN.out hn16).mono ?_
  rintro e w1 ⟨S0, p, rfl, hv, hS, hk⟩
  have HV := Lib.hid hv
  have HSB := Lib.hid (show ∀ x ∈ S0, w.heap.size ≤ x from fun x hx => Nat.le_trans HK0.out.size (hS x hx))
  have HK := Lib.hid (HK0.out.trans hk)
  clear hv hS hk
  go_wp2_with fail
  refine (vlen_any S0 p n bs false w1 HV.out HN.out).mono ?_
  rintro e w2 ⟨rfl, rfl⟩
  go_wp2_with fail
  refine (vrank_any S0 p 0 bs false w1 HV.out).mono ?_
  rw [show rankI bs 0 = 0 from by have := rankI_in (bs := bs) (k := 0) (Nat.zero_le _); simpa [cntI] using this]
  rintro e w2 ⟨rfl, hp⟩
  obtain ⟨S, hv2, hk2, hs2⟩ := first_count HK.out HSB.out hp
  have HV2 := Lib.hid hv2
  have HK2 := Lib.hid hk2
  have H0 := Lib.hid (show 0 ∉ S from fun h => by have := hs2 _ h; have := HT.out.lt; omega)
  clear hp hv2 hk2 hs2 HV HSB HK HK0
  obtain ⟨C, hC⟩ : ∃ C, C = bs.count true := ⟨_, rfl⟩
  have HC := Lib.hid hC; clear hC
  go_wp2_with fail
  refine (qrank (n : Int) HV2.out (N := C) (by rw [rankI_in (by rw [HN.out]; exact Nat.le_refl _), cntI_all (by rw [HN.out]; exact Nat.le_refl _), HC.out])).mono ?_
  rintro e w3 ⟨rfl, hk⟩
  have HV3 := Lib.hid (HV2.out.kp0 hk)
  have HK3 := Lib.hid (HK2.out.trans hk)
  clear hk HV2 HK2
  go_wp2_with fail
  refine (qones HV3.out HC.out.symm).mono ?_
  rintro e w4 ⟨rfl, hk⟩
  have HV4 := Lib.hid (HV3.out.kp0 hk)
  have HK4 := Lib.hid (HK3.out.trans hk)
  clear hk HV3 HK3
  go_wp2_with fail
  go_loopw [5, 6] (fun y x wr => ∃ k N : Nat, x = .int .i64 (k : Int) ∧ y = .int .i64 (N : Int) ∧ k ≤ n ∧ Hid (N = cntI bs k) ∧ Hid (VecM wr S p bs true) ∧ Hid (Kp [] w wr)) (fun _ x _ => n - (intOf x).toNat)
  case atStart => exact ⟨0, 0, rfl, rfl, by omega, Lib.hid (by simp [cntI]), HV4, HK4⟩
  case round =>
    clear HV4 HK4
    obtain ⟨k, N, rfl, rfl, hk, HNN, HV, HK⟩ := hrel
    have hNk : N ≤ 3000 := by have h1 := cntI_le bs k; rw [← HNN.out, HN.out] at h1; omega
    by_cases hlt : k < n
    · obtain ⟨b, hb⟩ : ∃ b, bs[k]? = some b := ⟨_, List.getElem?_eq_getElem (by rw [HN.out]; exact hlt)⟩
      obtain ⟨ad, rfl, _, hcx⟩ := (HX.out.kp0 HK.out).at_ (i := k) (u := .bool b) (by simp [hb])
      have HG := Lib.hid (getB_in hb)
      have HR := Lib.hid (show rankI bs (k : Int) = N by rw [rankI_in (by rw [HN.out]; omega), HNN.out])
      have hw1 : IntKind.i64.wrap ((k : Int) + 1) = (k : Int) + 1 := by rw [IntKind.wrap_i64]; omega
      have hw2 : IntKind.i64.wrap ((N : Int) + 1) = (N : Int) + 1 := by rw [IntKind.wrap_i64]; omega
      cases b with
      | true =>
        have HN1 := Lib.hid (show N + 1 = cntI bs (k + 1) by rw [cntI_succ hb, ← HNN.out]; rfl)
        have HR1 := Lib.hid (show rankI bs ((k : Int) + 1) = N + 1 by
          have := rankI_in (bs := bs) (k := k + 1) (by rw [HN.out]; omega)
          rw [← HN1.out] at this
          exact this)
        have HO := Lib.hid (selO_some (bs := bs) (k := (N : Int)) (i := k) (by omega) (by rw [Int.toNat_natCast]; exact ⟨hb, HNN.out.symm⟩))
        have HS1 := Lib.hid (show selI bs (N : Int) = (k : Int) by unfold selI; rw [HO.out]; rfl)
        have HS2 := Lib.hid (show selB bs (N : Int) = true by unfold selB; rw [HO.out]; rfl)
        clear hb HNN HO
        go_wp2_with fail
        refine wp_region_facts (by kernel_rfl) 111 [50, 51, 52, 53, 54, 55, 56, 57, 58, 59, 60, 61, 62, 63, 64] [[], [], [50, 51], [], [], [53, 54], [55], [52, 56], [57], [58], [58], [59, 60, 58], [58], [61, 62, 58], [58, 63]] (by kernel_rfl) (by kernel_rfl) rfl (factOf [(50, .eq (.pointer (some ⟨p, 0, none⟩))), (51, .eq (.int .i64 (k : Int))), (52, .eq (.bool true)), (53, .eq (.slice (some ad) n c)), (54, .eq (.int .i64 (k : Int))), (55, .eq (.pointer (some (ad.add k)))), (56, .eq (.bool true)), (57, .eq (.bool false)), (58, .eq (.bool false)), (59, .eq (.pointer (some ⟨p, 0, none⟩))), (60, .eq (.int .i64 (k : Int))), (61, .eq (.int .i64 (N : Int))), (62, .eq (.int .i64 (N : Int))), (63, .eq (.bool false)), (64, .eq (.bool false))]) (factOf_stable _) _ (fun x => by simp only [fillL, Nat.reduceAdd, Nat.reduceEqDiff, ↓reduceIte]; rfl) ?_ ?_
        · refine ⟨?_, ?_, ?_, ?_, ?_, ?_, ?_, ?_, ?_, ?_, ?_, ?_, ?_, ?_, ?_, trivial⟩
          · intro fx w' fa hk hd ev  -- 50 = Op.move (Operand.tmp 3)
            have e3 : fa.tmps[3]?.getD undef = .pointer (some ⟨p, 0, none⟩) := ev.old 3 rfl
            refine stepF_un rfl (fun K hK => ?_)
            exact stepF_val _ hK (run_move rfl e3 _) rfl
          · intro fx w' fa hk hd ev  -- 51 = Op.move (Operand.tmp 6)
            have e6 : fa.tmps[6]?.getD undef = .int .i64 (k : Int) := ev.old 6 rfl
            refine stepF_un rfl (fun K hK => ?_)
            exact stepF_val _ hK (run_move rfl e6 _) rfl
          · intro fx w' fa hk hd ev  -- 52 = Op.call { callee := Callee.value (Operand.func 13), args := 
            have h50 : fx 50 = .pointer (some ⟨p, 0, none⟩) := hd.1
            have e50 : fa.tmps[50]?.getD undef = .pointer (some ⟨p, 0, none⟩) := (ev.new 50 rfl).trans h50
            have h51 : fx 51 = .int .i64 (k : Int) := hd.2.1
            have e51 : fa.tmps[51]?.getD undef = .int .i64 (k : Int) := (ev.new 51 rfl).trans h51
            refine stepF_un rfl (fun K hK => ?_)
            go_simp
            refine (qget (k : Int) (HV.out.kp0 hk) HG.out).mono ?_
            rintro e w1 ⟨rfl, hk1⟩
            exact hK _ _ rfl hk1
          · intro fx w' fa hk hd ev  -- 53 = Op.move (Operand.tmp 0)
            have e0 : fa.tmps[0]?.getD undef = .slice (some ad) n c := ev.old 0 rfl
            refine stepF_un rfl (fun K hK => ?_)
            exact stepF_val _ hK (run_move rfl e0 _) rfl
          · intro fx w' fa hk hd ev  -- 54 = Op.move (Operand.tmp 6)
            have e6 : fa.tmps[6]?.getD undef = .int .i64 (k : Int) := ev.old 6 rfl
            refine stepF_un rfl (fun K hK => ?_)
            exact stepF_val _ hK (run_move rfl e6 _) rfl
          · intro fx w' fa hk hd ev  -- 55 = Op.indexAddr 22 (Operand.tmp 53) (Operand.tmp 54)
            have h53 : fx 53 = .slice (some ad) n c := hd.1
            have e53 : fa.tmps[53]?.getD undef = .slice (some ad) n c := (ev.new 53 rfl).trans h53
            have h54 : fx 54 = .int .i64 (k : Int) := hd.2.1
            have e54 : fa.tmps[54]?.getD undef = .int .i64 (k : Int) := (ev.new 54 rfl).trans h54
            refine stepF_un rfl (fun K hK => ?_)
            have hz0 : (0 : Int) ≤ (k : Int) := by omega
            have hz1 : (k : Int) < (n : Int) := by omega
            go_simp
            exact hK _ _ rfl (Kp.refl _ _)
          · intro fx w' fa hk hd ev  -- 56 = Op.load 4 (Operand.tmp 55)
            have h55 : fx 55 = .pointer (some (ad.add k)) := hd.1
            have e55 : fa.tmps[55]?.getD undef = .pointer (some (ad.add k)) := (ev.new 55 rfl).trans h55
            refine stepF_un rfl (fun K hK => ?_)
            have cx := hk.cell hcx (by simp)
            go_simp
            exact hK _ _ rfl (Kp.refl _ _)
          · intro fx w' fa hk hd ev  -- 57 = Op.binOp BinOp.neq 4 (Operand.tmp 52) (Operand.tmp 56) 4
            have h52 : fx 52 = .bool true := hd.1
            have e52 : fa.tmps[52]?.getD undef = .bool true := (ev.new 52 rfl).trans h52
            have h56 : fx 56 = .bool true := hd.2.1
            have e56 : fa.tmps[56]?.getD undef = .bool true := (ev.new 56 rfl).trans h56
            refine stepF_un rfl (fun K hK => ?_)
            go_simp
            exact hK _ _ rfl (Kp.refl _ _)
          · intro fx w' fa hk hd ev  -- 58 = Op.move (Operand.tmp 57)
            have h57 : fx 57 = .bool false := hd.1
            have e57 : fa.tmps[57]?.getD undef = .bool false := (ev.new 57 rfl).trans h57
            refine stepF_un rfl (fun K hK => ?_)
            exact stepF_val _ hK (run_move rfl e57 _) rfl
          · intro fx w' fa hk hd ev  -- 59 = Op.move (Operand.tmp 3)
            have h58 : fx 58 = .bool false := hd.1
            have e58 : fa.tmps[58]?.getD undef = .bool false := (ev.new 58 rfl).trans h58
            have e3 : fa.tmps[3]?.getD undef = .pointer (some ⟨p, 0, none⟩) := ev.old 3 rfl
            refine stepF_yes (i := 8) (g := 58) (b := false) rfl rfl rfl e58 (fun K hK => ?_)
            exact stepF_val _ hK (run_move rfl e3 _) rfl
          · intro fx w' fa hk hd ev  -- 60 = Op.move (Operand.tmp 6)
            have h58 : fx 58 = .bool false := hd.1
            have e58 : fa.tmps[58]?.getD undef = .bool false := (ev.new 58 rfl).trans h58
            have e6 : fa.tmps[6]?.getD undef = .int .i64 (k : Int) := ev.old 6 rfl
            refine stepF_yes (i := 8) (g := 58) (b := false) rfl rfl rfl e58 (fun K hK => ?_)
            exact stepF_val _ hK (run_move rfl e6 _) rfl
          · intro fx w' fa hk hd ev  -- 61 = Op.call { callee := Callee.value (Operand.func 11), args := 
            have h59 : fx 59 = .pointer (some ⟨p, 0, none⟩) := hd.1
            have e59 : fa.tmps[59]?.getD undef = .pointer (some ⟨p, 0, none⟩) := (ev.new 59 rfl).trans h59
            have h60 : fx 60 = .int .i64 (k : Int) := hd.2.1
            have e60 : fa.tmps[60]?.getD undef = .int .i64 (k : Int) := (ev.new 60 rfl).trans h60
            have h58 : fx 58 = .bool false := hd.2.2.1
            have e58 : fa.tmps[58]?.getD undef = .bool false := (ev.new 58 rfl).trans h58
            refine stepF_yes (i := 8) (g := 58) (b := false) rfl rfl rfl e58 (fun K hK => ?_)
            go_simp
            refine (qrank (k : Int) (HV.out.kp0 hk) HR.out).mono ?_
            rintro e w1 ⟨rfl, hk1⟩
            exact hK _ _ rfl hk1
          · intro fx w' fa hk hd ev  -- 62 = Op.move (Operand.tmp 5)
            have h58 : fx 58 = .bool false := hd.1
            have e58 : fa.tmps[58]?.getD undef = .bool false := (ev.new 58 rfl).trans h58
            have e5 : fa.tmps[5]?.getD undef = .int .i64 (N : Int) := ev.old 5 rfl
            refine stepF_yes (i := 8) (g := 58) (b := false) rfl rfl rfl e58 (fun K hK => ?_)
            exact stepF_val _ hK (run_move rfl e5 _) rfl
          · intro fx w' fa hk hd ev  -- 63 = Op.binOp BinOp.neq 3 (Operand.tmp 61) (Operand.tmp 62) 3
            have h61 : fx 61 = .int .i64 (N : Int) := hd.1
            have e61 : fa.tmps[61]?.getD undef = .int .i64 (N : Int) := (ev.new 61 rfl).trans h61
            have h62 : fx 62 = .int .i64 (N : Int) := hd.2.1
            have e62 : fa.tmps[62]?.getD undef = .int .i64 (N : Int) := (ev.new 62 rfl).trans h62
            have h58 : fx 58 = .bool false := hd.2.2.1
            have e58 : fa.tmps[58]?.getD undef = .bool false := (ev.new 58 rfl).trans h58
            refine stepF_yes (i := 8) (g := 58) (b := false) rfl rfl rfl e58 (fun K hK => ?_)
            go_simp
            exact hK _ _ rfl (Kp.refl _ _)
          · intro fx w' fa hk hd ev  -- 64 = Op.pick (Operand.tmp 58) (Operand.const (Value.bool true)) (
            have h58 : fx 58 = .bool false := hd.1
            have e58 : fa.tmps[58]?.getD undef = .bool false := (ev.new 58 rfl).trans h58
            have h63 : fx 63 = .bool false := hd.2.1
            have e63 : fa.tmps[63]?.getD undef = .bool false := (ev.new 63 rfl).trans h63
            refine stepF_un rfl (fun K hK => ?_)
            go_simp
            exact hK _ _ rfl (Kp.refl _ _)
        · intro fx w' hk hd
          have h50 : fx 50 = .pointer (some ⟨p, 0, none⟩) := hd.1
          have h51 : fx 51 = .int .i64 (k : Int) := hd.2.1
          have h52 : fx 52 = .bool true := hd.2.2.1
          have h53 : fx 53 = .slice (some ad) n c := hd.2.2.2.1
          have h54 : fx 54 = .int .i64 (k : Int) := hd.2.2.2.2.1
          have h55 : fx 55 = .pointer (some (ad.add k)) := hd.2.2.2.2.2.1
          have h56 : fx 56 = .bool true := hd.2.2.2.2.2.2.1
          have h57 : fx 57 = .bool false := hd.2.2.2.2.2.2.2.1
          have h58 : fx 58 = .bool false := hd.2.2.2.2.2.2.2.2.1
          have h59 : fx 59 = .pointer (some ⟨p, 0, none⟩) := hd.2.2.2.2.2.2.2.2.2.1
          have h60 : fx 60 = .int .i64 (k : Int) := hd.2.2.2.2.2.2.2.2.2.2.1
          have h61 : fx 61 = .int .i64 (N : Int) := hd.2.2.2.2.2.2.2.2.2.2.2.1
          have h62 : fx 62 = .int .i64 (N : Int) := hd.2.2.2.2.2.2.2.2.2.2.2.2.1
          have h63 : fx 63 = .bool false := hd.2.2.2.2.2.2.2.2.2.2.2.2.2.1
          have h64 : fx 64 = .bool false := hd.2.2.2.2.2.2.2.2.2.2.2.2.2.2.1
          have HK5 := Lib.hid hk
          have HV5 := Lib.hid (HV.out.kp0 HK5.out)
          have HKW := Lib.hid (HK.out.trans HK5.out)
          have hcx5 := HK5.out.cell hcx (by simp)
          rw [h64]
          clear hk hd HV HK hcx
          go_wp2_with fail
          refine (qselect (N : Int) HV5.out (HT.out.kp0 HKW.out) H0.out HS1.out HS2.out).mono ?_
          rintro e w7 ⟨rfl, hk7⟩
          have HV7 := Lib.hid (HV5.out.kp0 hk7)
          have HK7 := Lib.hid (HKW.out.trans hk7)
          clear hk7 HV5 HKW
          go_wp2_with fail
          refine (qrank (k : Int) HV7.out HR.out).mono ?_
          rintro e w8 ⟨rfl, hk8⟩
          have HV8 := Lib.hid (HV7.out.kp0 hk8)
          have HK8 := Lib.hid (HK7.out.trans hk8)
          clear hk8 HV7 HK7
          go_wp2_with fail
          refine (qrank ((k : Int) + 1) HV8.out HR1.out).mono ?_
          rintro e w9 ⟨rfl, hk9⟩
          have HV9 := Lib.hid (HV8.out.kp0 hk9)
          have HK9 := Lib.hid (HK8.out.trans hk9)
          clear hk9 HV8 HK8
          go_wp2_with fail
          exact ⟨⟨k + 1, N + 1, by go_num, by go_num, by omega, HN1, HV9, HK9⟩, by simp [intOf]; omega⟩
      | false =>
        have HN1 := Lib.hid (show N = cntI bs (k + 1) by rw [cntI_succ hb, ← HNN.out]; rfl)
        have HR1 := Lib.hid (show rankI bs ((k : Int) + 1) = N by
          have := rankI_in (bs := bs) (k := k + 1) (by rw [HN.out]; omega)
          rw [← HN1.out] at this
          exact this)
        clear hb HNN
        go_wp2_with fail
        refine wp_region_facts (by kernel_rfl) 111 [50, 51, 52, 53, 54, 55, 56, 57, 58, 59, 60, 61, 62, 63, 64] [[], [], [50, 51], [], [], [53, 54], [55], [52, 56], [57], [58], [58], [59, 60, 58], [58], [61, 62, 58], [58, 63]] (by kernel_rfl) (by kernel_rfl) rfl (factOf [(50, .eq (.pointer (some ⟨p, 0, none⟩))), (51, .eq (.int .i64 (k : Int))), (52, .eq (.bool false)), (53, .eq (.slice (some ad) n c)), (54, .eq (.int .i64 (k : Int))), (55, .eq (.pointer (some (ad.add k)))), (56, .eq (.bool false)), (57, .eq (.bool false)), (58, .eq (.bool false)), (59, .eq (.pointer (some ⟨p, 0, none⟩))), (60, .eq (.int .i64 (k : Int))), (61, .eq (.int .i64 (N : Int))), (62, .eq (.int .i64 (N : Int))), (63, .eq (.bool false)), (64, .eq (.bool false))]) (factOf_stable _) _ (fun x => by simp only [fillL, Nat.reduceAdd, Nat.reduceEqDiff, ↓reduceIte]; rfl) ?_ ?_
        · refine ⟨?_, ?_, ?_, ?_, ?_, ?_, ?_, ?_, ?_, ?_, ?_, ?_, ?_, ?_, ?_, trivial⟩
          · intro fx w' fa hk hd ev  -- 50 = Op.move (Operand.tmp 3)
            have e3 : fa.tmps[3]?.getD undef = .pointer (some ⟨p, 0, none⟩) := ev.old 3 rfl
            refine stepF_un rfl (fun K hK => ?_)
            exact stepF_val _ hK (run_move rfl e3 _) rfl
          · intro fx w' fa hk hd ev  -- 51 = Op.move (Operand.tmp 6)
            have e6 : fa.tmps[6]?.getD undef = .int .i64 (k : Int) := ev.old 6 rfl
            refine stepF_un rfl (fun K hK => ?_)
            exact stepF_val _ hK (run_move rfl e6 _) rfl
          · intro fx w' fa hk hd ev  -- 52 = Op.call { callee := Callee.value (Operand.func 13), args := 
            have h50 : fx 50 = .pointer (some ⟨p, 0, none⟩) := hd.1
            have e50 : fa.tmps[50]?.getD undef = .pointer (some ⟨p, 0, none⟩) := (ev.new 50 rfl).trans h50
            have h51 : fx 51 = .int .i64 (k : Int) := hd.2.1
            have e51 : fa.tmps[51]?.getD undef = .int .i64 (k : Int) := (ev.new 51 rfl).trans h51
            refine stepF_un rfl (fun K hK => ?_)
            go_simp
            refine (qget (k : Int) (HV.out.kp0 hk) HG.out).mono ?_
            rintro e w1 ⟨rfl, hk1⟩
            exact hK _ _ rfl hk1
          · intro fx w' fa hk hd ev  -- 53 = Op.move (Operand.tmp 0)
            have e0 : fa.tmps[0]?.getD undef = .slice (some ad) n c := ev.old 0 rfl
            refine stepF_un rfl (fun K hK => ?_)
            exact stepF_val _ hK (run_move rfl e0 _) rfl
          · intro fx w' fa hk hd ev  -- 54 = Op.move (Operand.tmp 6)
            have e6 : fa.tmps[6]?.getD undef = .int .i64 (k : Int) := ev.old 6 rfl
            refine stepF_un rfl (fun K hK => ?_)
            exact stepF_val _ hK (run_move rfl e6 _) rfl
          · intro fx w' fa hk hd ev  -- 55 = Op.indexAddr 22 (Operand.tmp 53) (Operand.tmp 54)
            have h53 : fx 53 = .slice (some ad) n c := hd.1
            have e53 : fa.tmps[53]?.getD undef = .slice (some ad) n c := (ev.new 53 rfl).trans h53
            have h54 : fx 54 = .int .i64 (k : Int) := hd.2.1
            have e54 : fa.tmps[54]?.getD undef = .int .i64 (k : Int) := (ev.new 54 rfl).trans h54
            refine stepF_un rfl (fun K hK => ?_)
            have hz0 : (0 : Int) ≤ (k : Int) := by omega
            have hz1 : (k : Int) < (n : Int) := by omega
            go_simp
            exact hK _ _ rfl (Kp.refl _ _)
          · intro fx w' fa hk hd ev  -- 56 = Op.load 4 (Operand.tmp 55)
            have h55 : fx 55 = .pointer (some (ad.add k)) := hd.1
            have e55 : fa.tmps[55]?.getD undef = .pointer (some (ad.add k)) := (ev.new 55 rfl).trans h55
            refine stepF_un rfl (fun K hK => ?_)
            have cx := hk.cell hcx (by simp)
            go_simp
            exact hK _ _ rfl (Kp.refl _ _)
          · intro fx w' fa hk hd ev  -- 57 = Op.binOp BinOp.neq 4 (Operand.tmp 52) (Operand.tmp 56) 4
            have h52 : fx 52 = .bool false := hd.1
            have e52 : fa.tmps[52]?.getD undef = .bool false := (ev.new 52 rfl).trans h52
            have h56 : fx 56 = .bool false := hd.2.1
            have e56 : fa.tmps[56]?.getD undef = .bool false := (ev.new 56 rfl).trans h56
            refine stepF_un rfl (fun K hK => ?_)
            go_simp
            exact hK _ _ rfl (Kp.refl _ _)
          · intro fx w' fa hk hd ev  -- 58 = Op.move (Operand.tmp 57)
            have h57 : fx 57 = .bool false := hd.1
            have e57 : fa.tmps[57]?.getD undef = .bool false := (ev.new 57 rfl).trans h57
            refine stepF_un rfl (fun K hK => ?_)
            exact stepF_val _ hK (run_move rfl e57 _) rfl
          · intro fx w' fa hk hd ev  -- 59 = Op.move (Operand.tmp 3)
            have h58 : fx 58 = .bool false := hd.1
            have e58 : fa.tmps[58]?.getD undef = .bool false := (ev.new 58 rfl).trans h58
            have e3 : fa.tmps[3]?.getD undef = .pointer (some ⟨p, 0, none⟩) := ev.old 3 rfl
            refine stepF_yes (i := 8) (g := 58) (b := false) rfl rfl rfl e58 (fun K hK => ?_)
            exact stepF_val _ hK (run_move rfl e3 _) rfl
          · intro fx w' fa hk hd ev  -- 60 = Op.move (Operand.tmp 6)
            have h58 : fx 58 = .bool false := hd.1
            have e58 : fa.tmps[58]?.getD undef = .bool false := (ev.new 58 rfl).trans h58
            have e6 : fa.tmps[6]?.getD undef = .int .i64 (k : Int) := ev.old 6 rfl
            refine stepF_yes (i := 8) (g := 58) (b := false) rfl rfl rfl e58 (fun K hK => ?_)
            exact stepF_val _ hK (run_move rfl e6 _) rfl
          · intro fx w' fa hk hd ev  -- 61 = Op.call { callee := Callee.value (Operand.func 11), args := 
            have h59 : fx 59 = .pointer (some ⟨p, 0, none⟩) := hd.1
            have e59 : fa.tmps[59]?.getD undef = .pointer (some ⟨p, 0, none⟩) := (ev.new 59 rfl).trans h59
            have h60 : fx 60 = .int .i64 (k : Int) := hd.2.1
            have e60 : fa.tmps[60]?.getD undef = .int .i64 (k : Int) := (ev.new 60 rfl).trans h60
            have h58 : fx 58 = .bool false := hd.2.2.1
            have e58 : fa.tmps[58]?.getD undef = .bool false := (ev.new 58 rfl).trans h58
            refine stepF_yes (i := 8) (g := 58) (b := false) rfl rfl rfl e58 (fun K hK => ?_)
            go_simp
            refine (qrank (k : Int) (HV.out.kp0 hk) HR.out).mono ?_
            rintro e w1 ⟨rfl, hk1⟩
            exact hK _ _ rfl hk1
          · intro fx w' fa hk hd ev  -- 62 = Op.move (Operand.tmp 5)
            have h58 : fx 58 = .bool false := hd.1
            have e58 : fa.tmps[58]?.getD undef = .bool false := (ev.new 58 rfl).trans h58
            have e5 : fa.tmps[5]?.getD undef = .int .i64 (N : Int) := ev.old 5 rfl
            refine stepF_yes (i := 8) (g := 58) (b := false) rfl rfl rfl e58 (fun K hK => ?_)
            exact stepF_val _ hK (run_move rfl e5 _) rfl
          · intro fx w' fa hk hd ev  -- 63 = Op.binOp BinOp.neq 3 (Operand.tmp 61) (Operand.tmp 62) 3
            have h61 : fx 61 = .int .i64 (N : Int) := hd.1
            have e61 : fa.tmps[61]?.getD undef = .int .i64 (N : Int) := (ev.new 61 rfl).trans h61
            have h62 : fx 62 = .int .i64 (N : Int) := hd.2.1
            have e62 : fa.tmps[62]?.getD undef = .int .i64 (N : Int) := (ev.new 62 rfl).trans h62
            have h58 : fx 58 = .bool false := hd.2.2.1
            have e58 : fa.tmps[58]?.getD undef = .bool false := (ev.new 58 rfl).trans h58
            refine stepF_yes (i := 8) (g := 58) (b := false) rfl rfl rfl e58 (fun K hK => ?_)
            go_simp
            exact hK _ _ rfl (Kp.refl _ _)
          · intro fx w' fa hk hd ev  -- 64 = Op.pick (Operand.tmp 58) (Operand.const (Value.bool true)) (
            have h58 : fx 58 = .bool false := hd.1
            have e58 : fa.tmps[58]?.getD undef = .bool false := (ev.new 58 rfl).trans h58
            have h63 : fx 63 = .bool false := hd.2.1
            have e63 : fa.tmps[63]?.getD undef = .bool false := (ev.new 63 rfl).trans h63
            refine stepF_un rfl (fun K hK => ?_)
            go_simp
            exact hK _ _ rfl (Kp.refl _ _)
        · intro fx w' hk hd
          have h50 : fx 50 = .pointer (some ⟨p, 0, none⟩) := hd.1
          have h51 : fx 51 = .int .i64 (k : Int) := hd.2.1
          have h52 : fx 52 = .bool false := hd.2.2.1
          have h53 : fx 53 = .slice (some ad) n c := hd.2.2.2.1
          have h54 : fx 54 = .int .i64 (k : Int) := hd.2.2.2.2.1
          have h55 : fx 55 = .pointer (some (ad.add k)) := hd.2.2.2.2.2.1
          have h56 : fx 56 = .bool false := hd.2.2.2.2.2.2.1
          have h57 : fx 57 = .bool false := hd.2.2.2.2.2.2.2.1
          have h58 : fx 58 = .bool false := hd.2.2.2.2.2.2.2.2.1
          have h59 : fx 59 = .pointer (some ⟨p, 0, none⟩) := hd.2.2.2.2.2.2.2.2.2.1
          have h60 : fx 60 = .int .i64 (k : Int) := hd.2.2.2.2.2.2.2.2.2.2.1
          have h61 : fx 61 = .int .i64 (N : Int) := hd.2.2.2.2.2.2.2.2.2.2.2.1
          have h62 : fx 62 = .int .i64 (N : Int) := hd.2.2.2.2.2.2.2.2.2.2.2.2.1
          have h63 : fx 63 = .bool false := hd.2.2.2.2.2.2.2.2.2.2.2.2.2.1
          have h64 : fx 64 = .bool false := hd.2.2.2.2.2.2.2.2.2.2.2.2.2.2.1
          have HK5 := Lib.hid hk
          have HV5 := Lib.hid (HV.out.kp0 HK5.out)
          have HKW := Lib.hid (HK.out.trans HK5.out)
          have hcx5 := HK5.out.cell hcx (by simp)
          rw [h64]
          clear hk hd HV HK hcx
          go_wp2_with fail
          refine (qrank ((k : Int) + 1) HV5.out HR1.out).mono ?_
          rintro e w7 ⟨rfl, hk7⟩
          have HV7 := Lib.hid (HV5.out.kp0 hk7)
          have HK7 := Lib.hid (HKW.out.trans hk7)
          clear hk7 HV5 HKW
          go_wp2_with fail
          exact ⟨⟨k + 1, N, by go_num, rfl, by omega, HN1, HV7, HK7⟩, by simp [intOf]; omega⟩
    · obtain rfl : n = k := by omega
      have HNC := Lib.hid (show bs.count true = N by rw [HNN.out, cntI_all (by rw [HN.out]; exact Nat.le_refl _)])
      have HO := Lib.hid (selO_none (bs := bs) (k := (N : Int)) (.inr (by rw [HNC.out]; exact Int.le_refl _)))
      have HS1 := Lib.hid (show selI bs (N : Int) = 0 by unfold selI; rw [HO.out]; rfl)
      have HS2 := Lib.hid (show selB bs (N : Int) = false by unfold selB; rw [HO.out]; rfl)
      clear HNN HO
      go_wp2_with fail
      refine (qselect (N : Int) HV.out (HT.out.kp0 HK.out) H0.out HS1.out HS2.out).mono ?_
      rintro e w7 ⟨rfl, hk7⟩
      have HV7 := Lib.hid (HV.out.kp0 hk7)
      have HK7 := Lib.hid (HK.out.trans hk7)
      clear hk7 HV HK
      go_wp2_with fail
      refine (qones HV7.out HNC.out).mono ?_
      rintro e w8 ⟨rfl, hk8⟩
      have HK8 := Lib.hid (HK7.out.trans hk8)
      clear hk8
      go_wp2_with fail
      go_ret
      exact ⟨rfl, HK8.out⟩
end Go.Proofs.YtifdphkocjjbiaaDoor
