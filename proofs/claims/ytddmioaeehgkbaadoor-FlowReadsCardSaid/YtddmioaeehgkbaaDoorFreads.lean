/-
  FlowReads: the walk.
  CONDITIONS: the bounds that a row's reach gives.
-/
import Derived.Test.YtddmioaeehgkbaaDoorFlaw
import Derived.Deep.DeepCutAuto
import Derived.Deep.CutBlock
namespace Go.Proofs.YtddmioaeehgkbaaDoor
open Go.RowKit

/-- The two readers, of the same bits, at the same place. -/
def FRd (w0 w : World) (p q pr N c0 : Nat) (A0 : Option Addr) (bs : List Bool) : Prop := ∃ (S : List Nat) (c : Bool) (a : Nat) (bad : Bool), VecM w S q bs c ∧ RdM w p q a bad ∧ RrM w pr A0 N c0 a bad ∧ a ≤ N ∧ p ∉ S ∧ pr ∉ S ∧ (∀ x ∈ S, w0.heap.size ≤ x) ∧ Kp [] w0 w
theorem FRd.kp0 {w0 w w' : World} {p q pr N c0 : Nat} {A0 : Option Addr} {bs : List Bool} (h : FRd w0 w p q pr N c0 A0 bs) (hk : Kp [] w w') : FRd w0 w' p q pr N c0 A0 bs := by
  obtain ⟨S, c, a, bad, h1, h2, h3, h4, h5, h6, h7, h8⟩ := h
  exact ⟨S, c, a, bad, h1.kp0 hk, h2.kp0 hk, h3.kp0 hk, h4, h5, h6, h7, h8.trans hk⟩
theorem notin1 {x p : Nat} (h : x ≠ p) : x ∉ [p] := by simpa using h
set_option maxRecDepth 100000 in
set_option maxHeartbeats 4000000 in
theorem flowreads_any (A0 A1 : Option Addr) (L0 c0 L1 c1 : Nat) (at_ : Int) (ones : List Bool) (ds : List FD) (w : World) (h0 : Rd w w.heap.size A0 (ones.map .bool)) (hn0 : ones.length = L0) (hb0 : L0 ≤ 140737488351232) (hc0 : L0 ≤ c0)
    (h1 : FDeedRd w w.heap.size A1 ds) (hn1 : ds.length = L1) (hb1 : L1 ≤ 140737488351232) (hl : ∀ d ∈ ds, FDok d) (ht : Tab64 w) :
    Calls Tryd.prog 3 #[.slice A0 L0 c0, .int .i64 at_, .slice A1 L1 c1] w fun e w' => e = .returned (.bool true) ∧ Kp [] w w' := by
  have H0 := Lib.hid h0; clear h0
  have HN0 := Lib.hid hn0; clear hn0
  have H1 := Lib.hid h1; clear h1
  have HN1 := Lib.hid hn1; clear hn1
  have HT := Lib.hid ht; clear ht
  have HSIZE := Lib.hid (fsize_any A1 L1 c1 _ ds w H1.out HN1.out hb1 hl)
  have HL := Lib.hid hl
  clear hl
  go_enter Tryd.func3, Tryd.ntmps3
  go_wp2_with fail
  refine (HSIZE.out).mono ?_
  rintro e w1 ⟨⟨Z, rfl, hZb, hZ⟩, hk⟩
  have HK := Lib.hid hk
  replace H0 := Lib.hid (H0.out.kp0 hk)
  replace H1 := Lib.hid (H1.out.kp0 hk)
  clear hk
  by_cases hbig : 600 < Z + L0
  · clear hZ
    go_wp2_with fail
    refine (fawake_any w1 (HT.out.kp0 HK.out)).mono ?_
    rintro e w2 ⟨rfl, hk⟩
    replace HK := Lib.hid (HK.out.kp0 hk); clear hk
    go_wp2_with fail
    go_ret
    exact ⟨rfl, HK.out⟩
  obtain ⟨hL1, hll⟩ := hZ (by omega)
  have hL0 : L0 ≤ 600 := by omega
  clear hZ hll HSIZE
  go_wp2_with fail
  refine (bof_any A0 L0 c0 _ ones w1 H0.out HN0.out (by omega)).mono ?_
  rintro e w2 ⟨S, q, rfl, hv, hS, hk⟩
  have HS := Lib.hid (show ∀ x ∈ S, w.heap.size ≤ x from fun x hx => Nat.le_trans HK.out.size (hS x hx))
  replace H0 := Lib.hid (H0.out.kp0 hk)
  replace H1 := Lib.hid (H1.out.kp0 hk)
  replace HK := Lib.hid (HK.out.kp0 hk)
  clear hk
  have HV := Lib.hid hv; clear hv
  clear hS
  by_cases hat : at_ < 0 ∨ (L0 : Int) < at_
  · go_wp2_with fail
    refine (rnew_no S q L0 at_ ones false w2 HV.out HN0.out hat).mono ?_
    rintro e w3 ⟨rfl, _, hk3⟩
    replace HK := Lib.hid (HK.out.trans' hk3 (fun x hx => .inr (HS.out x hx)))
    clear hk3
    by_cases hneg : at_ < 0
    · go_wp2_with fail
      refine (fawake_any w3 (HT.out.kp0 HK.out)).mono ?_
      rintro e w4 ⟨rfl, hk⟩
      replace HK := Lib.hid (HK.out.kp0 hk); clear hk
      go_wp2_with fail
      go_ret
      exact ⟨rfl, HK.out⟩
    · have hgt : (L0 : Int) < at_ := by omega
      go_wp2_with fail
      refine (fawake_any w3 (HT.out.kp0 HK.out)).mono ?_
      rintro e w4 ⟨rfl, hk⟩
      replace HK := Lib.hid (HK.out.kp0 hk); clear hk
      go_wp2_with fail
      go_ret
      exact ⟨rfl, HK.out⟩
  obtain ⟨a, rfl⟩ : ∃ a : Nat, at_ = (a : Int) := ⟨at_.toNat, by omega⟩
  have haL : a ≤ L0 := by omega
  have hd1 : decide ((a : Int) < 0) = false := decide_eq_false (by omega)
  have hd2 : decide ((L0 : Int) < (a : Int)) = false := decide_eq_false (by omega)
  have hd2' : decide (L0 < a) = false := decide_eq_false (by omega)
  clear hat
  go_wp2_with fail
  refine (rnew_yes S q L0 a ones false w2 HV.out HN0.out haL).mono ?_
  rintro e w3 ⟨p, rfl, hr3, hv3, hp, hpS, hk3⟩
  have HP := Lib.hid (show w.heap.size ≤ p from Nat.le_trans HK.out.size hp)
  replace H0 := Lib.hid (H0.out.kp hk3 HS.out)
  replace H1 := Lib.hid (H1.out.kp hk3 HS.out)
  replace HK := Lib.hid (HK.out.trans' hk3 (fun x hx => .inr (HS.out x hx)))
  have HPS := Lib.hid hpS
  have HR3 := Lib.hid hr3; clear hr3
  have HV3 := Lib.hid hv3; clear hv3
  clear hp hk3 hpS HV
  go_wp2_with fail
  obtain ⟨w4, hw4⟩ : ∃ w4, w4 = w3.alloc (.cells #[.slice A0 L0 c0, .int .i64 (a : Int), .bool false] 35) := ⟨_, rfl⟩
  obtain ⟨pr, hpr⟩ : ∃ pr, pr = w3.heap.size := ⟨_, rfl⟩
  have hk34 : Kp [] w3 w4 := by rw [hw4]; exact (Kp.refl [] w3).alloc _
  have HF := Lib.hid (show FRd w w4 p q pr L0 c0 A0 ones from ⟨S, false, a, false, HV3.out.kp0 hk34, HR3.out.kp0 hk34, by
    rw [hw4, hpr]; exact Blk.new w3 35 [.slice A0 L0 c0, .int .i64 (a : Int), .bool false], haL, HPS.out, fun hm => by have := HV3.out.lt _ hm; omega, HS.out, HK.out.trans hk34⟩)
  have HPR := Lib.hid (show w.heap.size ≤ pr from by rw [hpr]; exact HK.out.size)
  have HNE := Lib.hid (show p ≠ pr from fun e => by have := Blk.lt HR3.out; omega)
  rw [← hw4, ← hpr]
  replace H0 := Lib.hid (H0.out.kp0 hk34)
  replace H1 := Lib.hid (H1.out.kp0 hk34)
  clear hw4 hpr hk34 HV3 HR3 HK HPS HS hd1 hd2 hd2'
  go_loopw [12] (fun x wr => ∃ k : Nat, x = .int .i64 (k : Int) ∧ k ≤ L1 ∧ Hid (FRd w wr p q pr L0 c0 A0 ones) ∧ Hid (Rd wr w.heap.size A0 (ones.map .bool)) ∧ Hid (FDeedRd wr w.heap.size A1 ds)) (fun x _ => L1 - (intOf x).toNat)
  case atStart => exact ⟨0, rfl, by omega, HF, H0, H1⟩
  case round =>
    clear HF H0 H1
    obtain ⟨k, rfl, hk, HF, H0, H1⟩ := hrel
    by_cases hlt : k < L1
    · obtain ⟨what, wide, on, nums, ad, A2, c2, A3, c3, hd, rfl, hadb, hcw, hcd, _, _, _, _, _, _⟩ := H1.out.ix (i := k) (by rw [HN1.out]; exact hlt)
      have HADB := Lib.hid hadb
      have hAd : (⟨(ad.add (k * 4)).block, (ad.add (k * 4)).off + 1, none⟩ : Addr).block = ad.block := addr_add_block _ _
      have HAD := Lib.hid hAd
      clear hd hadb hAd
      obtain ⟨r, hr⟩ : ∃ r : Int, r = pickI what 3 := ⟨_, rfl⟩
      have hrb := pickI_bound (x := what) (n := 3) (by omega)
      rw [← hr] at hrb
      have HPK := Lib.hid (show ∀ w, Calls Tryd.prog 11 #[.int .i64 what, .int .i64 3] w fun e w' => e = .returned (.int .i64 r) ∧ w = w' from fun w => by rw [hr]; exact pick_any what 3 w (by omega))
      clear hr
      go_upto_block 2 with (go_at_call 11; refine (HPK.out _).mono ?_; rintro e w6 ⟨rfl, rfl⟩)
      go_cut [13] (fun s13 wx => s13 = .bool true ∧ Hid (FRd w wx p q pr L0 c0 A0 ones) ∧ Hid (Rd wx w.heap.size A0 (ones.map .bool)) ∧ Hid (FDeedRd wx w.heap.size (some ad) ds))
      case first =>
        rcases (show r = 0 ∨ r = 1 ∨ r = 2 by omega) with rfl | rfl | rfl
        · clear hrb HPK
          obtain ⟨S6, c6, a6, bad6, hv6, hr6, hrr6, ha6, hp6, hpr6, hS6, hk6⟩ := HF.out
          have HV6 := Lib.hid hv6
          have HR6 := Lib.hid hr6
          have HRR6 := Lib.hid hrr6
          have HP6 := Lib.hid hp6
          have HPR6 := Lib.hid hpr6
          have HS6 := Lib.hid hS6
          have HK6 := Lib.hid hk6
          obtain ⟨R, hR⟩ : ∃ R, R = rNum ones a6 bad6 1 := ⟨_, rfl⟩
          have HRE := Lib.hid hR
          have HRle := Lib.hid (show R.2.1 ≤ L0 by rw [hR, ← HN0.out]; exact rNum_le (by rw [HN0.out]; exact ha6))
          obtain ⟨R1, hR1⟩ : ∃ R1, R1 = (R.1 == 1) := ⟨_, rfl⟩
          have HR1 := Lib.hid hR1
          clear hv6 hr6 hrr6 hp6 hpr6 hS6 hk6 hR hR1 HF
          go_wp2_with fail
          refine (rnext_any S6 p q a6 L0 bad6 ones c6 wr HR6.out HV6.out HN0.out ha6 HP6.out).mono ?_
          rw [← HRE.out, ← HR1.out]
          rintro e w7 ⟨rfl, hr7, hk7⟩
          have HV7 := Lib.hid (HV6.out.kp hk7 (by intro x hx hm; simp only [List.mem_singleton] at hm; subst hm; exact HP6.out hx))
          have HRR7 := Lib.hid (HRR6.out.kp hk7 (notin1 (Ne.symm HNE.out)))
          have HR7 := Lib.hid hr7
          have HK7 := Lib.hid (HK6.out.trans' hk7 (fun x hx => by simp only [List.mem_singleton] at hx; subst hx; exact .inr HP.out))
          have H07 := Lib.hid (H0.out.kp hk7 (by intro g hg; simp only [List.mem_singleton] at hg; subst hg; exact HP.out))
          have H17 := Lib.hid (H1.out.kp hk7 (by intro g hg; simp only [List.mem_singleton] at hg; subst hg; exact HP.out))
          have HS7 := HS6
          have HPS7 := HP6
          have HPRS7 := HPR6
          clear hk7 hr7 HV6 HRR6 HR6 HK6 H0 H1 HS6 HP6 HPR6
          go_wp2_with fail
          refine (rrnext_any pr L0 c0 a6 _ A0 bad6 ones w7 HRR7.out H07.out HN0.out hc0 ha6 (by omega) HPR.out).mono ?_
          rw [← HRE.out, ← HR1.out]
          rintro e w8 ⟨rfl, hr8, hk8⟩
          have HV8 := Lib.hid (HV7.out.kp hk8 (by intro x hx hm; simp only [List.mem_singleton] at hm; subst hm; exact HPRS7.out hx))
          have HR8 := Lib.hid (HR7.out.kp hk8 (notin1 HNE.out))
          have HRR8 := Lib.hid hr8
          have HK8 := Lib.hid (HK7.out.trans' hk8 (fun x hx => by simp only [List.mem_singleton] at hx; subst hx; exact .inr HPR.out))
          have H08 := Lib.hid (H07.out.kp hk8 (by intro g hg; simp only [List.mem_singleton] at hg; subst hg; exact HPR.out))
          have H18 := Lib.hid (H17.out.kp hk8 (by intro g hg; simp only [List.mem_singleton] at hg; subst hg; exact HPR.out))
          have HS8 := HS7
          have HPS8 := HPS7
          have HPRS8 := HPRS7
          clear hk8 hr8
          go_wp2_with fail
          go_meet
          exact ⟨by simp, Lib.hid ⟨S6, c6, R.2.1, R.2.2, HV8.out, HR8.out, HRR8.out, HRle.out, HPS8.out, HPRS8.out, HS8.out, HK8.out⟩, H08, H18⟩
        · clear hrb HPK
          obtain ⟨S6, c6, a6, bad6, hv6, hr6, hrr6, ha6, hp6, hpr6, hS6, hk6⟩ := HF.out
          have HV6 := Lib.hid hv6
          have HR6 := Lib.hid hr6
          have HRR6 := Lib.hid hrr6
          have HP6 := Lib.hid hp6
          have HPR6 := Lib.hid hpr6
          have HS6 := Lib.hid hS6
          have HK6 := Lib.hid hk6
          obtain ⟨R, hR⟩ : ∃ R, R = rNum ones a6 bad6 wide := ⟨_, rfl⟩
          have HRE := Lib.hid hR
          have HRle := Lib.hid (show R.2.1 ≤ L0 by rw [hR, ← HN0.out]; exact rNum_le (by rw [HN0.out]; exact ha6))
          obtain ⟨R1, hR1⟩ : ∃ R1, R1 = R.1 := ⟨_, rfl⟩
          have HR1 := Lib.hid hR1
          clear hv6 hr6 hrr6 hp6 hpr6 hS6 hk6 hR hR1 HF
          have hi0 : (0 : Int) ≤ (k : Int) := by omega
          have hi1 : (k : Int) < (L1 : Int) := by omega
          go_wp2_with fail
          go_region_held3 (fun w' => w'.cell? ⟨(ad.add (k * 4)).block, (ad.add (k * 4)).off + 1, none⟩ = some (.int .i64 wide)) (go_keep)
            (first
              | (go_at_call 14
                 refine (rnum_any S6 p q a6 L0 bad6 wide ones c6 _ (HR6.out.kp0 ((Kp.refl [] wr).drew)) (HV6.out.kp0 ((Kp.refl [] wr).drew)) HN0.out ha6 HP6.out).mono ?_
                 rw [← HRE.out, ← HR1.out]
                 rintro e w7 ⟨rfl, hr7, hk7'⟩
                 have hk7 : Kp [p] wr w7 := ((Kp.refl [p] wr).drew).trans hk7'
                 clear hk7'
                 have HV7 := Lib.hid (HV6.out.kp hk7 (by intro x hx hm; simp only [List.mem_singleton] at hm; subst hm; exact HP6.out hx))
                 have HRR7 := Lib.hid (HRR6.out.kp hk7 (notin1 (Ne.symm HNE.out)))
                 have HR7 := Lib.hid hr7
                 have HK7 := Lib.hid (HK6.out.trans' hk7 (fun x hx => by simp only [List.mem_singleton] at hx; subst hx; exact .inr HP.out))
                 have H07 := Lib.hid (H0.out.kp hk7 (by intro g hg; simp only [List.mem_singleton] at hg; subst hg; exact HP.out))
                 have H17 := Lib.hid (H1.out.kp hk7 (by intro g hg; simp only [List.mem_singleton] at hg; subst hg; exact HP.out))
                 have HS7 := HS6
                 have HPS7 := HP6
                 have HPRS7 := HPR6
                 have hcd7 := hk7.cell hcd (notin1 (by rw [HAD.out]; have h1 := HADB.out; have h2 := HP.out; omega))
                 clear hk7 hr7 hcd HV6 HRR6 HR6 HK6 H0 H1 HS6 HP6 HPR6)
              | (go_at_call 15
                 refine (rrnum_any pr L0 c0 a6 _ A0 bad6 wide ones _ (HRR7.out.kp0 (show Kp [] w7 _ from by first | exact Kp.refl _ _ | exact (Kp.refl _ _).drew)) (H07.out.kp0 (show Kp [] w7 _ from by first | exact Kp.refl _ _ | exact (Kp.refl _ _).drew)) HN0.out hc0 ha6 (by omega) HPR.out).mono ?_
                 rw [← HRE.out, ← HR1.out]
                 rintro e w8 ⟨rfl, hr8, hk8'⟩
                 have hk8 : Kp [pr] w7 w8 := by first | exact hk8' | exact ((Kp.refl [pr] w7).drew).trans hk8'
                 clear hk8'
                 have HV8 := Lib.hid (HV7.out.kp hk8 (by intro x hx hm; simp only [List.mem_singleton] at hm; subst hm; exact HPRS7.out hx))
                 have HR8 := Lib.hid (HR7.out.kp hk8 (notin1 HNE.out))
                 have HRR8 := Lib.hid hr8
                 have HK8 := Lib.hid (HK7.out.trans' hk8 (fun x hx => by simp only [List.mem_singleton] at hx; subst hx; exact .inr HPR.out))
                 have H08 := Lib.hid (H07.out.kp hk8 (by intro g hg; simp only [List.mem_singleton] at hg; subst hg; exact HPR.out))
                 have H18 := Lib.hid (H17.out.kp hk8 (by intro g hg; simp only [List.mem_singleton] at hg; subst hg; exact HPR.out))
                 have HS8 := HS7
                 have HPS8 := HPS7
                 have HPRS8 := HPRS7
                 have hcd8 := hk8.cell hcd7 (notin1 (by rw [HAD.out]; have h1 := HADB.out; have h2 := HPR.out; omega))
                 clear hk8 hr8 hcd7))
          go_wp2_with fail
          go_meet
          exact ⟨by simp, Lib.hid ⟨S6, c6, R.2.1, R.2.2, HV8.out, HR8.out, HRR8.out, HRle.out, HPS8.out, HPRS8.out, HS8.out, HK8.out⟩, H08, H18⟩
        · clear hrb HPK
          obtain ⟨S6, c6, a6, bad6, hv6, hr6, hrr6, ha6, hp6, hpr6, hS6, hk6⟩ := HF.out
          have HV6 := Lib.hid hv6
          have HR6 := Lib.hid hr6
          have HRR6 := Lib.hid hrr6
          have HP6 := Lib.hid hp6
          have HPR6 := Lib.hid hpr6
          have HS6 := Lib.hid hS6
          have HK6 := Lib.hid hk6
          obtain ⟨R, hR⟩ : ∃ R, R = rGam ones a6 bad6 := ⟨_, rfl⟩
          have HRE := Lib.hid hR
          have HRle := Lib.hid (show R.2.1 ≤ L0 by rw [hR, ← HN0.out]; exact rGam_le (by rw [HN0.out]; exact ha6))
          obtain ⟨R1, hR1⟩ : ∃ R1, R1 = R.1 := ⟨_, rfl⟩
          have HR1 := Lib.hid hR1
          clear hv6 hr6 hrr6 hp6 hpr6 hS6 hk6 hR hR1 HF
          go_wp2_with fail
          refine (rgam_any S6 p q a6 L0 bad6 ones c6 wr HR6.out HV6.out HN0.out ha6 HP6.out (HT.out.kp0 HK6.out) (fun h => by have h1 := HS6.out _ h; have h2 := HT.out.lt; omega) (fun h => by have h1 := HP.out; have h2 := HT.out.lt; omega)).mono ?_
          rw [← HRE.out, ← HR1.out]
          rintro e w7 ⟨rfl, hr7, S7, c7, hv7, hk7, hg7⟩
          have HV7 := Lib.hid hv7
          have hk7' := hk7
          have HRR7 := Lib.hid (HRR6.out.kp hk7 (by intro hm; simp only [List.mem_cons] at hm; rcases hm with h | h; exact HNE.out h.symm; exact HPR6.out h))
          have HR7 := Lib.hid hr7
          have hall : ∀ x ∈ p :: S6, w.heap.size ≤ x := fun x hx => by simp only [List.mem_cons] at hx; rcases hx with rfl | hx; exact HP.out; exact HS6.out x hx
          have HS7 := Lib.hid (hg7.ge HS6.out HK6.out.size)
          have HPS7 := Lib.hid (show p ∉ S7 from fun hm => by
            rcases hg7 _ hm with h | h
            · exact HP6.out h
            · have := Blk.lt HR6.out; omega)
          have HPRS7 := Lib.hid (show pr ∉ S7 from fun hm => by
            rcases hg7 _ hm with h | h
            · exact HPR6.out h
            · have := Blk.lt HRR6.out; omega)
          have HK7 := Lib.hid (HK6.out.trans' hk7 (fun x hx => .inr (hall x hx)))
          have H07 := Lib.hid (H0.out.kp hk7 hall)
          have H17 := Lib.hid (H1.out.kp hk7 hall)
          clear hk7 hk7' hr7 hv7 hg7 hall HV6 HRR6 HR6 HK6 H0 H1 HS6 HP6 HPR6
          go_wp2_with fail
          refine (rrgam_any pr L0 c0 a6 _ A0 bad6 ones w7 HRR7.out H07.out HN0.out hc0 ha6 (by omega) HPR.out).mono ?_
          rw [← HRE.out, ← HR1.out]
          rintro e w8 ⟨rfl, hr8, hk8⟩
          have HV8 := Lib.hid (HV7.out.kp hk8 (by intro x hx hm; simp only [List.mem_singleton] at hm; subst hm; exact HPRS7.out hx))
          have HR8 := Lib.hid (HR7.out.kp hk8 (notin1 HNE.out))
          have HRR8 := Lib.hid hr8
          have HK8 := Lib.hid (HK7.out.trans' hk8 (fun x hx => by simp only [List.mem_singleton] at hx; subst hx; exact .inr HPR.out))
          have H08 := Lib.hid (H07.out.kp hk8 (by intro g hg; simp only [List.mem_singleton] at hg; subst hg; exact HPR.out))
          have H18 := Lib.hid (H17.out.kp hk8 (by intro g hg; simp only [List.mem_singleton] at hg; subst hg; exact HPR.out))
          have HS8 := HS7
          have HPS8 := HPS7
          have HPRS8 := HPRS7
          clear hk8 hr8
          go_wp2_with fail
          go_meet
          exact ⟨by simp, Lib.hid ⟨S7, c7, R.2.1, R.2.2, HV8.out, HR8.out, HRR8.out, HRle.out, HPS8.out, HPRS8.out, HS8.out, HK8.out⟩, H08, H18⟩
      case rest =>
        obtain ⟨rfl, HF1, H01, H11⟩ := hcut
        clear HF H0 H1 hcw hcd
        obtain ⟨S6, c6, a6, bad6, hv6, hr6, hrr6, ha6, hp6, hpr6, hS6, hk6⟩ := HF1.out
        obtain ⟨_, hca, hcb⟩ := hrr6.cells
        have HAT := Lib.hid (fun n => rat_any p q a6 bad6 (wc.drewN n) (hr6.kp0 ((Kp.refl [] wc).drewN n)))
        have HER := Lib.hid (fun n => rerr_any p q a6 bad6 (wc.drewN n) (hr6.kp0 ((Kp.refl [] wc).drewN n)))
        clear hv6 hr6 hrr6 ha6 hp6 hpr6 hS6 hk6
        cases bad6 with
        | false =>
          have HER := Lib.hid (show ∀ n, Calls Tryd.prog 19 #[.pointer (some ⟨p, 0, none⟩)] (wc.drewN n) fun e w' => e = .returned (.int .i64 0) ∧ wc.drewN n = w' from HER.out)
          go_wp2_with fail
          go_quiet ((first | (go_at_call 18; exact quiet_eq (HAT.out _)) | (go_at_call 19; exact quiet_eq (HER.out _))))
          go_wp2_with fail
          exact ⟨⟨k + 1, by go_num, by omega, Lib.hid (HF1.out.kp0 ((Kp.refl [] wc).drewN _)), Lib.hid (H01.out.kp0 ((Kp.refl [] wc).drewN _)), Lib.hid (H11.out.kp0 ((Kp.refl [] wc).drewN _))⟩, by simp [intOf]; omega⟩
        | true =>
          have HER := Lib.hid (show ∀ n, Calls Tryd.prog 19 #[.pointer (some ⟨p, 0, none⟩)] (wc.drewN n) fun e w' => e = .returned (.int .i64 4) ∧ wc.drewN n = w' from HER.out)
          go_wp2_with fail
          go_quiet ((first | (go_at_call 18; exact quiet_eq (HAT.out _)) | (go_at_call 19; exact quiet_eq (HER.out _))))
          go_wp2_with fail
          exact ⟨⟨k + 1, by go_num, by omega, Lib.hid (HF1.out.kp0 ((Kp.refl [] wc).drewN _)), Lib.hid (H01.out.kp0 ((Kp.refl [] wc).drewN _)), Lib.hid (H11.out.kp0 ((Kp.refl [] wc).drewN _))⟩, by simp [intOf]; omega⟩
    · obtain rfl : L1 = k := by omega
      obtain ⟨S5, c5, a5, bad5, _, _, _, _, _, _, _, hk5⟩ := HF.out
      have HK := Lib.hid hk5
      clear hk5
      go_wp2_with fail
      refine (fawake_any wr (HT.out.kp0 HK.out)).mono ?_
      rintro e w6 ⟨rfl, hk⟩
      replace HK := Lib.hid (HK.out.kp0 hk); clear hk
      go_wp2_with fail
      go_ret
      exact ⟨rfl, HK.out⟩
end Go.Proofs.YtddmioaeehgkbaaDoor
