/-
  THE CONTRACTS OF LAYER 5, eighth part: Cost, the program's and the reference's.
  CONDITIONS: rows of at most 10^9 numbers.
-/
import Derived.Test.YthidmpllganmnaaTrfit
namespace Go.Proofs.Ythidmpllganmnaa
open Go.RowKit

def costN (w d : Nat → Nat) : Nat → Nat
  | 0 => 0
  | k + 1 => costN w d k + w k * d k
def okC (l ls : List Int) : Prop := l.length = ls.length ∧ okW l ∧ okF ls
open Classical in
noncomputable def costE (l ls : List Int) : Int := if okC l ls then 0 else 2
open Classical in
noncomputable def costV (l ls : List Int) : Int := if okC l ls then ((costN (wt l) (wt ls) l.length : Nat) : Int) else 0
theorem costE_ok {l ls : List Int} (h : okC l ls) : costE l ls = 0 := by unfold costE; rw [if_pos h]
theorem costE_no {l ls : List Int} (h : ¬ okC l ls) : costE l ls = 2 := by unfold costE; rw [if_neg h]
theorem costV_ok {l ls : List Int} (h : okC l ls) : costV l ls = ((costN (wt l) (wt ls) l.length : Nat) : Int) := by unfold costV; rw [if_pos h]
theorem costV_no {l ls : List Int} (h : ¬ okC l ls) : costV l ls = 0 := by unfold costV; rw [if_neg h]
theorem okF_bound {l : List Int} (h : okF l) : ∀ x ∈ l, 0 ≤ x ∧ x ≤ 256 := by
  intro x hx
  rcases h.2 with e | e
  · subst e; simp at hx; omega
  · have := e.2.bound x hx
    have := h.1
    omega
theorem okF_get {l : List Int} (h : okF l) {k : Nat} {x : Int} (hx : l[k]? = some x) : x = ((wt l k : Nat) : Int) ∧ wt l k ≤ 256 := by
  have := okF_bound h x (List.mem_of_getElem? hx)
  have e : wt l k = x.toNat := by
    unfold wt
    rw [List.getD_eq_getElem?_getD, hx]
    rfl
  omega
theorem costN_le {w d : Nat → Nat} (hw : ∀ k, w k ≤ 4294967296) : ∀ k, (∀ i, i < k → d i ≤ 256) → costN w d k ≤ k * 1099511627776
  | 0, _ => Nat.le_refl _
  | k + 1, h => by
    have h1 := costN_le hw k (fun i hi => h i (by omega))
    have h2 : w k * d k ≤ 4294967296 * 256 := Nat.mul_le_mul (hw k) (h k (by omega))
    show costN w d k + w k * d k ≤ _
    omega

open Classical in
set_option maxRecDepth 100000 in
set_option maxHeartbeats 2000000 in
theorem tcost_any (A A' : Option Addr) (n m c c' B B' : Nat) (l ls : List Int) (w : World) (hx : Rd w B A (l.map (.int .i64))) (hy : Rd w B' A' (ls.map (.int .i64))) (hn : l.length = n) (hm : ls.length = m) (hb : n ≤ 1000000000) (hb' : m ≤ 1000000000) :
    Calls Try.prog 15 #[.slice A n c, .slice A' m c'] w fun e w' => e = .returned (.tuple #[.int .i64 (costV l ls), .int .i64 (costE l ls)]) ∧ Kp [] w w' := by
  have HX := Lib.hid hx; clear hx
  have HY := Lib.hid hy; clear hy
  have HN := Lib.hid hn; clear hn
  have HM := Lib.hid hm; clear hm
  go_enter Try.func15, Try.ntmps15
  by_cases hnm : n = m
  · have hnb : ((n : Int) != (m : Int)) = false := by simp [hnm]
    have HNM := Lib.hid hnm; clear hnm
    go_wp2_with fail
    refine (right_any A n c B l w HX.out HN.out hb).mono ?_
    rintro e w1 ⟨rfl, rfl⟩
    by_cases hok : okW l
    · rw [show decide (okW l) = true from decide_eq_true hok]
      have HOW := Lib.hid hok; clear hok
      go_wp2_with fail
      refine (tfits_any A' m c' B' ls w HY.out HM.out hb').mono ?_
      rintro e w1 ⟨rfl, hk1⟩
      have HK1 := Lib.hid hk1; clear hk1
      by_cases hof : okF ls
      · rw [show decide (okF ls) = true from decide_eq_true hof]
        have HOF := Lib.hid hof; clear hof
        have HOC := Lib.hid (show okC l ls from ⟨by rw [HN.out, HM.out]; exact HNM.out, HOW.out, HOF.out⟩)
        have hn257 : n ≤ 257 := by have := HOW.out.2.2; have := HN.out; omega
        go_wp2_with fail
        go_loopw [4, 25] (fun y x wr => ∃ k : Nat, k ≤ n ∧ x = .int .i64 k ∧ y = .int .i64 ((costN (wt l) (wt ls) k : Nat) : Int) ∧ w1 = wr) (fun _ x _ => n - (intOf x).toNat)
        case atStart => exact ⟨0, by omega, rfl, rfl, rfl⟩
        case round =>
          obtain ⟨k, hk, rfl, rfl, rfl⟩ := hrel
          by_cases hlt : k < n
          · obtain ⟨x, ad, hxk, rfl, _, hcx⟩ := (HX.out.kp0 HK1.out).ix (i := k) (by have := HN.out; omega)
            obtain ⟨y, bd, hyk, rfl, _, hcy⟩ := (HY.out.kp0 HK1.out).ix (i := k) (by have := HM.out; have := HNM.out; omega)
            have hkm : k < m := by have := HNM.out; omega
            obtain ⟨a, ha⟩ : ∃ a, a = wt l k := ⟨_, rfl⟩
            obtain ⟨b, hbb⟩ : ∃ b, b = wt ls k := ⟨_, rfl⟩
            have hxa := wt_get HOW.out.1 hxk
            obtain ⟨hyb, hyb2⟩ := okF_get HOF.out hyk
            have hxa2 := wt_le HOW.out.1 k
            rw [← ha] at hxa hxa2
            rw [← hbb] at hyb hyb2
            subst hxa hyb
            obtain ⟨p, hp⟩ : ∃ p, p = a * b := ⟨_, rfl⟩
            have hpb : p ≤ 4294967296 * 256 := by rw [hp]; exact Nat.mul_le_mul hxa2 hyb2
            obtain ⟨q, hq⟩ : ∃ q, q = costN (wt l) (wt ls) k := ⟨_, rfl⟩
            have hqb : q ≤ 257 * 1099511627776 := by
              rw [hq]
              refine Nat.le_trans (costN_le (wt_le HOW.out.1) k (fun i hi => ?_)) (Nat.mul_le_mul_right _ (by omega))
              obtain ⟨z, hz⟩ : ∃ z, ls[i]? = some z := ⟨_, List.getElem?_eq_getElem (by have := HM.out; omega)⟩
              exact (okF_get HOF.out hz).2
            have hmul : (a : Int) * (b : Int) = (p : Int) := by rw [hp]; exact (Int.natCast_mul a b).symm
            have hw1 : IntKind.i64.wrap ((a : Int) * (b : Int)) = (p : Int) := by rw [hmul, IntKind.wrap_i64]; omega
            have hw2 : IntKind.i64.wrap ((q : Int) + (p : Int)) = ((q + p : Nat) : Int) := by rw [IntKind.wrap_i64]; omega
            have HNX := Lib.hid (show q + p = costN (wt l) (wt ls) (k + 1) by rw [hq, hp, ha, hbb]; rfl)
            rw [← hq]
            clear hxk hyk hp hpb hqb hmul ha hbb hq hxa2 hyb2
            go_wp2_with fail
            exact ⟨⟨k + 1, by omega, by go_num, by rw [← HNX.out]; go_num, trivial⟩, by simp [intOf]; omega⟩
          · obtain rfl : n = k := by omega
            go_wp2_with fail
            go_ret2
            exact ⟨by rw [costV_ok HOC.out, costE_ok HOC.out, HN.out]; rfl, HK1.out⟩
      · rw [show decide (okF ls) = false from decide_eq_false hof]
        have HOC := Lib.hid (show ¬ okC l ls from fun h => hof h.2.2)
        clear hof
        go_wp2_with fail
        go_ret2
        exact ⟨by rw [costV_no HOC.out, costE_no HOC.out]; rfl, HK1.out⟩
    · rw [show decide (okW l) = false from decide_eq_false hok]
      have HOC := Lib.hid (show ¬ okC l ls from fun h => hok h.2.1)
      clear hok
      go_wp2_with fail
      go_ret2
      exact ⟨by rw [costV_no HOC.out, costE_no HOC.out]; rfl, Kp.refl [] w⟩
  · have hnb : ((n : Int) != (m : Int)) = true := by simp; omega
    have HOC := Lib.hid (show ¬ okC l ls from fun h => hnm (by have := HN.out; have := HM.out; have := h.1; omega))
    clear hnm
    go_wp2_with fail
    go_ret2
    exact ⟨by rw [costV_no HOC.out, costE_no HOC.out]; rfl, Kp.refl [] w⟩

open Classical in
set_option maxRecDepth 100000 in
set_option maxHeartbeats 2000000 in
theorem rcost_any (A A' : Option Addr) (n m c c' B B' : Nat) (l ls : List Int) (w : World) (hx : Rd w B A (l.map (.int .i64))) (hy : Rd w B' A' (ls.map (.int .i64))) (hn : l.length = n) (hm : ls.length = m) (hb : n ≤ 1000000000) (hb' : m ≤ 1000000000) (hr : ∀ x ∈ ls, x ≤ 9223372036854775807) :
    Calls Try.prog 16 #[.slice A n c, .slice A' m c'] w fun e w' => e = .returned (.tuple #[.int .i64 (costV l ls), .int .i64 (costE l ls)]) ∧ Kp [] w w' := by
  have HX := Lib.hid hx; clear hx
  have HY := Lib.hid hy; clear hy
  have HN := Lib.hid hn; clear hn
  have HM := Lib.hid hm; clear hm
  have HRG := Lib.hid hr; clear hr
  go_enter Try.func16, Try.ntmps16
  go_wp2_with fail
  refine (rweights_any A n c B l w HX.out HN.out hb).mono ?_
  rintro e w0 ⟨rfl, hd0⟩
  have HK0 := Lib.hid (hd0.kp []); clear hd0
  by_cases hok : okW l
  · rw [show decide (okW l) = true from decide_eq_true hok]
    have HOW := Lib.hid hok; clear hok
    go_wp2_with fail
    refine (rfits_any A' m c' B' ls w0 (HY.out.kp0 HK0.out) HM.out hb' HRG.out).mono ?_
    rintro e w1 ⟨rfl, hk1⟩
    have HK1 := Lib.hid (HK0.out.trans hk1); clear hk1
    by_cases hof : okF ls
    · rw [show decide (okF ls) = true from decide_eq_true hof]
      have HOF := Lib.hid hof; clear hof
      by_cases hnm : n = m
      · have hnb : ((n : Int) != (m : Int)) = false := by simp [hnm]
        have HNM := Lib.hid hnm; clear hnm
        have HOC := Lib.hid (show okC l ls from ⟨by rw [HN.out, HM.out]; exact HNM.out, HOW.out, HOF.out⟩)
        have hn257 : n ≤ 257 := by have := HOW.out.2.2; have := HN.out; omega
        go_wp2_with fail
        go_loopw [6, 7] (fun y x wr => ∃ k : Nat, k ≤ n ∧ x = .int .i64 k ∧ y = .int .i64 ((costN (wt l) (wt ls) k : Nat) : Int) ∧ Dr w1 wr) (fun _ x _ => n - (intOf x).toNat)
        case atStart => exact ⟨0, by omega, rfl, rfl, Dr.refl w1⟩
        case round =>
          obtain ⟨k, hk, rfl, rfl, hdr⟩ := hrel
          by_cases hlt : k < n
          · obtain ⟨x, ad, hxk, rfl, _, hcx⟩ := (HX.out.kp0 (HK1.out.trans (hdr.kp []))).ix (i := k) (by have := HN.out; omega)
            obtain ⟨y, bd, hyk, rfl, _, hcy⟩ := (HY.out.kp0 (HK1.out.trans (hdr.kp []))).ix (i := k) (by have := HM.out; have := HNM.out; omega)
            have hkm : k < m := by have := HNM.out; omega
            obtain ⟨a, ha⟩ : ∃ a, a = wt l k := ⟨_, rfl⟩
            obtain ⟨b, hbb⟩ : ∃ b, b = wt ls k := ⟨_, rfl⟩
            have hxa := wt_get HOW.out.1 hxk
            obtain ⟨hyb, hyb2⟩ := okF_get HOF.out hyk
            have hxa2 := wt_le HOW.out.1 k
            rw [← ha] at hxa hxa2
            rw [← hbb] at hyb hyb2
            subst hxa hyb
            obtain ⟨p, hp⟩ : ∃ p, p = a * b := ⟨_, rfl⟩
            have hpb : p ≤ 4294967296 * 256 := by rw [hp]; exact Nat.mul_le_mul hxa2 hyb2
            obtain ⟨q, hq⟩ : ∃ q, q = costN (wt l) (wt ls) k := ⟨_, rfl⟩
            have hqb : q ≤ 257 * 1099511627776 := by
              rw [hq]
              refine Nat.le_trans (costN_le (wt_le HOW.out.1) k (fun i hi => ?_)) (Nat.mul_le_mul_right _ (by omega))
              obtain ⟨z, hz⟩ : ∃ z, ls[i]? = some z := ⟨_, List.getElem?_eq_getElem (by have := HM.out; omega)⟩
              exact (okF_get HOF.out hz).2
            have hmul : (a : Int) * (b : Int) = (p : Int) := by rw [hp]; exact (Int.natCast_mul a b).symm
            have hw1 : IntKind.i64.wrap ((a : Int) * (b : Int)) = (p : Int) := by rw [hmul, IntKind.wrap_i64]; omega
            have hw2 : IntKind.i64.wrap ((q : Int) + (p : Int)) = ((q + p : Nat) : Int) := by rw [IntKind.wrap_i64]; omega
            have HNX := Lib.hid (show q + p = costN (wt l) (wt ls) (k + 1) by rw [hq, hp, ha, hbb]; rfl)
            rw [← hq]
            clear hxk hyk hp hpb hqb hmul ha hbb hq hxa2 hyb2
            go_wp2_with fail
            go_quiet (fail)
            go_wp2_with fail
            exact ⟨⟨k + 1, by omega, by go_num, by rw [← HNX.out]; go_num, hdr.drewN _⟩, by simp [intOf]; omega⟩
          · obtain rfl : n = k := by omega
            go_wp2_with fail
            go_ret2
            exact ⟨by rw [costV_ok HOC.out, costE_ok HOC.out, HN.out]; rfl, HK1.out.trans (hdr.kp [])⟩
      · have hnb : ((n : Int) != (m : Int)) = true := by simp; omega
        have HOC := Lib.hid (show ¬ okC l ls from fun h => hnm (by have := HN.out; have := HM.out; have := h.1; omega))
        clear hnm
        go_wp2_with fail
        go_ret2
        exact ⟨by rw [costV_no HOC.out, costE_no HOC.out]; rfl, HK1.out⟩
    · rw [show decide (okF ls) = false from decide_eq_false hof]
      have HOC := Lib.hid (show ¬ okC l ls from fun h => hof h.2.2)
      clear hof
      go_wp2_with fail
      go_ret2
      exact ⟨by rw [costV_no HOC.out, costE_no HOC.out]; rfl, HK1.out⟩
  · rw [show decide (okW l) = false from decide_eq_false hok]
    have HOC := Lib.hid (show ¬ okC l ls from fun h => hok h.2.1)
    clear hok
    go_wp2_with fail
    go_ret2
    exact ⟨by rw [costV_no HOC.out, costE_no HOC.out]; rfl, HK0.out⟩
end Go.Proofs.Ythidmpllganmnaa
