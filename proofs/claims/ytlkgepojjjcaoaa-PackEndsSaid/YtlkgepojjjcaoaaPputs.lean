/-
  THE STATEMENT PackPuts OF LAYER 2, its walk: the call returns true and writes to nothing that was there.
  CONDITIONS: numbers of 64 bits.
-/
import Derived.Test.YtlkgepojjjcaoaaPsame
import Derived.Test.YtlkgepojjjcaoaaPleast
namespace Go.Proofs.Ytlkgepojjjcaoaa
open Go.RowKit

theorem Rd.lent {w : World} {g : Nat} {l more : List Int} (h : Blk w g 3 ((l ++ more).map (.int .i64))) : Rd w w.heap.size (some ⟨g, 0, none⟩) (l.map (.int .i64)) := by
  have := (h.rd h.lt).take (l.map (Value.int .i64)).length
  rwa [List.map_append, List.take_left'] at this
  rfl
theorem intsN_toNat {l : List Int} (h : okN l) : intsN (l.map Int.toNat) = l := by
  induction l with
  | nil => rfl
  | cons x l ih =>
    have h1 := h x (by simp)
    have h2 := ih (fun y hy => h y (by simp [hy]))
    simp only [intsN, List.map_cons, List.map_map] at h2 ⊢
    rw [h2, show ((x.toNat : Nat) : Int) = x from by omega]
theorem same_of (b b2 p p2 : Nat) (wd : Int) (l : List Int) (at_ : Int) (w : World) (hM : RowM w b p wd.toNat (l.map Int.toNat)) (hR : RowR w b2 p2 wd l) (hok : okN l) (hwd : 0 ≤ wd) :
    Calls Try.prog 20 #[.pointer (some ⟨p, 0, none⟩), .pointer (some ⟨p2, 0, none⟩), .int .i64 at_] w fun e w' => e = .returned (.bool true) ∧ Kp [] w w' :=
  same_any b b2 p p2 wd.toNat (l.map Int.toNat) at_ w hM (by rw [intsN_toNat hok, Int.toNat_of_nonneg hwd]; exact hR)
theorem fitN_nonneg {wd : Int} {l : List Int} (h : fitN wd l) : 0 ≤ wd := by
  have := h.2
  omega
theorem overI_lent {w : World} {g n : Nat} {l : List Int} (h : Blk w g 3 ((l ++ marksI 1 12).map (.int .i64))) (hn : l.length = n) (hb : n ≤ 1000000000) :
    Calls Try.prog 19 #[.slice (some ⟨g, 0, none⟩) n (n + 12)] w fun e w' => e = .returned (.tuple #[]) ∧ Kp [g] w w' := by
  refine overI g n (n + 12) _ (l.map (.int .i64)) w ?_ hb
  rw [List.map_append] at h
  exact own_of_blk h (Nat.le_refl _) (by omega) (by unfold maxLen; omega) (by rw [List.length_map, hn, Nat.mul_one]) (by simp [hn, marksI_len])

set_option maxRecDepth 100000 in
set_option maxHeartbeats 4000000 in
theorem puts_any (wd at_ : Int) (A : Option Addr) (n c B : Nat) (l : List Int) (w : World) (hx : Rd w B A (l.map (.int .i64))) (hn : l.length = n) (hs : Small l) :
    Calls Try.prog 4 #[.int .i64 wd, .slice A n c, .int .i64 at_] w fun e w' => e = .returned (.bool true) ∧ Kp [] w w' := by
  have HX := Lib.hid hx.here; clear hx
  have HN := Lib.hid hn; clear hn
  have HS := Lib.hid hs; clear hs
  go_enter Try.func4, Try.ntmps4
  by_cases hbig : 2000 < n
  · go_wp2_with fail
    refine (pawake_any _).mono ?_
    rintro e w1 ⟨rfl, hk1⟩
    go_wp2_with fail
    go_ret
    exact ⟨rfl, hk1⟩
  have hb9 : n ≤ 1000000000 := by omega
  obtain ⟨E, hE⟩ : ∃ E, E = newE wd l := ⟨_, rfl⟩
  obtain ⟨F, hF⟩ : ∃ F, F = ofE l := ⟨_, rfl⟩
  obtain ⟨WL, hWL⟩ : ∃ x, x = wideL l := ⟨_, rfl⟩
  obtain ⟨WE, hWE⟩ : ∃ x, x = wideE l := ⟨_, rfl⟩
  have HE := Lib.hid hE; clear hE
  have HF := Lib.hid hF; clear hF
  have HWL := Lib.hid hWL; clear hWL
  have HWE := Lib.hid hWE; clear hWE
  have HB9 := Lib.hid hb9
  go_wp2_with fail
  refine (lentI A n c _ l w HX.out HN.out hb9).mono ?_
  rintro e w1 ⟨rfl, hk1, hb1⟩
  obtain ⟨g, hg⟩ : ∃ g, g = w.heap.size := ⟨_, rfl⟩
  rw [← hg] at hb1 ⊢
  have HG := Lib.hid hg; clear hg
  have HB1 := Lib.hid hb1
  have HG1 := Lib.hid (show g < w1.heap.size from hb1.lt); clear hb1
  have HK1 := Lib.hid hk1; clear hk1
  go_wp2_with fail
  refine (width_any _ n (n + 12) _ l w1 (Rd.lent HB1.out) HN.out HB9.out HS.out).mono ?_
  rintro e w2 ⟨rfl, rfl⟩
  rw [← HWL.out, ← HWE.out]
  go_wp2_with fail
  refine (rwidth_any A n c _ l w1 (HX.out.kp0 HK1.out) HN.out HB9.out HS.out).mono ?_
  rintro e w2 ⟨rfl, rfl⟩
  rw [← HWL.out, ← HWE.out]
  go_wp2_with fail
  refine (new_any wd _ n (n + 12) _ l w1 (Rd.lent HB1.out) HN.out HB9.out HS.out).mono ?_
  rw [← HE.out]
  by_cases hf : F = 0
  · rintro e w2 ⟨hk2, ⟨hne, rfl⟩ | ⟨hz, hfit, p1, rfl, hrow⟩⟩
    · have HEN := Lib.hid hne
      have hE1 : (E != 0) = true := by simpa using hne
      have hE2 : (E == 0) = false := by simpa using hne
      clear hne
      have HR1 : Hid True := Lib.hid trivial
      have HK2 := Lib.hid (HK1.out.trans hk2)
      have HB2 := Lib.hid (HB1.out.kp0 hk2)
      have HG2 := Lib.hid (Nat.lt_of_lt_of_le HG1.out hk2.size)
      clear hk2
      go_wp2_with fail
      refine (rnew_any wd A n c _ l w2 (HX.out.kp0 HK2.out) HN.out HB9.out HS.out).mono ?_
      rw [← HE.out]
      rintro e w3 ⟨hk3, ⟨_, rfl⟩ | ⟨hz, _⟩⟩
      rotate_left
      · exact absurd hz HEN.out
      have HK3 := Lib.hid (HK2.out.trans hk3)
      have HB3 := Lib.hid (HB2.out.kp0 hk3)
      have HG3 := Lib.hid (Nat.lt_of_lt_of_le HG2.out hk3.size)
      clear hk3 HB2 HR1
      go_wp2_with fail
      refine (of_any _ n (n + 12) _ l w3 (Rd.lent HB3.out) HN.out HB9.out HS.out).mono ?_
      rw [← HF.out]
      rintro e w4 ⟨hk4, ⟨hne, _⟩ | ⟨_, hok, p2, rfl, hrow⟩⟩
      · exact absurd hf hne
      have HOK := Lib.hid hok; clear hok
      have HR4 := Lib.hid hrow; clear hrow
      subst hf
      have HK4 := Lib.hid (HK3.out.trans hk4)
      have HB4 := Lib.hid (HB3.out.kp0 hk4)
      have HG4 := Lib.hid (Nat.lt_of_lt_of_le HG3.out hk4.size)
      clear hk4 HB3
      go_wp2_with fail
      refine (rof_any A n c _ l w4 (HX.out.kp0 HK4.out) HN.out HB9.out HS.out).mono ?_
      rw [← HF.out]
      rintro e w5 ⟨hk5, ⟨hne, _⟩ | ⟨_, q2, rfl, hrr⟩⟩
      · exact absurd rfl hne
      have HR5 := Lib.hid (HR4.out.kp0 hk5)
      have HQ5 := Lib.hid hrr; clear hrr HR4
      have HK5 := Lib.hid (HK4.out.trans hk5)
      have HB5 := Lib.hid (HB4.out.kp0 hk5)
      clear hk5 HB4
      go_wp2_with fail
      refine (keptI _ A n (n + 12) c _ _ l w5 (HB5.out.rd (B := w5.heap.size) HB5.out.lt) (HX.out.kp0 HK5.out) HN.out HB9.out (Nat.le_refl _)).mono ?_
      rintro e w6 ⟨rfl, hd6⟩
      go_wp2_with fail
      refine (overI_lent (HB5.out.kp0 (hd6.kp [])) HN.out HB9.out).mono ?_
      rintro e w7 ⟨rfl, hk7⟩
      have hk67 := ((hd6.kp [g]).trans hk7)
      have HK7 := Lib.hid (HK5.out.trans' hk67 (fun z hz => by simp only [List.mem_singleton] at hz; subst hz; exact .inr (Nat.le_of_eq HG.out.symm)))
      have HRB7 := Lib.hid (HR5.out.kp hk67 (fun z hz => by simp only [List.mem_singleton] at hz; subst hz; exact HG3.out))
      have HQB7 := Lib.hid (HQ5.out.kp hk67 (fun z hz => by simp only [List.mem_singleton] at hz; subst hz; exact HG4.out))
      clear HR5 HQ5
      clear hk67 hd6 hk7 HB5
      go_wp2_with fail
      refine (same_of _ _ _ _ ((wideF 1 l : Nat) : Int) l at_ w7 (by rw [Int.toNat_natCast]; exact HRB7.out) HQB7.out HOK.out (by omega)).mono ?_
      rintro e w9 ⟨rfl, hk9⟩
      have HK9 := Lib.hid (HK7.out.trans hk9); clear hk9
      go_wp2_with fail
      refine (pawake_any _).mono ?_
      rintro e w10 ⟨rfl, hk10⟩
      have HK10 := Lib.hid (HK9.out.trans hk10); clear hk10
      go_wp2_with fail
      go_ret
      exact ⟨rfl, HK10.out⟩
    · have HFIT := Lib.hid hfit; clear hfit
      have HEN := Lib.hid hz
      subst hz
      have HR1 := Lib.hid hrow; clear hrow
      have HK2 := Lib.hid (HK1.out.trans hk2)
      have HB2 := Lib.hid (HB1.out.kp0 hk2)
      have HG2 := Lib.hid (Nat.lt_of_lt_of_le HG1.out hk2.size)
      clear hk2
      go_wp2_with fail
      refine (rnew_any wd A n c _ l w2 (HX.out.kp0 HK2.out) HN.out HB9.out HS.out).mono ?_
      rw [← HE.out]
      rintro e w3 ⟨hk3, ⟨hne, _⟩ | ⟨_, q1, rfl, hrr⟩⟩
      · exact absurd rfl hne
      have HR3 := Lib.hid (HR1.out.kp0 hk3)
      have HQ3 := Lib.hid hrr; clear hrr
      have HK3 := Lib.hid (HK2.out.trans hk3)
      have HB3 := Lib.hid (HB2.out.kp0 hk3)
      have HG3 := Lib.hid (Nat.lt_of_lt_of_le HG2.out hk3.size)
      clear hk3 HB2 HR1
      go_wp2_with fail
      refine (of_any _ n (n + 12) _ l w3 (Rd.lent HB3.out) HN.out HB9.out HS.out).mono ?_
      rw [← HF.out]
      rintro e w4 ⟨hk4, ⟨hne, _⟩ | ⟨_, hok, p2, rfl, hrow⟩⟩
      · exact absurd hf hne
      have HOK := Lib.hid hok; clear hok
      have HR4 := Lib.hid hrow; clear hrow
      subst hf
      have HK4 := Lib.hid (HK3.out.trans hk4)
      have HB4 := Lib.hid (HB3.out.kp0 hk4)
      have HRA4 := Lib.hid (HR3.out.kp0 hk4)
      have HQA4 := Lib.hid (HQ3.out.kp0 hk4)
      clear HR3 HQ3
      have HG4 := Lib.hid (Nat.lt_of_lt_of_le HG3.out hk4.size)
      clear hk4 HB3
      go_wp2_with fail
      refine (rof_any A n c _ l w4 (HX.out.kp0 HK4.out) HN.out HB9.out HS.out).mono ?_
      rw [← HF.out]
      rintro e w5 ⟨hk5, ⟨hne, _⟩ | ⟨_, q2, rfl, hrr⟩⟩
      · exact absurd rfl hne
      have HR5 := Lib.hid (HR4.out.kp0 hk5)
      have HQ5 := Lib.hid hrr; clear hrr HR4
      have HK5 := Lib.hid (HK4.out.trans hk5)
      have HB5 := Lib.hid (HB4.out.kp0 hk5)
      have HRA5 := Lib.hid (HRA4.out.kp0 hk5)
      have HQA5 := Lib.hid (HQA4.out.kp0 hk5)
      clear HRA4 HQA4
      clear hk5 HB4
      go_wp2_with fail
      refine (keptI _ A n (n + 12) c _ _ l w5 (HB5.out.rd (B := w5.heap.size) HB5.out.lt) (HX.out.kp0 HK5.out) HN.out HB9.out (Nat.le_refl _)).mono ?_
      rintro e w6 ⟨rfl, hd6⟩
      go_wp2_with fail
      refine (overI_lent (HB5.out.kp0 (hd6.kp [])) HN.out HB9.out).mono ?_
      rintro e w7 ⟨rfl, hk7⟩
      have hk67 := ((hd6.kp [g]).trans hk7)
      have HK7 := Lib.hid (HK5.out.trans' hk67 (fun z hz => by simp only [List.mem_singleton] at hz; subst hz; exact .inr (Nat.le_of_eq HG.out.symm)))
      have HR7 := Lib.hid (HRA5.out.kp hk67 (fun z hz => by simp only [List.mem_singleton] at hz; subst hz; exact HG1.out))
      have HQ7 := Lib.hid (HQA5.out.kp hk67 (fun z hz => by simp only [List.mem_singleton] at hz; subst hz; exact HG2.out))
      clear HRA5 HQA5
      have HRB7 := Lib.hid (HR5.out.kp hk67 (fun z hz => by simp only [List.mem_singleton] at hz; subst hz; exact HG3.out))
      have HQB7 := Lib.hid (HQ5.out.kp hk67 (fun z hz => by simp only [List.mem_singleton] at hz; subst hz; exact HG4.out))
      clear HR5 HQ5
      clear hk67 hd6 hk7 HB5
      go_wp2_with fail
      refine (same_of _ _ _ _ wd l at_ w7 HR7.out HQ7.out HFIT.out.1 (fitN_nonneg HFIT.out)).mono ?_
      rintro e w8 ⟨rfl, hk8⟩
      have HK8 := Lib.hid (HK7.out.trans hk8)
      have HRB8 := Lib.hid (HRB7.out.kp0 hk8)
      have HQB8 := Lib.hid (HQB7.out.kp0 hk8)
      clear hk8
      go_wp2_with fail
      refine (same_of _ _ _ _ ((wideF 1 l : Nat) : Int) l at_ w8 (by rw [Int.toNat_natCast]; exact HRB8.out) HQB8.out HOK.out (by omega)).mono ?_
      rintro e w9 ⟨rfl, hk9⟩
      have HK9 := Lib.hid (HK8.out.trans hk9); clear hk9
      go_wp2_with fail
      refine (pawake_any _).mono ?_
      rintro e w10 ⟨rfl, hk10⟩
      have HK10 := Lib.hid (HK9.out.trans hk10); clear hk10
      go_wp2_with fail
      go_ret
      exact ⟨rfl, HK10.out⟩
  · rintro e w2 ⟨hk2, ⟨hne, rfl⟩ | ⟨hz, hfit, p1, rfl, hrow⟩⟩
    · have HEN := Lib.hid hne
      have hE1 : (E != 0) = true := by simpa using hne
      have hE2 : (E == 0) = false := by simpa using hne
      clear hne
      have HR1 : Hid True := Lib.hid trivial
      have HK2 := Lib.hid (HK1.out.trans hk2)
      have HB2 := Lib.hid (HB1.out.kp0 hk2)
      have HG2 := Lib.hid (Nat.lt_of_lt_of_le HG1.out hk2.size)
      clear hk2
      go_wp2_with fail
      refine (rnew_any wd A n c _ l w2 (HX.out.kp0 HK2.out) HN.out HB9.out HS.out).mono ?_
      rw [← HE.out]
      rintro e w3 ⟨hk3, ⟨_, rfl⟩ | ⟨hz, _⟩⟩
      rotate_left
      · exact absurd hz HEN.out
      have HK3 := Lib.hid (HK2.out.trans hk3)
      have HB3 := Lib.hid (HB2.out.kp0 hk3)
      have HG3 := Lib.hid (Nat.lt_of_lt_of_le HG2.out hk3.size)
      clear hk3 HB2 HR1
      go_wp2_with fail
      refine (of_any _ n (n + 12) _ l w3 (Rd.lent HB3.out) HN.out HB9.out HS.out).mono ?_
      rw [← HF.out]
      rintro e w4 ⟨hk4, ⟨_, rfl⟩ | ⟨hz, _⟩⟩
      rotate_left
      · exact absurd hz hf
      have HFN := Lib.hid hf
      have hF1 : (F != 0) = true := by simpa using hf
      have hF2 : (F == 0) = false := by simpa using hf
      clear hf
      have HK4 := Lib.hid (HK3.out.trans hk4)
      have HB4 := Lib.hid (HB3.out.kp0 hk4)
      have HG4 := Lib.hid (Nat.lt_of_lt_of_le HG3.out hk4.size)
      clear hk4 HB3
      go_wp2_with fail
      refine (rof_any A n c _ l w4 (HX.out.kp0 HK4.out) HN.out HB9.out HS.out).mono ?_
      rw [← HF.out]
      rintro e w5 ⟨hk5, ⟨_, rfl⟩ | ⟨hz, _⟩⟩
      rotate_left
      · exact absurd hz HFN.out
      have HK5 := Lib.hid (HK4.out.trans hk5)
      have HB5 := Lib.hid (HB4.out.kp0 hk5)
      clear hk5 HB4
      go_wp2_with fail
      refine (keptI _ A n (n + 12) c _ _ l w5 (HB5.out.rd (B := w5.heap.size) HB5.out.lt) (HX.out.kp0 HK5.out) HN.out HB9.out (Nat.le_refl _)).mono ?_
      rintro e w6 ⟨rfl, hd6⟩
      go_wp2_with fail
      refine (overI_lent (HB5.out.kp0 (hd6.kp [])) HN.out HB9.out).mono ?_
      rintro e w7 ⟨rfl, hk7⟩
      have hk67 := ((hd6.kp [g]).trans hk7)
      have HK7 := Lib.hid (HK5.out.trans' hk67 (fun z hz => by simp only [List.mem_singleton] at hz; subst hz; exact .inr (Nat.le_of_eq HG.out.symm)))
      clear hk67 hd6 hk7 HB5
      go_wp2_with fail
      refine (pawake_any _).mono ?_
      rintro e w10 ⟨rfl, hk10⟩
      have HK10 := Lib.hid (HK7.out.trans hk10); clear hk10
      go_wp2_with fail
      go_ret
      exact ⟨rfl, HK10.out⟩
    · have HFIT := Lib.hid hfit; clear hfit
      have HEN := Lib.hid hz
      subst hz
      have HR1 := Lib.hid hrow; clear hrow
      have HK2 := Lib.hid (HK1.out.trans hk2)
      have HB2 := Lib.hid (HB1.out.kp0 hk2)
      have HG2 := Lib.hid (Nat.lt_of_lt_of_le HG1.out hk2.size)
      clear hk2
      go_wp2_with fail
      refine (rnew_any wd A n c _ l w2 (HX.out.kp0 HK2.out) HN.out HB9.out HS.out).mono ?_
      rw [← HE.out]
      rintro e w3 ⟨hk3, ⟨hne, _⟩ | ⟨_, q1, rfl, hrr⟩⟩
      · exact absurd rfl hne
      have HR3 := Lib.hid (HR1.out.kp0 hk3)
      have HQ3 := Lib.hid hrr; clear hrr
      have HK3 := Lib.hid (HK2.out.trans hk3)
      have HB3 := Lib.hid (HB2.out.kp0 hk3)
      have HG3 := Lib.hid (Nat.lt_of_lt_of_le HG2.out hk3.size)
      clear hk3 HB2 HR1
      go_wp2_with fail
      refine (of_any _ n (n + 12) _ l w3 (Rd.lent HB3.out) HN.out HB9.out HS.out).mono ?_
      rw [← HF.out]
      rintro e w4 ⟨hk4, ⟨_, rfl⟩ | ⟨hz, _⟩⟩
      rotate_left
      · exact absurd hz hf
      have HFN := Lib.hid hf
      have hF1 : (F != 0) = true := by simpa using hf
      have hF2 : (F == 0) = false := by simpa using hf
      clear hf
      have HK4 := Lib.hid (HK3.out.trans hk4)
      have HB4 := Lib.hid (HB3.out.kp0 hk4)
      have HRA4 := Lib.hid (HR3.out.kp0 hk4)
      have HQA4 := Lib.hid (HQ3.out.kp0 hk4)
      clear HR3 HQ3
      have HG4 := Lib.hid (Nat.lt_of_lt_of_le HG3.out hk4.size)
      clear hk4 HB3
      go_wp2_with fail
      refine (rof_any A n c _ l w4 (HX.out.kp0 HK4.out) HN.out HB9.out HS.out).mono ?_
      rw [← HF.out]
      rintro e w5 ⟨hk5, ⟨_, rfl⟩ | ⟨hz, _⟩⟩
      rotate_left
      · exact absurd hz HFN.out
      have HK5 := Lib.hid (HK4.out.trans hk5)
      have HB5 := Lib.hid (HB4.out.kp0 hk5)
      have HRA5 := Lib.hid (HRA4.out.kp0 hk5)
      have HQA5 := Lib.hid (HQA4.out.kp0 hk5)
      clear HRA4 HQA4
      clear hk5 HB4
      go_wp2_with fail
      refine (keptI _ A n (n + 12) c _ _ l w5 (HB5.out.rd (B := w5.heap.size) HB5.out.lt) (HX.out.kp0 HK5.out) HN.out HB9.out (Nat.le_refl _)).mono ?_
      rintro e w6 ⟨rfl, hd6⟩
      go_wp2_with fail
      refine (overI_lent (HB5.out.kp0 (hd6.kp [])) HN.out HB9.out).mono ?_
      rintro e w7 ⟨rfl, hk7⟩
      have hk67 := ((hd6.kp [g]).trans hk7)
      have HK7 := Lib.hid (HK5.out.trans' hk67 (fun z hz => by simp only [List.mem_singleton] at hz; subst hz; exact .inr (Nat.le_of_eq HG.out.symm)))
      have HR7 := Lib.hid (HRA5.out.kp hk67 (fun z hz => by simp only [List.mem_singleton] at hz; subst hz; exact HG1.out))
      have HQ7 := Lib.hid (HQA5.out.kp hk67 (fun z hz => by simp only [List.mem_singleton] at hz; subst hz; exact HG2.out))
      clear HRA5 HQA5
      clear hk67 hd6 hk7 HB5
      go_wp2_with fail
      refine (same_of _ _ _ _ wd l at_ w7 HR7.out HQ7.out HFIT.out.1 (fitN_nonneg HFIT.out)).mono ?_
      rintro e w8 ⟨rfl, hk8⟩
      have HK8 := Lib.hid (HK7.out.trans hk8)
      clear hk8
      go_wp2_with fail
      refine (pawake_any _).mono ?_
      rintro e w10 ⟨rfl, hk10⟩
      have HK10 := Lib.hid (HK8.out.trans hk10); clear hk10
      go_wp2_with fail
      go_ret
      exact ⟨rfl, HK10.out⟩
end Go.Proofs.Ytlkgepojjjcaoaa
