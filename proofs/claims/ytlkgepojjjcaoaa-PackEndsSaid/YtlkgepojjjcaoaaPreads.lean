/-
  THE STATEMENT PackReads OF LAYER 2, its walk: the call returns true and writes to nothing that was there.
  CONDITIONS: bytes.
-/
import Derived.Test.YtlkgepojjjcaoaaPsame
import Derived.Test.YtlkgepojjjcaoaaPleast
import Derived.Test.YtlkgepojjjcaoaaPrread
namespace Go.Proofs.Ytlkgepojjjcaoaa
open Go.RowKit

theorem Rd.lentB {w : World} {g : Nat} {l more : List Int} (h : Blk w g 5 ((l ++ more).map (.int .u8))) : Rd w w.heap.size (some ⟨g, 0, none⟩) (l.map (.int .u8)) := by
  have := (h.rd h.lt).take (l.map (Value.int .u8)).length
  rwa [List.map_append, List.take_left'] at this
  rfl
theorem overB_lent {w : World} {g n : Nat} {l : List Int} (h : Blk w g 5 ((l ++ marksB 1 12).map (.int .u8))) (hn : l.length = n) (hb : n ≤ 1000000000) :
    Calls Try.prog 25 #[.slice (some ⟨g, 0, none⟩) n (n + 12)] w fun e w' => e = .returned (.tuple #[]) ∧ Kp [g] w w' := by
  refine overB g n (n + 12) _ (l.map (.int .u8)) w ?_ hb
  rw [List.map_append] at h
  exact own_of_blk h (Nat.le_refl _) (by omega) (by unfold maxLen; omega) (by rw [List.length_map, hn, Nat.mul_one]) (by simp [hn, marksB_len])

set_option maxRecDepth 100000 in
set_option maxHeartbeats 4000000 in
theorem reads_any (wd k at_ : Int) (A : Option Addr) (n c B : Nat) (bs : List Nat) (w : World) (hx : Rd w B A ((intsN bs).map (.int .u8))) (hn : bs.length = n) (hs : ∀ y ∈ bs, y < 2 ^ 8) :
    Calls Try.prog 5 #[.int .i64 wd, .int .i64 k, .slice A n c, .int .i64 at_] w fun e w' => e = .returned (.bool true) ∧ Kp [] w w' := by
  have HX := Lib.hid hx.here; clear hx
  have HN := Lib.hid hn
  have HN2 := Lib.hid (show (intsN bs).length = n by rw [intsN, List.length_map, hn]); clear hn
  have HS := Lib.hid hs; clear hs
  by_cases hbig : 2000 < n
  · go_enter Try.func5, Try.ntmps5
    go_wp2_with fail
    refine (pawake_any _).mono ?_
    rintro e w1 ⟨rfl, hk1⟩
    go_wp2_with fail
    go_ret
    exact ⟨rfl, hk1⟩
  have hb9 : n ≤ 1000000000 := by omega
  have HB9 := Lib.hid hb9
  obtain ⟨E, hE⟩ : ∃ E, E = readE wd k bs := ⟨_, rfl⟩
  have HE := Lib.hid hE; clear hE
  by_cases h1 : wd < 1
  · have HNE := Lib.hid (show E ≠ 0 by rw [HE.out, readE_err (by unfold errRow; rw [if_pos (.inl h1)]; decide)]; unfold errRow; rw [if_pos (.inl h1)]; decide)
    have hE1 : (E != 0) = true := by simpa using HNE.out
    have hE2 : (E == 0) = false := by simpa using HNE.out
    go_enter Try.func5, Try.ntmps5
    go_wp2_with fail
    refine (lentB A n c _ (intsN bs) w HX.out HN2.out HB9.out).mono ?_
    rintro e w1 ⟨rfl, hk1, hb1⟩
    obtain ⟨g, hg⟩ : ∃ g, g = w.heap.size := ⟨_, rfl⟩
    rw [← hg] at hb1 ⊢
    have HG := Lib.hid hg; clear hg
    have HB1 := Lib.hid hb1
    have HG1 := Lib.hid (show g < w1.heap.size from hb1.lt); clear hb1
    have HK1 := Lib.hid hk1; clear hk1
    go_wp2_with fail
    refine (read_any wd k _ n (n + 12) _ bs w1 (Rd.lentB HB1.out) HN.out HB9.out HS.out).mono ?_
    rw [← HE.out]
    rintro e w2 ⟨hk2, ⟨_, rfl⟩ | ⟨hz, _⟩⟩
    rotate_left
    · exact absurd hz HNE.out
    have HK2 := Lib.hid (HK1.out.trans hk2)
    have HB2 := Lib.hid (HB1.out.kp0 hk2)
    have HG2 := Lib.hid (Nat.lt_of_lt_of_le HG1.out hk2.size)
    clear hk2
    go_wp2_with fail
    refine (rread_any wd k A n c _ bs w2 (HX.out.kp0 HK2.out) HN.out HB9.out HS.out).mono ?_
    rw [← HE.out]
    rintro e w3 ⟨hk3, ⟨_, rfl⟩ | ⟨hz, _⟩⟩
    rotate_left
    · exact absurd hz HNE.out
    have HK3 := Lib.hid (HK2.out.trans hk3)
    have HB3 := Lib.hid (HB2.out.kp0 hk3)
    clear hk3 HB2
    go_wp2_with fail
    refine (keptB _ A n (n + 12) c _ _ (intsN bs) w3 (HB3.out.rd (B := w3.heap.size) HB3.out.lt) (HX.out.kp0 HK3.out) HN2.out HB9.out (Nat.le_refl _)).mono ?_
    rintro e w6 ⟨rfl, hd6⟩
    go_wp2_with fail
    refine (overB_lent (HB3.out.kp0 (hd6.kp [])) HN2.out HB9.out).mono ?_
    rintro e w7 ⟨rfl, hk7⟩
    have hk67 := ((hd6.kp [g]).trans hk7)
    have HK7 := Lib.hid (HK3.out.trans' hk67 (fun z hz => by simp only [List.mem_singleton] at hz; subst hz; exact .inr (Nat.le_of_eq HG.out.symm)))
    clear hk67 hd6 hk7 HB3
    go_wp2_with fail
    refine (pawake_any _).mono ?_
    rintro e w10 ⟨rfl, hk10⟩
    have HK10 := Lib.hid (HK7.out.trans hk10); clear hk10
    go_wp2_with fail
    go_ret
    exact ⟨rfl, HK10.out⟩
  by_cases h2 : 60 < wd
  · have HNE := Lib.hid (show E ≠ 0 by rw [HE.out, readE_err (by unfold errRow; rw [if_pos (.inr (.inl h2))]; decide)]; unfold errRow; rw [if_pos (.inr (.inl h2))]; decide)
    have hE1 : (E != 0) = true := by simpa using HNE.out
    have hE2 : (E == 0) = false := by simpa using HNE.out
    go_enter Try.func5, Try.ntmps5
    go_wp2_with fail
    refine (lentB A n c _ (intsN bs) w HX.out HN2.out HB9.out).mono ?_
    rintro e w1 ⟨rfl, hk1, hb1⟩
    obtain ⟨g, hg⟩ : ∃ g, g = w.heap.size := ⟨_, rfl⟩
    rw [← hg] at hb1 ⊢
    have HG := Lib.hid hg; clear hg
    have HB1 := Lib.hid hb1
    have HG1 := Lib.hid (show g < w1.heap.size from hb1.lt); clear hb1
    have HK1 := Lib.hid hk1; clear hk1
    go_wp2_with fail
    refine (read_any wd k _ n (n + 12) _ bs w1 (Rd.lentB HB1.out) HN.out HB9.out HS.out).mono ?_
    rw [← HE.out]
    rintro e w2 ⟨hk2, ⟨_, rfl⟩ | ⟨hz, _⟩⟩
    rotate_left
    · exact absurd hz HNE.out
    have HK2 := Lib.hid (HK1.out.trans hk2)
    have HB2 := Lib.hid (HB1.out.kp0 hk2)
    have HG2 := Lib.hid (Nat.lt_of_lt_of_le HG1.out hk2.size)
    clear hk2
    go_wp2_with fail
    refine (rread_any wd k A n c _ bs w2 (HX.out.kp0 HK2.out) HN.out HB9.out HS.out).mono ?_
    rw [← HE.out]
    rintro e w3 ⟨hk3, ⟨_, rfl⟩ | ⟨hz, _⟩⟩
    rotate_left
    · exact absurd hz HNE.out
    have HK3 := Lib.hid (HK2.out.trans hk3)
    have HB3 := Lib.hid (HB2.out.kp0 hk3)
    clear hk3 HB2
    go_wp2_with fail
    refine (keptB _ A n (n + 12) c _ _ (intsN bs) w3 (HB3.out.rd (B := w3.heap.size) HB3.out.lt) (HX.out.kp0 HK3.out) HN2.out HB9.out (Nat.le_refl _)).mono ?_
    rintro e w6 ⟨rfl, hd6⟩
    go_wp2_with fail
    refine (overB_lent (HB3.out.kp0 (hd6.kp [])) HN2.out HB9.out).mono ?_
    rintro e w7 ⟨rfl, hk7⟩
    have hk67 := ((hd6.kp [g]).trans hk7)
    have HK7 := Lib.hid (HK3.out.trans' hk67 (fun z hz => by simp only [List.mem_singleton] at hz; subst hz; exact .inr (Nat.le_of_eq HG.out.symm)))
    clear hk67 hd6 hk7 HB3
    go_wp2_with fail
    refine (pawake_any _).mono ?_
    rintro e w10 ⟨rfl, hk10⟩
    have HK10 := Lib.hid (HK7.out.trans hk10); clear hk10
    go_wp2_with fail
    go_ret
    exact ⟨rfl, HK10.out⟩
  have HWN := Lib.hid (show 0 ≤ wd by omega)
  obtain ⟨q1, hq1⟩ : ∃ q1, q1 = 16000 / wd := ⟨_, rfl⟩
  obtain ⟨q2, hq2⟩ : ∃ q2, q2 = 16777216 / wd := ⟨_, rfl⟩
  have hqb1 : 0 ≤ q1 ∧ q1 ≤ 16000 := by
    rw [hq1]
    exact ⟨Int.ediv_nonneg (by omega) (by omega), Int.ediv_le_self _ (by omega)⟩
  have hqb2 : 0 ≤ q2 ∧ q2 ≤ 16777216 := by
    rw [hq2]
    exact ⟨Int.ediv_nonneg (by omega) (by omega), Int.ediv_le_self _ (by omega)⟩
  have hdv1 : Int.tdiv 16000 wd = q1 := by rw [Int.tdiv_eq_ediv_of_nonneg (by omega), hq1]
  have hdv2 : Int.tdiv 16777216 wd = q2 := by rw [Int.tdiv_eq_ediv_of_nonneg (by omega), hq2]
  have hwq1 : IntKind.i64.wrap q1 = q1 := by rw [IntKind.wrap_i64]; omega
  have hwq2 : IntKind.i64.wrap q2 = q2 := by rw [IntKind.wrap_i64]; omega
  have hwz : wd ≠ 0 := by omega
  have HQ2 := Lib.hid hq2
  clear hq1 hq2
  by_cases h3 : q1 < k
  · by_cases h4 : q2 < k
    · have HNE := Lib.hid (show E ≠ 0 by
        have h : errRow wd k = 3 := by unfold errRow; rw [if_neg (by omega), ← HQ2.out, if_pos h4]
        rw [HE.out, readE_err (by rw [h]; decide), h]; decide)
      have hE1 : (E != 0) = true := by simpa using HNE.out
      have hE2 : (E == 0) = false := by simpa using HNE.out
      go_enter Try.func5, Try.ntmps5
      go_wp2_with fail
      refine (lentB A n c _ (intsN bs) w HX.out HN2.out HB9.out).mono ?_
      rintro e w1 ⟨rfl, hk1, hb1⟩
      obtain ⟨g, hg⟩ : ∃ g, g = w.heap.size := ⟨_, rfl⟩
      rw [← hg] at hb1 ⊢
      have HG := Lib.hid hg; clear hg
      have HB1 := Lib.hid hb1
      have HG1 := Lib.hid (show g < w1.heap.size from hb1.lt); clear hb1
      have HK1 := Lib.hid hk1; clear hk1
      go_wp2_with fail
      refine (read_any wd k _ n (n + 12) _ bs w1 (Rd.lentB HB1.out) HN.out HB9.out HS.out).mono ?_
      rw [← HE.out]
      rintro e w2 ⟨hk2, ⟨_, rfl⟩ | ⟨hz, _⟩⟩
      rotate_left
      · exact absurd hz HNE.out
      have HK2 := Lib.hid (HK1.out.trans hk2)
      have HB2 := Lib.hid (HB1.out.kp0 hk2)
      have HG2 := Lib.hid (Nat.lt_of_lt_of_le HG1.out hk2.size)
      clear hk2
      go_wp2_with fail
      refine (rread_any wd k A n c _ bs w2 (HX.out.kp0 HK2.out) HN.out HB9.out HS.out).mono ?_
      rw [← HE.out]
      rintro e w3 ⟨hk3, ⟨_, rfl⟩ | ⟨hz, _⟩⟩
      rotate_left
      · exact absurd hz HNE.out
      have HK3 := Lib.hid (HK2.out.trans hk3)
      have HB3 := Lib.hid (HB2.out.kp0 hk3)
      clear hk3 HB2
      go_wp2_with fail
      refine (keptB _ A n (n + 12) c _ _ (intsN bs) w3 (HB3.out.rd (B := w3.heap.size) HB3.out.lt) (HX.out.kp0 HK3.out) HN2.out HB9.out (Nat.le_refl _)).mono ?_
      rintro e w6 ⟨rfl, hd6⟩
      go_wp2_with fail
      refine (overB_lent (HB3.out.kp0 (hd6.kp [])) HN2.out HB9.out).mono ?_
      rintro e w7 ⟨rfl, hk7⟩
      have hk67 := ((hd6.kp [g]).trans hk7)
      have HK7 := Lib.hid (HK3.out.trans' hk67 (fun z hz => by simp only [List.mem_singleton] at hz; subst hz; exact .inr (Nat.le_of_eq HG.out.symm)))
      clear hk67 hd6 hk7 HB3
      go_wp2_with fail
      refine (pawake_any _).mono ?_
      rintro e w10 ⟨rfl, hk10⟩
      have HK10 := Lib.hid (HK7.out.trans hk10); clear hk10
      go_wp2_with fail
      go_ret
      exact ⟨rfl, HK10.out⟩
    · go_enter Try.func5, Try.ntmps5
      go_wp2_with fail
      refine (pawake_any _).mono ?_
      rintro e w1 ⟨rfl, hk1⟩
      go_wp2_with fail
      go_ret
      exact ⟨rfl, hk1⟩
  by_cases hne : E ≠ 0
  · have HNE := Lib.hid hne
    have hE1 : (E != 0) = true := by simpa using HNE.out
    have hE2 : (E == 0) = false := by simpa using HNE.out
    clear hne
    go_enter Try.func5, Try.ntmps5
    go_wp2_with fail
    refine (lentB A n c _ (intsN bs) w HX.out HN2.out HB9.out).mono ?_
    rintro e w1 ⟨rfl, hk1, hb1⟩
    obtain ⟨g, hg⟩ : ∃ g, g = w.heap.size := ⟨_, rfl⟩
    rw [← hg] at hb1 ⊢
    have HG := Lib.hid hg; clear hg
    have HB1 := Lib.hid hb1
    have HG1 := Lib.hid (show g < w1.heap.size from hb1.lt); clear hb1
    have HK1 := Lib.hid hk1; clear hk1
    go_wp2_with fail
    refine (read_any wd k _ n (n + 12) _ bs w1 (Rd.lentB HB1.out) HN.out HB9.out HS.out).mono ?_
    rw [← HE.out]
    rintro e w2 ⟨hk2, ⟨_, rfl⟩ | ⟨hz, _⟩⟩
    rotate_left
    · exact absurd hz HNE.out
    have HK2 := Lib.hid (HK1.out.trans hk2)
    have HB2 := Lib.hid (HB1.out.kp0 hk2)
    have HG2 := Lib.hid (Nat.lt_of_lt_of_le HG1.out hk2.size)
    clear hk2
    go_wp2_with fail
    refine (rread_any wd k A n c _ bs w2 (HX.out.kp0 HK2.out) HN.out HB9.out HS.out).mono ?_
    rw [← HE.out]
    rintro e w3 ⟨hk3, ⟨_, rfl⟩ | ⟨hz, _⟩⟩
    rotate_left
    · exact absurd hz HNE.out
    have HK3 := Lib.hid (HK2.out.trans hk3)
    have HB3 := Lib.hid (HB2.out.kp0 hk3)
    clear hk3 HB2
    go_wp2_with fail
    refine (keptB _ A n (n + 12) c _ _ (intsN bs) w3 (HB3.out.rd (B := w3.heap.size) HB3.out.lt) (HX.out.kp0 HK3.out) HN2.out HB9.out (Nat.le_refl _)).mono ?_
    rintro e w6 ⟨rfl, hd6⟩
    go_wp2_with fail
    refine (overB_lent (HB3.out.kp0 (hd6.kp [])) HN2.out HB9.out).mono ?_
    rintro e w7 ⟨rfl, hk7⟩
    have hk67 := ((hd6.kp [g]).trans hk7)
    have HK7 := Lib.hid (HK3.out.trans' hk67 (fun z hz => by simp only [List.mem_singleton] at hz; subst hz; exact .inr (Nat.le_of_eq HG.out.symm)))
    clear hk67 hd6 hk7 HB3
    go_wp2_with fail
    refine (pawake_any _).mono ?_
    rintro e w10 ⟨rfl, hk10⟩
    have HK10 := Lib.hid (HK7.out.trans hk10); clear hk10
    go_wp2_with fail
    go_ret
    exact ⟨rfl, HK10.out⟩
  have hz : E = 0 := by omega
  subst hz
  clear hne
  go_enter Try.func5, Try.ntmps5
  go_wp2_with fail
  refine (lentB A n c _ (intsN bs) w HX.out HN2.out HB9.out).mono ?_
  rintro e w1 ⟨rfl, hk1, hb1⟩
  obtain ⟨g, hg⟩ : ∃ g, g = w.heap.size := ⟨_, rfl⟩
  rw [← hg] at hb1 ⊢
  have HG := Lib.hid hg; clear hg
  have HB1 := Lib.hid hb1
  have HG1 := Lib.hid (show g < w1.heap.size from hb1.lt); clear hb1
  have HK1 := Lib.hid hk1; clear hk1
  go_wp2_with fail
  refine (read_any wd k _ n (n + 12) _ bs w1 (Rd.lentB HB1.out) HN.out HB9.out HS.out).mono ?_
  rw [← HE.out]
  rintro e w2 ⟨hk2, ⟨hne, _⟩ | ⟨_, her, _, _, p1, rfl, hrow⟩⟩
  · exact absurd rfl hne
  have HR2 := Lib.hid hrow; clear hrow
  have HER := Lib.hid her; clear her
  have HK2 := Lib.hid (HK1.out.trans hk2)
  have HB2 := Lib.hid (HB1.out.kp0 hk2)
  have HG2 := Lib.hid (Nat.lt_of_lt_of_le HG1.out hk2.size)
  clear hk2
  go_wp2_with fail
  refine (rread_any wd k A n c _ bs w2 (HX.out.kp0 HK2.out) HN.out HB9.out HS.out).mono ?_
  rw [← HE.out]
  rintro e w3 ⟨hk3, ⟨hne, _⟩ | ⟨_, q1, rfl, hrr⟩⟩
  · exact absurd rfl hne
  have HR3 := Lib.hid (HR2.out.kp0 hk3)
  have HQ3 := Lib.hid hrr; clear hrr HR2
  have HK3 := Lib.hid (HK2.out.trans hk3)
  have HB3 := Lib.hid (HB2.out.kp0 hk3)
  clear hk3 HB2
  go_wp2_with fail
  refine (keptB _ A n (n + 12) c _ _ (intsN bs) w3 (HB3.out.rd (B := w3.heap.size) HB3.out.lt) (HX.out.kp0 HK3.out) HN2.out HB9.out (Nat.le_refl _)).mono ?_
  rintro e w6 ⟨rfl, hd6⟩
  go_wp2_with fail
  refine (overB_lent (HB3.out.kp0 (hd6.kp [])) HN2.out HB9.out).mono ?_
  rintro e w7 ⟨rfl, hk7⟩
  have hk67 := ((hd6.kp [g]).trans hk7)
  have HK7 := Lib.hid (HK3.out.trans' hk67 (fun z hz => by simp only [List.mem_singleton] at hz; subst hz; exact .inr (Nat.le_of_eq HG.out.symm)))
  have HR7 := Lib.hid (HR3.out.kp hk67 (fun z hz => by simp only [List.mem_singleton] at hz; subst hz; exact HG1.out))
  have HQ7 := Lib.hid (HQ3.out.kp hk67 (fun z hz => by simp only [List.mem_singleton] at hz; subst hz; exact HG2.out))
  clear HR3 HQ3
  clear hk67 hd6 hk7 HB3
  go_wp2_with fail
  refine (same_any _ _ _ _ wd.toNat _ at_ w7 HR7.out (by rw [Int.toNat_of_nonneg HWN.out]; exact HQ7.out)).mono ?_
  rintro e w8 ⟨rfl, hk8⟩
  have HK8 := Lib.hid (HK7.out.trans hk8); clear hk8
  go_wp2_with fail
  refine (pawake_any _).mono ?_
  rintro e w10 ⟨rfl, hk10⟩
  have HK10 := Lib.hid (HK8.out.trans hk10); clear hk10
  go_wp2_with fail
  go_ret
  exact ⟨rfl, HK10.out⟩
theorem intsN_bytes {b : List Int} (h : ∀ x ∈ b, 0 ≤ x ∧ x ≤ 255) : intsN (b.map Int.toNat) = b := by
  induction b with
  | nil => rfl
  | cons x l ih =>
    have h1 := h x (by simp)
    have h2 := ih (fun y hy => h y (by simp [hy]))
    simp only [intsN, List.map_cons, List.map_map] at h2 ⊢
    rw [h2, show ((x.toNat : Nat) : Int) = x from by omega]
theorem toNat_bytes {b : List Int} (h : ∀ x ∈ b, 0 ≤ x ∧ x ≤ 255) : ∀ y ∈ b.map Int.toNat, y < 2 ^ 8 := by
  intro y hy
  obtain ⟨x, hx, rfl⟩ := List.mem_map.1 hy
  have := h x hx
  omega
theorem reads_int (wd k at_ : Int) (A : Option Addr) (n c B : Nat) (b : List Int) (w : World) (hx : Rd w B A (b.map (.int .u8))) (hn : b.length = n) (hs : ∀ x ∈ b, 0 ≤ x ∧ x ≤ 255) :
    Calls Try.prog 5 #[.int .i64 wd, .int .i64 k, .slice A n c, .int .i64 at_] w fun e w' => e = .returned (.bool true) ∧ Kp [] w w' :=
  reads_any wd k at_ A n c B (b.map Int.toNat) w (by rw [intsN_bytes hs]; exact hx) (by rw [List.length_map, hn]) (toNat_bytes hs)
end Go.Proofs.Ytlkgepojjjcaoaa
