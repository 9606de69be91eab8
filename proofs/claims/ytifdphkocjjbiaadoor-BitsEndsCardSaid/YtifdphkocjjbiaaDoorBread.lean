/-
  BitsRead: the walk.
  CONDITIONS: bytes.
-/
import Derived.Test.YtifdphkocjjbiaaDoorBsame
namespace Go.Proofs.YtifdphkocjjbiaaDoor
open Go.RowKit

theorem Rd.lentB {w : World} {g : Nat} {l more : List Int} (h : Blk w g 5 ((l ++ more).map (.int .u8))) : Rd w w.heap.size (some ⟨g, 0, none⟩) (l.map (.int .u8)) := by
  have := (h.rd h.lt).take (l.map (Value.int .u8)).length
  rwa [List.map_append, List.take_left'] at this
  rfl
theorem overB_lent {w : World} {g n : Nat} {l : List Int} (h : Blk w g 5 ((l ++ marksB 1 12).map (.int .u8))) (hn : l.length = n) (hb : n ≤ 1000000000) :
    Calls Tryd.prog 19 #[.slice (some ⟨g, 0, none⟩) n (n + 12)] w fun e w' => e = .returned (.tuple #[]) ∧ Kp [g] w w' := by
  refine overB g n (n + 12) _ (l.map (.int .u8)) w ?_ hb
  rw [List.map_append] at h
  exact own_of_blk h (Nat.le_refl _) (by omega) (by unfold maxLen; omega) (by rw [List.length_map, hn, Nat.mul_one]) (by simp [hn, marksB_len])

set_option maxRecDepth 100000 in
set_option maxHeartbeats 4000000 in
theorem bread_any (n at_ : Int) (A : Option Addr) (L c B : Nat) (bs : List Nat) (w : World) (hx : Rd w B A ((intsN bs).map (.int .u8))) (hn : bs.length = L) (hs : ∀ y ∈ bs, y < 2 ^ 8) (ht : Tab64 w) :
    Calls Tryd.prog 4 #[.int .i64 n, .slice A L c, .int .i64 at_] w fun e w' => e = .returned (.bool true) ∧ Kp [] w w' := by
  have HX := Lib.hid hx.here; clear hx
  have HN := Lib.hid hn; clear hn
  have HS := Lib.hid hs; clear hs
  have HT := Lib.hid ht; clear ht
  by_cases hbig : 3000 < L
  · go_enter Tryd.func4, Tryd.ntmps4
    go_wp2_with fail
    refine (bawake_any w HT.out).mono ?_
    rintro e w0 ⟨rfl, hk0⟩
    have HK0 := Lib.hid hk0; clear hk0
    go_wp2_with fail
    go_ret
    exact ⟨rfl, HK0.out⟩
  by_cases hmid : 24000 < n ∧ n ≤ 16777216
  · obtain ⟨hm1, hm2⟩ := hmid
    go_enter Tryd.func4, Tryd.ntmps4
    go_wp2_with fail
    refine (bawake_any w HT.out).mono ?_
    rintro e w0 ⟨rfl, hk0⟩
    have HK0 := Lib.hid hk0; clear hk0
    go_wp2_with fail
    go_ret
    exact ⟨rfl, HK0.out⟩
  have HN2 := Lib.hid (show (intsN bs).length = L by rw [← HN.out]; simp [intsN])
  have HB9 := Lib.hid (show L ≤ 1000000000 by omega)
  obtain ⟨E, hE⟩ : ∃ E, E = readE n bs := ⟨_, rfl⟩
  have HE := Lib.hid hE; clear hE
  have hcase : n ≤ 24000 ∨ (24000 < n ∧ 16777216 < n) := by omega
  clear hmid
  by_cases hE0 : E = 0
  · have HE0 := Lib.hid hE0
    subst hE0
    rcases hcase with hc | ⟨hc1, hc2⟩
    rotate_left
    · exfalso
      have h := HE.out
      have h2 : lenE n ≠ 0 := fun h => by have := lenE_ok h; omega
      rw [readE_err h2] at h
      exact h2 h.symm
    go_enter Tryd.func4, Tryd.ntmps4
    go_wp2_with fail
    refine (lentB A L c _ (intsN bs) w HX.out HN2.out HB9.out).mono ?_
    rintro e w1 ⟨rfl, hk1, hb1⟩
    obtain ⟨g, hg⟩ : ∃ g, g = w.heap.size := ⟨_, rfl⟩
    rw [← hg] at hb1 ⊢
    have HG := Lib.hid hg; clear hg
    have HB1 := Lib.hid hb1
    have HG1 := Lib.hid (show g < w1.heap.size from hb1.lt); clear hb1
    have HK1 := Lib.hid hk1; clear hk1
    go_wp2_with fail
    refine (vread_any n _ L (L + 12) _ bs w1 (Rd.lentB HB1.out) HN.out HB9.out HS.out).mono ?_
    rintro e w2 ⟨hk2, ⟨hne, _⟩ | ⟨_, hle, _, _, S, p, rfl, hv, hSB⟩⟩
    · exact absurd HE.out.symm hne
    have HV2 := Lib.hid hv
    have HSB := Lib.hid hSB
    have HK2 := Lib.hid (HK1.out.trans hk2)
    have HB2 := Lib.hid (HB1.out.kp0 hk2)
    have HX2 := Lib.hid (HX.out.kp0 HK2.out)
    have HG2 := Lib.hid (Nat.lt_of_lt_of_le HG1.out hk2.size)
    clear hk2 hle hv hSB HB1 HK1
    go_wp2_with fail
    refine (rbread_any n A L c _ bs w2 HX2.out HN.out HB9.out HS.out).mono ?_
    rintro e w3 ⟨hk3, ⟨hne, _⟩ | ⟨_, T, q, rfl, hr, hTB⟩⟩
    · exact absurd HE.out.symm hne
    have HV3 := Lib.hid (HV2.out.kp0 hk3)
    have HR3 := Lib.hid hr
    have HK3 := Lib.hid (HK2.out.trans hk3)
    have HB3 := Lib.hid (HB2.out.kp0 hk3)
    have HTS := Lib.hid (show ∀ x ∈ T, x ∉ S from fun x hx hm => by have h1 := hTB x hx; have h2 := HV2.out.lt x hm; omega)
    have HTB := Lib.hid (show ∀ x ∈ T, g ≠ x from fun x hx e => by have h1 := hTB x hx; have h2 := HG2.out; omega)
    have HSG := Lib.hid (show ∀ x ∈ S, g ≠ x from fun x hx e => by have h1 := HSB.out x hx; have h2 := HG1.out; omega)
    clear hk3 hr hTB HV2 HK2 HB2
    go_wp2_with fail
    refine (keptB _ A L (L + 12) c _ _ (intsN bs) w3 (HB3.out.rd (B := w3.heap.size) HB3.out.lt) (HX.out.kp0 HK3.out) HN2.out HB9.out (Nat.le_refl _)).mono ?_
    rintro e w6 ⟨rfl, hd6⟩
    go_wp2_with fail
    refine (overB_lent (HB3.out.kp0 (hd6.kp [])) HN2.out HB9.out).mono ?_
    rintro e w7 ⟨rfl, hk7⟩
    have hk67 := ((hd6.kp [g]).trans hk7)
    have HK7 := Lib.hid (HK3.out.trans' hk67 (fun z hz => by simp only [List.mem_singleton] at hz; subst hz; exact .inr (Nat.le_of_eq HG.out.symm)))
    have HV7 := Lib.hid (HV3.out.kp hk67 (fun x hx hz => by simp only [List.mem_singleton] at hz; exact HSG.out x hx hz.symm))
    have HR7 := Lib.hid (HR3.out.kp hk67 (fun x hx hz => by simp only [List.mem_singleton] at hz; exact HTB.out x hx hz.symm))
    have HT7 := Lib.hid (HT.out.kp0 HK7.out)
    have H0 := Lib.hid (show 0 ∉ S from fun h => by have h1 := HSB.out _ h; have h2 := HT.out.lt; have h3 := HG1.out; have h4 := HG.out; omega)
    have HSW := Lib.hid (show ∀ x ∈ S, x ∈ ([] : List Nat) ∨ w.heap.size ≤ x from fun x hx => .inr (by have h1 := HSB.out x hx; have h2 := HG1.out; have h3 := HG.out; omega))
    clear hk67 hd6 hk7 HB3 HV3 HR3 HK3
    go_wp2_with fail
    refine (same_any S T p q at_ _ false w7 HV7.out HR7.out HTS.out HT7.out H0.out).mono ?_
    rintro e w8 ⟨rfl, hk8, _⟩
    have HK8 := Lib.hid (HK7.out.trans' hk8 HSW.out)
    clear hk8
    go_wp2_with fail
    refine (bawake_any w8 (HT.out.kp0 HK8.out)).mono ?_
    rintro e w9 ⟨rfl, hk9⟩
    have HK9 := Lib.hid (HK8.out.trans hk9)
    clear hk9
    go_wp2_with fail
    go_ret
    exact ⟨rfl, HK9.out⟩
  · have hE1 : (E != 0) = true := by simpa using hE0
    have HNE := Lib.hid (show readE n bs ≠ 0 by rw [← HE.out]; exact hE0)
    clear hE0
    rcases hcase with hc | ⟨hc1, hc2⟩
    all_goals
      go_enter Tryd.func4, Tryd.ntmps4
      go_wp2_with fail
      refine (lentB A L c _ (intsN bs) w HX.out HN2.out HB9.out).mono ?_
      rintro e w1 ⟨rfl, hk1, hb1⟩
      obtain ⟨g, hg⟩ : ∃ g, g = w.heap.size := ⟨_, rfl⟩
      rw [← hg] at hb1 ⊢
      have HG := Lib.hid hg; clear hg
      have HB1 := Lib.hid hb1; clear hb1
      have HK1 := Lib.hid hk1; clear hk1
      go_wp2_with fail
      refine (vread_any n _ L (L + 12) _ bs w1 (Rd.lentB HB1.out) HN.out HB9.out HS.out).mono ?_
      rintro e w2 ⟨hk2, ⟨_, rfl⟩ | ⟨hz, _⟩⟩
      rotate_left
      · exact absurd hz HNE.out
      rw [← HE.out]
      have HK2 := Lib.hid (HK1.out.trans hk2)
      have HB2 := Lib.hid (HB1.out.kp0 hk2)
      have HX2 := Lib.hid (HX.out.kp0 HK2.out)
      clear hk2 HB1 HK1
      go_wp2_with fail
      refine (rbread_any n A L c _ bs w2 HX2.out HN.out HB9.out HS.out).mono ?_
      rintro e w3 ⟨hk3, ⟨_, rfl⟩ | ⟨hz, _⟩⟩
      rotate_left
      · exact absurd hz HNE.out
      rw [← HE.out]
      have HK3 := Lib.hid (HK2.out.trans hk3)
      have HB3 := Lib.hid (HB2.out.kp0 hk3)
      clear hk3 HK2 HB2
      go_wp2_with fail
      refine (keptB _ A L (L + 12) c _ _ (intsN bs) w3 (HB3.out.rd (B := w3.heap.size) HB3.out.lt) (HX.out.kp0 HK3.out) HN2.out HB9.out (Nat.le_refl _)).mono ?_
      rintro e w6 ⟨rfl, hd6⟩
      have HK6 := Lib.hid (HK3.out.trans (hd6.kp []))
      clear hd6
      go_wp2_with fail
      refine (bawake_any w6 (HT.out.kp0 HK6.out)).mono ?_
      rintro e w9 ⟨rfl, hk9⟩
      have HK9 := Lib.hid (HK6.out.trans hk9)
      clear hk9
      go_wp2_with fail
      go_ret
      exact ⟨rfl, HK9.out⟩
theorem bitsread_any (n : Int) (A : Option Addr) (L c : Nat) (at_ : Int) (b : List Int) (w : World) (hx : Rd w w.heap.size A (b.map (.int .u8))) (hn : b.length = L) (hb : ∀ x ∈ b, 0 ≤ x ∧ x ≤ 255) (ht : Tab64 w) :
    Calls Tryd.prog 4 #[.int .i64 n, .slice A L c, .int .i64 at_] w fun e w' => e = .returned (.bool true) ∧ Kp [] w w' := by
  refine bread_any n at_ A L c w.heap.size (b.map Int.toNat) w (by rw [intsN_bytes hb]; exact hx) (by rw [List.length_map]; exact hn) (fun y hy => ?_) ht
  obtain ⟨x, hx, rfl⟩ := List.mem_map.1 hy
  have := hb x hx
  omega
end Go.Proofs.YtifdphkocjjbiaaDoor
