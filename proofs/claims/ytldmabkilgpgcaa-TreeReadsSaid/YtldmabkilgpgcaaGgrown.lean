/-
  LAYER 15 (tree): grown.
  CONDITIONS: as each says.
-/
import Derived.Test.YtldmabkilgpgcaaMGrid3
import Derived.Test.YtldmabkilgpgcaaGlev
import Derived.Deep.DeepCutAuto
namespace Go.Proofs.Ytldmabkilgpgcaa
open Go.RowKit

/-- A place's kids among the first quarters. -/
def kidsQ (c : Nat × Nat) (bs : List Bool) (q : Nat) : List (Nat × Nat) := (([0, 1, 2, 3].take q).filter fun q => bs.getD q false).map (kidC c)
theorem take_q {q : Nat} (hq : q < 4) : [0, 1, 2, 3].take (q + 1) = [0, 1, 2, 3].take q ++ [q] := by
  rcases (show q = 0 ∨ q = 1 ∨ q = 2 ∨ q = 3 by omega) with rfl | rfl | rfl | rfl <;> rfl
theorem kidsQ_on {c : Nat × Nat} {bs : List Bool} {q : Nat} (hq : q < 4) (h : bs.getD q false = true) : kidsQ c bs (q + 1) = kidsQ c bs q ++ [kidC c q] := by
  unfold kidsQ
  rw [take_q hq, List.filter_append, List.map_append, List.filter_cons, if_pos h]
  rfl
theorem kidsQ_off {c : Nat × Nat} {bs : List Bool} {q : Nat} (hq : q < 4) (h : bs.getD q false = false) : kidsQ c bs (q + 1) = kidsQ c bs q := by
  unfold kidsQ
  rw [take_q hq, List.filter_append, List.map_append, List.filter_cons, if_neg (by rw [h]; simp)]
  simp
theorem kidsC_snoc : ∀ {C : List (Nat × Nat)} {bs : List Bool} {k : Nat} {c : Nat × Nat}, C[k]? = some c → kidsC (C.take (k + 1)) bs = kidsC (C.take k) bs ++ kidsQ c (bs.drop (4 * k)) 4
  | [], _, _, _, h => by simp at h
  | x :: C, bs, 0, c, h => by
    simp only [List.getElem?_cons_zero, Option.some.injEq] at h
    subst h
    simp only [List.take_succ_cons, List.take_zero]
    unfold kidsC kidsC
    rw [List.append_nil]
    rfl
  | x :: C, bs, k + 1, c, h => by
    simp only [List.getElem?_cons_succ] at h
    rw [List.take_succ_cons, List.take_succ_cons]
    unfold kidsC
    rw [kidsC_snoc (bs := bs.drop 4) h, List.append_assoc, List.drop_drop, show 4 + 4 * k = 4 * (k + 1) by omega]
theorem kidsC_len : ∀ {C : List (Nat × Nat)} {bs : List Bool}, (kidsC C bs).length ≤ 4 * C.length
  | [], _ => Nat.le_refl _
  | c :: C, bs => by
    unfold kidsC
    have := kidsC_len (C := C) (bs := bs.drop 4)
    have h2 := List.length_filter_le (fun q => bs.getD q false) [0, 1, 2, 3]
    rw [List.length_append, List.length_map, List.length_cons]
    simp only [List.length_cons, List.length_nil] at h2
    omega
theorem kids_lt {C : List (Nat × Nat)} {bs : List Bool} {i : Nat} (h : ∀ c ∈ C, c.1 < 2 ^ i ∧ c.2 < 2 ^ i) : ∀ c ∈ kidsC C bs, c.1 < 2 ^ (i + 1) ∧ c.2 < 2 ^ (i + 1) := fun c hc => by
  have := h _ (kids_mem hc)
  simp only at this
  rw [Nat.pow_succ]
  omega
/-- What grown gives. -/
def GrownP (h N : Nat) (bs : List Bool) (w : World) (e : Ending) (w' : World) : Prop := Kp [] w w' ∧ ((growB h bs [(0, 0)] = none ∧ e = .returned (.tuple #[.slice none 0 0, .bool false])) ∨
  ∃ (C : List (Nat × Nat)) (A : Option Addr) (n c : Nat), growB h bs [(0, 0)] = some C ∧ C.length = n ∧ n ≤ N + 1 ∧ e = .returned (.tuple #[.slice A n c, .bool true]) ∧ Rd w' w'.heap.size A (pc C) ∧ ∀ p ∈ C, p.1 < 2 ^ h ∧ p.2 < 2 ^ h)
set_option maxRecDepth 100000 in
set_option maxHeartbeats 4000000 in
theorem grown_any (S : List Nat) (q N h : Nat) (bs : List Bool) (c : Bool) (w : World) (hv : VecM w S q bs c) (hN : bs.length = N) (hh : h ≤ 17) :
    Calls Try.prog 49 #[.pointer (some ⟨q, 0, none⟩), .int .i64 (h : Int)] w (GrownP h N bs w) := by
  obtain ⟨i0, hi, hz0, hz1, hz2⟩ := info_parts Try.info_pair
  have hN16 : N ≤ 16777216 := by rw [← hN]; exact hv.tail.2.2.2
  obtain ⟨R, hR⟩ : ∃ R, R = growB h bs [(0, 0)] := ⟨_, rfl⟩
  have HRR := Lib.hid hR
  have HV := Lib.hid hv; clear hv
  have HN := Lib.hid hN; clear hN
  have HR := Lib.hid hR; clear hR
  go_enter Try.func49, Try.ntmps49
  go_wp2_with fail
  have HRF := Lib.hid (show RF (w.alloc (.cells #[.int .i64 0, .int .i64 0] 24)) [] (some ⟨w.heap.size, 0, none⟩) (pc [(0, 0)]) from ⟨rd_new' w #[.int .i64 0, .int .i64 0] 24 rfl, fun _ _ _ => by simp⟩)
  have HK0 := Lib.hid ((Kp.refl [] w).alloc (.cells #[.int .i64 0, .int .i64 0] 24))
  go_loopw [4, 6, 14] (fun lv av x wr => ∃ (i at_ n c : Nat) (A : Option Addr) (C : List (Nat × Nat)), x = .int .i64 (i : Int) ∧ lv = .slice A n c ∧ av = .int .i64 (at_ : Int) ∧ i ≤ h ∧ at_ ≤ N ∧ n ≤ N + 1 ∧ Hid (C.length = n) ∧ Hid (R = growB (h - i) (bs.drop at_) C) ∧ Hid (RF wr [] A (pc C)) ∧ Hid (∀ p ∈ C, p.1 < 2 ^ i ∧ p.2 < 2 ^ i) ∧ Hid (Kp [] w wr)) (fun _ _ x _ => h - (intOf x).toNat)
  case atStart => exact ⟨0, 0, 1, 1, _, [(0, 0)], rfl, rfl, rfl, by omega, by omega, by omega, Lib.hid rfl, HR, HRF, Lib.hid (by simp), HK0⟩
  case round =>
    clear HRF HK0 HR
    obtain ⟨i, at_, n, c, A, C, rfl, rfl, rfl, hih, hat, hn, HC, HR, HF, HB, HK⟩ := hrel
    by_cases hlt : i < h
    · have HV1 := Lib.hid (HV.out.kp0 HK.out)
      have hi17 : i ≤ 16 := by omega
      have HR2 := Lib.hid (show R = if (bs.drop at_).length < 4 * C.length then none else growB (h - (i + 1)) ((bs.drop at_).drop (4 * C.length)) (kidsC C (bs.drop at_)) by rw [HR.out, show h - i = (h - (i + 1)) + 1 by omega]; rfl)
      go_wp2_with fail
      refine (vlen_any S q N bs _ wr HV1.out HN.out).mono ?_
      rintro e w1 ⟨rfl, rfl⟩
      by_cases hbig : N < at_ + 4 * n
      · have HR3 := Lib.hid (show growB h bs [(0, 0)] = none by rw [← HRR.out, HR2.out, if_pos (by rw [List.length_drop, HN.out, HC.out]; omega)])
        have hbig' : (N : Int) < (at_ : Int) + 4 * (n : Int) := by omega
        go_wp2_with fail
        go_ret2
        exact ⟨HK.out, .inl ⟨HR3.out, rfl⟩⟩
      · have HR3 := Lib.hid (show R = growB (h - (i + 1)) (bs.drop (at_ + 4 * n)) (kidsC C (bs.drop at_)) by rw [HR2.out, if_neg (by rw [List.length_drop, HN.out, HC.out]; omega), List.drop_drop, HC.out])
        have hbig' : ¬ (N : Int) < (at_ : Int) + 4 * (n : Int) := by omega
        have hbN : at_ + 4 * n ≤ N := by omega
        clear HR HR2 hbig
        go_wp2_with fail
        have HN0 := Lib.hid (World.ownsRow_nil wr w.heap.size 24 2)
        have HF0 := Lib.hid (show RF wr (ownL (.slice none 0 0)) A (pc C) from HF.out)
        obtain ⟨a0, ha0⟩ : ∃ a0, a0 = at_ := ⟨_, rfl⟩
        have HA0 := Lib.hid ha0
        obtain ⟨wk, hwk⟩ : ∃ wk, wk = wr := ⟨_, rfl⟩
        rw [← ha0] at HR3 hbN
        clear HF ha0 hwk wk
        go_loopw [6, 7, 26] (fun av v x wr => ∃ (k at_ nn cn : Nat) (An : Option Addr) (D : List (Nat × Nat)), x = .int .i64 (k : Int) ∧ av = .int .i64 (at_ : Int) ∧ v = .slice An nn cn ∧ k ≤ n ∧ Hid (at_ = a0 + 4 * k) ∧ Hid (D = kidsC (C.take k) (bs.drop a0)) ∧ Hid (D.length = nn) ∧ Hid (wr.ownsRow w.heap.size 24 2 (.slice An nn cn) nn (pc D)) ∧ Hid (RF wr (ownL (.slice An nn cn)) A (pc C)) ∧ Hid (Kp [] w wr)) (fun _ _ x _ => n - (intOf x).toNat)
        case atStart => exact ⟨0, at_, 0, 0, none, [], rfl, rfl, rfl, by omega, Lib.hid (by rw [HA0.out]; omega), Lib.hid rfl, Lib.hid rfl, HN0, HF0, HK⟩
        case round =>
          clear HN0 HF0 HK HV1 HA0
          obtain ⟨k, at2, nn, cn, An, D, rfl, rfl, rfl, hk, HAT, HD, HDL, HO, HF, HK⟩ := hrel
          have hnnb : nn ≤ 4 * k := by rw [← HDL.out, HD.out]; exact Nat.le_trans kidsC_len (by rw [List.length_take]; omega)
          by_cases hkn : k < n
          · obtain ⟨r, cc, ad, hp, rfl, _, hq1, hq2⟩ := HF.out.1.ixP (k := k) (by rw [HC.out]; exact hkn)
            have hb2 := HB.out _ (List.mem_of_getElem? hp)
            have hp17 : 2 ^ i ≤ 2 ^ 17 := Nat.pow_le_pow_right (by omega) (by omega)
            have hrb : r < 131072 := Nat.lt_of_lt_of_le hb2.1 hp17
            have hcb : cc < 131072 := Nat.lt_of_lt_of_le hb2.2 hp17
            have HP := Lib.hid hp
            have hi0 : (0 : Int) ≤ (k : Int) := by omega
            have hi1 : (k : Int) < (n : Int) := by omega
            clear hp hb2 hp17
            go_upto_region 11 with fail
            obtain ⟨g, hg⟩ : ∃ g, g = wr.heap.size := ⟨_, rfl⟩
            have hk1 := (Kp.refl [] wr).alloc (.cells #[.int .i64 (r : Int), .int .i64 (cc : Int)] 24)
            have hb1 := Blk.new wr 24 [.int .i64 (r : Int), .int .i64 (cc : Int)]
            rw [← hg] at hb1 ⊢
            have HG := Lib.hid (show g ∉ ownL (.slice An nn cn) from fun hm => by have := (own_ge HO.out (mem_ownL.1 hm)).2; omega)
            have HB1 := Lib.hid hb1
            have HO1 := Lib.hid (own_kp0 HO.out hk1)
            have HF1 := Lib.hid (HF.out.step hk1 (by simp) (fun x hx => .inl hx))
            have HK1 := Lib.hid (HK.out.trans hk1)
            obtain ⟨D0, hD0⟩ : ∃ D0, D0 = D := ⟨_, rfl⟩
            have HD0 := Lib.hid hD0
            have hat2 : at2 + 4 ≤ N := by have := HAT.out; omega
            clear hq1 hq2 hk1 hb1 hg HO HF HK hD0
            go_wp2_with fail
            go_loopw [7, 30] (fun v x wr => ∃ (j nn cn : Nat) (An : Option Addr) (D : List (Nat × Nat)), x = .int .i64 (j : Int) ∧ v = .slice An nn cn ∧ j ≤ 4 ∧ nn ≤ 4 * k + j ∧ Hid (D = D0 ++ kidsQ (r, cc) (bs.drop at2) j) ∧ Hid (D.length = nn) ∧ Hid (wr.ownsRow w.heap.size 24 2 (.slice An nn cn) nn (pc D)) ∧ Hid (RF wr (ownL (.slice An nn cn)) (some ad) (pc C)) ∧ Hid (Blk wr g 24 [.int .i64 (r : Int), .int .i64 (cc : Int)]) ∧ Hid (g ∉ ownL (.slice An nn cn)) ∧ Hid (Kp [] w wr)) (fun _ x _ => 4 - (intOf x).toNat)
            case atStart => exact ⟨0, nn, cn, An, D, rfl, rfl, by omega, by omega, Lib.hid (by rw [HD0.out]; simp [kidsQ]), HDL, HO1, HF1, HB1, HG, HK1⟩
            case round =>
              clear HO1 HF1 HB1 HG HK1 hnnb
              obtain ⟨j, nn, cn, An, D, rfl, rfl, hj, hnn, HDQ, HDL, HO, HF, HBG, HG, HK⟩ := hrel
              by_cases hj4 : j < 4
              · obtain ⟨b, hb⟩ : ∃ b, b = (bs.drop at2).getD j false := ⟨_, rfl⟩
                have HBV := Lib.hid hb.symm
                have HV2 := Lib.hid (HV.out.kp0 HK.out)
                have HGB := Lib.hid (show getB bs ((at2 + j : Nat) : Int) = b by
                  rw [hb]
                  unfold getB
                  rw [if_neg (by omega), Int.toNat_natCast, List.getD_eq_getElem?_getD, List.getD_eq_getElem?_getD, List.getElem?_drop])
                have HSZ := Lib.hid HK.out.size
                have hq0 : wr.cell? ⟨g, 0, none⟩ = some (.int .i64 (r : Int)) := by rw [HBG.out.cell]; rfl
                have hq1 : wr.cell? ⟨g, 1, none⟩ = some (.int .i64 (cc : Int)) := by rw [HBG.out.cell]; rfl
                have hnb : nn ≤ 200000000 := by omega
                clear hb
                rcases (show j = 0 ∨ j = 1 ∨ j = 2 ∨ j = 3 by omega) with rfl | rfl | rfl | rfl
                · rw [Nat.add_zero] at HGB
                  have hzb : at2 ≤ 16777216 := by omega
                  go_wp2_with fail
                  refine (vget_any S q (at2 : Int) bs _ wr HV2.out).mono ?_
                  rw [HGB.out]
                  rintro e w1 ⟨rfl, rfl⟩
                  cases b with
                  | false =>
                    go_wp2_with fail
                    exact ⟨⟨0 + 1, nn, cn, An, D, by go_num, rfl, by omega, by omega, Lib.hid (by rw [HDQ.out, kidsQ_off (by omega) HBV.out]), HDL, HO, HF, HBG, HG, HK⟩, by simp [intOf]⟩
                  | true =>
                    obtain ⟨x0, hx0⟩ : ∃ x0, x0 = 2 * r + 0 := ⟨_, rfl⟩
                    obtain ⟨x1, hx1⟩ : ∃ x1, x1 = 2 * cc + 0 := ⟨_, rfl⟩
                    have hy0 : 2 * (r : Int) = (x0 : Int) := by omega
                    have hy1 : 2 * (cc : Int) = (x1 : Int) := by omega
                    have hb0 : x0 ≤ 262144 := by omega
                    have hb1 : x1 ≤ 262144 := by omega
                    have HKC := Lib.hid (show kidC (r, cc) 0 = (x0, x1) by unfold kidC; rw [hx0, hx1])
                    have hband : bits .and .i64 0 1 = 0 := by decide
                    clear hx0 hx1
                    go_wp2_with (at_builtin; go_loud (refine wpList_append_rd rfl (.tmp 38) (.tmp 52) 22 rfl w.heap.size 24 i0 (.agg #[.int .i64 0, .int .i64 0]) 2 16 Try.underlying22 hi hz0 hz1 hz2 rfl (by decide) (.slice An nn cn) nn _ rfl (own_kp0 HO.out ((Kp.refl [] _).alloc _)) _ _ 1 1 [.int .i64 (x0 : Int), .int .i64 (x1 : Int)] rfl rfl (Rd.new wr #[.int .i64 (x0 : Int), .int .i64 (x1 : Int)] 24 (0, 0)) (by intro u hu; simp at hu; rcases hu with rfl | rfl <;> rfl) (by unfold maxLen; omega) (by omega) (by have := HSZ.out; simp; omega) ?_); intro v3 w3 hown3 hgrow3 hat3
                                 obtain ⟨hka, hga⟩ := app_facts hgrow3 hat3
                                 obtain ⟨A3', ca', rfl, _⟩ := own_form hown3
                                 have HO3 := Lib.hid (show w3.ownsRow w.heap.size 24 2 (.slice A3' (nn + 1) ca') (nn + 1) (pc (D ++ [(x0, x1)])) from by rw [pc_append]; exact hown3)
                                 have HF3 := Lib.hid (HF.out.step hka (fun _ h => h) hga)
                                 have HG3 := Lib.hid (show g ∉ ownL (.slice A3' (nn + 1) ca') from fun hm => by rcases hga g hm with h | h; exact HG.out h; have := HBG.out.lt; omega)
                                 have HBG3 := Lib.hid (HBG.out.kp hka HG.out)
                                 have HK3 := Lib.hid (HK.out.trans' hka (fun x hx => .inr (own_ge HO.out (mem_ownL.1 hx)).1))
                                 clear hka hga hown3 hgrow3 hat3)
                    exact ⟨⟨0 + 1, nn + 1, ca', A3', D ++ [(x0, x1)], by go_num, rfl, by omega, by omega, Lib.hid (by rw [HDQ.out, kidsQ_on (by omega) HBV.out, List.append_assoc, HKC.out]), Lib.hid (by rw [List.length_append, HDL.out]; rfl), HO3, HF3, HBG3, HG3, HK3⟩, by simp [intOf]⟩
                · obtain ⟨z, hz⟩ : ∃ z, z = at2 + 1 := ⟨_, rfl⟩
                  rw [← hz] at HGB
                  have hgj : (at2 : Int) + 1 = (z : Int) := by omega
                  have hzb : z ≤ 16777216 := by omega
                  clear hz
                  go_wp2_with fail
                  refine (vget_any S q (z : Int) bs _ wr HV2.out).mono ?_
                  rw [HGB.out]
                  rintro e w1 ⟨rfl, rfl⟩
                  cases b with
                  | false =>
                    go_wp2_with fail
                    exact ⟨⟨1 + 1, nn, cn, An, D, by go_num, rfl, by omega, by omega, Lib.hid (by rw [HDQ.out, kidsQ_off (by omega) HBV.out]), HDL, HO, HF, HBG, HG, HK⟩, by simp [intOf]⟩
                  | true =>
                    obtain ⟨x0, hx0⟩ : ∃ x0, x0 = 2 * r + 0 := ⟨_, rfl⟩
                    obtain ⟨x1, hx1⟩ : ∃ x1, x1 = 2 * cc + 1 := ⟨_, rfl⟩
                    have hy0 : 2 * (r : Int) = (x0 : Int) := by omega
                    have hy1 : 2 * (cc : Int) + 1 = (x1 : Int) := by omega
                    have hb0 : x0 ≤ 262144 := by omega
                    have hb1 : x1 ≤ 262144 := by omega
                    have HKC := Lib.hid (show kidC (r, cc) 1 = (x0, x1) by unfold kidC; rw [hx0, hx1])
                    have hband : bits .and .i64 1 1 = 1 := by decide
                    clear hx0 hx1
                    go_wp2_with (at_builtin; go_loud (refine wpList_append_rd rfl (.tmp 38) (.tmp 52) 22 rfl w.heap.size 24 i0 (.agg #[.int .i64 0, .int .i64 0]) 2 16 Try.underlying22 hi hz0 hz1 hz2 rfl (by decide) (.slice An nn cn) nn _ rfl (own_kp0 HO.out ((Kp.refl [] _).alloc _)) _ _ 1 1 [.int .i64 (x0 : Int), .int .i64 (x1 : Int)] rfl rfl (Rd.new wr #[.int .i64 (x0 : Int), .int .i64 (x1 : Int)] 24 (0, 0)) (by intro u hu; simp at hu; rcases hu with rfl | rfl <;> rfl) (by unfold maxLen; omega) (by omega) (by have := HSZ.out; simp; omega) ?_); intro v3 w3 hown3 hgrow3 hat3
                                 obtain ⟨hka, hga⟩ := app_facts hgrow3 hat3
                                 obtain ⟨A3', ca', rfl, _⟩ := own_form hown3
                                 have HO3 := Lib.hid (show w3.ownsRow w.heap.size 24 2 (.slice A3' (nn + 1) ca') (nn + 1) (pc (D ++ [(x0, x1)])) from by rw [pc_append]; exact hown3)
                                 have HF3 := Lib.hid (HF.out.step hka (fun _ h => h) hga)
                                 have HG3 := Lib.hid (show g ∉ ownL (.slice A3' (nn + 1) ca') from fun hm => by rcases hga g hm with h | h; exact HG.out h; have := HBG.out.lt; omega)
                                 have HBG3 := Lib.hid (HBG.out.kp hka HG.out)
                                 have HK3 := Lib.hid (HK.out.trans' hka (fun x hx => .inr (own_ge HO.out (mem_ownL.1 hx)).1))
                                 clear hka hga hown3 hgrow3 hat3)
                    exact ⟨⟨1 + 1, nn + 1, ca', A3', D ++ [(x0, x1)], by go_num, rfl, by omega, by omega, Lib.hid (by rw [HDQ.out, kidsQ_on (by omega) HBV.out, List.append_assoc, HKC.out]), Lib.hid (by rw [List.length_append, HDL.out]; rfl), HO3, HF3, HBG3, HG3, HK3⟩, by simp [intOf]⟩
                · obtain ⟨z, hz⟩ : ∃ z, z = at2 + 2 := ⟨_, rfl⟩
                  rw [← hz] at HGB
                  have hgj : (at2 : Int) + 2 = (z : Int) := by omega
                  have hzb : z ≤ 16777216 := by omega
                  clear hz
                  go_wp2_with fail
                  refine (vget_any S q (z : Int) bs _ wr HV2.out).mono ?_
                  rw [HGB.out]
                  rintro e w1 ⟨rfl, rfl⟩
                  cases b with
                  | false =>
                    go_wp2_with fail
                    exact ⟨⟨2 + 1, nn, cn, An, D, by go_num, rfl, by omega, by omega, Lib.hid (by rw [HDQ.out, kidsQ_off (by omega) HBV.out]), HDL, HO, HF, HBG, HG, HK⟩, by simp [intOf]⟩
                  | true =>
                    obtain ⟨x0, hx0⟩ : ∃ x0, x0 = 2 * r + 1 := ⟨_, rfl⟩
                    obtain ⟨x1, hx1⟩ : ∃ x1, x1 = 2 * cc + 0 := ⟨_, rfl⟩
                    have hy0 : 2 * (r : Int) + 1 = (x0 : Int) := by omega
                    have hy1 : 2 * (cc : Int) = (x1 : Int) := by omega
                    have hb0 : x0 ≤ 262144 := by omega
                    have hb1 : x1 ≤ 262144 := by omega
                    have HKC := Lib.hid (show kidC (r, cc) 2 = (x0, x1) by unfold kidC; rw [hx0, hx1])
                    have hband : bits .and .i64 2 1 = 0 := by decide
                    clear hx0 hx1
                    go_wp2_with (at_builtin; go_loud (refine wpList_append_rd rfl (.tmp 38) (.tmp 52) 22 rfl w.heap.size 24 i0 (.agg #[.int .i64 0, .int .i64 0]) 2 16 Try.underlying22 hi hz0 hz1 hz2 rfl (by decide) (.slice An nn cn) nn _ rfl (own_kp0 HO.out ((Kp.refl [] _).alloc _)) _ _ 1 1 [.int .i64 (x0 : Int), .int .i64 (x1 : Int)] rfl rfl (Rd.new wr #[.int .i64 (x0 : Int), .int .i64 (x1 : Int)] 24 (0, 0)) (by intro u hu; simp at hu; rcases hu with rfl | rfl <;> rfl) (by unfold maxLen; omega) (by omega) (by have := HSZ.out; simp; omega) ?_); intro v3 w3 hown3 hgrow3 hat3
                                 obtain ⟨hka, hga⟩ := app_facts hgrow3 hat3
                                 obtain ⟨A3', ca', rfl, _⟩ := own_form hown3
                                 have HO3 := Lib.hid (show w3.ownsRow w.heap.size 24 2 (.slice A3' (nn + 1) ca') (nn + 1) (pc (D ++ [(x0, x1)])) from by rw [pc_append]; exact hown3)
                                 have HF3 := Lib.hid (HF.out.step hka (fun _ h => h) hga)
                                 have HG3 := Lib.hid (show g ∉ ownL (.slice A3' (nn + 1) ca') from fun hm => by rcases hga g hm with h | h; exact HG.out h; have := HBG.out.lt; omega)
                                 have HBG3 := Lib.hid (HBG.out.kp hka HG.out)
                                 have HK3 := Lib.hid (HK.out.trans' hka (fun x hx => .inr (own_ge HO.out (mem_ownL.1 hx)).1))
                                 clear hka hga hown3 hgrow3 hat3)
                    exact ⟨⟨2 + 1, nn + 1, ca', A3', D ++ [(x0, x1)], by go_num, rfl, by omega, by omega, Lib.hid (by rw [HDQ.out, kidsQ_on (by omega) HBV.out, List.append_assoc, HKC.out]), Lib.hid (by rw [List.length_append, HDL.out]; rfl), HO3, HF3, HBG3, HG3, HK3⟩, by simp [intOf]⟩
                · obtain ⟨z, hz⟩ : ∃ z, z = at2 + 3 := ⟨_, rfl⟩
                  rw [← hz] at HGB
                  have hgj : (at2 : Int) + 3 = (z : Int) := by omega
                  have hzb : z ≤ 16777216 := by omega
                  clear hz
                  go_wp2_with fail
                  refine (vget_any S q (z : Int) bs _ wr HV2.out).mono ?_
                  rw [HGB.out]
                  rintro e w1 ⟨rfl, rfl⟩
                  cases b with
                  | false =>
                    go_wp2_with fail
                    exact ⟨⟨3 + 1, nn, cn, An, D, by go_num, rfl, by omega, by omega, Lib.hid (by rw [HDQ.out, kidsQ_off (by omega) HBV.out]), HDL, HO, HF, HBG, HG, HK⟩, by simp [intOf]⟩
                  | true =>
                    obtain ⟨x0, hx0⟩ : ∃ x0, x0 = 2 * r + 1 := ⟨_, rfl⟩
                    obtain ⟨x1, hx1⟩ : ∃ x1, x1 = 2 * cc + 1 := ⟨_, rfl⟩
                    have hy0 : 2 * (r : Int) + 1 = (x0 : Int) := by omega
                    have hy1 : 2 * (cc : Int) + 1 = (x1 : Int) := by omega
                    have hb0 : x0 ≤ 262144 := by omega
                    have hb1 : x1 ≤ 262144 := by omega
                    have HKC := Lib.hid (show kidC (r, cc) 3 = (x0, x1) by unfold kidC; rw [hx0, hx1])
                    have hband : bits .and .i64 3 1 = 1 := by decide
                    clear hx0 hx1
                    go_wp2_with (at_builtin; go_loud (refine wpList_append_rd rfl (.tmp 38) (.tmp 52) 22 rfl w.heap.size 24 i0 (.agg #[.int .i64 0, .int .i64 0]) 2 16 Try.underlying22 hi hz0 hz1 hz2 rfl (by decide) (.slice An nn cn) nn _ rfl (own_kp0 HO.out ((Kp.refl [] _).alloc _)) _ _ 1 1 [.int .i64 (x0 : Int), .int .i64 (x1 : Int)] rfl rfl (Rd.new wr #[.int .i64 (x0 : Int), .int .i64 (x1 : Int)] 24 (0, 0)) (by intro u hu; simp at hu; rcases hu with rfl | rfl <;> rfl) (by unfold maxLen; omega) (by omega) (by have := HSZ.out; simp; omega) ?_); intro v3 w3 hown3 hgrow3 hat3
                                 obtain ⟨hka, hga⟩ := app_facts hgrow3 hat3
                                 obtain ⟨A3', ca', rfl, _⟩ := own_form hown3
                                 have HO3 := Lib.hid (show w3.ownsRow w.heap.size 24 2 (.slice A3' (nn + 1) ca') (nn + 1) (pc (D ++ [(x0, x1)])) from by rw [pc_append]; exact hown3)
                                 have HF3 := Lib.hid (HF.out.step hka (fun _ h => h) hga)
                                 have HG3 := Lib.hid (show g ∉ ownL (.slice A3' (nn + 1) ca') from fun hm => by rcases hga g hm with h | h; exact HG.out h; have := HBG.out.lt; omega)
                                 have HBG3 := Lib.hid (HBG.out.kp hka HG.out)
                                 have HK3 := Lib.hid (HK.out.trans' hka (fun x hx => .inr (own_ge HO.out (mem_ownL.1 hx)).1))
                                 clear hka hga hown3 hgrow3 hat3)
                    exact ⟨⟨3 + 1, nn + 1, ca', A3', D ++ [(x0, x1)], by go_num, rfl, by omega, by omega, Lib.hid (by rw [HDQ.out, kidsQ_on (by omega) HBV.out, List.append_assoc, HKC.out]), Lib.hid (by rw [List.length_append, HDL.out]; rfl), HO3, HF3, HBG3, HG3, HK3⟩, by simp [intOf]⟩
              · obtain rfl : j = 4 := by omega
                have hat3 : at2 + 4 ≤ 16777216 := by omega
                go_wp2_with fail
                exact ⟨⟨k + 1, at2 + 4, nn, cn, An, D, by go_num, by go_num, rfl, by omega, Lib.hid (by have := HAT.out; omega), Lib.hid (by rw [HDQ.out, HD0.out, HD.out, kidsC_snoc HP.out, List.drop_drop, HAT.out]), HDL, HO, HF, HK⟩, by simp [intOf]; omega⟩
          · obtain rfl : k = n := by omega
            have hat4 : at2 = a0 + 4 * k := HAT.out
            have HC4 := Lib.hid (show C.take k = C from List.take_of_length_le (Nat.le_of_eq HC.out))
            have HR4 := Lib.hid (show R = growB (h - (i + 1)) (bs.drop at2) D by rw [HR3.out, HD.out, HC4.out, hat4])
            have hatN : at2 ≤ N := by omega
            have hnN : nn ≤ N + 1 := by omega
            clear hat4
            go_wp2_with fail
            exact ⟨⟨i + 1, at2, nn, cn, An, D, by go_num, rfl, rfl, by omega, hatN, hnN, HDL, HR4, Lib.hid ⟨own_rd HO.out, fun _ _ _ => by simp⟩, Lib.hid (by rw [HD.out, HC4.out]; exact kids_lt HB.out), HK⟩, by simp [intOf]; omega⟩
    · obtain rfl : i = h := by omega
      have HR2 := Lib.hid (show growB i bs [(0, 0)] = some C by rw [← HRR.out, HR.out, Nat.sub_self]; rfl)
      go_wp2_with fail
      go_ret2
      exact ⟨HK.out, .inr ⟨C, A, n, c, HR2.out, HC.out, hn, rfl, HF.out.1, HB.out⟩⟩
end Go.Proofs.Ytldmabkilgpgcaa
