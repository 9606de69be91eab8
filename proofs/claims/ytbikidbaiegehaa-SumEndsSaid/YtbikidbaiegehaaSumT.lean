/-
  THE STATEMENT SumTells OF LAYER 4, its walk: for every rows and bytes the call returns true and writes to nothing that was there.
  CONDITIONS: each slice takes at most 2^47 bytes.
-/
import Derived.Test.YtbikidbaiegehaaSumL
namespace Go.Proofs.Ytbikidbaiegehaa
open Go.RowKit

theorem Try.info_bytes : (Try.prog.info? 23).map (fun i => (i.zero, i.size, i.bytes)) = some (some (.slice none 0 0), 1, 24) := by kernel_rfl

set_option maxHeartbeats 4000000 in
theorem sumTells_any (A A' : Option Addr) (n c m c' : Nat) (xss : List (List Int)) (b : List Int) (w : World) (hx : RdRows w w.heap.size .u8 A xss) (hn : xss.length = n) (hb : n ≤ 140737488355328) (hr : ∀ xs ∈ xss, xs.length ≤ 140737488355328) (hby : ∀ xs ∈ xss, Byt xs)
    (hy : Rd w w.heap.size A' (b.map (.int .u8))) (hm : b.length = m) (hmc : m ≤ c') (hmb : m ≤ 140737488355328) (hyb : Byt b) :
    Calls Try.prog 3 #[.slice A n c, .slice A' m c'] w fun e w' => e = .returned (.bool true) ∧ Kp [] w w' := by
  obtain ⟨i0, hi, hz0, hz1, hz2⟩ := info_parts Try.info_bytes
  have HN := Lib.hid hn; clear hn
  have HX := Lib.hid hx; clear hx
  have HR := Lib.hid hr; clear hr
  have HBY := Lib.hid hby; clear hby
  have HY := Lib.hid hy; clear hy
  have HM := Lib.hid hm; clear hm
  have HYB := Lib.hid hyb; clear hyb
  go_enter Try.func3, Try.ntmps3
  go_wp2_with fail
  refine (size4_any A n c _ xss _ HX.out HN.out hb HR.out).mono ?_
  rintro e w' ⟨s, rfl, rfl, h0, h1, h2⟩
  obtain ⟨t, ht⟩ : ∃ t, t = xss.flatten.length := ⟨_, rfl⟩
  rw [← ht] at h2
  have HT := Lib.hid ht; clear ht
  by_cases hs : 3000 < s + m
  · clear h2
    go_wp2_with fail
    refine (awake4_any _).mono ?_
    rintro e w1 ⟨rfl, hk1⟩
    have HK := Lib.hid hk1; clear hk1
    go_wp2
    go_ret
    exact ⟨rfl, HK.out⟩
  · have h3 := h2 (by omega)
    clear h2
    subst h3
    have hf : n + t + m ≤ 3000 := by omega
    clear hs h0 h1 hb hmb
    go_wp2_with fail
    go_loopw [5, 6] (fun s i wr => ∃ (k : Nat) (l : List Value), k ≤ n ∧ i = .int .i64 k ∧ wr.ownsRow w.heap.size 23 1 s k l ∧ LentRows wr w.heap.size l (xss.take k) ∧ Kp [] w wr) (fun _ i _ => n - (intOf i).toNat)
    case atStart => exact ⟨0, [], by omega, rfl, World.ownsRow_nil w _ _ _, LentRows.nil _ _, Kp.refl _ w⟩
    case round =>
      obtain ⟨k, l, hk, rfl, hown, hlr, hkp⟩ := hrel
      have HO := Lib.hid hown; clear hown
      have HL := Lib.hid hlr; clear hlr
      have HK := Lib.hid hkp; clear hkp
      by_cases hlt : k < n
      · obtain ⟨xs, ad, Ai, ci, hxk, rfl, _, hcell, _, hrd⟩ := (HX.out.kp0 HK.out).ix (i := k) (by have := HN.out; omega)
        have hxl : xs.length ≤ 3000 := by
          have := flat_take_le xss (k + 1)
          rw [flat_take_succ hxk, List.length_append, ← HT.out] at this
          omega
        have HXK := Lib.hid hxk; clear hxk
        have HRD := Lib.hid hrd; clear hrd
        go_wp2_with fail
        refine (lentB Ai xs.length ci _ xs _ HRD.out rfl (by omega)).mono ?_
        rintro e w1 ⟨rfl, hk1, hb1⟩
        have ho1 := own_kp0 HO.out hk1
        have hl1 := HL.out.kp0 hk1
        have hkw := HK.out.trans hk1
        have hsz := HK.out.size
        have HO1 := Lib.hid ho1; clear ho1
        have HL1 := Lib.hid hl1; clear hl1
        have HKW := Lib.hid hkw; clear hkw
        have HB1 := Lib.hid hb1; clear hb1 hk1 hcell
        have hsz1 := HKW.out.size
        go_wp2_with (at_builtin; refine wpList_append_rd rfl (.tmp 28) (.tmp 34) 22 rfl w.heap.size 23 i0 (.slice none 0 0) 1 24 Try.underlying22 hi hz0 hz1 hz2 rfl (by decide) _ k l rfl (HO1.out.alloc _) _ _ 1 1 [.slice (some ⟨wr.heap.size, 0, none⟩) xs.length (xs.length + 12)] rfl rfl (Rd.new w1 _ _ _) (by simp [Value.oneCell']) (by unfold maxLen; omega) (by omega) (by simp; omega) ?_; intro v2 w2 hown2 hgrow2 hat2)
        go_roundw
        case rel =>
          refine ⟨k + 1, _, by omega, by go_num, hown2, ?_, (HKW.out.alloc _).grown hgrow2 (fun g hg => .inr (own_ge HO1.out hg).1)⟩
          rw [take_succ_of HXK.out]
          have h9 := ((HL1.out.snoc HB1.out hsz).kp0 ((Kp.refl [] w1).alloc _)).grown (HO1.out.alloc _) hgrow2
          exact h9
        case measure => simp [intOf]; omega
      · have hk' : k = n := by omega
        subst hk'
        have hlr := HL.out
        rw [List.take_of_length_le (by have := HN.out; omega)] at hlr
        obtain ⟨Ai, ci, rfl, hci, _⟩ := own_form HO.out
        have HLR := Lib.hid hlr; clear hlr
        obtain ⟨wo, rfl⟩ : ∃ wo : World, wo = wr := ⟨_, rfl⟩
        clear HL hlt
        have hsz := HK.out.size
        -- raw
        go_wp2_with fail
        refine (lentB A' m c' _ b _ (HY.out.kp0 HK.out) HM.out (by omega)).mono ?_
        rintro e w1 ⟨rfl, hk1, hb1⟩
        have HO1 := Lib.hid (own_kp0 HO.out hk1)
        have HL1 := Lib.hid (HLR.out.kp0 hk1)
        have HK1 := Lib.hid (HK.out.trans hk1)
        have HR1 := Lib.hid hb1
        have hsz1 : wo.heap.size < w1.heap.size := hb1.lt
        clear hb1 hk1 HO HLR HK
        generalize hgr : wo.heap.size = gr at *
        clear hgr
        -- whole
        go_wp2_with fail
        refine (rjoin_any A k c _ xss _ (HX.out.kp0 HK1.out) HN.out (by omega) (by rw [← HT.out]; omega)).mono ?_
        rintro e w2 ⟨A2, c2, rfl, hown2, hk2⟩
        have HO2 := Lib.hid (own_kp0 HO1.out hk2)
        have HL2 := Lib.hid (HL1.out.kp0 hk2)
        have HK2 := Lib.hid (HK1.out.trans hk2)
        have HR2 := Lib.hid (HR1.out.kp0 hk2)
        rw [← HT.out] at hown2 ⊢
        have HW2 := Lib.hid hown2
        have hsz2 := hk2.size
        clear hown2 hk2 HO1 HL1 HK1 HR1
        -- Seal
        have hbf : Byt xss.flatten := byt_flat HBY.out
        have HBF := Lib.hid hbf; clear hbf
        go_wp2_with fail
        refine (seal_any Ai k ci w2.heap.size xss _ (HL2.out.rows (own_rd HO2.out)) (Nat.le_refl _) HN.out (by omega) (by rw [← HT.out]; omega) HBY.out).mono ?_
        rintro e w3 ⟨A3, c3, rfl, hown3, hk3⟩
        have HO3 := Lib.hid (own_kp0 HO2.out hk3)
        have HL3 := Lib.hid (HL2.out.kp0 hk3)
        have HK3 := Lib.hid (HK2.out.trans hk3)
        have HR3 := Lib.hid (HR2.out.kp0 hk3)
        have HW3 := Lib.hid (own_kp0 HW2.out hk3)
        rw [← HT.out] at hown3 ⊢
        have HS3 := Lib.hid hown3
        have hsz3 := hk3.size
        have HJ3 := Lib.hid hk3
        clear hown3 hk3 HW2
        -- Open
        have hraw : ∀ {W : World}, Blk W gr 5 ((b ++ marksB 1 12).map (.int .u8)) → Rd W W.heap.size (some ⟨gr, 0, none⟩) (b.map (.int .u8)) := fun h => by
          have := (h.rd h.lt).take b.length
          rwa [← List.map_take, List.take_append_of_le_length (Nat.le_refl _), List.take_of_length_le (Nat.le_refl _)] at this
        have HRAW := @hraw
        clear hraw
        go_wp2_with fail
        refine (open_any _ m (m + 12) _ b _ (HRAW HR3.out) HM.out (by omega) (by omega) HYB.out).mono ?_
        rintro e w4 ⟨A4, c4, rfl, hown4, hk4⟩
        have HO4 := Lib.hid (own_kp0 HO3.out hk4)
        have HL4 := Lib.hid (HL3.out.kp0 hk4)
        have HK4 := Lib.hid (HK3.out.trans hk4)
        have HR4 := Lib.hid (HR3.out.kp0 hk4)
        have HW4 := Lib.hid (own_kp0 HW3.out hk4)
        have HS4 := Lib.hid (own_kp0 HS3.out hk4)
        have HP4 := Lib.hid hown4
        have hsz4 := hk4.size
        have HJ4 := Lib.hid (HJ3.out.trans hk4)
        clear hown4 hk4 HO3 HL3 HK3 HR3 HW3 HRAW HJ3
        obtain ⟨lo, hlo⟩ : ∃ lo, lo = (openL b).length := ⟨_, rfl⟩
        have hlo' : lo ≤ m := by
          rw [hlo]
          unfold openL
          split
          · rw [List.length_take]; have := HM.out; omega
          · simp
        obtain ⟨eo, heo⟩ : ∃ eo, eo = openE b := ⟨_, rfl⟩
        rw [← hlo, ← heo] at ⊢
        rw [← hlo] at HP4
        have HLO := Lib.hid hlo; clear hlo
        have HEO := Lib.hid heo; clear heo
        go_wp2_with fail
        refine (ropen_any A' m c' _ b _ (HY.out.kp0 HK4.out) HM.out hmc (by omega) HYB.out).mono ?_
        rintro e w5 ⟨A5, c5, rfl, hown5, hk5⟩
        have HO5 := Lib.hid (own_kp0 HO4.out hk5)
        have HL5 := Lib.hid (HL4.out.kp0 hk5)
        have HK5 := Lib.hid (HK4.out.trans hk5)
        have HR5 := Lib.hid (HR4.out.kp0 hk5)
        have HW5 := Lib.hid (own_kp0 HW4.out hk5)
        have HS5 := Lib.hid (own_kp0 HS4.out hk5)
        have HP5 := Lib.hid (own_kp0 HP4.out hk5)
        rw [← HLO.out] at hown5 ⊢
        rw [← HEO.out]
        have HQ5 := Lib.hid hown5
        have hsz5 := hk5.size
        have HJ5 := Lib.hid (HJ4.out.trans hk5)
        clear hown5 hk5 HO4 HL4 HK4 HR4 HW4 HS4 HP4 HJ4
        -- the tests
        go_wp2_with fail
        refine (of_any Ai k ci w5.heap.size xss _ (HL5.out.rows (own_rd HO5.out)) (Nat.le_refl _) HN.out (by omega) (by rw [← HT.out]; omega) HBY.out).mono ?_
        rintro e w6 ⟨rfl, hk6⟩
        have HL6 := Lib.hid (HL5.out.kp0 hk6)
        have HO6 := Lib.hid (own_kp0 HO5.out hk6)
        have HK6 := Lib.hid (HK5.out.trans hk6)
        have HR6 := Lib.hid (HR5.out.kp0 hk6)
        have HW6 := Lib.hid (own_kp0 HW5.out hk6)
        have HS6 := Lib.hid (own_kp0 HS5.out hk6)
        have HP6 := Lib.hid (own_kp0 HP5.out hk6)
        have HQ6 := Lib.hid (own_kp0 HQ5.out hk6)
        have hsz6 := hk6.size
        have HJ6 := Lib.hid (HJ5.out.trans hk6)
        clear hk6 HL5 HO5 HK5 HR5 HW5 HS5 HP5 HQ5 HJ5
        obtain ⟨q, hq⟩ : ∃ q, q = crc xss.flatten := ⟨_, rfl⟩
        rw [← hq]
        have HQ := Lib.hid hq; clear hq
        go_wp2_with fail
        refine (rof_any A2 t c2 _ xss.flatten _ (own_rd HW6.out) HT.out.symm (by omega) HBF.out).mono ?_
        rintro e w' ⟨rfl, rfl⟩
        rw [← HQ.out]
        go_wp2_with fail
        refine (rseal_any A2 t c2 _ xss.flatten _ (own_rd HW6.out) HT.out.symm (by omega) HBF.out).mono ?_
        rintro e w7 ⟨A7, c7, rfl, hown7, hk7⟩
        have HL7 := Lib.hid (HL6.out.kp0 hk7)
        have HO7 := Lib.hid (own_kp0 HO6.out hk7)
        have HK7 := Lib.hid (HK6.out.trans hk7)
        have HR7 := Lib.hid (HR6.out.kp0 hk7)
        have HS7 := Lib.hid (own_kp0 HS6.out hk7)
        have HP7 := Lib.hid (own_kp0 HP6.out hk7)
        have HQ7 := Lib.hid (own_kp0 HQ6.out hk7)
        have HX7 := Lib.hid hown7
        have hsz7 := hk7.size
        have HJ7 := Lib.hid (HJ6.out.trans hk7)
        clear hown7 hk7 HL6 HO6 HK6 HR6 HS6 HP6 HQ6 HW6 HJ6
        go_wp2_with fail
        refine (sameB A3 A7 (t + 4) (t + 4) c3 c7 _ _ (sealed xss.flatten) (sealed xss.flatten) _ (own_rd HS7.out) (own_rd HX7.out) (by rw [sealed_length, ← HT.out]) (by rw [sealed_length, ← HT.out]) (by omega) (by omega)).mono ?_
        rintro e w8 ⟨rfl, hd8⟩
        rw [show decide (sealed xss.flatten = sealed xss.flatten) = true from by simp]
        have hk8 := hd8.kp []
        have HL8 := Lib.hid (HL7.out.kp0 hk8)
        have HO8 := Lib.hid (own_kp0 HO7.out hk8)
        have HK8 := Lib.hid (HK7.out.trans hk8)
        have HR8 := Lib.hid (HR7.out.kp0 hk8)
        have HS8 := Lib.hid (own_kp0 HS7.out hk8)
        have HP8 := Lib.hid (own_kp0 HP7.out hk8)
        have HQ8 := Lib.hid (own_kp0 HQ7.out hk8)
        have hsz8 := hk8.size
        have HJ8 := Lib.hid (HJ7.out.trans hk8)
        clear hk8 hd8 HL7 HO7 HK7 HR7 HS7 HP7 HQ7 HX7 HJ7
        go_wp2_with fail
        refine (sameB A4 A5 lo lo c4 c5 _ _ (openL b) (openL b) _ (own_rd HP8.out) (own_rd HQ8.out) HLO.out.symm HLO.out.symm (by omega) (by omega)).mono ?_
        rintro e w9 ⟨rfl, hd9⟩
        rw [show decide (openL b = openL b) = true from by simp]
        have hk9 := hd9.kp []
        have HL9 := Lib.hid (HL8.out.kp0 hk9)
        have HO9 := Lib.hid (own_kp0 HO8.out hk9)
        have HK9 := Lib.hid (HK8.out.trans hk9)
        have HR9 := Lib.hid (HR8.out.kp0 hk9)
        have HS9 := Lib.hid (own_kp0 HS8.out hk9)
        have HP9 := Lib.hid (own_kp0 HP8.out hk9)
        have hsz9 := hk9.size
        have HJ9 := Lib.hid (HJ8.out.trans hk9)
        clear hk9 hd9 HL8 HO8 HK8 HR8 HS8 HP8 HQ8 HJ8 HL9 HO9 HK9 HR9
        -- written over
        go_wp2_with fail
        refine (overB _ (t + 4) c3 A3 _ _ HS9.out (by omega)).mono ?_
        rintro e w10 ⟨rfl, hk10⟩
        have hS3 : ∀ g ∈ ownL (.slice A3 (t + 4) c3), w2.heap.size ≤ g ∧ g < w3.heap.size := fun g hg => own_ge HS3.out (mem_ownL.1 hg)
        have hS4 : ∀ g ∈ ownL (.slice A4 lo c4), w3.heap.size ≤ g := fun g hg => (own_ge HP9.out (mem_ownL.1 hg)).1
        have hp10 := own_kp HP9.out hk10 (fun g hg hm => by have := (hS3 g hm).2; have := hS4 g (mem_ownL.2 hg); omega)
        have HP10 := Lib.hid hp10; clear hp10
        have HK10 := Lib.hid hk10; clear hk10
        have HSA := Lib.hid hS3; clear hS3
        have HSB := Lib.hid hS4; clear hS4
        go_wp2_with fail
        refine (overB _ lo c4 A4 _ _ HP10.out (by omega)).mono ?_
        rintro e w11 ⟨rfl, hk11⟩
        obtain ⟨S, hS⟩ : ∃ S, S = ownL (.slice A3 (t + 4) c3) ++ ownL (.slice A4 lo c4) := ⟨_, rfl⟩
        have hSge : ∀ g ∈ S, w2.heap.size ≤ g := fun g hg => by
          rw [hS, List.mem_append] at hg
          rcases hg with hg | hg
          · exact (HSA.out g hg).1
          · have := HSB.out g hg; omega
        have hj11 : Kp S w2 w11 := (HJ9.out.nil.trans (HK10.out.mono (fun g hg => by rw [hS]; exact List.mem_append_left _ hg))).trans (hk11.mono (fun g hg => by rw [hS]; exact List.mem_append_right _ hg))
        have hw2 := HK2.out.size
        have hk : Kp [] w w11 := HK2.out.trans' hj11 (fun g hg => .inr (by have := hSge g hg; omega))
        have HL := Lib.hid (HL2.out.kp hj11 hSge (Nat.le_refl _))
        have HO := Lib.hid (own_kp HO2.out hj11 (fun g hg hm => by have := hSge g hm; have := (own_ge HO2.out hg).2; omega))
        have HRW := Lib.hid (HR2.out.kp hj11 (fun hm => by have := hSge _ hm; have := HR2.out.lt; omega))
        have HK := Lib.hid hk
        clear hS hSge hj11 hk HK10 HP10 HSA HSB hk11 HJ9 HS9 HP9 HK2 HL2 HO2 HR2 HS3 HQ HLO HEO HBF
        obtain ⟨w12, rfl⟩ : ∃ w12 : World, w12 = w11 := ⟨_, rfl⟩
        go_wp2
        go_loopw [14] (fun i wr => ∃ j : Nat, j ≤ k ∧ i = .int .i64 j ∧ Dr w12 wr) (fun i _ => k - (intOf i).toNat)
        case atStart => exact ⟨0, by omega, rfl, Dr.refl _⟩
        case round =>
          obtain ⟨j, hj, rfl, hd⟩ := hrel
          have HD := Lib.hid hd; clear hd
          by_cases hjk : j < k
          · obtain ⟨xs, ad, Ax, cx, hxj, rfl, _, hcx, _, hrx⟩ := ((HX.out.kp0 HK.out).kp0 (HD.out.kp [])).ix (i := j) (by have := HN.out; omega)
            obtain ⟨gx, hlx, _, hbx⟩ := HL.out.2 j xs hxj
            obtain ⟨ad2, rfl, _, hcl⟩ := (own_rd HO.out).at_ hlx
            have hcl' := ((HD.out.kp []).cell hcl (by simp))
            have hxl : xs.length ≤ 3000 := by
              have := flat_take_le xss (j + 1)
              rw [flat_take_succ hxj, List.length_append, ← HT.out] at this
              omega
            have hby2 := (hbx.kp0 (HD.out.kp [])).rd (Nat.lt_succ_self _)
            have HB1 := Lib.hid hby2; clear hby2 hbx
            have HB2 := Lib.hid hrx; clear hrx
            clear hcl hxj hlx
            go_wp2
            go_quiet ((go_at_call 24; exact quiet_dr (keptB _ _ _ _ _ _ _ xs _ HB1.out HB2.out rfl (by omega) (by omega))))
            go_wp2
            go_roundw
            case rel => exact ⟨j + 1, by omega, by go_num, HD.out.drewN _⟩
            case measure => simp [intOf]; omega
          · go_wp2_with fail
            refine (keptB _ A' m (m + 12) c' _ _ b _ ((HRW.out.kp0 (HD.out.kp [])).rd (Nat.lt_succ_self _)) ((HY.out.kp0 HK.out).kp0 (HD.out.kp [])) HM.out (by omega) (by omega)).mono ?_
            rintro e w13 ⟨rfl, hd13⟩
            have hk13 : Kp [] w w13 := (HK.out.trans (HD.out.kp [])).trans (hd13.kp [])
            have HK13 := Lib.hid hk13; clear hk13 hd13
            go_wp2_with fail
            refine (awake4_any _).mono ?_
            rintro e w14 ⟨rfl, hk14⟩
            have HK14 := Lib.hid hk14; clear hk14
            go_wp2
            go_ret
            exact ⟨rfl, HK13.out.trans HK14.out⟩
end Go.Proofs.Ytbikidbaiegehaa
