/-
  LAYER 12 (front): FrontLong, the walk.
  CONDITIONS: texts in memory; the table of math/bits.
-/
import Derived.Test.YtlaionhlejmjdaaDoorQ31
import Derived.Test.YtlaionhlejmjdaaDoorQ32
namespace Go.Proofs.YtlaionhlejmjdaaDoor
open Go.RowKit

theorem natS {w : World} {B : Nat} {A : Option Addr} {sg : List Nat} (h : Rd w B A (natV sg)) {k v : Nat} (hk : sg[k]? = some v) : ∃ ad, A = some ad ∧ ad.block < B ∧ w.cell? (ad.add k) = some (.int .i64 (v : Int)) := by
  obtain ⟨ad, h1, h2, h3⟩ := h.at_ (i := k) (u := .int .i64 (v : Int)) (by unfold natV; rw [List.getElem?_map, hk]; rfl)
  exact ⟨ad, h1, h2, h3⟩
set_option maxRecDepth 100000 in
set_option maxHeartbeats 4000000 in
theorem frontlong_any (A0 : Option Addr) (n c0 : Nat) (ss : List ByteArray) (w : World) (h0 : Rd w w.heap.size A0 (ss.map .string)) (hn : ss.length = n) (hb : n ≤ 140737488351232) (hl : ∀ s ∈ ss, s.size ≤ 140737488351232) (ht : Tab64 w) :
    Calls Tryd.prog 3 #[.slice A0 n c0] w fun e w' => e = .returned (.bool true) ∧ Kp [] w w' := by
  have HX := Lib.hid h0
  clear h0
  have HN := Lib.hid hn; clear hn
  have HL := Lib.hid hl; clear hl
  have HT := Lib.hid ht; clear ht
  go_enter Tryd.func3, Tryd.ntmps3
  go_wp2_with fail
  refine (awake_f w HT.out).mono ?_
  rintro e w1 ⟨rfl, hk1⟩
  have HK := Lib.hid hk1
  have HB := Lib.hid hk1.size
  replace HX := Lib.hid (HX.out.kp0 hk1)
  clear hk1
  go_wp2_with fail
  refine (fsize12_any A0 n c0 _ ss w1 HX.out HN.out hb HL.out).mono ?_
  rintro e w1' ⟨⟨Z, rfl, hZ, hnZ, hZs⟩, rfl⟩
  by_cases hZ6 : 900 < Z
  · have hzd : decide ((900 : Int) < (Z : Int)) = true := by simp; omega
    go_wp2_with fail
    go_ret
    exact ⟨rfl, HK.out⟩
  have HSL := Lib.hid (show (symL ss).length ≤ 900 from Nat.le_trans (hZs (by omega)) (by omega))
  have hzd : decide ((900 : Int) < (Z : Int)) = false := by simp; omega
  have hn9 : n ≤ 900 := by omega
  clear hZs
  by_cases hn0 : n = 0
  · subst hn0
    go_wp2_with fail
    go_ret
    exact ⟨rfl, HK.out⟩
  have hn0' : ((n : Int) == 0) = false := by simp; omega
  have hn1 : 1 ≤ n := by omega
  clear hZ hnZ hb
  go_wp2_with fail
  refine (sorted_any A0 n c0 _ ss w1 HX.out HB.out HN.out (by omega)).mono ?_
  rintro e w2 ⟨At, nt, ct, rfl, hown2, hnt, hntn, hk2⟩
  obtain ⟨ts, hts⟩ : ∃ ts, sortS ss = ts := ⟨_, rfl⟩
  rw [hts] at hown2 hnt
  have HTR := Lib.hid (show riseT ts = true from hts ▸ sort_rise ss)
  have HTM := Lib.hid (show ∀ x, x ∈ ts ↔ x ∈ ss from fun x => hts ▸ sort_mem)
  have HTS := Lib.hid (show (symL ts).length ≤ 900 from Nat.le_trans (hts ▸ sort_sym ss) HSL.out)
  have hnt1 : 1 ≤ nt := by rw [← hnt, ← hts]; exact sort_ne (by rw [HN.out]; exact hn1)
  have HNT := Lib.hid hnt
  have HR := Lib.hid (own_rd hown2)
  have HB2 := Lib.hid (Nat.le_trans HB.out hk2.size)
  obtain ⟨_, _, hfo, hntc, _, _⟩ := own_form hown2
  injection hfo with f1 f2 f3
  subst f3
  clear f1 f2 hown2 hnt hts
  replace HK := Lib.hid (HK.out.trans hk2)
  replace HX := Lib.hid (HX.out.kp0 hk2)
  clear hk2
  go_wp2_with fail
  refine (aof_any A0 n c0 _ ss w2 HX.out HN.out hn1 (by have := HSL.out; omega) HB2.out).mono ?_
  rintro e w3 ⟨p, rfl, hcode, hk3⟩
  obtain ⟨lo, hlo⟩ : ∃ lo, lo = w2.heap.size := ⟨_, rfl⟩
  obtain ⟨hi, hhi⟩ : ∃ hi, hi = w3.heap.size := ⟨_, rfl⟩
  rw [← hlo, ← hhi, toNat_smO] at hcode
  obtain ⟨L, hL⟩ : ∃ L, L = lensL (wtO (symL ss)) := ⟨_, rfl⟩
  obtain ⟨T, hT⟩ : ∃ T, T = treeC (smO (symL ss)) L := ⟨_, rfl⟩
  obtain ⟨sg, hsg⟩ : ∃ sg, sg = sgK (symL ss) 257 := ⟨_, rfl⟩
  rw [← hL] at hcode
  rw [← hT, ← hsg] at hcode
  have HENC := Lib.hid (show ∀ s ∈ ts, ∃ r, encT T s = some r from fun s hs => enc_all hcode.1 (fun x hx => by
    have hx2 : x ∈ symL ss := List.mem_flatMap.2 ⟨s, (HTM.out s).1 hs, hx⟩
    rw [hsg]
    exact mem_sgK hx2 (symL_lt ss x hx2)))
  have HC := Lib.hid hcode
  have HHI := Lib.hid (show hi ≤ w3.heap.size by omega)
  have HBR := Lib.hid (show w2.heap.size ≤ w3.heap.size from hk3.size)
  clear hcode hT hsg hL hlo hhi
  replace HK := Lib.hid (HK.out.trans hk3)
  replace HR := Lib.hid (HR.out.kp0 hk3)
  clear hk3
  clear HX
  go_wp2_with fail
  refine (fof_any lo hi p nt ct _ At ts T sg L w3 HC.out HR.out HNT.out (by have := HTS.out; omega) HHI.out HBR.out).mono ?_
  rintro e w4 ⟨hk4, ⟨hr, _⟩ | ⟨_, ⟨s, hs, hno⟩, _⟩ | ⟨_, _, S, f, rfl, hfr⟩⟩
  · rw [HTR.out] at hr
    cases hr
  · obtain ⟨r, hr⟩ := HENC.out s hs
    rw [hr] at hno
    cases hno
  have HF := Lib.hid hfr
  replace HHI := Lib.hid (Nat.le_trans HHI.out hk4.size)
  replace HK := Lib.hid (HK.out.trans hk4)
  replace HR := Lib.hid (HR.out.kp0 hk4)
  replace HC := Lib.hid (HC.out.kp0 hk4)
  clear hk4
  clear hfr
  have hnt9 : nt ≤ 900 := by omega
  go_wp2_with fail
  refine (fstarts_any w4 HF.out (by rw [HNT.out]; omega)).mono ?_
  rintro e w5 ⟨As, m, cs, hm, rfl, hown5, hk5⟩
  have HM := Lib.hid (show m = (nt + 7) / 8 from by rw [hm, starts_len, HNT.out])
  have HRS := Lib.hid (own_rd hown5)
  replace HHI := Lib.hid (Nat.le_trans HHI.out hk5.size)
  replace HK := Lib.hid (HK.out.trans hk5)
  have HF5 := Lib.hid (HF.out.kp0 hk5)
  replace HR := Lib.hid (HR.out.kp0 hk5)
  replace HC := Lib.hid (HC.out.kp0 hk5)
  clear hk5
  clear hm hown5 HF
  have HSZ := Lib.hid (show ∀ s ∈ ts, s.size ≤ 900 from fun s hs => by
    have h1 : (symT s).length ≤ (symL ts).length := by
      obtain ⟨l1, l2, e⟩ := List.append_of_mem hs
      rw [e]
      unfold symL
      rw [List.flatMap_append, List.flatMap_cons, List.length_append, List.length_append]
      omega
    rw [symT_len] at h1
    have := HTS.out
    omega)
  have HBL := Lib.hid (show ∀ j, (frontB T (ts.take j)).length ≤ 9000000 from fun j => by
    have h1 := frontB_len HC.out.1 ts (fun s hs => by have := HSZ.out s hs; omega) j
    have h2 := symL_take ts j
    have := HTS.out
    omega)
  go_wp2_with fail
  go_loopw [9, 10] (fun a i wr => ∃ k N : Nat, i = .int .i64 (k : Int) ∧ a = .int .i64 (N : Int) ∧ k ≤ nt ∧ Hid ((frontB T (ts.take k)).length = N) ∧ Hid (Kp [] w5 wr)) (fun _ i _ => nt - (intOf i).toNat)
  case atStart => exact ⟨0, 0, rfl, rfl, by omega, Lib.hid rfl, Lib.hid (Kp.refl _ _)⟩
  case round =>
    obtain ⟨k, N, rfl, rfl, hk, HNB, HKR⟩ := hrel
    by_cases hlt : k < nt
    · obtain ⟨s, ad, hs, rfl, hadb, hcs⟩ := (HR.out.kp0 HKR.out).str (k := k) (by rw [HNT.out]; exact hlt)
      have hb0 : (0 : Int) ≤ (k : Int) := by omega
      have hb1 : (k : Int) < (nt : Int) := by omega
      have hsz := HSZ.out s (List.mem_of_getElem? hs)
      obtain ⟨r, hr⟩ := HENC.out s (List.mem_of_getElem? hs)
      have HNX := Lib.hid (frontB_next T hs)
      have HE := Lib.hid (show ∀ i, ∃ v, encT T (s.extract i s.size) = some v ∧ encD T (txt s) i = v from fun i => by
        obtain ⟨u, v, hv, _⟩ := enc_rest (show T.enc (sgs (txt s)) = some r from hr) i
        exact ⟨v, by unfold encT; rw [txt_tail]; exact hv, by unfold encD; rw [hv]; rfl⟩)
      have HE0 := Lib.hid (show ∃ v, encT T s = some v ∧ encD T (txt s) 0 = v from ⟨r, hr, by unfold encD; rw [List.drop_zero, show T.enc (sgs (txt s)) = some r from hr]; rfl⟩)
      have HBJ := Lib.hid (HBL.out (k + 1))
      obtain ⟨rm, hrm⟩ : ∃ rm, rm = k % 8 := ⟨_, rfl⟩
      have HRM := Lib.hid hrm
      have htm : Int.tmod (k : Int) 8 = (rm : Int) := by rw [Int.tmod_eq_emod_of_nonneg (by omega)]; omega
      have hN9 : N ≤ 9000000 := by rw [← HNB.out]; exact HBL.out k
      have HCR := Lib.hid (HC.out.kp0 HKR.out)
      have HSS := Lib.hid hs
      clear hs hr hrm
      by_cases hz : rm = 0
      · obtain ⟨b, rfl⟩ : ∃ b, k = 8 * b := ⟨k / 8, by have := HRM.out; omega⟩
        have hrz : ((rm : Int) == 0) = true := by simp; omega
        obtain ⟨bd, rfl, _, hcb⟩ := natS (HRS.out.kp0 HKR.out) (k := b) (v := N) (by rw [starts_get T ts (by rw [HNT.out]; exact hlt), HNB.out])
        have hbm : b < m := by rw [HM.out]; omega
        have hbi : Int.tdiv ((8 * b : Nat) : Int) 8 = (b : Int) := by rw [Int.tdiv_eq_ediv_of_nonneg (by omega)]; omega
        have hb2 : (b : Int) < (m : Int) := by omega
        have hb3 : (0 : Int) ≤ (b : Int) := by omega
        have hb4 : decide (m ≤ b) = false := by simp; omega
        have HHX := Lib.hid (Nat.le_trans HHI.out HKR.out.size)
        have HPC := Lib.hid (show N + (pieceF T (8 * b) (prevT ts (8 * b)) (txt s)).length = N + (encD T (txt s) 0).length from by unfold pieceF; rw [if_pos (by omega)])
        obtain ⟨v, hv1, hv2⟩ := (show ∃ v, encT T s = some v ∧ encD T (txt s) 0 = v from HE0.out)
        have HLN := Lib.hid (show longN T s = v.length ∧ longE T s = 0 from by unfold longN longE; rw [hv1]; exact ⟨rfl, rfl⟩)
        have HNEW := Lib.hid (show (frontB T (ts.take ((8 * b) + 1))).length = N + v.length from by rw [HNX.out, List.length_append, HNB.out, HPC.out, hv2])
        obtain ⟨y, hy⟩ : ∃ y, v.length = y := ⟨_, rfl⟩
        rw [hy] at HLN HNEW
        have hMy : N + y ≤ 9000000 := by rw [← HNEW.out]; exact HBJ.out
        clear hv1 hv2 hy
        go_wp2_with fail
        refine (clong_any lo hi p T sg L s wr HCR.out (by omega) HHX.out).mono ?_
        rw [HLN.out.1, HLN.out.2]
        rintro e w8 ⟨rfl, hk8⟩
        have HK8 := Lib.hid (HKR.out.trans hk8)
        clear hk8
        go_wp2_with fail
        exact ⟨⟨(8 * b) + 1, N + y, by go_num, by go_num, by omega, HNEW, HK8⟩, by simp [intOf]; omega⟩
      · have hrz : ((rm : Int) == 0) = false := by simp; omega
        obtain ⟨i, rfl⟩ : ∃ i, k = i + 1 := ⟨k - 1, by have := HRM.out; omega⟩
        obtain ⟨t, ad', ht, e', _, hct⟩ := (HR.out.kp0 HKR.out).str (k := i) (by rw [HNT.out]; omega)
        injection e' with e'
        subst e'
        have HPV := Lib.hid (show prevT ts (i + 1) = txt t from prevT_succ ht)
        have htz := HSZ.out t (List.mem_of_getElem? ht)
        have hcs2 : wr.cell? ⟨ad.block, ad.off + (i + 1), none⟩ = some (.string s) := hcs
        obtain ⟨al, hal⟩ : ∃ al, alikeN (txt t) (txt s) = al := ⟨_, rfl⟩
        obtain ⟨q1, q2, q3⟩ := alikeN_le (txt t) (txt s)
        rw [hal, txt_len] at q1 q2
        rw [hal] at q3
        have HAL := Lib.hid hal
        have HNE := Lib.hid (alikeN_not (txt t) (txt s))
        rw [hal] at HNE
        have HEQ := Lib.hid (show t.extract 0 al = s.extract 0 al from by
          apply txt_inj
          rw [txt_extract, txt_extract, List.drop_zero, List.drop_zero, Nat.sub_zero]
          exact q3)
        have hb2 : (0 : Int) ≤ (i : Int) := by omega
        have hb3 : (i : Int) < (nt : Int) := by omega
        have hb5 : (i : Int) + 1 < (nt : Int) := by omega
        have htm2 : Int.tmod ((i : Int) + 1) 8 = (rm : Int) := by rw [Int.tmod_eq_emod_of_nonneg (by omega)]; have := HRM.out; omega
        have HLK := Lib.hid (fun w' => falike_any t s w' (by omega) (by omega))
        rw [HAL.out] at HLK
        clear ht hcs hal q3 htm
        go_wp2_with fail
        go_quiet ((go_at_call 11; exact quiet_dr (HLK.out _)))
        obtain ⟨w6, hw6⟩ : ∃ w6, w6 = wr.drewN nq := ⟨_, rfl⟩
        rw [← hw6]
        have hcs3 : w6.cell? ⟨ad.block, ad.off + (i + 1), none⟩ = some (.string s) := by rw [hw6]; exact hcs2
        have hct3 : w6.cell? (ad.add i) = some (.string t) := by rw [hw6]; exact hct
        have HK6 := Lib.hid (show Kp [] w5 w6 from HKR.out.trans (hw6 ▸ (Kp.refl _ _).drewN nq))
        have HC6 := Lib.hid (show CodeM w6 lo hi p T sg L from HCR.out.kp0 (hw6 ▸ (Kp.refl _ _).drewN nq))
        have HHX := Lib.hid (show hi ≤ w6.heap.size from Nat.le_trans HHI.out HK6.out.size)
        clear hw6 hcs2 hct HKR HCR HLK
        have hq1 : decide (s.size < al) = false := by simp; omega
        have HBA := Lib.hid (show bl (al + 1) ≤ 20 from (bl_le_iff (Nat.lt_of_le_of_lt (show al + 1 ≤ 1000 by omega) (by decide)) (by omega)).2 (Nat.lt_of_le_of_lt (show al + 1 ≤ 1000 by omega) (by decide)))
        have ha0 : (0 : Int) ≤ (al : Int) := by omega
        have ha1 : (al : Int) ≤ (t.size : Int) := by omega
        have ha2 : (al : Int) ≤ (s.size : Int) := by omega
        by_cases g1 : al < t.size
        · by_cases g2 : al < s.size
          · have hx := txt_get t al g1
            have hy := txt_get s al g2
            obtain ⟨x, hxx⟩ : ∃ x, t[al].toNat = x := ⟨_, rfl⟩
            obtain ⟨y, hyy⟩ : ∃ y, s[al].toNat = y := ⟨_, rfl⟩
            have hxy2 : ((x : Int) == (y : Int)) = false := by
              have h9 := HNE.out _ _ hx hy
              have : (x : Int) ≠ (y : Int) := by omega
              simpa using this
            have g3 : (al : Int) < (t.size : Int) := by omega
            have g4 : (al : Int) < (s.size : Int) := by omega
            clear hx hy
            have heq := HEQ.out
            go_wp2_with fail
            go_quiet (fail)
            obtain ⟨w7, hw7⟩ : ∃ w7, w7 = w6.drewN nq := ⟨_, rfl⟩
            rw [← hw7]
            have HK7 := Lib.hid (show Kp [] w5 w7 from HK6.out.trans (hw7 ▸ (Kp.refl _ _).drewN nq))
            have hcs7 : w7.cell? ⟨ad.block, ad.off + (i + 1), none⟩ = some (.string s) := by rw [hw7]; exact hcs3
            clear hw7 hcs3 hct3 HK6 HC6 HHX heq
            go_wp2_with fail
            go_loopw [9, 12] (fun a v wr2 => ∃ N1 V : Nat, a = .int .i64 (N1 : Int) ∧ v = .int .i64 (V : Int) ∧ 1 ≤ V ∧ V ≤ al + 1 ∧ N1 ≤ 9000100 ∧ Hid (N1 + 2 * bl V = N + 2 * bl (al + 1)) ∧ w7 = wr2) (fun _ v _ => (intOf v).toNat)
            case atStart => exact ⟨N, al + 1, rfl, by go_num, by omega, Nat.le_refl _, by omega, Lib.hid rfl, rfl⟩
            case round =>
              obtain ⟨N1, V, rfl, rfl, hV1, hV2, hN1, HBV, rfl⟩ := hrel
              by_cases hV : 1 < V
              · obtain ⟨V2, hV2e⟩ : ∃ V2, V2 = V / 2 := ⟨_, rfl⟩
                have hq2 : Int.tdiv (V : Int) 2 = (V2 : Int) := by rw [Int.tdiv_eq_ediv_of_nonneg (by omega)]; omega
                have HB2 := Lib.hid (show N1 + 2 + 2 * bl V2 = N + 2 * bl (al + 1) from by
                  have h1 := bl_half_ (v := V) (Nat.lt_of_le_of_lt (show V ≤ 1000 by omega) (by decide)) (by omega)
                  have h2 := HBV.out
                  rw [← hV2e] at h1
                  omega)
                have hN2 : N1 + 2 ≤ 9000100 := by have h2 := HB2.out; have h3 := HBA.out; omega
                have hv1 : 1 ≤ V2 := by omega
                have hv2 : V2 ≤ al + 1 := by omega
                have hv3 : V2 < V := by omega
                clear hV2e
                go_wp2_with fail
                exact ⟨⟨N1 + 2, V2, by go_num, rfl, hv1, hv2, hN2, HB2, trivial⟩, by simp [intOf]; omega⟩
              · obtain rfl : V = 1 := by omega
                have HPC := Lib.hid (show N + (pieceF T (i + 1) (prevT ts (i + 1)) (txt s)).length = N1 + 1 + (encD T (txt s) al).length from by
                  unfold pieceF
                  rw [if_neg (by have := HRM.out; omega), HPV.out, HAL.out, List.length_append, gamL_len (Nat.lt_of_le_of_lt (show al + 1 ≤ 1000 by omega) (by decide)) (by omega)]
                  have h1 := HBV.out
                  rw [bl_one] at h1
                  have h2 := (bl_spec (x := al + 1) (Nat.lt_of_le_of_lt (show al + 1 ≤ 1000 by omega) (by decide)) (by omega)).1
                  omega)
                have HEX := Lib.hid (show (s.extract al s.size).size ≤ 1000000000 from by rw [← txt_len, txt_tail, List.length_drop, txt_len]; omega)
                obtain ⟨v, hv1, hv2⟩ := (HE.out al)
                have HLN := Lib.hid (show longN T (s.extract al s.size) = v.length ∧ longE T (s.extract al s.size) = 0 from by unfold longN longE; rw [hv1]; exact ⟨rfl, rfl⟩)
                have HNEW := Lib.hid (show (frontB T (ts.take ((i + 1) + 1))).length = (N1 + 1) + v.length from by rw [HNX.out, List.length_append, HNB.out, HPC.out, hv2])
                obtain ⟨y, hy⟩ : ∃ y, v.length = y := ⟨_, rfl⟩
                rw [hy] at HLN HNEW
                have hMy : (N1 + 1) + y ≤ 9000000 := by rw [← HNEW.out]; exact HBJ.out
                clear hv1 hv2 hy
                go_wp2_with fail
                refine (clong_any lo hi p T sg L (s.extract al s.size) w7 (HC.out.kp0 HK7.out) HEX.out (Nat.le_trans HHI.out HK7.out.size)).mono ?_
                rw [HLN.out.1, HLN.out.2]
                rintro e w8 ⟨rfl, hk8⟩
                have HK8 := Lib.hid (HK7.out.trans hk8)
                clear hk8
                go_wp2_with fail
                exact ⟨⟨(i + 1) + 1, (N1 + 1) + y, by go_num, by go_num, by omega, HNEW, HK8⟩, by simp [intOf]; omega⟩
          · have g3 : (al : Int) < (t.size : Int) := by omega
            have g4 : decide (al < s.size) = false := by simp; omega
            have heq := HEQ.out
            go_wp2_with fail
            go_quiet (fail)
            obtain ⟨w7, hw7⟩ : ∃ w7, w7 = w6.drewN nq := ⟨_, rfl⟩
            rw [← hw7]
            have HK7 := Lib.hid (show Kp [] w5 w7 from HK6.out.trans (hw7 ▸ (Kp.refl _ _).drewN nq))
            have hcs7 : w7.cell? ⟨ad.block, ad.off + (i + 1), none⟩ = some (.string s) := by rw [hw7]; exact hcs3
            clear hw7 hcs3 hct3 HK6 HC6 HHX heq
            go_wp2_with fail
            go_loopw [9, 12] (fun a v wr2 => ∃ N1 V : Nat, a = .int .i64 (N1 : Int) ∧ v = .int .i64 (V : Int) ∧ 1 ≤ V ∧ V ≤ al + 1 ∧ N1 ≤ 9000100 ∧ Hid (N1 + 2 * bl V = N + 2 * bl (al + 1)) ∧ w7 = wr2) (fun _ v _ => (intOf v).toNat)
            case atStart => exact ⟨N, al + 1, rfl, by go_num, by omega, Nat.le_refl _, by omega, Lib.hid rfl, rfl⟩
            case round =>
              obtain ⟨N1, V, rfl, rfl, hV1, hV2, hN1, HBV, rfl⟩ := hrel
              by_cases hV : 1 < V
              · obtain ⟨V2, hV2e⟩ : ∃ V2, V2 = V / 2 := ⟨_, rfl⟩
                have hq2 : Int.tdiv (V : Int) 2 = (V2 : Int) := by rw [Int.tdiv_eq_ediv_of_nonneg (by omega)]; omega
                have HB2 := Lib.hid (show N1 + 2 + 2 * bl V2 = N + 2 * bl (al + 1) from by
                  have h1 := bl_half_ (v := V) (Nat.lt_of_le_of_lt (show V ≤ 1000 by omega) (by decide)) (by omega)
                  have h2 := HBV.out
                  rw [← hV2e] at h1
                  omega)
                have hN2 : N1 + 2 ≤ 9000100 := by have h2 := HB2.out; have h3 := HBA.out; omega
                have hv1 : 1 ≤ V2 := by omega
                have hv2 : V2 ≤ al + 1 := by omega
                have hv3 : V2 < V := by omega
                clear hV2e
                go_wp2_with fail
                exact ⟨⟨N1 + 2, V2, by go_num, rfl, hv1, hv2, hN2, HB2, trivial⟩, by simp [intOf]; omega⟩
              · obtain rfl : V = 1 := by omega
                have HPC := Lib.hid (show N + (pieceF T (i + 1) (prevT ts (i + 1)) (txt s)).length = N1 + 1 + (encD T (txt s) al).length from by
                  unfold pieceF
                  rw [if_neg (by have := HRM.out; omega), HPV.out, HAL.out, List.length_append, gamL_len (Nat.lt_of_le_of_lt (show al + 1 ≤ 1000 by omega) (by decide)) (by omega)]
                  have h1 := HBV.out
                  rw [bl_one] at h1
                  have h2 := (bl_spec (x := al + 1) (Nat.lt_of_le_of_lt (show al + 1 ≤ 1000 by omega) (by decide)) (by omega)).1
                  omega)
                have HEX := Lib.hid (show (s.extract al s.size).size ≤ 1000000000 from by rw [← txt_len, txt_tail, List.length_drop, txt_len]; omega)
                obtain ⟨v, hv1, hv2⟩ := (HE.out al)
                have HLN := Lib.hid (show longN T (s.extract al s.size) = v.length ∧ longE T (s.extract al s.size) = 0 from by unfold longN longE; rw [hv1]; exact ⟨rfl, rfl⟩)
                have HNEW := Lib.hid (show (frontB T (ts.take ((i + 1) + 1))).length = (N1 + 1) + v.length from by rw [HNX.out, List.length_append, HNB.out, HPC.out, hv2])
                obtain ⟨y, hy⟩ : ∃ y, v.length = y := ⟨_, rfl⟩
                rw [hy] at HLN HNEW
                have hMy : (N1 + 1) + y ≤ 9000000 := by rw [← HNEW.out]; exact HBJ.out
                clear hv1 hv2 hy
                go_wp2_with fail
                refine (clong_any lo hi p T sg L (s.extract al s.size) w7 (HC.out.kp0 HK7.out) HEX.out (Nat.le_trans HHI.out HK7.out.size)).mono ?_
                rw [HLN.out.1, HLN.out.2]
                rintro e w8 ⟨rfl, hk8⟩
                have HK8 := Lib.hid (HK7.out.trans hk8)
                clear hk8
                go_wp2_with fail
                exact ⟨⟨(i + 1) + 1, (N1 + 1) + y, by go_num, by go_num, by omega, HNEW, HK8⟩, by simp [intOf]; omega⟩
        · have g3 : decide (al < t.size) = false := by simp; omega
          have heq := HEQ.out
          go_wp2_with fail
          go_quiet (fail)
          obtain ⟨w7, hw7⟩ : ∃ w7, w7 = w6.drewN nq := ⟨_, rfl⟩
          rw [← hw7]
          have HK7 := Lib.hid (show Kp [] w5 w7 from HK6.out.trans (hw7 ▸ (Kp.refl _ _).drewN nq))
          have hcs7 : w7.cell? ⟨ad.block, ad.off + (i + 1), none⟩ = some (.string s) := by rw [hw7]; exact hcs3
          clear hw7 hcs3 hct3 HK6 HC6 HHX heq
          go_wp2_with fail
          go_loopw [9, 12] (fun a v wr2 => ∃ N1 V : Nat, a = .int .i64 (N1 : Int) ∧ v = .int .i64 (V : Int) ∧ 1 ≤ V ∧ V ≤ al + 1 ∧ N1 ≤ 9000100 ∧ Hid (N1 + 2 * bl V = N + 2 * bl (al + 1)) ∧ w7 = wr2) (fun _ v _ => (intOf v).toNat)
          case atStart => exact ⟨N, al + 1, rfl, by go_num, by omega, Nat.le_refl _, by omega, Lib.hid rfl, rfl⟩
          case round =>
            obtain ⟨N1, V, rfl, rfl, hV1, hV2, hN1, HBV, rfl⟩ := hrel
            by_cases hV : 1 < V
            · obtain ⟨V2, hV2e⟩ : ∃ V2, V2 = V / 2 := ⟨_, rfl⟩
              have hq2 : Int.tdiv (V : Int) 2 = (V2 : Int) := by rw [Int.tdiv_eq_ediv_of_nonneg (by omega)]; omega
              have HB2 := Lib.hid (show N1 + 2 + 2 * bl V2 = N + 2 * bl (al + 1) from by
                have h1 := bl_half_ (v := V) (Nat.lt_of_le_of_lt (show V ≤ 1000 by omega) (by decide)) (by omega)
                have h2 := HBV.out
                rw [← hV2e] at h1
                omega)
              have hN2 : N1 + 2 ≤ 9000100 := by have h2 := HB2.out; have h3 := HBA.out; omega
              have hv1 : 1 ≤ V2 := by omega
              have hv2 : V2 ≤ al + 1 := by omega
              have hv3 : V2 < V := by omega
              clear hV2e
              go_wp2_with fail
              exact ⟨⟨N1 + 2, V2, by go_num, rfl, hv1, hv2, hN2, HB2, trivial⟩, by simp [intOf]; omega⟩
            · obtain rfl : V = 1 := by omega
              have HPC := Lib.hid (show N + (pieceF T (i + 1) (prevT ts (i + 1)) (txt s)).length = N1 + 1 + (encD T (txt s) al).length from by
                unfold pieceF
                rw [if_neg (by have := HRM.out; omega), HPV.out, HAL.out, List.length_append, gamL_len (Nat.lt_of_le_of_lt (show al + 1 ≤ 1000 by omega) (by decide)) (by omega)]
                have h1 := HBV.out
                rw [bl_one] at h1
                have h2 := (bl_spec (x := al + 1) (Nat.lt_of_le_of_lt (show al + 1 ≤ 1000 by omega) (by decide)) (by omega)).1
                omega)
              have HEX := Lib.hid (show (s.extract al s.size).size ≤ 1000000000 from by rw [← txt_len, txt_tail, List.length_drop, txt_len]; omega)
              obtain ⟨v, hv1, hv2⟩ := (HE.out al)
              have HLN := Lib.hid (show longN T (s.extract al s.size) = v.length ∧ longE T (s.extract al s.size) = 0 from by unfold longN longE; rw [hv1]; exact ⟨rfl, rfl⟩)
              have HNEW := Lib.hid (show (frontB T (ts.take ((i + 1) + 1))).length = (N1 + 1) + v.length from by rw [HNX.out, List.length_append, HNB.out, HPC.out, hv2])
              obtain ⟨y, hy⟩ : ∃ y, v.length = y := ⟨_, rfl⟩
              rw [hy] at HLN HNEW
              have hMy : (N1 + 1) + y ≤ 9000000 := by rw [← HNEW.out]; exact HBJ.out
              clear hv1 hv2 hy
              go_wp2_with fail
              refine (clong_any lo hi p T sg L (s.extract al s.size) w7 (HC.out.kp0 HK7.out) HEX.out (Nat.le_trans HHI.out HK7.out.size)).mono ?_
              rw [HLN.out.1, HLN.out.2]
              rintro e w8 ⟨rfl, hk8⟩
              have HK8 := Lib.hid (HK7.out.trans hk8)
              clear hk8
              go_wp2_with fail
              exact ⟨⟨(i + 1) + 1, (N1 + 1) + y, by go_num, by go_num, by omega, HNEW, HK8⟩, by simp [intOf]; omega⟩
    · obtain rfl : k = nt := by omega
      have HFE := Lib.hid (HF5.out.kp0 HKR.out)
      have HNE := Lib.hid (show (frontB T ts).length = N from by have h1 := HNB.out; rwa [List.take_of_length_le (by rw [HNT.out]; exact Nat.le_refl _)] at h1)
      have hmm := HM.out
      have hq9 : Int.tdiv ((k : Int) + 7) 8 = (m : Int) := by rw [Int.tdiv_eq_ediv_of_nonneg (by omega)]; omega
      have hm9 : m ≤ 1000 := by omega
      clear hmm
      go_wp2_with fail
      refine (fbits_any wr HFE.out).mono ?_
      rintro e w8 ⟨⟨V, q, rfl, hv, hV⟩, hk8⟩
      have HV := Lib.hid hv
      have HK8 := Lib.hid (HKR.out.trans hk8)
      clear hv hV hk8
      go_wp2_with fail
      refine (vlen_any V q N (frontB T ts) false w8 HV.out HNE.out).mono ?_
      rintro e w9 ⟨rfl, rfl⟩
      go_wp2_with fail
      go_ret
      exact ⟨rfl, HK.out.trans HK8.out⟩
end Go.Proofs.YtlaionhlejmjdaaDoor
