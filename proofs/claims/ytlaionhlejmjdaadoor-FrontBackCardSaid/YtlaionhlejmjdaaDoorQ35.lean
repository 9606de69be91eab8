/-
  LAYER 12 (front): FrontBack, the walk.
  CONDITIONS: texts in memory; the table of math/bits.
-/
import Derived.Test.YtlaionhlejmjdaaDoorQ33
import Derived.Test.YtlaionhlejmjdaaDoorQ34
import Derived.Test.YtlaionhlejmjdaaDoorQ32
namespace Go.Proofs.YtlaionhlejmjdaaDoor
open Go.RowKit

theorem natV_int (sg : List Nat) : natV sg = (sg.map fun (x : Nat) => (x : Int)).map (.int .i64) := by unfold natV; rw [List.map_map]; rfl
set_option maxRecDepth 100000 in
set_option maxHeartbeats 4000000 in
theorem frontback_any (A0 B0 : Option Addr) (n c0 m d0 : Nat) (ss ms : List ByteArray) (s : ByteArray) (w : World) (h0 : Rd w w.heap.size A0 (ss.map .string)) (hm0 : Rd w w.heap.size B0 (ms.map .string)) (hn : ss.length = n) (hm : ms.length = m) (hb : n ≤ 140737488351232) (hb' : m ≤ 140737488351232) (hl : ∀ s ∈ ss, s.size ≤ 140737488351232) (hl' : ∀ s ∈ ms, s.size ≤ 140737488351232) (hs : s.size ≤ 140737488351232) (ht : Tab64 w) :
    Calls Tryd.prog 4 #[.slice A0 n c0, .slice B0 m d0, .string s] w fun e w' => e = .returned (.bool true) ∧ Kp [] w w' := by
  obtain ⟨i0, hi0, hz0, hz1, hz2⟩ := info_parts Tryd.info_str12
  have HX := Lib.hid h0
  have HY := Lib.hid hm0
  clear h0 hm0
  have HN := Lib.hid hn; clear hn
  have HM := Lib.hid hm; clear hm
  have HL := Lib.hid hl; clear hl
  have HL' := Lib.hid hl'; clear hl'
  have HT := Lib.hid ht; clear ht
  go_enter Tryd.func4, Tryd.ntmps4
  go_wp2_with fail
  refine (awake_f w HT.out).mono ?_
  rintro e w1 ⟨rfl, hk1⟩
  have HK := Lib.hid hk1
  have HB := Lib.hid hk1.size
  replace HT := Lib.hid (HT.out.kp0 hk1)
  replace HX := Lib.hid (HX.out.kp0 hk1)
  replace HY := Lib.hid (HY.out.kp0 hk1)
  clear hk1
  go_wp2_with fail
  refine (fsize12_any A0 n c0 _ ss w1 HX.out HN.out hb HL.out).mono ?_
  rintro e w1' ⟨⟨Z, rfl, hZ, hnZ, hZs⟩, rfl⟩
  have HZS := Lib.hid hZs
  clear hZs
  go_wp2_with fail
  refine (fsize12_any B0 m d0 _ ms w1 HY.out HM.out hb' HL'.out).mono ?_
  rintro e w1' ⟨⟨Y, rfl, hY, hmY, hYs⟩, rfl⟩
  have HYS := Lib.hid hYs
  clear hYs
  by_cases hZ6 : 900 < Z + Y + s.size
  · have hzd : decide ((900 : Int) < (Z : Int) + (Y : Int) + (s.size : Int)) = true := by simp; omega
    go_wp2_with fail
    go_ret
    exact ⟨rfl, HK.out⟩
  have HSL := Lib.hid (show (symL ss).length ≤ 900 from Nat.le_trans (HZS.out (by omega)) (by omega))
  have HML := Lib.hid (show (symL ms).length ≤ 900 from Nat.le_trans (HYS.out (by omega)) (by omega))
  have hzd : decide ((900 : Int) < (Z : Int) + (Y : Int) + (s.size : Int)) = false := by simp; omega
  have hn9 : n ≤ 900 := by omega
  have hm9 : m ≤ 900 := by omega
  by_cases hn0 : n = 0
  · subst hn0
    go_wp2_with fail
    go_ret
    exact ⟨rfl, HK.out⟩
  have hn0' : ((n : Int) == 0) = false := by simp; omega
  have hn1 : 1 ≤ n := by omega
  clear hnZ hmY hb hb'
  go_wp2_with fail
  refine (sorted_any A0 n c0 _ ss w1 HX.out HB.out HN.out (by omega)).mono ?_
  clear hzd hZ6 hZ hY
  rintro e w2 ⟨At, nt, ct, rfl, hown2, hnt, hntn, hk2⟩
  obtain ⟨ts, hts⟩ : ∃ ts, sortS ss = ts := ⟨_, rfl⟩
  rw [hts] at hown2 hnt
  have HTR := Lib.hid (show riseT ts = true from hts ▸ sort_rise ss)
  have HTM := Lib.hid (show ∀ x, x ∈ ts ↔ x ∈ ss from fun x => hts ▸ sort_mem)
  have HTS := Lib.hid (show (symL ts).length ≤ 900 from Nat.le_trans (hts ▸ sort_sym ss) HSL.out)
  have hnt1 : 1 ≤ nt := by rw [← hnt, ← hts]; exact sort_ne (by rw [HN.out]; exact hn1)
  have HNT := Lib.hid hnt
  have HR := Lib.hid (own_rd hown2)
  have HB2 := Lib.hid (Nat.le_trans HB.out hk2.size)
  obtain ⟨_, _, hfo, hntc, _, _⟩ := own_form hown2
  injection hfo with f1 f2 f3
  subst f3
  clear f1 f2 hown2 hnt hts
  replace HK := Lib.hid (HK.out.trans hk2)
  replace HT := Lib.hid (HT.out.kp0 hk2)
  replace HX := Lib.hid (HX.out.kp0 hk2)
  replace HY := Lib.hid (HY.out.kp0 hk2)
  clear hk2
  have HXL := Lib.hid (show (ss.map Value.string : List Value).length = n * 1 by rw [List.length_map, HN.out, Nat.mul_one])
  have HYL := Lib.hid (show (ms.map Value.string : List Value).length = m * 1 by rw [List.length_map, HM.out, Nat.mul_one])
  go_wp2_with first
    | (at_builtin; refine wpList_append_rd rfl (.tmp 42) (.tmp 43) 22 rfl w2.heap.size 9 i0 (.string ⟨#[]⟩) 1 16 Tryd.underlying22 hi0 hz0 hz1 hz2 rfl (by decide) (.slice (some ⟨w2.heap.size, 0, none⟩) 0 0) 0 [] rfl (own_nilS w2 w2.heap.size _ 1 (Nat.le_refl _)) _ _ n c0 (ss.map .string) rfl HXL.out (HX.out.kp0 ((Kp.refl [] _).alloc _)) (ocS _) (by unfold maxLen; omega) (by omega) (by simp) ?_; intro v4 w4 hown4 hgrow4 hat4
       rw [Nat.zero_add, List.nil_append] at hown4
       obtain ⟨A4, c4, rfl, _⟩ := own_form hown4
       have hk4 : Kp [] w2 w4 := ((Kp.refl [] w2).alloc _).grown hgrow4 (fun x hx => .inr (by simp [Value.ownBlock] at hx; omega))
       have HO4 := Lib.hid hown4
       have HY4 := Lib.hid (HY.out.kp0 hk4)
       have HK4 := Lib.hid hk4
       have HSZ4 := Lib.hid hk4.size
       clear hown4 hgrow4 hat4 hk4)
    | (at_builtin; refine wpList_append_rd rfl (.tmp 44) (.tmp 45) 22 rfl w2.heap.size 9 i0 (.string ⟨#[]⟩) 1 16 Tryd.underlying22 hi0 hz0 hz1 hz2 rfl (by decide) (.slice A4 n c4) n _ rfl HO4.out _ _ m d0 _ rfl HYL.out HY4.out (ocS _) (by unfold maxLen; omega) (by omega) HSZ4.out ?_; intro v5 w5 hown5 hgrow5 hat5
       obtain ⟨A5, c5, rfl, _⟩ := own_form hown5
       have hk5 : Kp [] w2 w5 := HK4.out.grown hgrow5 (fun x hx => .inr (own_ge HO4.out hx).1)
       rw [← List.map_append] at hown5
       have HO5 := Lib.hid (own_rd hown5)
       have HK5 := Lib.hid hk5
       clear hown5 hgrow5 hat5 hk5)
  have HN5 := Lib.hid (show (ss ++ ms).length = n + m by rw [List.length_append, HN.out, HM.out])
  have HS5 := Lib.hid (show (symL (ss ++ ms)).length ≤ 1800 by unfold symL; rw [List.flatMap_append, List.length_append]; have h1 := HSL.out; have h2 := HML.out; unfold symL at h1 h2; omega)
  replace HR := Lib.hid (HR.out.kp0 HK5.out)
  replace HT := Lib.hid (HT.out.kp0 HK5.out)
  replace HB2 := Lib.hid (Nat.le_trans HB2.out HK5.out.size)
  replace HK := Lib.hid (HK.out.trans HK5.out)
  have HBT := Lib.hid HK5.out.size
  clear HO4 HY4 HK4 HSZ4 HX HY HXL HYL HK5
  refine (aof_any A5 (n + m) c5 _ (ss ++ ms) w5 HO5.out HN5.out (by omega) (by have := HS5.out; omega) (Nat.le_refl _)).mono ?_
  rintro e w3 ⟨p, rfl, hcode, hk3⟩
  obtain ⟨lo, hlo⟩ : ∃ lo, lo = w5.heap.size := ⟨_, rfl⟩
  obtain ⟨hi, hhi⟩ : ∃ hi, hi = w3.heap.size := ⟨_, rfl⟩
  rw [← hlo, ← hhi, toNat_smO] at hcode
  obtain ⟨L, hL⟩ : ∃ L, L = lensL (wtO (symL (ss ++ ms))) := ⟨_, rfl⟩
  obtain ⟨T, hT⟩ : ∃ T, T = treeC (smO (symL (ss ++ ms))) L := ⟨_, rfl⟩
  obtain ⟨sg, hsg⟩ : ∃ sg, sg = sgK (symL (ss ++ ms)) 257 := ⟨_, rfl⟩
  rw [← hL] at hcode
  rw [← hT, ← hsg] at hcode
  have HENC := Lib.hid (show ∀ s ∈ ts, ∃ r, encT T s = some r from fun s hs => enc_all hcode.1 (fun x hx => by
    have hx2 : x ∈ symL (ss ++ ms) := List.mem_flatMap.2 ⟨s, List.mem_append_left _ ((HTM.out s).1 hs), hx⟩
    rw [hsg]
    exact mem_sgK hx2 (symL_lt _ x hx2)))
  have HC := Lib.hid hcode
  have HHI := Lib.hid (show hi ≤ w3.heap.size by omega)
  replace HBT := Lib.hid (Nat.le_trans HBT.out hk3.size)
  clear hcode hT hsg hL hlo hhi HS5 HN5 HO5
  replace HK := Lib.hid (HK.out.trans hk3)
  replace HT := Lib.hid (HT.out.kp0 hk3)
  replace HR := Lib.hid (HR.out.kp0 hk3)
  clear hk3
  go_wp2_with fail
  refine (fof_any lo hi p nt ct _ At ts T sg L w3 HC.out HR.out HNT.out (by have := HTS.out; omega) HHI.out HBT.out).mono ?_
  rintro e w4 ⟨hk4, ⟨hr, _⟩ | ⟨_, ⟨s, hs, hno⟩, _⟩ | ⟨_, _, S, f, rfl, hfr⟩⟩
  · rw [HTR.out] at hr
    cases hr
  · obtain ⟨r, hr⟩ := HENC.out s hs
    rw [hr] at hno
    cases hno
  have HF := Lib.hid hfr
  have HHI3 := Lib.hid HHI.out
  have HSZ := Lib.hid (show ∀ s ∈ ts, s.size ≤ 900 from fun s hs => by
    have h1 : (symT s).length ≤ (symL ts).length := by
      obtain ⟨l1, l2, e⟩ := List.append_of_mem hs
      rw [e]
      unfold symL
      rw [List.flatMap_append, List.flatMap_cons, List.length_append, List.length_append]
      omega
    rw [symT_len] at h1
    have := HTS.out
    omega)
  have HTEX := Lib.hid (show ∀ s ∈ ts, (∃ r, encT T s = some r) ∧ s.size ≤ 1000000 from fun s hs => ⟨HENC.out s hs, by have := HSZ.out s hs; omega⟩)
  have HBL := Lib.hid (show (frontB T ts).length ≤ 9000000 from by
    have h1 := frontB_len HC.out.1 ts (fun s hs => by have := HSZ.out s hs; omega) nt
    rw [List.take_of_length_le (by rw [HNT.out]; exact Nat.le_refl _)] at h1
    have := HTS.out
    omega)
  have HK4 := Lib.hid hk4
  have HC4 := Lib.hid (HC.out.kp0 hk4)
  have HT4 := Lib.hid (HT.out.kp0 hk4)
  clear hfr
  have hnt9 : nt ≤ 900 := by omega
  go_wp2_with fail
  refine (flen_any nt w4 HF.out HNT.out).mono ?_
  rintro e w5' ⟨rfl, rfl⟩
  go_wp2_with fail
  refine (fbits_any w4 HF.out).mono ?_
  rintro e w5 ⟨⟨V, q, rfl, hv, hV⟩, hk5⟩
  have HV := Lib.hid hv
  have HVN := Lib.hid hV
  have HK5 := Lib.hid (hk4.trans hk5)
  have HF5 := Lib.hid (HF.out.kp0 hk5)
  have HT5 := Lib.hid (HT4.out.kp0 hk5)
  have HC5 := Lib.hid (HC4.out.kp0 hk5)
  have H45 := Lib.hid hk5
  obtain ⟨N, hN⟩ : ∃ N, (frontB T ts).length = N := ⟨_, rfl⟩
  have HNN := Lib.hid hN
  clear hv hV hk4 hk5 hN HT4 HC4 HF5
  go_wp2_with fail
  refine (fread_any lo hi p q nt N V false T sg L (frontB T ts) w5 HC5.out HV.out HNN.out (fun k us a hk hr => by
    rw [readK_back HC.out.1 HTEX.out k (by rw [HNT.out]; exact hk)] at hr
    injection hr with hr
    injection hr with e1 e2
    subst e1 e2
    exact ⟨by rw [List.length_take, HNT.out]; omega, frontB_mono T ts k, by omega, fun s hs => Nat.le_trans (HSZ.out s (List.mem_of_mem_take hs)) (by omega), fun s hs => HENC.out s (List.mem_of_mem_take hs), fun j => by rw [List.take_take]; exact Nat.le_trans (frontB_mono T ts _) HBL.out⟩) (by omega) (Nat.le_trans HHI.out HK5.out.size) (fun g hg => .inr (Nat.le_trans (Nat.le_trans HHI.out HK4.out.size) (HVN.out g hg))) HT5.out (fun hm => by have h1 := HVN.out _ hm; have h2 := HT.out.lt; have h3 := HK4.out.size; omega)).mono ?_
  have HRT := Lib.hid (show readT T (frontB T ts) nt = some ts from by
    unfold readT
    rw [readK_back HC.out.1 HTEX.out nt (by rw [HNT.out]; exact Nat.le_refl _), List.take_of_length_le (by rw [HNT.out]; exact Nat.le_refl _)]
    simp [HTR.out])
  rintro e w6 ⟨⟨V', c', hv', hg', hk6⟩, ⟨hno, _⟩ | ⟨us, Sr, r, lo2, hi2, hyes, _, _, _, rfl, hfr, hl2, hh2⟩⟩
  · rw [HRT.out] at hno
    cases hno
  rw [HRT.out] at hyes
  injection hyes with hyes
  subst hyes
  have HTW := Lib.hid (TwoF.make HF.out hfr HK4.out (H45.out.trans' hk6 (fun x hx => .inr (HVN.out x hx))) (Nat.le_trans H45.out.size hl2) hh2 HC.out HHI.out HT.out HTEX.out)
  clear hv' hg' hk6 hfr hl2 hh2 HRT HV HVN HK5 HT5 HC5 H45 HNN HF HC HK4
  have hmb : (startsN T ts).length ≤ 1000 := by rw [starts_len, HNT.out]; omega
  go_wp2_with fail
  refine (fstarts_any w6 HTW.out.b.fr (by rw [HNT.out]; omega)).mono ?_
  rintro e w7 ⟨A7, m7, c7, hm7, rfl, hown7, hk7⟩
  have HA7 := Lib.hid (own_rd hown7)
  have HM7 := Lib.hid hm7
  replace HTW := Lib.hid (HTW.out.kp0 hk7)
  clear hm7 hown7 hk7
  go_wp2_with fail
  refine (fstarts_any w7 HTW.out.a.fr (by rw [HNT.out]; omega)).mono ?_
  rintro e w8 ⟨A8, m8, c8, hm8, rfl, hown8, hk8⟩
  have HA8 := Lib.hid (own_rd hown8)
  have h78 : m8 = m7 := by rw [hm8, HM7.out]
  subst h78
  replace HTW := Lib.hid (HTW.out.kp0 hk8)
  replace HA7 := Lib.hid (HA7.out.kp0 hk8)
  rw [natV_int] at HA7 HA8
  have hm8b : m8 ≤ 1000 := by omega
  clear hm8 hown8 hk8
  go_wp2_with fail
  refine (sameI A7 A8 m8 m8 c7 c8 _ _ _ _ w8 HA7.out HA8.out (by rw [List.length_map, HM7.out]) (by rw [List.length_map, HM7.out]) (by omega) (by omega)).mono ?_
  rw [decide_eq_true rfl]
  rintro e w9 ⟨rfl, hd9⟩
  replace HTW := Lib.hid (HTW.out.kp0 (hd9.kp []))
  clear hd9 HA7 HA8 HM7
  go_wp2_with fail
  refine (fbits_any w9 HTW.out.b.fr).mono ?_
  rintro e w10 ⟨⟨V1, q1, rfl, hv1, hV1⟩, hk10⟩
  replace HTW := Lib.hid (HTW.out.kp0 hk10)
  have HV1 := Lib.hid hv1
  clear hv1 hV1 hk10
  go_wp2_with fail
  refine (vbytes_any V1 q1 (frontB T ts) false w10 HV1.out).mono ?_
  rintro e w11 ⟨A3, m3, c3, hm3, rfl, hown3, hk11⟩
  have HM3 := Lib.hid hm3
  have HB3 := Lib.hid (own_rd hown3)
  replace HTW := Lib.hid (HTW.out.kp0 hk11)
  clear hm3 hown3 hk11 HV1
  go_wp2_with fail
  refine (fbits_any w11 HTW.out.a.fr).mono ?_
  rintro e w12 ⟨⟨V2, q2, rfl, hv2, hV2⟩, hk12⟩
  replace HTW := Lib.hid (HTW.out.kp0 hk12)
  replace HB3 := Lib.hid (HB3.out.kp0 hk12)
  have HV2 := Lib.hid hv2
  clear hv2 hV2 hk12
  go_wp2_with fail
  refine (vbytes_any V2 q2 (frontB T ts) false w12 HV2.out).mono ?_
  rintro e w13 ⟨A4, m4, c4, hm4, rfl, hown4, hk13⟩
  have HB4 := Lib.hid (own_rd hown4)
  have h34 : m4 = m3 := by rw [hm4, HM3.out]
  subst h34
  replace HTW := Lib.hid (HTW.out.kp0 hk13)
  replace HB3 := Lib.hid (HB3.out.kp0 hk13)
  have hm4b : m4 ≤ 1000000000 := by have := HBL.out; omega
  clear hm4 hown4 hk13 HV2
  go_wp2_with fail
  refine (sameB A3 A4 m4 m4 c3 c4 _ _ _ _ w13 HB3.out HB4.out (bytesN_len _ _) (bytesN_len _ _) hm4b hm4b).mono ?_
  rw [decide_eq_true rfl]
  rintro e w14 ⟨rfl, hd14⟩
  replace HTW := Lib.hid (HTW.out.kp0 (hd14.kp []))
  clear hd14 HB3 HB4 HM3
  go_wp2_with fail
  go_loopw [14] (fun x wr => ∃ (k : Nat) (SF SR : List Nat), x = .int .i64 (k : Int) ∧ k ≤ nt ∧ Hid (TwoF w3 wr SF SR w3.heap.size w4.heap.size f lo2 hi2 r lo hi p T sg L ts)) (fun x _ => nt - (intOf x).toNat)
  case atStart => exact ⟨0, S, Sr, rfl, by omega, HTW⟩
  case round =>
    clear HTW
    obtain ⟨k, SF, SR, rfl, hk, HTW⟩ := hrel
    by_cases hlt : k < nt
    · obtain ⟨t, ad, htk, rfl, hadb, _⟩ := HR.out.str (k := k) (by rw [HNT.out]; exact hlt)
      have hb0 : (0 : Int) ≤ (k : Int) := by omega
      have hb1 : (k : Int) < (nt : Int) := by omega
      have HTK := Lib.hid htk
      have HFI := Lib.hid (find_in HTR.out htk)
      clear htk
      go_wp2_with fail
      refine (ftext_in k nt w3.heap.size w4.heap.size lo hi f p SF T sg L ts t wr HTW.out.a HNT.out (by omega) HTK.out).mono ?_
      rintro e w15 ⟨rfl, hp15⟩
      obtain ⟨SF1, ht15⟩ := HTW.out.left hp15
      replace HTW := Lib.hid ht15
      clear hp15 ht15
      go_wp2_with fail
      refine (ftext_in k nt lo2 hi2 lo hi r p SR T sg L ts t w15 HTW.out.b HNT.out (by omega) HTK.out).mono ?_
      rintro e w16 ⟨rfl, hp16⟩
      obtain ⟨SR1, ht16⟩ := HTW.out.right hp16
      replace HTW := Lib.hid ht16
      clear hp16 ht16
      have HXK := Lib.hid (HTW.out.kp)
      obtain ⟨t', ad', htk', e', _, hct⟩ := (HR.out.kp0 HXK.out).str (k := k) (by rw [HNT.out]; exact hlt)
      injection e' with e'
      subst e'
      rw [HTK.out] at htk'
      injection htk' with htk'
      subst htk'
      go_wp2_with fail
      refine (ffind_any nt w3.heap.size w4.heap.size lo hi f p SF1 T sg L ts t w16 HTW.out.a HNT.out (by omega) HTR.out).mono ?_
      rw [HFI.out.1, HFI.out.2]
      rintro e w17 ⟨rfl, hp17⟩
      obtain ⟨SF2, ht17⟩ := HTW.out.left hp17
      replace HTW := Lib.hid ht17
      clear hp17 ht17 hct
      obtain ⟨t', ad', htk', e', _, hct⟩ := (HR.out.kp0 HTW.out.kp).str (k := k) (by rw [HNT.out]; exact hlt)
      injection e' with e'
      subst e'
      rw [HTK.out] at htk'
      injection htk' with htk'
      subst htk'
      go_wp2_with fail
      exact ⟨⟨k + 1, SF2, SR1, by go_num, by omega, HTW⟩, by simp [intOf]; omega⟩
    · obtain rfl : k = nt := by omega
      go_wp2_with fail
      refine (ffind_any k w3.heap.size w4.heap.size lo hi f p SF T sg L ts s wr HTW.out.a HNT.out (by omega) HTR.out).mono ?_
      obtain ⟨v, hv⟩ : ∃ v, findN ts s = v := ⟨_, rfl⟩
      obtain ⟨F, hF⟩ : ∃ F, isF ts s = F := ⟨_, rfl⟩
      have hvk : v ≤ k := by rw [← hv, ← HNT.out]; exact findN_le ts s
      have HPR := Lib.hid (fun i t hi ht => findN_pre ts s i t hi ht)
      have HAT := Lib.hid (findN_at ts s)
      rw [hv] at HPR HAT ⊢
      rw [hF]
      have HF := Lib.hid (show F = decide (ts[v]? = some s) from by rw [← hF]; unfold isF; rw [hv])
      rintro e w18 ⟨rfl, hp18⟩
      obtain ⟨SF1, ht18⟩ := HTW.out.left hp18
      have HR8 := Lib.hid (HR.out.kp0 ht18.kp)
      have HEND := Lib.hid (show Kp [] w w18 from HK.out.trans ht18.kp)
      clear hp18 ht18 HTW hv hF
      have hv0 : (0 : Int) ≤ (v : Int) := by omega
      have hvk2 : (v : Int) ≤ (k : Int) := by omega
      by_cases hvz : v = 0
      · subst hvz
        obtain ⟨t, ao, htv, rfl, _, hct⟩ := HR8.out.str (k := 0) (by rw [HNT.out]; omega)
        have hv1 : (0 : Int) < (k : Int) := by omega
        have hv2 : ((0 : Int) == (k : Int)) = false := by simp; omega
        have hct0 := hct
        rw [show ao.add 0 = ao from by simp [Addr.add]] at hct0
        have hl2 : Op.bytesLess t.toList s.toList = false := by
          rw [less_txt]
          cases h : lexN (txt t) (txt s) with
          | false => rfl
          | true => exact absurd h (HAT.out t htv)
        have HF2 := Lib.hid (show F = decide (t = s) from by rw [HF.out, htv]; simp)
        clear htv
        by_cases hts : t = s
        · subst hts
          have hft : F = true := by rw [HF2.out]; simp
          subst hft
          go_wp2_with fail
          go_ret
          exact ⟨rfl, HEND.out⟩
        · have hft : F = false := by rw [HF2.out]; exact decide_eq_false hts
          subst hft
          have hee := str_eq_false hts
          go_wp2_with fail
          go_ret
          exact ⟨rfl, HEND.out⟩
      · obtain ⟨j, rfl⟩ : ∃ j, v = j + 1 := ⟨v - 1, by omega⟩
        obtain ⟨u, au, hu, hAu, _, hcu⟩ := HR8.out.str (k := j) (by rw [HNT.out]; omega)
        have hl1 : Op.bytesLess u.toList s.toList = true := by
          rw [less_txt]
          exact HPR.out j u (by omega) hu
        subst hAu
        have hj0 : (0 : Int) ≤ (j : Int) := by omega
        have hj1 : (j : Int) < (k : Int) := by omega
        have hj2 : ((j : Int) + 1 == 0) = false := by simp; omega
        have hj4 : (0 : Int) ≤ (j : Int) + 1 := by omega
        have hj5 : (j : Int) + 1 ≤ (k : Int) := by omega
        clear hu hvz
        by_cases hvn : j + 1 < k
        · obtain ⟨t, ao, htv, hAo, _, hct⟩ := HR8.out.str (k := j + 1) (by rw [HNT.out]; exact hvn)
          injection hAo with hAo
          subst hAo
          have hv1 : (j : Int) + 1 < (k : Int) := by omega
          have hv2 : ((j : Int) + 1 == (k : Int)) = false := by simp; omega
          have hct2 : w18.cell? ⟨au.block, au.off + (j + 1), none⟩ = some (.string t) := hct
          have hl2 : Op.bytesLess t.toList s.toList = false := by
            rw [less_txt]
            cases h : lexN (txt t) (txt s) with
            | false => rfl
            | true => exact absurd h (HAT.out t htv)
          have HF2 := Lib.hid (show F = decide (t = s) from by rw [HF.out, htv]; simp)
          clear htv hct
          by_cases hts : t = s
          · subst hts
            have hft : F = true := by rw [HF2.out]; simp
            subst hft
            go_wp2_with fail
            go_ret
            exact ⟨rfl, HEND.out⟩
          · have hft : F = false := by rw [HF2.out]; exact decide_eq_false hts
            subst hft
            have hee := str_eq_false hts
            go_wp2_with fail
            go_ret
            exact ⟨rfl, HEND.out⟩
        · obtain rfl : k = j + 1 := by omega
          have hft : F = false := by rw [HF.out, List.getElem?_eq_none (by rw [HNT.out]; exact Nat.le_refl _)]; simp
          subst hft
          go_wp2_with fail
          go_ret
          exact ⟨rfl, HEND.out⟩
end Go.Proofs.YtlaionhlejmjdaaDoor
