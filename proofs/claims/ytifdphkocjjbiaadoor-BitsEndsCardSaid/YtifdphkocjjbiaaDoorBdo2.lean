/-
  BitsDo: the walk.
  CONDITIONS: the bounds that a row's reach gives.
-/
import Derived.Test.YtifdphkocjjbiaaDoorBdo
import Derived.Deep.RegionHeld3
namespace Go.Proofs.YtifdphkocjjbiaaDoor
open Go.RowKit

def setE (n : Nat) (l : List Int) : Int := if badL n l then 6 else 0
def setRes (n : Nat) (bs : List Bool) (one : Bool) (l : List Int) : List Bool := if badL n l then bs else setL bs one l
theorem setRes_len {n : Nat} {bs : List Bool} {one : Bool} {l : List Int} (h : bs.length = n) : (setRes n bs one l).length = n := by
  unfold setRes
  split
  · exact h
  · rw [setL_len, h]
theorem vset_u (S : List Nat) (p n m c B : Nat) (one : Bool) (A : Option Addr) (l : List Int) (bs : List Bool) (cf : Bool) (w : World) (h : VecM w S p bs cf) (hn : bs.length = n) (hx : Rd w B A (l.map (.int .i64))) (hl : l.length = m) (hm : m ≤ 1000000000) (hA : ∀ ad, A = some ad → ad.block ∉ S)
    {E : Int} {BS : List Bool} (hE : setE n l = E) (hB : setRes n bs one l = BS) :
    Calls Tryd.prog 24 #[.pointer (some ⟨p, 0, none⟩), .bool one, .slice A m c] w fun e w' => e = .returned (.int .i64 E) ∧ (∃ c', VecM w' S p BS c') ∧ Kp S w w' := by
  subst hE hB
  refine (vset_any S p n m c B one A l bs cf w h hn hx hl hm hA).mono fun e w' hh => ?_
  unfold setE setRes
  rcases hh with ⟨hb, rfl, hk⟩ | ⟨hb, rfl, hv, hk⟩
  · rw [hb]; exact ⟨rfl, ⟨cf, h.kp0 hk⟩, hk.mono (by simp)⟩
  · rw [hb]; exact ⟨rfl, ⟨false, hv⟩, hk⟩
theorem rbset_u (S : List Nat) (p n m c B : Nat) (one : Bool) (A : Option Addr) (l : List Int) (bs : List Bool) (w : World) (h : RefV w S p bs) (hn : bs.length = n) (hx : Rd w B A (l.map (.int .i64))) (hl : l.length = m) (hm : m ≤ 1000000000) (hA : ∀ w1 w2, Kp S w1 w2 → Rd w1 B A (l.map (.int .i64)) → Rd w2 B A (l.map (.int .i64)))
    {E : Int} {BS : List Bool} (hE : setE n l = E) (hB : setRes n bs one l = BS) :
    Calls Tryd.prog 25 #[.pointer (some ⟨p, 0, none⟩), .bool one, .slice A m c] w fun e w' => e = .returned (.int .i64 E) ∧ RefV w' S p BS ∧ Kp S w w' := by
  subst hE hB
  refine (rbset_any S p n m c B one A l bs w h hn hx hl hm hA).mono fun e w' hh => ?_
  unfold setE setRes
  rcases hh with ⟨hb, rfl, hk⟩ | ⟨hb, rfl, hv, hk⟩
  · rw [hb]; exact ⟨rfl, h.kp0 hk, hk.mono (by simp)⟩
  · rw [hb]; exact ⟨rfl, hv, hk⟩
theorem Rd.lentI {w : World} {g : Nat} {l more : List Int} (h : Blk w g 3 ((l ++ more).map (.int .i64))) : Rd w w.heap.size (some ⟨g, 0, none⟩) (l.map (.int .i64)) := by
  have := (h.rd h.lt).take (l.map (Value.int .i64)).length
  rwa [List.map_append, List.take_left'] at this
  rfl

set_option maxRecDepth 100000 in
set_option maxHeartbeats 4000000 in
theorem bitsdo_any (A0 A1 : Option Addr) (L0 c0 L1 c1 : Nat) (at_ : Int) (ones : List Bool) (ds : List (Bool × List Int)) (w : World) (h0 : Rd w w.heap.size A0 (ones.map .bool)) (hn0 : ones.length = L0) (hb0 : L0 ≤ 140737488351232)
    (h1 : DeedRd w w.heap.size A1 ds) (hn1 : ds.length = L1) (hb1 : L1 ≤ 140737488351232) (hl : ∀ d ∈ ds, d.2.length ≤ 140737488351232) (ht : Tab64 w) :
    Calls Tryd.prog 5 #[.slice A0 L0 c0, .slice A1 L1 c1, .int .i64 at_] w fun e w' => e = .returned (.bool true) ∧ Kp [] w w' := by
  obtain ⟨i0, hi, hz0, hz1, hz2⟩ := info_parts Tryd.info_bool_
  have H0 := Lib.hid h0; clear h0
  have HN0 := Lib.hid hn0; clear hn0
  have H1 := Lib.hid h1; clear h1
  have HN1 := Lib.hid hn1; clear hn1
  have HL := Lib.hid hl; clear hl
  have HT := Lib.hid ht; clear ht
  go_enter Tryd.func5, Tryd.ntmps5
  go_wp2_with fail
  refine (bsize_any A1 L1 c1 _ ds w H1.out HN1.out hb1 HL.out).mono ?_
  rintro e w0 ⟨⟨Z, rfl, hZb, hZ⟩, rfl⟩
  by_cases hbig : 3000 < L0 + Z
  · clear hZ
    go_wp2_with fail
    refine (bawake_any w HT.out).mono ?_
    rintro e w0 ⟨rfl, hk0⟩
    have HK0 := Lib.hid hk0; clear hk0
    go_wp2_with fail
    go_ret
    exact ⟨rfl, HK0.out⟩
  obtain ⟨hL1, hll⟩ := hZ (by omega)
  have hL0 : L0 ≤ 3000 := by omega
  have HLL := Lib.hid hll
  clear hZ hll HL
  have HO := Lib.hid (show (w.alloc (.cells #[] 4)).ownsRow w.heap.size 4 1 (.slice (some ⟨w.heap.size, 0, none⟩) 0 0) 0 [] from
    own_of_blk (xs := []) (rest := []) (Blk.new w 4 []) (Nat.le_refl _) (Nat.le_refl _) (Nat.zero_le _) rfl rfl)
  go_wp2_with (at_builtin; go_loud (refine wpList_append_rd rfl (.tmp 25) (.tmp 26) 22 rfl w.heap.size 4 i0 (.bool false) 1 1 Tryd.underlying22 hi hz0 hz1 hz2 rfl (by decide) (.slice (some ⟨w.heap.size, 0, none⟩) 0 0) 0 [] rfl HO.out _ A0 L0 c0 (ones.map .bool) rfl (by rw [List.length_map, HN0.out, Nat.mul_one]) (H0.out.kp0 ((Kp.refl [] _).alloc _)) (by intro u hu; obtain ⟨b, _, rfl⟩ := List.mem_map.1 hu; rfl) (by unfold maxLen; omega) (by omega) (by simp) ?_); intro v2 w2 hown2 hgrow2 hat2
               go_loud (obtain ⟨A7, c7, rfl, _⟩ := own_form hown2)
               go_loud (rw [Nat.zero_add] at hown2)
               go_loud (have hk2 : Kp [] w w2 := ((Kp.refl [] w).alloc (.cells #[] 4)).grown hgrow2 (fun k hk => .inr (Nat.le_of_eq (ownBlock_some hk))))
               have HK := Lib.hid hk2
               have HO2 := Lib.hid hown2
               clear hown2 hgrow2 hat2 hk2 HO)
  have ho := HO2.out
  rw [List.nil_append] at ho
  have HOG := Lib.hid (show ∀ b ∈ ownL (.slice A7 L0 c7), w.heap.size ≤ b ∧ b < w2.heap.size from fun b hb => own_ge ho (mem_ownL.1 hb))
  have HO := Lib.hid ho; clear ho
  clear HO2
  have HW2 := Lib.hid (show w.heap.size ≤ w2.heap.size from HK.out.size)
  replace H0 := Lib.hid (H0.out.kp0 HK.out)
  replace H1 := Lib.hid (H1.out.kp0 HK.out)
  go_wp2_with fail
  refine (bof_any A7 L0 c7 _ ones w2 (own_rd HO.out) HN0.out (by omega)).mono ?_
  rintro e w3 ⟨S, p, rfl, hv, hS, hk⟩
  have HS := Lib.hid hS
  have HGS := Lib.hid (show w2.heap.size ≤ w3.heap.size from hk.size)
  replace H0 := Lib.hid (H0.out.kp0 hk)
  replace H1 := Lib.hid (H1.out.kp0 hk)
  replace HK := Lib.hid (HK.out.kp0 hk)
  replace HO := Lib.hid (own_kp0 HO.out hk)
  clear hk
  have HV := Lib.hid hv; clear hv
  clear hS
  go_wp2_with fail
  refine (rbof_any A0 L0 c0 _ ones w3 H0.out HN0.out (by omega)).mono ?_
  rintro e w4 ⟨T, q, rfl, hr, hT, hk⟩
  have HTG := Lib.hid (show ∀ x ∈ T, w2.heap.size ≤ x from fun x hx => Nat.le_trans HGS.out (hT x hx))
  have HTS := Lib.hid (show ∀ x ∈ T, x ∉ S from fun x hx hm => by have h1 := hT x hx; have h2 := HV.out.lt x hm; omega)
  replace H1 := Lib.hid (H1.out.kp0 hk)
  replace HK := Lib.hid (HK.out.kp0 hk)
  replace HO := Lib.hid (own_kp0 HO.out hk)
  replace HV := Lib.hid (HV.out.kp0 hk)
  clear hk
  have HR := Lib.hid hr; clear hr
  clear hT HGS H0
  go_wp2_with fail
  go_loopw [12] (fun x wr => ∃ (k : Nat) (l : List Bool), x = .int .i64 (k : Int) ∧ k ≤ L0 ∧ Hid (l.length = L0) ∧ Hid (wr.ownsRow w.heap.size 4 1 (.slice A7 L0 c7) L0 (l.map .bool)) ∧ Hid (Kp (ownL (.slice A7 L0 c7)) w4 wr)) (fun x _ => L0 - (intOf x).toNat)
  case atStart => exact ⟨0, ones, rfl, by omega, HN0, HO, Lib.hid (Kp.refl _ _)⟩
  case round =>
    clear HO
    obtain ⟨k, l, rfl, hk, HLN, HO, HKL⟩ := hrel
    by_cases hlt : k < L0
    · obtain ⟨g, u, rfl, hu, hcx, hfx, hput⟩ := own_put HO.out hlt
      obtain ⟨b, hb⟩ : ∃ b, l[k]? = some b := ⟨_, List.getElem?_eq_getElem (by rw [HLN.out]; exact hlt)⟩
      obtain rfl : u = .bool b := by rw [List.getElem?_map, hb] at hu; injection hu with hu; exact hu.symm
      have HP := Lib.hid (hput (.bool (!b)))
      have HKL2 := Lib.hid (show Kp (ownL (.slice (some ⟨g, 0, none⟩) L0 c7)) w4 (wr.setCell ⟨g, k, none⟩ (.bool (!b))) from HKL.out.setCell (.inl (by simp [ownL_some])) _)
      have HLN2 := Lib.hid (show (l.set k (!b)).length = L0 by rw [List.length_set]; exact HLN.out)
      clear hput hu hb HO HKL
      go_wp2_with fail
      exact ⟨⟨k + 1, l.set k (!b), by go_num, by omega, HLN2, Lib.hid (by rw [List.map_set]; exact HP.out), HKL2⟩, by simp [intOf]; omega⟩
    · obtain rfl : L0 = k := by omega
      replace HV := Lib.hid (HV.out.kp HKL.out (fun x hx hm => by have h1 := HOG.out x hm; have h2 := HS.out x hx; omega))
      replace HR := Lib.hid (HR.out.kp HKL.out (fun x hx hm => by have h1 := HOG.out x hm; have h2 := HTG.out x hx; omega))
      replace H1 := Lib.hid (H1.out.kp HKL.out (fun x hx => (HOG.out x hx).1))
      have HSW := Lib.hid (show ∀ x ∈ S, w.heap.size ≤ x from fun x hx => Nat.le_trans HW2.out (HS.out x hx))
      have HTW := Lib.hid (show ∀ x ∈ T, w.heap.size ≤ x from fun x hx => Nat.le_trans HW2.out (HTG.out x hx))
      replace HK := Lib.hid (HK.out.trans' HKL.out (fun x hx => .inr (HOG.out x hx).1))
      have H0S : 0 ∉ S := fun h => by have h1 := HSW.out _ h; have h2 := HT.out.lt; omega
      clear HO HKL HS HTG HOG HW2 HLN
      go_wp2_with fail
      refine (same_any S T p q at_ ones false wr HV.out HR.out HTS.out (HT.out.kp0 HK.out) H0S).mono ?_
      rintro e w5 ⟨rfl, hk5, S5, hv5, hg5⟩
      have HT5 := Lib.hid (hg5.far HTS.out HR.out.lt)
      have HS5 := Lib.hid (hg5.ge HSW.out HK.out.size)
      replace HR := Lib.hid (HR.out.kp hk5 HTS.out)
      replace H1 := Lib.hid (H1.out.kp hk5 HSW.out)
      replace HK := Lib.hid (HK.out.trans' hk5 (fun x hx => .inr (HSW.out x hx)))
      clear HV hk5 hg5 HTS HSW H0S
      have HV5 := Lib.hid hv5; clear hv5
      go_wp2_with fail
      go_loopw [13] (fun x wr => ∃ (k : Nat) (bs : List Bool) (c : Bool) (S6 : List Nat), x = .int .i64 (k : Int) ∧ k ≤ L1 ∧ Hid (bs.length = L0) ∧ Hid (VecM wr S6 p bs c) ∧ Hid (RefV wr T q bs) ∧ Hid (∀ x ∈ T, x ∉ S6) ∧ Hid (∀ x ∈ S6, w.heap.size ≤ x) ∧ Hid (DeedRd wr w.heap.size A1 ds) ∧ Hid (Kp [] w wr)) (fun x _ => L1 - (intOf x).toNat)
      case atStart => exact ⟨0, ones, true, S5, rfl, by omega, HN0, HV5, HR, HT5, HS5, H1, HK⟩
      case round =>
        clear HV5 HR HT5 HS5 H1 HK
        obtain ⟨k, bs, c, S6, rfl, hk, HBL, HV, HR, HTS, HS, H1, HK⟩ := hrel
        by_cases hlt : k < L1
        · obtain ⟨b, l, ad, Ai, ci, hd, rfl, hadb, hcA, hcB, hlc, hrl⟩ := H1.out.ix (i := k) (by rw [HN1.out]; exact hlt)
          have hl3 : l.length ≤ 3000 := HLL.out (b, l) (List.mem_of_getElem? hd)
          obtain ⟨m, hm⟩ : ∃ m, m = l.length := ⟨_, rfl⟩
          rw [← hm] at hcB hl3
          have HM := Lib.hid hm.symm
          have HRL := Lib.hid hrl
          have HADB := Lib.hid hadb
          have hAb : (⟨(ad.add (k * 2)).block, (ad.add (k * 2)).off + 1, none⟩ : Addr).block = ad.block := addr_add_block _ _
          have hAa : (ad.add (k * 2)).block = ad.block := addr_add_block _ _
          have HAB := Lib.hid hAb
          have HAA := Lib.hid hAa
          clear hd hm hlc hrl hadb hAb hAa
          go_wp2_with fail
          refine (lentI Ai m ci _ l wr HRL.out HM.out (by omega)).mono ?_
          rintro e w7 ⟨rfl, hk7, hb7⟩
          obtain ⟨g, hg⟩ : ∃ g, g = wr.heap.size := ⟨_, rfl⟩
          rw [← hg] at hb7 ⊢
          have HG6 := Lib.hid (show g ∉ S6 from fun h => by have := HV.out.lt _ h; omega)
          have HGT := Lib.hid (show g ∉ T from fun h => by have := HR.out.lt _ h; omega)
          have HGW := Lib.hid (show w.heap.size ≤ g from by rw [hg]; exact HK.out.size)
          have hcA7 := hk7.cell hcA (by simp)
          have hcB7 := hk7.cell hcB (by simp)
          replace HK := Lib.hid (HK.out.kp0 hk7)
          replace HV := Lib.hid (HV.out.kp0 hk7)
          replace HR := Lib.hid (HR.out.kp0 hk7)
          replace H1 := Lib.hid (H1.out.kp0 hk7)
          replace HRL := Lib.hid (HRL.out.kp0 hk7)
          clear hk7
          have HB7 := Lib.hid hb7; clear hb7
          clear hcA hcB hg
          obtain ⟨E, hE⟩ : ∃ E, setE L0 l = E := ⟨_, rfl⟩
          obtain ⟨BS, hBS⟩ : ∃ BS, setRes L0 bs b l = BS := ⟨_, rfl⟩
          have HBS9 := Lib.hid (show BS.length = L0 from by rw [← hBS]; exact setRes_len HBL.out)
          have HE := Lib.hid hE; clear hE
          have HBS := Lib.hid hBS; clear hBS
          have hk0 : (0 : Int) ≤ (k : Int) := by omega
          have hk1 : (k : Int) < (L1 : Int) := by omega
          have HADW := Lib.hid (show ∀ x ∈ S6, ad.block ≠ x from fun x hx e => by have h1 := HS.out x hx; have h2 := HADB.out; omega)
          have HADT := Lib.hid (show ∀ x ∈ T, ad.block ≠ x from fun x hx e => by have h1 := HTW.out x hx; have h2 := HADB.out; omega)
          have H0S := Lib.hid (show 0 ∉ S6 from fun h => by have h1 := HS.out _ h; have h2 := HT.out.lt; omega)
          go_wp2_with fail
          go_region_held3 (fun w' => w'.cell? (ad.add (k * 2)) = some (.bool b) ∧ w'.cell? ⟨(ad.add (k * 2)).block, (ad.add (k * 2)).off + 1, none⟩ = some (.slice Ai m ci)) (go_keep)
            (first
              | (go_at_call 24
                 refine (vset_u S6 p L0 m (m + 12) _ b (some ⟨g, 0, none⟩) l bs c _ (HV.out.kp0 ((Kp.refl [] w7).drew)) HBL.out (Rd.lentI (HB7.out.kp0 ((Kp.refl [] w7).drew))) HM.out (by omega) (fun ad h => by injection h with h; subst h; exact HG6.out) HE.out HBS.out).mono ?_
                 rintro e w8 ⟨rfl, ⟨c8, hv8⟩, hk8'⟩
                 have hk8 := ((Kp.refl S6 w7).drew).trans hk8'
                 have hcA8 := hk8.cell hcA7 (by rw [HAA.out]; exact fun h => HADW.out _ h rfl)
                 have hcB8 := hk8.cell hcB7 (by rw [HAB.out]; exact fun h => HADW.out _ h rfl)
                 have HV8 := Lib.hid hv8
                 have HR8 := Lib.hid (HR.out.kp hk8 HTS.out)
                 have HB8 := Lib.hid (HB7.out.kp hk8 HG6.out)
                 have HRL8 := Lib.hid (HRL.out.kp hk8 HS.out)
                 have H18 := Lib.hid (H1.out.kp hk8 HS.out)
                 have HK8 := Lib.hid (HK.out.trans' hk8 (fun x hx => .inr (HS.out x hx)))
                 clear hv8 hk8' hk8 hcA7 hcB7)
              | (go_at_call 25
                 refine (rbset_u T q L0 m ci _ b Ai l bs _ (HR8.out.kp0 (show Kp [] w8 _ from by first | exact Kp.refl _ _ | exact (Kp.refl _ _).drew)) HBL.out (HRL8.out.kp0 (show Kp [] w8 _ from by first | exact Kp.refl _ _ | exact (Kp.refl _ _).drew)) HM.out (by omega) (fun w1 w2 h1 h2 => h2.kp h1 HTW.out) HE.out HBS.out).mono ?_
                 rintro e w9 ⟨rfl, hr9, hk9'⟩
                 have hk9 : Kp T w8 w9 := by first | exact hk9' | exact ((Kp.refl T w8).drew).trans hk9'
                 have hcA9 := hk9.cell hcA8 (by rw [HAA.out]; exact fun h => HADT.out _ h rfl)
                 have hcB9 := hk9.cell hcB8 (by rw [HAB.out]; exact fun h => HADT.out _ h rfl)
                 have HV9 := Lib.hid (HV8.out.kp hk9 (fun x hx hm => HTS.out x hm hx))
                 have HR9 := Lib.hid hr9
                 have HB9 := Lib.hid (HB8.out.kp hk9 HGT.out)
                 have HRL9 := Lib.hid (HRL8.out.kp hk9 HTW.out)
                 have H19 := Lib.hid (H18.out.kp hk9 HTW.out)
                 have HK9 := Lib.hid (HK8.out.trans' hk9 (fun x hx => .inr (HTW.out x hx)))
                 clear hr9 hk9' hk9 hcA8 hcB8 HV8 HR8 HB8 HRL8 H18 HK8)
              | (go_at_call 20
                 refine (same_any S6 T p q at_ BS c8 _ (HV9.out.kp0 (show Kp [] w9 _ from by first | exact Kp.refl _ _ | exact (Kp.refl _ _).drew)) (HR9.out.kp0 (show Kp [] w9 _ from by first | exact Kp.refl _ _ | exact (Kp.refl _ _).drew)) HTS.out (HT.out.kp0 (HK9.out.kp0 (show Kp [] w9 _ from by first | exact Kp.refl _ _ | exact (Kp.refl _ _).drew))) H0S.out).mono ?_
                 rintro e wa ⟨rfl, hka', S9, hva, hga⟩
                 have hka : Kp S6 w9 wa := by first | exact hka' | exact ((Kp.refl S6 w9).drew).trans hka'
                 have hcAa := hka.cell hcA9 (by rw [HAA.out]; exact fun h => HADW.out _ h rfl)
                 have hcBa := hka.cell hcB9 (by rw [HAB.out]; exact fun h => HADW.out _ h rfl)
                 have HTSa := Lib.hid (hga.far HTS.out (fun x hx => Nat.lt_of_lt_of_le (HR9.out.lt x hx) (by simp)))
                 have HSa := Lib.hid (hga.ge HS.out (Nat.le_trans HK9.out.size (by simp)))
                 have HVa := Lib.hid hva
                 have HRa := Lib.hid (HR9.out.kp hka HTS.out)
                 have HBa := Lib.hid (HB9.out.kp hka HG6.out)
                 have HRLa := Lib.hid (HRL9.out.kp hka HS.out)
                 have H1a := Lib.hid (H19.out.kp hka HS.out)
                 have HKa := Lib.hid (HK9.out.trans' hka (fun x hx => .inr (HS.out x hx)))
                 clear hva hga hka' hka hcA9 hcB9 HV9 HR9 HB9 HRL9 H19 HK9)
              | (go_at_call 26
                 refine (keptI (some ⟨g, 0, none⟩) Ai m (m + 12) ci _ _ l _ ((HBa.out.kp0 (show Kp [] wa _ from by first | exact Kp.refl _ _ | exact (Kp.refl _ _).drew)).rd (HBa.out.kp0 (show Kp [] wa _ from by first | exact Kp.refl _ _ | exact (Kp.refl _ _).drew)).lt) (HRLa.out.kp0 (show Kp [] wa _ from by first | exact Kp.refl _ _ | exact (Kp.refl _ _).drew)) HM.out (by omega) (Nat.le_refl _)).mono ?_
                 rintro e wb ⟨rfl, hdb⟩
                 have hkb : Kp [] wa wb := by first | exact hdb.kp [] | exact ((Kp.refl [] wa).drew).trans (hdb.kp [])
                 have hcAb := hkb.cell hcAa (by simp)
                 have hcBb := hkb.cell hcBa (by simp)
                 have HVb := Lib.hid (HVa.out.kp0 hkb)
                 have HRb := Lib.hid (HRa.out.kp0 hkb)
                 have H1b := Lib.hid (H1a.out.kp0 hkb)
                 have HKb := Lib.hid (HKa.out.kp0 hkb)
                 clear hdb hkb hcAa hcBa HVa HRa HBa HRLa H1a HKa))
          go_wp2_with fail
          exact ⟨⟨k + 1, BS, true, S9, by go_num, by omega, HBS9, HVb, HRb, HTSa, HSa, H1b, HKb⟩, by simp [intOf]; omega⟩
        · obtain rfl : L1 = k := by omega
          clear H1
          go_wp2_with fail
          refine (vbytes_any S6 p bs c wr HV.out).mono ?_
          rintro e w6 ⟨A6, m6, c6, hm6, rfl, hown6, hk⟩
          rw [HBL.out] at hm6
          have HM6 := Lib.hid hm6
          have hm9 : m6 ≤ 1000000 := by omega
          have HB0 := Lib.hid (show wr.heap.size ≤ w6.heap.size from hk.size)
          have HWR := Lib.hid HK.out.size
          have HVL := Lib.hid HV.out.lt
          have HRL := Lib.hid HR.out.lt
          have HOW := Lib.hid hown6
          replace HK := Lib.hid (HK.out.kp0 hk)
          replace HV := Lib.hid (HV.out.kp0 hk)
          replace HR := Lib.hid (HR.out.kp0 hk)
          clear hk
          clear hown6 hm6
          obtain ⟨R6, hR6⟩ : ∃ R6, R6 = (bytesN (bitN bs) m6).map Int.toNat := ⟨_, rfl⟩
          have HI6 := Lib.hid (show intsN R6 = bytesN (bitN bs) m6 by rw [hR6]; exact intsN_bytes (bytesN_val _ _))
          have HRL6 := Lib.hid (show R6.length = m6 by rw [hR6, List.length_map, bytesN_len])
          have HRS6 := Lib.hid (show ∀ y ∈ R6, y < 2 ^ 8 from fun y hy => by
            rw [hR6] at hy
            obtain ⟨x, hx, rfl⟩ := List.mem_map.1 hy
            have := bytesN_val _ _ x hx
            omega)
          have HRP6 := Lib.hid (show packN 8 R6 = bitN bs by
            rw [hR6, packN_bytesN, Nat.mod_eq_of_lt]
            refine Nat.lt_of_lt_of_le (bitN_lt bs) (Nat.pow_le_pow_right (by omega) ?_)
            rw [HBL.out, HM6.out]
            omega)
          clear hR6
          have HRE6 := Lib.hid (show readE ((L0 : Nat) : Int) R6 = 0 from readE_ok (lenE_nat (by omega)) (by rw [HRL6.out, HM6.out]) (by rw [HRP6.out, ← HBL.out]; exact bitN_lt bs))
          go_wp2_with fail
          refine (vlen_any S6 p L0 bs c w6 HV.out HBL.out).mono ?_
          rintro e w7 ⟨rfl, rfl⟩
          go_wp2_with fail
          refine (vread_any (L0 : Int) A6 m6 c6 _ R6 w6 (by rw [HI6.out]; exact own_rd HOW.out) HRL6.out (by omega) HRS6.out).mono ?_
          rintro e w7 ⟨hk, ⟨hne, _⟩ | ⟨_, _, _, _, S7, p7, rfl, hv7, hS7⟩⟩
          · exact absurd HRE6.out hne
          rw [Int.toNat_natCast, HRP6.out, ← HBL.out, bitsOf_bitN] at hv7
          have HS7 := Lib.hid hS7
          have HS7W := Lib.hid (show ∀ x ∈ S7, w.heap.size ≤ x from fun x hx => Nat.le_trans HK.out.size (hS7 x hx))
          have HOG := Lib.hid (show ∀ b ∈ ownL (.slice A6 m6 c6), wr.heap.size ≤ b ∧ b < w6.heap.size from fun b hb => own_ge HOW.out (mem_ownL.1 hb))
          have HTS7 := Lib.hid (show ∀ x ∈ T, x ∉ S7 from fun x hx hm => by have h1 := HR.out.lt x hx; have h2 := hS7 x hm; omega)
          replace HK := Lib.hid (HK.out.kp0 hk)
          replace HR := Lib.hid (HR.out.kp0 hk)
          replace HOW := Lib.hid (own_kp0 HOW.out hk)
          clear hk
          have HV7 := Lib.hid hv7; clear hv7
          clear hS7 HV HVL
          go_wp2_with fail
          refine (overB _ m6 c6 A6 _ w7 HOW.out (by omega)).mono ?_
          rintro e w8 ⟨rfl, hk8⟩
          replace HV7 := Lib.hid (HV7.out.kp hk8 (fun x hx hm => by have h1 := HOG.out x hm; have h2 := HS7.out x hx; omega))
          replace HR := Lib.hid (HR.out.kp hk8 (fun x hx hm => by have h1 := HOG.out x hm; have h2 := HRL.out x hx; omega))
          replace HK := Lib.hid (HK.out.trans' hk8 (fun x hx => .inr (Nat.le_trans HWR.out (HOG.out x hx).1)))
          have H0S := Lib.hid (show 0 ∉ S7 from fun h => by have h1 := HS7W.out _ h; have h2 := HT.out.lt; omega)
          clear hk8 HOW HOG HRL6 HRS6 HI6 HRP6 HRE6 HRL HB0 HWR
          go_wp2_with fail
          refine (same_any S7 T p7 q at_ bs false w8 HV7.out HR.out HTS7.out (HT.out.kp0 HK.out) H0S.out).mono ?_
          rintro e w9 ⟨rfl, hk9, _⟩
          replace HK := Lib.hid (HK.out.trans' hk9 (fun x hx => .inr (HS7W.out x hx)))
          clear hk9
          go_wp2_with fail
          refine (bawake_any w9 (HT.out.kp0 HK.out)).mono ?_
          rintro e wa ⟨rfl, hk⟩
          replace HK := Lib.hid (HK.out.kp0 hk); clear hk
          go_wp2_with fail
          go_ret
          exact ⟨rfl, HK.out⟩
end Go.Proofs.YtifdphkocjjbiaaDoor
