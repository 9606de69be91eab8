/-
  LAYER 3: less; made.
  CONDITIONS: as each says.
-/
import Derived.Test.YtddmioaeehgkbaaDoorFput
namespace Go.Proofs.YtddmioaeehgkbaaDoor
open Go.RowKit

theorem Rd.ixB {w : World} {B : Nat} {A : Option Addr} {l : List Bool} (h : Rd w B A (l.map .bool)) {i : Nat} (hi : i < l.length) : ∃ b ad, l[i]? = some b ∧ A = some ad ∧ ad.block < B ∧ w.cell? (ad.add i) = some (.bool b) := by
  have hb := List.getElem?_eq_getElem hi
  obtain ⟨ad, h1, h2, h3⟩ := h i (.bool l[i]) (by rw [List.getElem?_map, hb]; rfl)
  exact ⟨l[i], ad, hb, h1, h2, h3⟩
/-- Does a row of bits stand ahead of another one? -/
def lessL : List Bool → List Bool → Bool
  | a :: l, b :: m => if a = b then lessL l m else b
  | _, _ => false
theorem lessL_eq {l m : List Bool} {k : Nat} {a : Bool} (h1 : l[k]? = some a) (h2 : m[k]? = some a) : lessL (l.drop k) (m.drop k) = lessL (l.drop (k + 1)) (m.drop (k + 1)) := by
  obtain ⟨g1, e1⟩ := List.getElem?_eq_some_iff.1 h1
  obtain ⟨g2, e2⟩ := List.getElem?_eq_some_iff.1 h2
  rw [List.drop_eq_getElem_cons g1, List.drop_eq_getElem_cons g2, e1, e2]
  simp [lessL]
theorem lessL_ne {l m : List Bool} {k : Nat} {a b : Bool} (h1 : l[k]? = some a) (h2 : m[k]? = some b) (h : a ≠ b) : lessL (l.drop k) (m.drop k) = b := by
  obtain ⟨g1, e1⟩ := List.getElem?_eq_some_iff.1 h1
  obtain ⟨g2, e2⟩ := List.getElem?_eq_some_iff.1 h2
  rw [List.drop_eq_getElem_cons g1, List.drop_eq_getElem_cons g2, e1, e2]
  simp [lessL, h]
theorem lessL_end {l m : List Bool} {k : Nat} (h : l.length ≤ k ∨ m.length ≤ k) : lessL (l.drop k) (m.drop k) = false := by
  rcases h with h | h
  · rw [List.drop_of_length_le h]; rfl
  · rw [List.drop_of_length_le h]
    cases l.drop k <;> rfl
set_option maxRecDepth 100000 in
set_option maxHeartbeats 4000000 in
theorem fless_any (A A' : Option Addr) (n n' c c' B B' : Nat) (l m : List Bool) (w : World) (h1 : Rd w B A (l.map .bool)) (hl : l.length = n) (h2 : Rd w B' A' (m.map .bool)) (hm : m.length = n') (hb : n ≤ 1000000000) (hb' : n' ≤ 1000000000) :
    Calls Tryd.prog 21 #[.slice A n c, .slice A' n' c'] w fun e w' => e = .returned (.bool (lessL l m)) ∧ Kp [] w w' := by
  obtain ⟨R, hR⟩ : ∃ R, R = lessL l m := ⟨_, rfl⟩
  rw [← hR]
  have H1 := Lib.hid h1; clear h1
  have HL := Lib.hid hl; clear hl
  have H2 := Lib.hid h2; clear h2
  have HM := Lib.hid hm; clear hm
  have HR := Lib.hid hR; clear hR
  go_enter Tryd.func21, Tryd.ntmps21
  go_wp2_with fail
  go_loopw [5] (fun x wr => ∃ k : Nat, x = .int .i64 (k : Int) ∧ k ≤ n ∧ k ≤ n' ∧ Hid (R = lessL (l.drop k) (m.drop k)) ∧ Hid (Kp [] w wr)) (fun x _ => n - (intOf x).toNat)
  case atStart => exact ⟨0, rfl, by omega, by omega, Lib.hid HR.out, Lib.hid (Kp.refl _ _)⟩
  case round =>
    obtain ⟨k, rfl, hk, hk', HE, HK⟩ := hrel
    by_cases hlt : k < n
    · by_cases hlt' : k < n'
      · obtain ⟨u, ad, hu, rfl, _, hcu⟩ := (H1.out.kp0 HK.out).ixB (i := k) (by rw [HL.out]; exact hlt)
        obtain ⟨v, ad', hv, rfl, _, hcv⟩ := (H2.out.kp0 HK.out).ixB (i := k) (by rw [HM.out]; exact hlt')
        by_cases huv : u = v
        · subst huv
          have HE2 := Lib.hid (show R = lessL (l.drop (k + 1)) (m.drop (k + 1)) by rw [HE.out]; exact lessL_eq hu hv)
          clear hu hv
          go_wp2_with fail
          go_quiet (fail)
          go_wp2_with fail
          exact ⟨⟨k + 1, by go_num, by omega, by omega, HE2, Lib.hid (HK.out.drewN _)⟩, by simp [intOf]; omega⟩
        · obtain rfl : v = !u := by cases u <;> cases v <;> simp_all
          have HE2 := Lib.hid (show R = !u by rw [HE.out]; exact lessL_ne hu hv huv)
          clear hu hv
          go_wp2_with fail
          go_quiet (fail)
          go_wp2_with fail
          go_ret
          exact ⟨by rw [HE2.out]; rfl, HK.out.drewN _⟩
      · have HE2 := Lib.hid (show R = false by rw [HE.out]; exact lessL_end (.inr (by rw [HM.out]; omega)))
        go_wp2_with fail
        go_ret
        exact ⟨by rw [HE2.out]; rfl, HK.out⟩
    · have HE2 := Lib.hid (show R = false by rw [HE.out]; exact lessL_end (.inl (by rw [HL.out]; omega)))
      go_wp2_with fail
      go_ret
      exact ⟨by rw [HE2.out]; rfl, HK.out⟩
/-- What made gives. -/
def madeR (what wide x : Int) : WS := fputR ([], 0) what wide [] [x]
def MadeP (R : WS) (w : World) (e : Ending) (w' : World) : Prop := Kp [] w w' ∧ ∃ A n c, e = .returned (.tuple #[.slice A n c, .int .i64 R.2]) ∧ (R.2 = 0 → R.1.length = n ∧ n ≤ 16777216 ∧ Rd w' w'.heap.size A (R.1.map .bool))
set_option maxRecDepth 100000 in
set_option maxHeartbeats 4000000 in
theorem made_any (what wide x : Int) (w : World) (hx : x ≤ 9223372036854775807) :
    Calls Tryd.prog 20 #[.int .i64 what, .int .i64 wide, .int .i64 x] w (MadeP (madeR what wide x) w) := by
  obtain ⟨R, hR⟩ : ∃ R, R = madeR what wide x := ⟨_, rfl⟩
  rw [← hR]
  obtain ⟨i0, hi, hz0, hz1, hz2⟩ := info_parts Tryd.info_bool_
  have HR := Lib.hid (show fputR ([], 0) what wide [] [x] = R from hR.symm)
  clear hR
  go_enter Tryd.func20, Tryd.ntmps20
  go_wp2_with fail
  refine (wnew_any w).mono ?_
  rintro e w1 ⟨S, p, rfl, hw, hS, hk⟩
  have HK := Lib.hid hk
  have HW := Lib.hid hw; clear hw
  have HS := Lib.hid hS; clear hS
  clear hk
  go_wp2_with fail
  refine (fput_any S p 0 0 1 0 1 _ what wide none (some ⟨w1.heap.size, 0, none⟩) [] [x] ([], 0) _ (HW.out.kp0 ((Kp.refl [] w1).alloc _)) rfl (fun i u h => by simp at h) rfl (rd_new' w1 #[.int .i64 x] 3 rfl) rfl (by omega) (by omega) (by simpa using hx)).mono ?_
  rw [HR.out]
  rintro e w2 ⟨rfl, S2, hw2, hk2, hg2⟩
  have hk12 : Kp S w1 w2 := ((Kp.refl S w1).alloc _).trans hk2
  have HS2 := Lib.hid (show ∀ x ∈ S2, w.heap.size ≤ x from fun x hx => by
    rcases hg2 x hx with h | h
    · exact HS.out x h
    · have := HK.out.size; simp at h; omega)
  replace HK := Lib.hid (HK.out.trans' hk12 (fun x hx => .inr (HS.out x hx)))
  clear HR
  obtain ⟨L, E⟩ := R
  have HW2 := Lib.hid hw2; clear hw2
  clear hk2 hk12 hg2 HS HW
  by_cases hE : E = 0
  · subst hE
    go_wp2_with fail
    refine (wvec_ok S2 p L w2 HW2.out).mono ?_
    rintro e w3 ⟨V, q, rfl, hv, hV, hk⟩
    replace HK := Lib.hid (HK.out.kp0 hk)
    obtain ⟨n, hn⟩ : ∃ n, L.length = n := ⟨_, rfl⟩
    have HNB := Lib.hid (show n ≤ 16777216 by obtain ⟨A, c, _, _, h3, _⟩ := HW2.out; rw [← hn]; exact h3)
    have HV := Lib.hid hv; clear hv
    have HN := Lib.hid hn; clear hn
    clear hk hV HW2
    go_wp2_with fail
    go_loopw [12, 13] (fun s x wr => ∃ (k : Nat) (A : Option Addr) (c : Nat), x = .int .i64 (k : Int) ∧ k ≤ n ∧ s = .slice A k c ∧ Hid (wr.ownsRow w3.heap.size 4 1 (.slice A k c) k ((L.take k).map .bool)) ∧ Hid (Kp [] w3 wr)) (fun _ x _ => n - (intOf x).toNat)
    case atStart => exact ⟨0, none, 0, rfl, by omega, rfl, Lib.hid (World.ownsRow_nil _ _ _ 1), Lib.hid (Kp.refl _ _)⟩
    case round =>
      obtain ⟨k, A, c, rfl, hk, rfl, HO, HKR⟩ := hrel
      have hnb := HNB.out
      go_wp2_with fail
      refine (vlen_any V q n L false wr (HV.out.kp0 HKR.out) HN.out).mono ?_
      rintro e w4 ⟨rfl, rfl⟩
      by_cases hlt : k < n
      · obtain ⟨b, hb⟩ : ∃ b, L[k]? = some b := ⟨_, List.getElem?_eq_getElem (by rw [HN.out]; exact hlt)⟩
        have HBK := Lib.hid hb
        have HGB := Lib.hid (getB_nat hb)
        have hsz := HKR.out.size
        clear hb
        go_wp2_with fail
        refine (vget_any V q (k : Int) L false wr (HV.out.kp0 HKR.out)).mono ?_
        rw [HGB.out]
        rintro e w5 ⟨rfl, rfl⟩
        go_wp2_with (at_builtin; go_loud (refine wpList_append_rd rfl (.tmp 40) (.tmp 44) 22 rfl w3.heap.size 4 i0 (.bool false) 1 1 Tryd.underlying22 hi hz0 hz1 hz2 rfl (by decide) (.slice A k c) k _ rfl (own_kp0 HO.out ((Kp.refl [] _).alloc _)) _ _ 1 1 [.bool b] rfl rfl (Rd.new wr #[.bool b] 4 (0, 0)) (by intro u hu; simp at hu; subst hu; rfl) (by unfold maxLen; omega) (by omega) (by simp; omega) ?_); intro v2 w2' hown2 hgrow2 hat2
                     go_loud (obtain ⟨hka, _⟩ := app_facts hgrow2 hat2)
                     go_loud (obtain ⟨A2, c2, rfl, _⟩ := own_form hown2)
                     have HO2 := Lib.hid hown2
                     have HK2 := Lib.hid (Kp.own HO.out hka HKR.out)
                     clear hown2 hgrow2 hat2 hka)
        exact ⟨⟨k + 1, A2, c2, by go_num, by omega, rfl, Lib.hid (by rw [take_succ_of HBK.out, List.map_append]; exact HO2.out), HK2⟩, by simp [intOf]; omega⟩
      · obtain rfl : n = k := by omega
        have HTK := Lib.hid (show L.take n = L from List.take_of_length_le (by rw [HN.out]; exact Nat.le_refl _))
        go_wp2_with fail
        go_ret2
        exact ⟨HK.out.trans HKR.out, A, n, c, rfl, fun _ => ⟨HN.out, hnb, by have h := own_rd HO.out; rwa [HTK.out] at h⟩⟩
  · have hbe : (E == 0) = false := by simpa using hE
    have HE := Lib.hid hE
    have HVE := Lib.hid (show Calls Tryd.prog 32 #[.pointer (some ⟨p, 0, none⟩)] w2 fun e w' => e = .returned (.tuple #[.pointer none, .int .i64 E]) ∧ Kp [] w2 w' from wvec_err S2 p (L, E) w2 HW2.out hE)
    clear hE
    go_wp2_with fail
    refine HVE.out.mono ?_
    rintro e w3 ⟨rfl, hk⟩
    replace HK := Lib.hid (HK.out.kp0 hk)
    clear hk HVE
    go_wp2_with fail
    go_ret2
    exact ⟨HK.out, none, 0, 0, rfl, fun h => absurd h HE.out⟩
end Go.Proofs.YtddmioaeehgkbaaDoor
