/-
  THE STATEMENT PackFinds OF LAYER 2, its walk: the call returns true and writes to nothing that was there.
  CONDITIONS: numbers of 64 bits.
-/
import Derived.Test.YtlkgepojjjcaoaaPfind
namespace Go.Proofs.Ytlkgepojjjcaoaa
open Go.RowKit

def clampI (x : Int) : Int := max (min x 1152921504606846975) 0
theorem clampI_bound (x : Int) : 0 ≤ clampI x ∧ clampI x ≤ 1152921504606846975 := by unfold clampI; omega
/-- The first i are brought into the range, and do not sink. -/
def Done (xs : List Int) (i : Nat) : Prop := (∀ (j : Nat) (x : Int), j < i → xs[j]? = some x → 0 ≤ x ∧ x ≤ 1152921504606846975) ∧ ∀ (j k : Nat) (x y : Int), j ≤ k → k < i → xs[j]? = some x → xs[k]? = some y → x ≤ y
theorem Done.set {xs : List Int} {i : Nat} {v : Int} (h : Done xs i) (hv : 0 ≤ v ∧ v ≤ 1152921504606846975) (hp : ∀ p, 0 < i → xs[i - 1]? = some p → p ≤ v) (hi : i < xs.length) : Done (xs.set i v) (i + 1) := by
  have hg : ∀ (j : Nat) (x : Int), j < i → (xs.set i v)[j]? = some x → xs[j]? = some x := fun j x hj hx => by
    rwa [List.getElem?_set, if_neg (by omega)] at hx
  have hgi : ∀ x, (xs.set i v)[i]? = some x → x = v := fun x hx => by
    rw [List.getElem?_set, if_pos rfl, if_pos hi] at hx
    injection hx with hx
    exact hx.symm
  refine ⟨fun j x hj hx => ?_, fun j k x y hjk hk hx hy => ?_⟩
  · rcases Nat.lt_or_ge j i with h1 | h1
    · exact h.1 j x h1 (hg j x h1 hx)
    · obtain rfl : j = i := by omega
      rw [hgi x hx]; exact hv
  · rcases Nat.lt_or_ge k i with h1 | h1
    · exact h.2 j k x y hjk h1 (hg j x (by omega) hx) (hg k y h1 hy)
    · obtain rfl : k = i := by omega
      rw [hgi y hy]
      rcases Nat.lt_or_ge j k with h2 | h2
      · have h3 := hg j x h2 hx
        obtain ⟨p, hp1⟩ : ∃ p, xs[k - 1]? = some p := ⟨_, List.getElem?_eq_getElem (by omega)⟩
        have h4 := h.2 j (k - 1) x p (by omega) (by omega) h3 hp1
        have h5 := hp p (by omega) hp1
        omega
      · obtain rfl : j = k := by omega
        rw [hgi x hx]; exact Int.le_refl _
theorem Done.ok {xs : List Int} (h : Done xs xs.length) : okN xs ∧ Small xs ∧ Up xs := by
  have hb : ∀ x ∈ xs, 0 ≤ x ∧ x ≤ 1152921504606846975 := fun x hx => by
    obtain ⟨j, hj, rfl⟩ := List.getElem_of_mem hx
    exact h.1 j _ hj (List.getElem?_eq_getElem hj)
  refine ⟨fun x hx => ⟨(hb x hx).1, dgt_le (by omega) (by omega) (by have := hb x hx; omega)⟩, fun x hx => by have := hb x hx; omega, fun i j x y hij hx hy => ?_⟩
  exact h.2 i j x y hij (List.getElem?_eq_some_iff.1 hy).1 hx hy
theorem ofE_few {l : List Int} (h : okN l) (hn : l.length ≤ 2000) : ofE l = 0 := by
  unfold ofE newE
  have := wideF_le h
  rw [if_pos h, if_pos ⟨h, Int.le_refl _⟩]
  exact errRow_few this.1 this.2 hn

set_option maxRecDepth 100000 in
set_option maxHeartbeats 4000000 in
theorem finds_any (A : Option Addr) (n c B : Nat) (l : List Int) (x : Int) (w : World) (hx : Rd w B A (l.map (.int .i64))) (hn : l.length = n) :
    Calls Try.prog 7 #[.slice A n c, .int .i64 x] w fun e w' => e = .returned (.bool true) ∧ Kp [] w w' := by
  obtain ⟨i0, hi, hz0, hz1, hz2⟩ := info_parts Try.info_int
  have HX := Lib.hid hx.here; clear hx
  have HN := Lib.hid hn; clear hn
  by_cases hbig : 2000 < n
  · go_enter Try.func7, Try.ntmps7
    go_wp2_with fail
    refine (pawake_any _).mono ?_
    rintro e w1 ⟨rfl, hk1⟩
    go_wp2_with fail
    go_ret
    exact ⟨rfl, hk1⟩
  have hn2 : n ≤ 2000 := by omega
  clear hbig
  go_enter Try.func7, Try.ntmps7
  go_wp2_with (at_builtin; go_loud (refine wpList_append_rd rfl (.tmp 19) (.tmp 20) 22 rfl w.heap.size 3 i0 (.int .i64 0) 1 8 Try.underlying22 hi hz0 hz1 hz2 rfl (by decide) _ 0 _ rfl (own_empty w (Nat.le_refl _)) _ _ n c (l.map (.int .i64)) rfl (by rw [List.length_map, HN.out, Nat.mul_one]) (HX.out.kp0 ((Kp.refl [] w).alloc _)) (oc_ints _ _) (by unfold maxLen; omega) (by omega) (by simp) ?_); intro v2 w2 hown2 hgrow2 hat2
               simp only [Nat.zero_add, List.nil_append] at hown2
               obtain ⟨A2, c2, rfl, hc2, _, _, hge2⟩ := own_form hown2
               have HO2 := Lib.hid hown2
               have HK2 := Lib.hid (((Kp.refl [] w).alloc (.cells #[] 3)).grown hgrow2 (fun g hg => .inr (own_ge (own_empty w (Nat.le_refl _)) hg).1))
               clear hown2 hgrow2 hat2 hge2 hc2)
  go_loopw [6] (fun y wr => ∃ (i : Nat) (xs : List Int), y = .int .i64 (i : Int) ∧ i ≤ n ∧ Hid (xs.length = n) ∧ Hid (wr.ownsRow w.heap.size 3 1 (.slice A2 n c2) n (xs.map (.int .i64))) ∧ Hid (Done xs i) ∧ Hid (Kp [] w wr)) (fun y _ => n - (intOf y).toNat)
  case atStart => exact ⟨0, l, rfl, by omega, HN, HO2, Lib.hid ⟨fun j x h => absurd h (Nat.not_lt_zero _), fun j k x y _ h => absurd h (Nat.not_lt_zero _)⟩, HK2⟩
  case round =>
    clear HO2 HK2
    obtain ⟨i, xs, rfl, hin, HL, HO, HD, HK⟩ := hrel
    by_cases hlt : i < n
    · obtain ⟨g, rfl, hgw, lb, hgb⟩ := own_some HO.out (by omega)
      obtain ⟨v, hv⟩ : ∃ v, xs[i]? = some v := ⟨_, List.getElem?_eq_getElem (by rw [HL.out]; exact hlt)⟩
      obtain ⟨ad, had, _, cv⟩ := (own_rd HO.out).at_ (i := i) (u := .int .i64 v) (by rw [List.getElem?_map, hv]; rfl)
      injection had with had
      subst had
      rw [addr_lit_add, Nat.zero_add] at cv
      have cf := hgb.free i
      obtain ⟨u, hu⟩ : ∃ u, u = clampI v := ⟨_, rfl⟩
      have hub := clampI_bound v
      rw [← hu] at hub
      have hmx : max (min v 1152921504606846975) 0 = u := by rw [hu]; rfl
      have HGW := Lib.hid hgw
      have HO1 := own_set HO.out i hlt (.int .i64 u)
      rw [← List.map_set] at HO1
      have HO2 := Lib.hid HO1; clear HO1
      have HK2 := Lib.hid (HK.out.setCell (p := ⟨g, i, none⟩) (.inr hgw) (.int .i64 u))
      have HLB := Lib.hid (hgb.set_ i (.int .i64 u))
      clear hv hu hgw hgb
      by_cases hi0 : 0 < i
      · obtain ⟨p, hp⟩ : ∃ p, xs[i - 1]? = some p := ⟨_, List.getElem?_eq_getElem (by rw [HL.out]; omega)⟩
        obtain ⟨j, rfl⟩ : ∃ j, i = j + 1 := ⟨i - 1, by omega⟩
        rw [Nat.add_sub_cancel] at hp
        have hpb := HD.out.1 j p (by omega) hp
        have hwj : IntKind.i64.wrap (((j + 1 : Nat) : Int) - 1) = (j : Int) := by rw [IntKind.wrap_i64]; omega
        have hwj' : IntKind.i64.wrap ((j : Int) + 1 - 1) = (j : Int) := by rw [IntKind.wrap_i64]; omega
        have hjn : j < n := by omega
        have cpj : (wr.setCell ⟨g, j + 1, none⟩ (.int .i64 u)).cell? ⟨g, j, none⟩ = some (.int .i64 p) := by
          obtain ⟨ad, had, _, h⟩ := (own_rd HO2.out).at_ (i := j) (u := .int .i64 p) (by rw [List.getElem?_map, List.getElem?_set, if_neg (by omega), hp]; rfl)
          injection had with had
          subst had
          rwa [addr_lit_add, Nat.zero_add] at h
        have cpi : (wr.setCell ⟨g, j + 1, none⟩ (.int .i64 u)).cell? ⟨g, j + 1, none⟩ = some (.int .i64 u) := by
          obtain ⟨ad, had, _, h⟩ := (own_rd HO2.out).at_ (i := j + 1) (u := .int .i64 u) (by rw [List.getElem?_map, List.getElem?_set, if_pos rfl, if_pos (by rw [HL.out]; exact hlt)]; rfl)
          injection had with had
          subst had
          rwa [addr_lit_add, Nat.zero_add] at h
        have cf2 := HLB.out.free (j + 1)
        obtain ⟨u2, hu2⟩ : ∃ u2, max u p = u2 := ⟨_, rfl⟩
        have HO3 := own_set HO2.out (j + 1) hlt (.int .i64 u2)
        rw [← List.map_set, List.set_set] at HO3
        have HO4 := Lib.hid (own_kp0 HO3 ((Kp.refl [] _).drew)); clear HO3
        have HK4 := Lib.hid ((HK2.out.setCell (p := ⟨g, j + 1, none⟩) (.inr HGW.out) (.int .i64 u2)).drew)
        have HL4 := Lib.hid (show (xs.set (j + 1) u2).length = n by rw [List.length_set, HL.out])
        have HD4 := Lib.hid (HD.out.set (v := u2) (by omega) (fun q _ hq => by
          rw [Nat.add_sub_cancel, hp] at hq
          injection hq with hq
          omega) (by rw [HL.out]; exact hlt))
        clear hp hpb hub HO2 HK2 HLB HK HO HD HL
        go_wp2_with fail
        go_region
        go_wp2_with fail
        exact ⟨⟨j + 1 + 1, xs.set (j + 1) u2, by go_num, by omega, HL4, HO4, HD4, HK4⟩, by simp [intOf]; omega⟩
      · obtain rfl : i = 0 := by omega
        have HL4 := Lib.hid (show (xs.set 0 u).length = n by rw [List.length_set, HL.out])
        have HD4 := Lib.hid (HD.out.set (v := u) hub (fun q h _ => absurd h (Nat.lt_irrefl _)) (by rw [HL.out]; exact hlt))
        clear hub HLB HK HO HD HL
        go_wp2_with fail
        exact ⟨⟨1, xs.set 0 u, rfl, by omega, HL4, HO2, HD4, HK2⟩, by simp [intOf]; omega⟩
    · obtain rfl : i = n := by omega
      have hdone := HD.out
      rw [show Done xs i = Done xs xs.length by rw [HL.out]] at hdone
      obtain ⟨hok, hsm, hup⟩ := hdone.ok
      have HE := Lib.hid (ofE_few hok (by rw [HL.out]; exact hn2))
      have HR := Lib.hid (own_rd HO.out)
      have HOK := Lib.hid hok
      have HSM := Lib.hid hsm
      have HUP := Lib.hid hup
      have hi9 : i ≤ 1000000000 := by omega
      have HI9 := Lib.hid hi9
      clear hdone hok hsm hup hlt
      go_wp2_with fail
      refine (of_any A2 i c2 _ xs wr HR.out HL.out HI9.out HSM.out).mono ?_
      rintro e w3 ⟨hk3, ⟨hne, _⟩ | ⟨_, _, p1, rfl, hrow⟩⟩
      · exact absurd HE.out hne
      have HW3 := Lib.hid hrow; clear hrow
      have HK3 := Lib.hid (HK.out.trans hk3)
      have HR3 := Lib.hid (HR.out.kp0 hk3); clear hk3
      go_wp2_with fail
      refine (rof_any A2 i c2 _ xs w3 HR3.out HL.out HI9.out HSM.out).mono ?_
      rintro e w4 ⟨hk4, ⟨hne, _⟩ | ⟨_, q1, rfl, hrr⟩⟩
      · exact absurd HE.out hne
      have HQ4 := Lib.hid hrr; clear hrr
      have HW4 := Lib.hid (HW3.out.kp0 hk4)
      have HK4 := Lib.hid (HK3.out.trans hk4); clear hk4
      have HIN := Lib.hid (intsN_toNat HOK.out)
      obtain ⟨F, hF⟩ : ∃ F, F = findK xs x := ⟨_, rfl⟩
      have HF := Lib.hid hF; clear hF
      obtain ⟨q, hq⟩ : ∃ q, q = decide (xs[F]? = some x) := ⟨_, rfl⟩
      have HQ := Lib.hid hq; clear hq
      go_wp2_with fail
      refine (find_any _ p1 _ x _ w4 HW4.out (by rw [HIN.out]; exact HUP.out)).mono ?_
      rw [HIN.out, ← HF.out, ← HQ.out]
      rintro e w5 ⟨rfl, hk5⟩
      have HQ5 := Lib.hid (HQ4.out.kp0 hk5)
      have HK5 := Lib.hid (HK4.out.trans hk5); clear hk5
      go_wp2_with fail
      refine (refFind_any _ q1 _ x xs w5 HQ5.out (by rw [HL.out]; exact HI9.out)).mono ?_
      rw [← HF.out, ← HQ.out]
      rintro e w6 ⟨rfl, hd6⟩
      have HK6 := Lib.hid (HK5.out.trans (hd6.kp [])); clear hd6
      go_wp2_with fail
      refine (pawake_any _).mono ?_
      rintro e w7 ⟨rfl, hk7⟩
      have HK7 := Lib.hid (HK6.out.trans hk7); clear hk7
      go_wp2_with fail
      go_ret
      exact ⟨rfl, HK7.out⟩
end Go.Proofs.Ytlkgepojjjcaoaa
