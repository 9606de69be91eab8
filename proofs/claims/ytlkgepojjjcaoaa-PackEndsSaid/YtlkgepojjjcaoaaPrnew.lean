/-
  THE CONTRACTS OF LAYER 2's REFERENCE: New.
  CONDITIONS: numbers of 64 bits; rows of at most 10^9 numbers.
-/
import Derived.Test.YtlkgepojjjcaoaaPall
namespace Go.Proofs.Ytlkgepojjjcaoaa
open Go.RowKit

/-- The document's row in memory. -/
def RowR (w : World) (b p : Nat) (wd : Int) (l : List Int) : Prop :=
  ∃ A c, Blk w p 66 [.int .i64 wd, .slice A l.length c] ∧ Rd w w.heap.size A (l.map (.int .i64)) ∧ l.length ≤ c ∧ b ≤ p ∧ ∀ ad, A = some ad → b ≤ ad.block
theorem RowR.kp {w w' : World} {b p : Nat} {wd : Int} {l : List Int} {S : List Nat} (h : RowR w b p wd l) (hk : Kp S w w') (hS : ∀ g ∈ S, g < b) : RowR w' b p wd l := by
  obtain ⟨A, c, h1, h2, h3, h4, h5⟩ := h
  exact ⟨A, c, h1.kp hk (fun hm => by have := hS _ hm; omega), (h2.kp_ne hk (fun ad e hm => by have := hS _ hm; have := h5 ad e; omega)).here, h3, h4, h5⟩
theorem RowR.kp0 {w w' : World} {b p : Nat} {wd : Int} {l : List Int} (h : RowR w b p wd l) (hk : Kp [] w w') : RowR w' b p wd l := h.kp hk (by simp)
theorem RowM.kp {w w' : World} {b p wd : Nat} {ls : List Nat} {S : List Nat} (h : RowM w b p wd ls) (hk : Kp S w w') (hS : ∀ g ∈ S, g < b) : RowM w' b p wd ls := by
  obtain ⟨g, ws, h1, h2, h3, h4, h5, h6, h7, h8, h9⟩ := h
  exact ⟨g, ws, h1.kp hk (fun hm => by have := hS _ hm; omega), h2.kp hk (fun hm => by have := hS _ hm; omega), h3, h4, h5, h6, h7, h8, h9⟩
theorem own_empty (w : World) {base : Nat} (h : base ≤ w.heap.size) : (w.alloc (.cells #[] 3)).ownsRow base 3 1 (.slice (some ⟨w.heap.size, 0, none⟩) 0 0) 0 [] :=
  own_of_blk (xs := []) (rest := []) (Blk.new w 3 []) h (Nat.le_refl _) (Nat.zero_le _) rfl rfl

set_option maxRecDepth 100000 in
set_option maxHeartbeats 1000000 in
theorem rnew_any (wd : Int) (A : Option Addr) (n c B : Nat) (l : List Int) (w : World) (hx : Rd w B A (l.map (.int .i64))) (hn : l.length = n) (hb : n ≤ 1000000000) (hs : Small l) :
    Calls Try.prog 15 #[.int .i64 wd, .slice A n c] w fun e w' => Kp [] w w' ∧ ((newE wd l ≠ 0 ∧ e = .returned (.tuple #[.pointer none, .int .i64 (newE wd l)])) ∨
      (newE wd l = 0 ∧ ∃ p, e = .returned (.tuple #[.pointer (some ⟨p, 0, none⟩), .int .i64 0]) ∧ RowR w' w.heap.size p wd l)) := by
  obtain ⟨i0, hi, hz0, hz1, hz2⟩ := info_parts Try.info_int
  have HX := Lib.hid hx; clear hx
  have HN := Lib.hid hn; clear hn
  have HS := Lib.hid hs; clear hs
  go_enter Try.func15, Try.ntmps15
  go_wp2_with fail
  refine (rwidth_any A n c B l w HX.out HN.out hb HS.out).mono ?_
  rintro e w1 ⟨rfl, rfl⟩
  by_cases hok : okN l
  · rw [wideL_ok hok, wideE_ok hok]
    obtain ⟨W, hW⟩ : ∃ W, W = wideF 1 l := ⟨_, rfl⟩
    have hWb := wideF_le hok
    rw [← hW] at hWb ⊢
    have HFIT := Lib.hid (show fitN wd l ↔ (W : Int) ≤ wd from ⟨fun h => by rw [hW]; exact h.2, fun h => ⟨hok, by rw [← hW]; exact h⟩⟩)
    clear hW hok
    by_cases h1 : wd < 1
    · have HE := Lib.hid (show newE wd l = 2 by unfold newE; rw [if_neg (fun h => by have := HFIT.out.1 h; omega)])
      go_wp2_with fail
      go_ret2
      exact ⟨Kp.refl [] w, .inl ⟨by rw [HE.out]; decide, by rw [HE.out]; rfl⟩⟩
    by_cases h2 : 60 < wd
    · have HE := Lib.hid (show newE wd l = 2 by
        unfold newE
        by_cases hf : fitN wd l
        · rw [if_pos hf]; unfold errRow; rw [if_pos (.inr (.inl h2))]
        · rw [if_neg hf])
      go_wp2_with fail
      go_ret2
      exact ⟨Kp.refl [] w, .inl ⟨by rw [HE.out]; decide, by rw [HE.out]; rfl⟩⟩
    by_cases h3 : wd < (W : Int)
    · have HE := Lib.hid (show newE wd l = 2 by unfold newE; rw [if_neg (fun h => by have := HFIT.out.1 h; omega)])
      go_wp2_with fail
      go_ret2
      exact ⟨Kp.refl [] w, .inl ⟨by rw [HE.out]; decide, by rw [HE.out]; rfl⟩⟩
    obtain ⟨q, hq⟩ : ∃ q, q = 16777216 / wd := ⟨_, rfl⟩
    have hqb : 0 ≤ q ∧ q ≤ 16777216 := by
      rw [hq]
      exact ⟨Int.ediv_nonneg (by omega) (by omega), Int.ediv_le_self _ (by omega)⟩
    have hdv : Int.tdiv 16777216 wd = q := by rw [Int.tdiv_eq_ediv_of_nonneg (by omega), hq]
    have hwq : IntKind.i64.wrap q = q := by rw [IntKind.wrap_i64]; omega
    have hwz : wd ≠ 0 := by omega
    have hee : newE wd l = if q < (n : Int) then 3 else 0 := by
      unfold newE
      rw [if_pos (HFIT.out.2 (by omega)), HN.out]
      unfold errRow
      rw [if_neg (by omega), ← hq]
    by_cases h4 : q < (n : Int)
    · rw [if_pos h4] at hee
      have HE := Lib.hid hee
      clear hee hq
      go_wp2_with fail
      go_ret2
      exact ⟨Kp.refl [] w, .inl ⟨by rw [HE.out]; decide, by rw [HE.out]; rfl⟩⟩
    · rw [if_neg h4] at hee
      have HE := Lib.hid hee
      clear hee hq
      go_wp2_with (at_builtin; go_loud (refine wpList_append_rd rfl (.tmp 34) (.tmp 35) 22 rfl w.heap.size 3 i0 (.int .i64 0) 1 8 Try.underlying22 hi hz0 hz1 hz2 rfl (by decide) _ 0 _ rfl (own_empty w (Nat.le_refl _)) _ _ n c (l.map (.int .i64)) rfl (by rw [List.length_map, HN.out, Nat.mul_one]) (HX.out.kp0 ((Kp.refl [] w).alloc _)) (oc_ints _ _) (by unfold maxLen; omega) (by omega) (by simp) ?_); intro v2 w2 hown2 hgrow2 hat2
                   simp only [Nat.zero_add, List.nil_append] at hown2
                   obtain ⟨A2, c2, rfl, hc2, _, _, hge2⟩ := own_form hown2
                   have HGE := Lib.hid (show ∀ ad, A2 = some ad → w.heap.size ≤ ad.block from fun ad h => (hge2 ad h).2.2.1)
                   clear hge2
                   have HO2 := Lib.hid hown2
                   have HK2 := Lib.hid (((Kp.refl [] w).alloc (.cells #[] 3)).grown hgrow2 (fun g hg => .inr (own_ge (own_empty w (Nat.le_refl _)) hg).1))
                   clear hown2 hgrow2 hat2)
      go_ret2
      have hb2 := Blk.new w2 66 [.int .i64 wd, .slice A2 n c2]
      exact ⟨HK2.out.alloc _, .inr ⟨HE.out, w2.heap.size, rfl, A2, c2, by rw [HN.out]; exact hb2, ((own_rd HO2.out).kp0 ((Kp.refl [] w2).alloc _)).here, by rw [HN.out]; exact hc2, HK2.out.size, HGE.out⟩⟩
  · rw [wideL_no hok, wideE_no hok]
    have HE := Lib.hid (show newE wd l = 2 by unfold newE; rw [if_neg (fun h => hok h.1)])
    clear hok
    go_wp2_with fail
    go_ret2
    exact ⟨Kp.refl [] w, .inl ⟨by rw [HE.out]; decide, by rw [HE.out]; rfl⟩⟩
end Go.Proofs.Ytlkgepojjjcaoaa
