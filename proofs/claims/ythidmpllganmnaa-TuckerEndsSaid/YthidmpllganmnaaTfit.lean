/-
  THE CONTRACTS OF LAYER 5, seventh part: tucker.Fits: whether lengths are the depths of a tree's leaves.
  CONDITIONS: rows of at most 10^9 numbers.
-/
import Derived.Test.YthidmpllganmnaaTuck6
namespace Go.Proofs.Ythidmpllganmnaa
open Go.RowKit

/-- Lengths that fit. -/
def okF (l : List Int) : Prop := l.length ≤ 257 ∧ (l = [1] ∨ (2 ≤ l.length ∧ Dl 0 l))
theorem okF_more {l : List Int} (h2 : 2 ≤ l.length) (h3 : l.length ≤ 257) : okF l ↔ procT (l.length : Int) [] l = some [0] := by
  rw [procT_iff h2]
  constructor
  · rintro ⟨_, rfl | h⟩
    · simp at h2
    · exact h.2
  · intro h
    exact ⟨h3, .inr ⟨h2, h⟩⟩
theorem procT_snoc {m : Int} {l s : List Int} {k : Nat} {x : Int} (h : procT m [] (l.take k) = some s) (hx : l[k]? = some x) (h1 : 1 ≤ x ∧ x < m) : procT m [] (l.take (k + 1)) = ins s x := by
  rw [take_succ_of hx, procT_app, h]
  show procT m s [x] = _
  rw [procT_cons, if_pos h1]
  cases ins s x <;> rfl
theorem procT_bad {m : Int} {l s : List Int} {k : Nat} {x : Int} (h : procT m [] (l.take k) = some s) (hx : l[k]? = some x) (h1 : ¬ (1 ≤ x ∧ x < m)) : procT m [] l = none := by
  rw [← List.take_append_drop (k + 1) l, procT_app, take_succ_of hx, procT_app, h]
  show (procT m s [x]).bind _ = _
  rw [procT_cons, if_neg h1]; rfl
theorem procT_none {m : Int} {l : List Int} {k : Nat} (h : procT m [] (l.take k) = none) : procT m [] l = none := by
  rw [← List.take_append_drop k l, procT_app, h]; rfl
theorem own_pop {w : World} {base m c : Nat} {e : TypeId} {A : Option Addr} {xs : List Value} {x : Value} (h : w.ownsRow base e 1 (.slice A (m + 1) c) (m + 1) (xs ++ [x])) : w.ownsRow base e 1 (.slice A m c) m xs := by
  rcases own_blk h with ⟨_, h0, _⟩ | ⟨g, cap, rest, hv, hb, hg, hn, hm, hx, hc⟩
  · omega
  · injection hv with h1 h2 h3
    subst h1 h3
    rw [List.append_assoc] at hg hc
    rw [List.length_append] at hx
    exact own_of_blk hg hb (by omega) hm (by simp at hx; omega) hc

open Classical in
set_option maxHeartbeats 2000000 in
theorem tfits_any (A : Option Addr) (n c B : Nat) (l : List Int) (w : World) (hx : Rd w B A (l.map (.int .i64))) (hn : l.length = n) (hb : n ≤ 1000000000) :
    Calls Try.prog 17 #[.slice A n c] w fun e w' => e = .returned (.bool (decide (okF l))) ∧ Kp [] w w' := by
  obtain ⟨i0, hi, hz0, hz1, hz2⟩ := info_parts Try.info_int
  have HX := Lib.hid hx; clear hx
  have HN := Lib.hid hn; clear hn
  by_cases h0 : n = 0
  · subst h0
    have hf : decide (okF l) = false := by
      have : ¬ okF l := by
        rintro ⟨_, h | h⟩
        · have := HN.out; rw [h] at this; simp at this
        · have := HN.out; omega
      simp [this]
    have HF := Lib.hid hf; clear hf
    go_enter Try.func17, Try.ntmps17
    go_wp2_with fail
    go_ret
    exact ⟨by rw [HF.out]; rfl, Kp.refl [] w⟩
  by_cases h1 : n = 1
  · subst h1
    obtain ⟨x, ad, hxk, rfl, _, hcx⟩ := HX.out.ix (i := 0) (by have := HN.out; omega)
    rw [addr_add_zero] at hcx
    have hlx : l = [x] := by
      obtain ⟨y, rfl⟩ := List.length_eq_one_iff.1 HN.out
      simp at hxk
      rw [hxk]
    have hd : decide (okF l) = (x == 1) := by
      rw [hlx]
      have : okF [x] ↔ x = 1 := by
        constructor
        · rintro ⟨_, h | h⟩
          · simpa using h
          · simp at h
        · rintro rfl
          exact ⟨by simp, .inl rfl⟩
      by_cases e : x = 1
      · rw [decide_eq_true (this.2 e), e]; rfl
      · rw [decide_eq_false (fun h => e (this.1 h))]; simp [e]
    have HD := Lib.hid hd; clear hd hlx hxk
    go_enter Try.func17, Try.ntmps17
    go_wp2_with fail
    go_ret
    exact ⟨by rw [HD.out]; rfl, Kp.refl [] w⟩
  by_cases h2 : 257 < n
  · have hf : decide (okF l) = false := by
      have : ¬ okF l := by
        rintro ⟨h, _⟩
        have := HN.out
        omega
      simp [this]
    have HF := Lib.hid hf; clear hf
    have hne : ((n : Int) == 1) = false := by simp; omega
    go_enter Try.func17, Try.ntmps17
    go_wp2_with fail
    go_ret
    exact ⟨by rw [HF.out]; rfl, Kp.refl [] w⟩
  have hok := okF_more (l := l) (by have := HN.out; omega) (by have := HN.out; omega)
  rw [HN.out] at hok
  have HOK := Lib.hid hok; clear hok
  have hno : 2 ≤ n := by omega
  clear h0 h1
  go_enter Try.func17, Try.ntmps17
  go_wp2_with fail
  go_loopw [3, 25] (fun y x wr => ∃ (k m c1 : Nat) (A1 : Option Addr) (s : List Int), x = .int .i64 (k : Int) ∧ y = .slice A1 m c1 ∧ k ≤ n ∧ m ≤ k ∧ Hid (s.length = m) ∧ Hid (procT (n : Int) [] (l.take k) = some s) ∧ Hid (wr.ownsRow w.heap.size 3 1 (.slice A1 m c1) m (s.reverse.map (.int .i64))) ∧ Hid (Kp [] w wr)) (fun _ x _ => n - (intOf x).toNat)
  case atStart => exact ⟨0, 0, 0, none, [], rfl, rfl, by omega, by omega, Lib.hid rfl, Lib.hid rfl, Lib.hid ⟨rfl, .inl ⟨rfl, rfl⟩⟩, Lib.hid (Kp.refl [] w)⟩
  case round =>
    obtain ⟨k, m, c1, A1, s, rfl, rfl, hk, hmk, HS, HP, HO, HK⟩ := hrel
    by_cases hlt : k < n
    · obtain ⟨x, ad, hxk, rfl, _, hcx⟩ := (HX.out.kp0 HK.out).ix (i := k) (by have := HN.out; omega)
      have HXK := Lib.hid hxk; clear hxk
      by_cases hx1 : x < 1
      · have hf : decide (okF l) = false := by
          refine decide_eq_false (fun h => ?_)
          have := procT_bad HP.out HXK.out (by omega)
          rw [HOK.out, this] at h
          cases h
        have HF := Lib.hid hf; clear hf
        go_wp2_with fail
        go_ret
        exact ⟨by rw [HF.out]; rfl, HK.out⟩
      · by_cases hx2 : (n : Int) ≤ x
        · have hf : decide (okF l) = false := by
            refine decide_eq_false (fun h => ?_)
            have := procT_bad HP.out HXK.out (by omega)
            rw [HOK.out, this] at h
            cases h
          have HF := Lib.hid hf; clear hf
          go_wp2_with fail
          go_ret
          exact ⟨by rw [HF.out]; rfl, HK.out⟩
        · have HPS := Lib.hid (procT_snoc HP.out HXK.out ⟨by omega, by omega⟩)
          go_wp2_with fail
          go_loopw [3, 5] (fun y x' wr' => ∃ (m' : Nat) (z : Int) (s' : List Int), x' = .int .i64 z ∧ y = .slice A1 m' c1 ∧ m' ≤ m ∧ z - m' = x - m ∧ Hid (s'.length = m') ∧ Hid (ins s x = ins s' z) ∧ Hid (wr.ownsRow w.heap.size 3 1 (.slice A1 m' c1) m' (s'.reverse.map (.int .i64))) ∧ wr = wr') (fun y _ _ => match y with | .slice _ q _ => q | _ => 0)
          case atStart => exact ⟨m, x, s, rfl, rfl, by omega, by omega, HS, Lib.hid rfl, HO, rfl⟩
          case round =>
            clear HS HO
            obtain ⟨m', z, s', rfl, rfl, hm', hz, HS, HI, HO, rfl⟩ := hrel
            cases s' with
            | nil =>
              obtain rfl : m' = 0 := by have := HS.out; simpa using this.symm
              have HNX := Lib.hid (show procT (n : Int) [] (l.take (k + 1)) = some [z] by rw [HPS.out, HI.out]; rfl)
              go_wp2_with (at_builtin; go_loud (refine wpList_append_rd rfl (.tmp 70) (.tmp 72) 22 rfl w.heap.size 3 i0 (.int .i64 0) 1 8 Try.underlying22 hi hz0 hz1 hz2 rfl (by decide) _ 0 _ rfl (HO.out.alloc _) _ _ 1 1 [.int .i64 z] rfl rfl (Rd.new wr _ _ _) (by simp [Value.oneCell']) (by unfold maxLen; omega) (by omega) (by have := HK.out.size; simp; omega) ?_); intro v2 w2 hown2 hgrow2 hat2)
              obtain ⟨A3, c3, rfl, _⟩ := own_form hown2
              exact ⟨⟨k + 1, 0 + 1, c3, A3, z :: [], by go_num, rfl, by omega, by omega, Lib.hid rfl, Lib.hid HNX.out, Lib.hid (by rw [List.reverse_cons, List.map_append]; exact hown2), Lib.hid ((HK.out.alloc _).grown hgrow2 (fun g hg => .inr (own_ge HO.out hg).1))⟩, by simp [intOf]; omega⟩
            | cons t s' =>
              obtain ⟨p, hp⟩ : ∃ p, m' = p + 1 := ⟨s'.length, by have := HS.out; simpa using this.symm⟩
              have hsp : s'.length = p := by have := HS.out; simp at this; omega
              obtain ⟨bd, rfl, _, hct⟩ := (own_rd HO.out).at_ (i := p) (u := .int .i64 t) (by rw [List.reverse_cons, List.map_append, List.getElem?_append_right (by simp [hsp])]; simp [hsp])
              have hc2 : m' ≤ c1 := by
                obtain ⟨A2, c2, hv, hc2, _⟩ := own_form HO.out
                injection hv with _ _ hv
                omega
              have hpc : p ≤ c1 := by omega
              have hpm : p < m' := by omega
              have hm0 : 0 < m' := by omega
              have hwm : IntKind.i64.wrap ((m' : Int) - 1) = (p : Int) := by rw [IntKind.wrap_i64]; omega
              have hwz : IntKind.i64.wrap (z - 1) = z - 1 := by rw [IntKind.wrap_i64]; omega
              have HPM := Lib.hid hp; clear hp
              have HSP := Lib.hid hsp; clear hsp
              by_cases hte : t = z
              · have hop := HO.out
                rw [HPM.out, List.reverse_cons, List.map_append] at hop
                have HOP := Lib.hid (own_pop hop); clear hop
                have HI2 := Lib.hid (show ins s x = ins s' (z - 1) by rw [HI.out]; show (if t = z then _ else _) = _; rw [if_pos hte])
                have htb : (t == z) = true := by simp [hte]
                clear hte
                go_wp2_with fail
                exact ⟨⟨p, z - 1, s', rfl, rfl, by omega, by have := HPM.out; omega, HSP, HI2, HOP, trivial⟩, by have := HPM.out; omega⟩
              · have htb : (t == z) = false := by simp [hte]
                by_cases hzt : z < t
                · have hf : decide (okF l) = false := by
                    refine decide_eq_false (fun h => ?_)
                    have e : procT (n : Int) [] (l.take (k + 1)) = none := by
                      rw [HPS.out, HI.out]
                      show (if t = z then _ else if z < t then none else _) = _
                      rw [if_neg hte, if_pos hzt]
                    have := procT_none e
                    rw [HOK.out, this] at h
                    cases h
                  have HF := Lib.hid hf; clear hf hte
                  go_wp2_with fail
                  go_ret
                  exact ⟨by rw [HF.out]; rfl, HK.out⟩
                · have HNX := Lib.hid (show procT (n : Int) [] (l.take (k + 1)) = some (z :: t :: s') by
                    rw [HPS.out, HI.out]
                    show (if t = z then _ else if z < t then none else _) = _
                    rw [if_neg hte, if_neg hzt])
                  clear hte
                  go_wp2_with (at_builtin; go_loud (refine wpList_append_rd rfl (.tmp 70) (.tmp 72) 22 rfl w.heap.size 3 i0 (.int .i64 0) 1 8 Try.underlying22 hi hz0 hz1 hz2 rfl (by decide) _ m' _ rfl (HO.out.alloc _) _ _ 1 1 [.int .i64 z] rfl rfl (Rd.new wr _ _ _) (by simp [Value.oneCell']) (by unfold maxLen; omega) (by omega) (by have := HK.out.size; simp; omega) ?_); intro v2 w2 hown2 hgrow2 hat2)
                  obtain ⟨A3, c3, rfl, _⟩ := own_form hown2
                  exact ⟨⟨k + 1, m' + 1, c3, A3, z :: t :: s', by go_num, rfl, by omega, by omega, Lib.hid (by have := HS.out; simpa using this), Lib.hid HNX.out, Lib.hid (by rw [List.reverse_cons, List.map_append]; exact hown2), Lib.hid ((HK.out.alloc _).grown hgrow2 (fun g hg => .inr (own_ge HO.out hg).1))⟩, by simp [intOf]; omega⟩
    · obtain rfl : n = k := by omega
      have hok : okF l ↔ s = [0] := by
        rw [HOK.out]
        have := HP.out
        rw [List.take_of_length_le (by rw [HN.out]; exact Nat.le_refl _)] at this
        rw [this]
        simp
      have HOS := Lib.hid hok; clear hok HP
      by_cases hm1 : m = 1
      · subst hm1
        obtain ⟨y, rfl⟩ := List.length_eq_one_iff.1 HS.out
        obtain ⟨bd, rfl, _, hct⟩ := (own_rd HO.out).at_ (i := 0) (u := .int .i64 y) rfl
        rw [addr_add_zero] at hct
        have hd : decide (okF l) = (y == 0) := by
          by_cases e : y = 0
          · rw [decide_eq_true (HOS.out.2 (by rw [e])), e]; rfl
          · rw [decide_eq_false (fun h => e (by have := HOS.out.1 h; simpa using this))]; simp [e]
        have HD := Lib.hid hd; clear hd
        go_wp2_with fail
        go_ret
        exact ⟨by rw [HD.out]; rfl, HK.out⟩
      · have hf : decide (okF l) = false := by
          refine decide_eq_false (fun h => hm1 ?_)
          have := HS.out
          rw [HOS.out.1 h] at this
          simpa using this.symm
        have HF := Lib.hid hf; clear hf
        have hmb : ((m : Int) == 1) = false := by simp; omega
        go_wp2_with fail
        go_ret
        exact ⟨by rw [HF.out]; rfl, HK.out⟩
end Go.Proofs.Ythidmpllganmnaa
