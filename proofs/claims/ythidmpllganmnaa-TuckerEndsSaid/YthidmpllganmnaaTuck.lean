/-
  THE CONTRACTS OF LAYER 5, first part: what weights are, their sums.
  CONDITIONS: rows of at most 10^9 numbers.
-/
import Derived.Test.YthidmpllganmnaaKit
import Derived.Test.YthidmpllganmnaaMTuck
namespace Go.Proofs.Ythidmpllganmnaa
open Go.RowKit

/-- Numbers that are weights. -/
def Wts (l : List Int) : Prop := ∀ x ∈ l, 0 ≤ x ∧ x ≤ 4294967296
def okW (l : List Int) : Prop := Wts l ∧ 0 < l.length ∧ l.length ≤ 257
theorem Wts.of_take {l : List Int} {k : Nat} (h : Wts (l.take k)) (hk : l.length ≤ k) : Wts l := by rwa [List.take_of_length_le hk] at h
theorem Wts.snoc {l : List Int} {k : Nat} {x : Int} (h : Wts (l.take k)) (hx : l[k]? = some x) (h0 : 0 ≤ x) (h1 : x ≤ 4294967296) : Wts (l.take (k + 1)) := by
  rw [take_succ_of hx]
  intro y hy
  simp only [List.mem_append, List.mem_singleton] at hy
  rcases hy with hy | rfl
  · exact h y hy
  · exact ⟨h0, h1⟩

open Classical in
theorem right_any (A : Option Addr) (n c B : Nat) (l : List Int) (w : World) (hx : Rd w B A (l.map (.int .i64))) (hn : l.length = n) (hb : n ≤ 1000000000) :
    Calls Try.prog 22 #[.slice A n c] w fun e w' => e = .returned (.bool (decide (okW l))) ∧ w = w' := by
  have HN := Lib.hid hn; clear hn
  have HX := Lib.hid hx; clear hx
  go_enter Try.func22, Try.ntmps22
  go_wp2
  go_loopw [7] (fun i wr => ∃ k : Nat, k ≤ n ∧ i = .int .i64 k ∧ Hid (Wts (l.take k)) ∧ w = wr) (fun i _ => n - (intOf i).toNat)
  case atStart => exact ⟨0, by omega, rfl, Lib.hid (by intro x hx; simp at hx), rfl⟩
  case round =>
    obtain ⟨k, hk, rfl, hpre, rfl⟩ := hrel
    by_cases hlt : k < n
    · obtain ⟨x, ad, hxk, rfl, _, hcx⟩ := HX.out.ix (i := k) (by have := HN.out; omega)
      have HXK := Lib.hid hxk; clear hxk
      by_cases h0 : x < 0
      · have hno : ¬ okW l := fun h => by have := (h.1 x (List.mem_of_getElem? HXK.out)).1; omega
        have hf : decide (okW l) = false := by simp [hno]
        have HF := Lib.hid hf; clear hf hno
        go_wp2
        go_ret
        exact ⟨by rw [HF.out]; rfl, rfl⟩
      · by_cases h1 : 4294967296 < x
        · have hno : ¬ okW l := fun h => by have := (h.1 x (List.mem_of_getElem? HXK.out)).2; omega
          have hf : decide (okW l) = false := by simp [hno]
          have HF := Lib.hid hf; clear hf hno
          go_wp2
          go_ret
          exact ⟨by rw [HF.out]; rfl, rfl⟩
        · go_wp2
          go_roundw
          case rel => exact ⟨k + 1, by omega, by go_num, Lib.hid (hpre.out.snoc HXK.out (by omega) (by omega)), trivial⟩
          case measure => simp [intOf]; omega
    · have hw : Wts l := hpre.out.of_take (by have := HN.out; omega)
      have hok : okW l ↔ (0 < n ∧ n ≤ 257) := by
        rw [← HN.out]
        exact ⟨fun h => h.2, fun h => ⟨hw, h⟩⟩
      have HOK := Lib.hid hok; clear hok hw
      by_cases h1 : 0 < n
      · by_cases h2 : n ≤ 257
        · have hf : decide (okW l) = true := by simp [HOK.out, h1, h2]
          have HF := Lib.hid hf; clear hf
          have hdn : decide ((n : Int) ≤ 257) = true := by simp; omega
          go_wp2
          go_ret
          exact ⟨by rw [HF.out]; rfl, rfl⟩
        · have hf : decide (okW l) = false := by simp [HOK.out, h2]
          have HF := Lib.hid hf; clear hf
          have hdn : decide ((n : Int) ≤ 257) = false := by simp; omega
          go_wp2
          go_ret
          exact ⟨by rw [HF.out]; rfl, rfl⟩
      · have hf : decide (okW l) = false := by simp [HOK.out, h1]
        have HF := Lib.hid hf; clear hf
        go_wp2
        go_ret
        exact ⟨by rw [HF.out]; rfl, rfl⟩
open Classical in
theorem rweights_any (A : Option Addr) (n c B : Nat) (l : List Int) (w : World) (hx : Rd w B A (l.map (.int .i64))) (hn : l.length = n) (hb : n ≤ 1000000000) :
    Calls Try.prog 25 #[.slice A n c] w fun e w' => e = .returned (.bool (decide (okW l))) ∧ Dr w w' := by
  have HN := Lib.hid hn; clear hn
  have HX := Lib.hid hx; clear hx
  go_enter Try.func25, Try.ntmps25
  go_wp2
  go_loopw [3] (fun i wr => ∃ k : Nat, k ≤ n ∧ i = .int .i64 k ∧ Hid (Wts (l.take k)) ∧ Dr w wr) (fun i _ => n - (intOf i).toNat)
  case atStart => exact ⟨0, by omega, rfl, Lib.hid (by intro x hx; simp at hx), Dr.refl w⟩
  case round =>
    obtain ⟨k, hk, rfl, hpre, hd⟩ := hrel
    by_cases hlt : k < n
    · obtain ⟨x, ad, hxk, rfl, _, hcx⟩ := (HX.out.kp0 (hd.kp [])).ix (i := k) (by have := HN.out; omega)
      have HXK := Lib.hid hxk; clear hxk
      by_cases h0 : x < 0
      · have hno : ¬ okW l := fun h => by have := (h.1 x (List.mem_of_getElem? HXK.out)).1; omega
        have hf : decide (okW l) = false := by simp [hno]
        have HF := Lib.hid hf; clear hf hno
        go_wp2
        go_ret
        exact ⟨by rw [HF.out]; rfl, hd⟩
      · by_cases h1 : 4294967296 < x
        · have hno : ¬ okW l := fun h => by have := (h.1 x (List.mem_of_getElem? HXK.out)).2; omega
          have hf : decide (okW l) = false := by simp [hno]
          have HF := Lib.hid hf; clear hf hno
          go_wp2
          go_ret
          exact ⟨by rw [HF.out]; rfl, hd⟩
        · go_wp2
          go_roundw
          case rel => exact ⟨k + 1, by omega, by go_num, Lib.hid (hpre.out.snoc HXK.out (by omega) (by omega)), hd⟩
          case measure => simp [intOf]; omega
    · have hw : Wts l := hpre.out.of_take (by have := HN.out; omega)
      have hok : okW l ↔ (0 < n ∧ n ≤ 257) := by
        rw [← HN.out]
        exact ⟨fun h => h.2, fun h => ⟨hw, h⟩⟩
      have HOK := Lib.hid hok; clear hok hw
      by_cases h1 : 0 < n
      · by_cases h2 : n ≤ 257
        · have hf : decide (okW l) = true := by simp [HOK.out, h1, h2]
          have HF := Lib.hid hf; clear hf
          have hdn : decide ((n : Int) ≤ 257) = true := by simp; omega
          go_wp2
          go_ret
          exact ⟨by rw [HF.out]; rfl, hd⟩
        · have hf : decide (okW l) = false := by simp [HOK.out, h2]
          have HF := Lib.hid hf; clear hf
          have hdn : decide ((n : Int) ≤ 257) = false := by simp; omega
          go_wp2
          go_ret
          exact ⟨by rw [HF.out]; rfl, hd⟩
      · have hf : decide (okW l) = false := by simp [HOK.out, h1]
        have HF := Lib.hid hf; clear hf
        go_wp2
        go_ret
        exact ⟨by rw [HF.out]; rfl, hd⟩

/-- The weights as plain numbers. -/
def wt (l : List Int) (k : Nat) : Nat := (l.getD k 0).toNat
def sumsL (l : List Int) (n : Nat) : List Int := (List.range n).map fun k => ((pre (wt l) k : Nat) : Int)
theorem sumsL_succ (l : List Int) (n : Nat) : sumsL l (n + 1) = sumsL l n ++ [((pre (wt l) n : Nat) : Int)] := by simp [sumsL, List.range_succ]
theorem sumsL_len (l : List Int) (n : Nat) : (sumsL l n).length = n := by simp [sumsL]
theorem sumsL_get (l : List Int) {n k : Nat} (h : k < n) : (sumsL l n)[k]? = some ((pre (wt l) k : Nat) : Int) := by simp [sumsL, h]
theorem wt_le {l : List Int} (h : Wts l) (k : Nat) : wt l k ≤ 4294967296 := by
  unfold wt
  rw [List.getD_eq_getElem?_getD]
  cases hk : l[k]? with
  | none => simp
  | some x => have := h x (List.mem_of_getElem? hk); simp; omega
theorem wt_get {l : List Int} (h : Wts l) {k : Nat} {x : Int} (hx : l[k]? = some x) : x = ((wt l k : Nat) : Int) := by
  have := h x (List.mem_of_getElem? hx)
  unfold wt
  rw [List.getD_eq_getElem?_getD, hx]
  simp
  omega
theorem pre_le {l : List Int} (h : Wts l) (k : Nat) : pre (wt l) k ≤ k * 4294967296 := by
  induction k with
  | zero => simp [pre]
  | succ k ih => have := wt_le h k; simp only [pre]; omega

set_option maxHeartbeats 1000000 in
theorem summed_any (A : Option Addr) (n c B : Nat) (l : List Int) (w : World) (hx : Rd w B A (l.map (.int .i64))) (hn : l.length = n) (hb : n ≤ 300) (hw : Wts l) :
    Calls Try.prog 27 #[.slice A n c] w fun e w' => ∃ A' c', e = .returned (.slice A' (n + 1) c') ∧ w'.ownsRow w.heap.size 3 1 (.slice A' (n + 1) c') (n + 1) ((sumsL l (n + 1)).map (.int .i64)) ∧ Kp [] w w' := by
  obtain ⟨i0, hi, hz0, hz1, hz2⟩ := info_parts Try.info_int
  have HN := Lib.hid hn; clear hn
  have HX := Lib.hid hx; clear hx
  have HW := Lib.hid hw; clear hw
  go_enter Try.func27, Try.ntmps27
  go_wp2
  go_loopw [3, 9] (fun s i wr => ∃ k : Nat, k ≤ n ∧ i = .int .i64 k ∧ wr.ownsRow w.heap.size 3 1 s (k + 1) ((sumsL l (k + 1)).map (.int .i64)) ∧ Kp [] w wr) (fun _ i _ => n - (intOf i).toNat)
  case atStart => exact ⟨0, by omega, rfl, own_of_blk (xs := [.int .i64 0]) (rest := []) (Blk.new w 3 [.int .i64 0]) (Nat.le_refl _) (Nat.le_refl _) (by unfold maxLen; omega) rfl rfl, (Kp.refl [] w).alloc _⟩
  case round =>
    obtain ⟨k, hk, rfl, hown, hkp⟩ := hrel
    obtain ⟨A1, c1, rfl, hc1, _⟩ := own_form hown
    by_cases hlt : k < n
    · obtain ⟨x, ad, hxk, rfl, _, hcx⟩ := (HX.out.kp0 hkp).ix (i := k) (by have := HN.out; omega)
      obtain ⟨b, rfl, hbb⟩ : ∃ b : Nat, x = (b : Int) ∧ b ≤ 4294967296 := ⟨wt l k, wt_get HW.out hxk, wt_le HW.out k⟩
      obtain ⟨a, ha⟩ : ∃ a, a = pre (wt l) k := ⟨_, rfl⟩
      have hab : a ≤ 300 * 4294967296 := by
        have := pre_le HW.out k
        have : k * 4294967296 ≤ 300 * 4294967296 := Nat.mul_le_mul_right _ (by omega)
        omega
      obtain ⟨bd, rfl, _, hcl⟩ := (own_rd hown).at_ (i := k) (u := .int .i64 (a : Int)) (by rw [List.getElem?_map, sumsL_get l (by omega), ha]; rfl)
      have hnext : ((a : Int) + (b : Int)) = ((pre (wt l) (k + 1) : Nat) : Int) := by
        have := wt_get HW.out hxk
        simp only [pre]
        omega
      have HNX := Lib.hid hnext; clear hnext ha
      have HXK := Lib.hid hxk; clear hxk
      have HO := Lib.hid hown; clear hown
      have HK := Lib.hid hkp; clear hkp
      go_wp2_with (at_builtin; go_loud (refine wpList_append_rd rfl (.tmp 13) (.tmp 22) 45 rfl w.heap.size 3 i0 (.int .i64 0) 1 8 Try.underlying45 hi hz0 hz1 hz2 rfl (by decide) _ (k + 1) _ rfl (HO.out.alloc _) _ _ 1 1 [.int .i64 ((a : Int) + (b : Int))] rfl rfl (Rd.new wr _ _ _) (by simp [Value.oneCell']) (by unfold maxLen; omega) (by omega) (by have := HK.out.size; simp; omega) ?_); intro v2 w2 hown2 hgrow2 hat2)
      refine ⟨⟨k + 1, by omega, by go_num, ?_, (HK.out.alloc _).grown hgrow2 (fun g hg => .inr (own_ge HO.out hg).1)⟩, by simp [intOf]; omega⟩
      rw [sumsL_succ, List.map_append, ← HNX.out]
      exact hown2
    · obtain rfl : k = n := by omega
      have HO := Lib.hid hown; clear hown
      have HK := Lib.hid hkp; clear hkp
      go_wp2
      go_ret
      exact ⟨A1, c1, rfl, HO.out, HK.out⟩
end Go.Proofs.Ythidmpllganmnaa
