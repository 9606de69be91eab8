/-
  THE CONTRACTS OF LAYER 2, sixth part: all numbers of a row; a place that is none; a row of the least width.
  CONDITIONS: as each says.
-/
import Derived.Test.YtlkgepojjjcaoaaPleast
namespace Go.Proofs.Ytlkgepojjjcaoaa
open Go.RowKit

def intsN (ls : List Nat) : List Int := ls.map fun x => ((x : Nat) : Int)
theorem intsN_snoc (ls : List Nat) (x : Nat) : intsN (ls ++ [x]) = intsN ls ++ [(x : Int)] := by simp [intsN]

set_option maxHeartbeats 1000000 in
theorem rall_any (b p wd : Nat) (ls : List Nat) (w : World) (h : RowM w b p wd ls) :
    Calls Try.prog 32 #[.pointer (some ⟨p, 0, none⟩)] w fun e w' => ∃ A m c, m = ls.length ∧ e = .returned (.slice A m c) ∧ w'.ownsRow w.heap.size 3 1 (.slice A m c) m ((intsN ls).map (.int .i64)) ∧ Kp [] w w' := by
  obtain ⟨i0, hi, hz0, hz1, hz2⟩ := info_parts Try.info_int
  obtain ⟨n, hn⟩ : ∃ n, n = ls.length := ⟨_, rfl⟩
  obtain ⟨_, _, d1, d2, d3⟩ := h.cells
  have hnb : n ≤ 16777216 := by
    rw [hn]
    refine Nat.le_trans ?_ d3
    exact Nat.le_mul_of_pos_left _ d1
  have HH := Lib.hid h; clear h
  have HN := Lib.hid hn; clear hn
  clear d1 d2 d3
  go_enter Try.func32, Try.ntmps32
  go_wp2_with fail
  refine (rlen_any b p wd n ls w HH.out HN.out.symm).mono ?_
  rintro e w1 ⟨rfl, rfl⟩
  go_wp2_with fail
  go_loopw [2, 6] (fun y x wr => ∃ (k c1 : Nat) (A1 : Option Addr), x = .int .i64 (k : Int) ∧ y = .slice A1 k c1 ∧ k ≤ n ∧ Hid (wr.ownsRow w.heap.size 3 1 (.slice A1 k c1) k ((intsN (ls.take k)).map (.int .i64))) ∧ Hid (Kp [] w wr)) (fun _ x _ => n - (intOf x).toNat)
  case atStart => exact ⟨0, 0, none, rfl, rfl, by omega, Lib.hid ⟨rfl, .inl ⟨rfl, rfl⟩⟩, Lib.hid (Kp.refl [] w)⟩
  case round =>
    obtain ⟨k, c1, A1, rfl, rfl, hk, HO, HK⟩ := hrel
    by_cases hlt : k < n
    · obtain ⟨x, hx⟩ : ∃ x, ls[k]? = some x := ⟨_, List.getElem?_eq_getElem (by rw [← HN.out]; exact hlt)⟩
      have HXK := Lib.hid hx; clear hx
      go_wp2_with fail
      refine (rat_any b p wd k x ls wr (HH.out.kp0 HK.out) HXK.out).mono ?_
      rintro e w3 ⟨rfl, hd3⟩
      have HK3 := Lib.hid (HK.out.trans (hd3.kp []))
      have HO3 := Lib.hid (own_kp0 HO.out (hd3.kp [])); clear hd3 HO HK
      have HRX := Lib.hid (show Rd (w3.alloc (.cells #[.int .i64 (x : Int)] 3)) (w3.heap.size + 1) (some ⟨w3.heap.size, 0, none⟩) [.int .i64 (x : Int)] from Rd.new w3 #[.int .i64 (x : Int)] 3 (0, 0))
      go_wp2_with (at_builtin; go_loud (refine wpList_append_rd rfl (.tmp 9) (.tmp 13) 22 rfl w.heap.size 3 i0 (.int .i64 0) 1 8 Try.underlying22 hi hz0 hz1 hz2 rfl (by decide) _ k _ rfl (own_kp0 HO3.out ((Kp.refl [] _).alloc _)) _ _ 1 1 [.int .i64 (x : Int)] rfl rfl HRX.out (by simp [Value.oneCell']) (by unfold maxLen; omega) (by omega) (Nat.le_trans HK3.out.size (by simp)) ?_); intro v4 w4 hown4 hgrow4 hat4
                   obtain ⟨A4, c4, rfl, _⟩ := own_form hown4
                   have HK4 := Lib.hid ((HK3.out.alloc (.cells #[.int .i64 (x : Int)] 3)).grown hgrow4 (fun g hg => .inr (own_ge HO3.out hg).1))
                   have HO4 := Lib.hid hown4
                   clear hown4 hgrow4 hat4)
      exact ⟨⟨k + 1, c4, A4, by go_num, rfl, by omega, Lib.hid (by rw [take_succ_of HXK.out, intsN_snoc, List.map_append]; exact HO4.out), HK4⟩, by simp [intOf]; omega⟩
    · obtain rfl : n = k := by omega
      go_wp2_with fail
      go_ret
      refine ⟨A1, n, c1, HN.out, rfl, ?_, HK.out⟩
      have := HO.out
      rwa [List.take_of_length_le (by rw [HN.out]; exact Nat.le_refl _)] at this

theorem rAt_out (b p wd n : Nat) (i : Int) (ls : List Nat) (w : World) (h : RowM w b p wd ls) (hn : ls.length = n) (hi : i < 0 ∨ (n : Int) ≤ i) :
    Calls Try.prog 30 #[.pointer (some ⟨p, 0, none⟩), .int .i64 i] w fun e w' => e = .returned (.tuple #[.int .i64 0, .bool false]) ∧ w = w' := by
  have HH := Lib.hid h; clear h
  have HN := Lib.hid hn; clear hn
  by_cases h0 : i < 0
  · clear hi
    go_enter Try.func30, Try.ntmps30
    go_wp2_with fail
    go_ret2
    exact ⟨rfl, rfl⟩
  · have h1 : (n : Int) ≤ i := by omega
    clear hi
    go_enter Try.func30, Try.ntmps30
    go_wp2_with fail
    refine (rlen_any b p wd n ls w HH.out HN.out).mono ?_
    rintro e w1 ⟨rfl, rfl⟩
    go_wp2_with fail
    go_ret2
    exact ⟨rfl, rfl⟩

open Classical in
noncomputable def ofE (l : List Int) : Int := if okN l then newE (wideF 1 l) l else 2
set_option maxRecDepth 100000 in
set_option maxHeartbeats 1000000 in
theorem of_any (A : Option Addr) (n c B : Nat) (l : List Int) (w : World) (hx : Rd w B A (l.map (.int .i64))) (hn : l.length = n) (hb : n ≤ 1000000000) (hs : Small l) :
    Calls Try.prog 16 #[.slice A n c] w fun e w' => Kp [] w w' ∧ ((ofE l ≠ 0 ∧ e = .returned (.tuple #[.pointer none, .int .i64 (ofE l)])) ∨
      (ofE l = 0 ∧ okN l ∧ ∃ p, e = .returned (.tuple #[.pointer (some ⟨p, 0, none⟩), .int .i64 0]) ∧ RowM w' w.heap.size p (wideF 1 l) (l.map Int.toNat))) := by
  have HX := Lib.hid hx; clear hx
  have HN := Lib.hid hn; clear hn
  have HS := Lib.hid hs; clear hs
  go_enter Try.func16, Try.ntmps16
  go_wp2_with fail
  refine (width_any A n c B l w HX.out HN.out hb HS.out).mono ?_
  rintro e w1 ⟨rfl, rfl⟩
  by_cases hok : okN l
  · rw [wideL_ok hok, wideE_ok hok]
    have HE := Lib.hid (show ofE l = newE (wideF 1 l) l by unfold ofE; rw [if_pos hok])
    have HOK := Lib.hid hok; clear hok
    obtain ⟨W, hW⟩ : ∃ W, W = wideF 1 l := ⟨_, rfl⟩
    rw [← hW] at HE ⊢
    have HW := Lib.hid hW; clear hW
    go_wp2_with fail
    refine (new_any W A n c B l w HX.out HN.out hb HS.out).mono ?_
    rintro e w2 ⟨hk2, ⟨hne, rfl⟩ | ⟨hz, _, p, rfl, hrow⟩⟩
    · go_wp2_with fail
      go_ret2
      exact ⟨hk2, .inl ⟨by rw [HE.out]; exact hne, by rw [HE.out]; rfl⟩⟩
    · rw [Int.toNat_natCast] at hrow
      have HROW := Lib.hid hrow; clear hrow
      go_wp2_with fail
      go_ret2
      exact ⟨hk2, .inr ⟨by rw [HE.out]; exact hz, HOK.out, p, rfl, by rw [← HW.out]; exact HROW.out⟩⟩
  · rw [wideL_no hok, wideE_no hok]
    have HE := Lib.hid (show ofE l = 2 by unfold ofE; rw [if_neg hok])
    clear hok
    go_wp2_with fail
    go_ret2
    exact ⟨Kp.refl [] w, .inl ⟨by rw [HE.out]; decide, by rw [HE.out]; rfl⟩⟩
end Go.Proofs.Ytlkgepojjjcaoaa
