/-
  LAYER 1: a vector's bytes.
  CONDITIONS: as each says.
-/
import Derived.Test.YtldmabkilgpgcaaBmk
namespace Go.Proofs.Ytldmabkilgpgcaa
open Go.RowKit

def bytesN (N : Nat) (k : Nat) : List Int := (List.range k).map fun i => ((N / 2 ^ (8 * i) % 256 : Nat) : Int)
theorem bytesN_succ (N k : Nat) : bytesN N (k + 1) = bytesN N k ++ [((N / 2 ^ (8 * k) % 256 : Nat) : Int)] := by simp [bytesN, List.range_succ]

set_option maxHeartbeats 1000000 in
theorem vbytes_any (S : List Nat) (p : Nat) (bs : List Bool) (c0 : Bool) (w : World) (h : VecM w S p bs c0) :
    Calls Try.prog 46 #[.pointer (some ⟨p, 0, none⟩)] w fun e w' => ∃ A m c, m = (bs.length + 7) / 8 ∧ e = .returned (.slice A m c) ∧ w'.ownsRow w.heap.size 5 1 (.slice A m c) m ((bytesN (bitN bs) m).map (.int .u8)) ∧ Kp [] w w' := by
  obtain ⟨i0, hi, hz0, hz1, hz2⟩ := info_parts Try.info_u8
  obtain ⟨n, hn⟩ : ∃ n, n = bs.length := ⟨_, rfl⟩
  have HH := Lib.hid h
  obtain ⟨g, ws, A0, na, ca, av, h1, h2, h3, h4, h5, h6, _, _, _⟩ := h
  rw [← hn] at h4 h6
  have hw2 : IntKind.i64.wrap ((n : Int) + 7) = ((n + 7 : Nat) : Int) := by rw [IntKind.wrap_i64]; omega
  obtain ⟨m, hm⟩ : ∃ m, m = (n + 7) / 8 := ⟨_, rfl⟩
  have hw3 : Int.tdiv ((n : Int) + 7) 8 = (m : Int) := by rw [Int.tdiv_eq_ediv_of_nonneg (by omega)]; omega
  have hwm : IntKind.i64.wrap (m : Int) = (m : Int) := by rw [IntKind.wrap_i64]; omega
  have hmb : m ≤ 3000000 := by omega
  have HM := Lib.hid (show m = (bs.length + 7) / 8 by rw [hm, hn])
  have HW := Lib.hid (show Blk w g 100 (wordsV ws) from h2)
  have HR := Lib.hid h1
  have HLT := Lib.hid h3
  have HNM := Lib.hid h5
  obtain ⟨u, hu⟩ : ∃ u, u = ws.length := ⟨_, rfl⟩
  have HU := Lib.hid hu
  have hmu : m ≤ 8 * u := by rw [hu, h4, hm]; omega
  have HN := Lib.hid hn.symm
  clear h1 h2 h3 h4 h5 h6 hm hn hu
  go_enter Try.func46, Try.ntmps46
  go_wp2_with fail
  refine (vlen_any S p n bs c0 w HH.out HN.out).mono ?_
  rintro e w1 ⟨rfl, rfl⟩
  go_wp2_with fail
  go_loopw [2, 8] (fun y x wr => ∃ (k c1 : Nat) (A1 : Option Addr), x = .int .i64 (k : Int) ∧ y = .slice A1 k c1 ∧ k ≤ m ∧ Hid (wr.ownsRow w.heap.size 5 1 (.slice A1 k c1) k ((bytesN (bitN bs) k).map (.int .u8))) ∧ Hid (Kp [] w wr)) (fun _ x _ => m - (intOf x).toNat)
  case atStart => exact ⟨0, 0, none, rfl, rfl, by omega, Lib.hid ⟨rfl, .inl ⟨rfl, rfl⟩⟩, Lib.hid (Kp.refl [] w)⟩
  case round =>
    obtain ⟨k, c1, A1, rfl, rfl, hk, HO, HK⟩ := hrel
    by_cases hlt : k < m
    · have c0 : wr.cell? ⟨p, 0, none⟩ = some (.slice (some ⟨g, 0, none⟩) u u) := by rw [(HR.out.kp0 HK.out).cell, HU.out]; rfl
      obtain ⟨q, hq⟩ : ∃ q, q = k / 8 := ⟨_, rfl⟩
      obtain ⟨r, hr⟩ : ∃ r, r = k % 8 := ⟨_, rfl⟩
      have hdiv : (k : Int).tdiv 8 = (q : Int) := by rw [Int.tdiv_eq_ediv_of_nonneg (by omega)]; omega
      have hmod : (k : Int).tmod 8 = (r : Int) := by rw [Int.tmod_eq_emod_of_nonneg (by omega)]; omega
      have hwq : IntKind.i64.wrap (q : Int) = (q : Int) := by rw [IntKind.wrap_i64]; omega
      have hwr : IntKind.i64.wrap (r : Int) = (r : Int) := by rw [IntKind.wrap_i64]; omega
      have hqu : q < u := by omega
      obtain ⟨r8, hr8⟩ : ∃ r8, r8 = r * 8 := ⟨_, rfl⟩
      have hw8 : IntKind.i64.wrap ((r : Int) * 8) = (r8 : Int) := by rw [IntKind.wrap_i64]; omega
      have hr864 : r8 < 64 := by omega
      obtain ⟨x, hx⟩ : ∃ x, ws[q]? = some x := ⟨_, List.getElem?_eq_getElem (by rw [← HU.out]; exact hqu)⟩
      have cx : wr.cell? ⟨g, q, none⟩ = some (.int .u64 (x : Int)) := by rw [(HW.out.kp0 HK.out).cell]; exact wordsV_get hx
      obtain ⟨X, hX⟩ : ∃ X, X = x / 2 ^ r8 := ⟨_, rfl⟩
      have hdx : (x : Int) / 2 ^ r8 = (X : Int) := by rw [hX]; simp
      have hdx' : (x : Int) / 2 ^ min r8 64 = (X : Int) := by rw [show min r8 64 = r8 from by omega]; exact hdx
      obtain ⟨V, hV⟩ : ∃ V, V = X % 256 := ⟨_, rfl⟩
      have hwV : IntKind.u8.wrap (X : Int) = (V : Int) := by
        have : IntKind.u8.wrap (X : Int) = (X : Int) % 256 := by simp [IntKind.wrap, IntKind.signed, IntKind.bits]
        rw [this, hV]; omega
      have HVAL := Lib.hid (show bitN bs / 2 ^ (8 * k) % 256 = V by
        have := num_get (wd := 8) (r := r8) HLT.out hx (by omega)
        rw [← HNM.out, show 8 * k = 64 * q + r8 from by omega]
        rw [hV, hX]
        exact this)
      have HRX := Lib.hid (show Rd (wr.alloc (.cells #[.int .u8 (V : Int)] 5)) (wr.heap.size + 1) (some ⟨wr.heap.size, 0, none⟩) [.int .u8 (V : Int)] from Rd.new wr #[.int .u8 (V : Int)] 5 (0, 0))
      clear hq hr hr8 hx hX hV
      go_wp2_with (at_builtin; go_loud (refine wpList_append_rd rfl (.tmp 11) (.tmp 26) 38 rfl w.heap.size 5 i0 (.int .u8 0) 1 1 Try.underlying38 hi hz0 hz1 hz2 rfl (by decide) _ k _ rfl (own_kp0 HO.out ((Kp.refl [] _).alloc _)) _ _ 1 1 [.int .u8 (V : Int)] rfl rfl HRX.out (by simp [Value.oneCell']) (by unfold maxLen; omega) (by omega) (Nat.le_trans HK.out.size (by simp)) ?_); intro v2 w2 hown2 hgrow2 hat2
                   obtain ⟨A3, c3, rfl, _⟩ := own_form hown2
                   have HK2 := Lib.hid ((HK.out.alloc (.cells #[.int .u8 (V : Int)] 5)).grown hgrow2 (fun g hg => .inr (own_ge HO.out hg).1))
                   have HO2 := Lib.hid hown2
                   clear hown2 hgrow2 hat2)
      exact ⟨⟨k + 1, c3, A3, by go_num, rfl, by omega, Lib.hid (by rw [bytesN_succ, List.map_append, HVAL.out]; exact HO2.out), HK2⟩, by simp [intOf]; omega⟩
    · obtain rfl : m = k := by omega
      go_wp2_with fail
      go_ret
      exact ⟨A1, m, c1, HM.out, rfl, HO.out, HK.out⟩
end Go.Proofs.Ytldmabkilgpgcaa
