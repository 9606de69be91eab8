/-
  THE CONTRACTS OF LAYER 2, fifth part: what a row tells.
  CONDITIONS: as each says.
-/
import Derived.Test.YtlkgepojjjcaoaaPnew2
import Derived.Deep.QuietTactic
namespace Go.Proofs.Ytlkgepojjjcaoaa
open Go.RowKit

theorem RowM.kp0 {w w' : World} {b p wd : Nat} {ls : List Nat} (h : RowM w b p wd ls) (hk : Kp [] w w') : RowM w' b p wd ls := by
  obtain ⟨g, ws, h1, h2, h3⟩ := h
  exact ⟨g, ws, h1.kp0 hk, h2.kp0 hk, h3⟩
theorem RowM.cells {w : World} {b p wd : Nat} {ls : List Nat} (h : RowM w b p wd ls) : w.cell? ⟨p, 1, none⟩ = some (.int .i64 (wd : Int)) ∧ w.cell? ⟨p, 2, none⟩ = some (.int .i64 (ls.length : Int)) ∧ 1 ≤ wd ∧ wd ≤ 60 ∧ wd * ls.length ≤ 16777216 := by
  obtain ⟨g, ws, h1, _, _, _, _, _, he, _⟩ := h
  have := errRow_ok he
  exact ⟨by rw [h1.cell]; rfl, by rw [h1.cell]; rfl, this⟩

theorem there_any (b p wd : Nat) (ls : List Nat) (w : World) (h : RowM w b p wd ls) :
    Calls Try.prog 40 #[.pointer (some ⟨p, 0, none⟩)] w fun e w' => e = .returned (.bool true) ∧ w = w' := by
  obtain ⟨c1, c2, h1, h2, h3⟩ := h.cells
  have hd : decide (0 < wd) = true := by simp; omega
  clear h3
  go_enter Try.func40, Try.ntmps40
  go_wp2_with fail
  go_ret
  exact ⟨rfl, rfl⟩
theorem rlen_any (b p wd n : Nat) (ls : List Nat) (w : World) (h : RowM w b p wd ls) (hn : ls.length = n) :
    Calls Try.prog 28 #[.pointer (some ⟨p, 0, none⟩)] w fun e w' => e = .returned (.int .i64 (n : Int)) ∧ w = w' := by
  obtain ⟨c1, c2, h1, h2, h3⟩ := h.cells
  rw [hn] at c2
  clear h3
  go_enter Try.func28, Try.ntmps28
  go_wp2_with fail
  refine (there_any b p wd ls w h).mono ?_
  rintro e w1 ⟨rfl, rfl⟩
  go_wp2_with fail
  go_ret
  exact ⟨rfl, rfl⟩
theorem rwide_any (b p wd : Nat) (ls : List Nat) (w : World) (h : RowM w b p wd ls) :
    Calls Try.prog 12 #[.pointer (some ⟨p, 0, none⟩)] w fun e w' => e = .returned (.int .i64 (wd : Int)) ∧ w = w' := by
  obtain ⟨c1, c2, h1, h2, h3⟩ := h.cells
  clear h3
  go_enter Try.func12, Try.ntmps12
  go_wp2_with fail
  refine (there_any b p wd ls w h).mono ?_
  rintro e w1 ⟨rfl, rfl⟩
  go_wp2_with fail
  go_ret
  exact ⟨rfl, rfl⟩

set_option maxHeartbeats 1000000 in
theorem rat_any (b p wd i x : Nat) (ls : List Nat) (w : World) (h : RowM w b p wd ls) (hx : ls[i]? = some x) :
    Calls Try.prog 45 #[.pointer (some ⟨p, 0, none⟩), .int .i64 i] w fun e w' => e = .returned (.int .i64 (x : Int)) ∧ Dr w w' := by
  obtain ⟨g, ws, h1, h2, h3, h4, h5, h6, he, _⟩ := h
  obtain ⟨d1, d2, d3⟩ := errRow_ok he
  have hil : i < ls.length := (List.getElem?_eq_some_iff.1 hx).1
  have c0 : w.cell? ⟨p, 0, none⟩ = some (.slice (some ⟨g, 0, none⟩) ws.length ws.length) := by rw [h1.cell]; rfl
  have c1 : w.cell? ⟨p, 1, none⟩ = some (.int .i64 (wd : Int)) := by rw [h1.cell]; rfl
  have hiw : wd * (i + 1) ≤ wd * ls.length := Nat.mul_le_mul_left _ hil
  obtain ⟨T, hT⟩ : ∃ T, T = wd * i := ⟨_, rfl⟩
  have hTw : T + wd ≤ 64 * ws.length := by rw [Nat.mul_add, Nat.mul_one, ← hT] at hiw; omega
  have hmul : (i : Int) * (wd : Int) = (T : Int) := by rw [hT, Nat.mul_comm]; exact (Int.natCast_mul i wd).symm
  have hwT : IntKind.i64.wrap ((i : Int) * (wd : Int)) = (T : Int) := by rw [hmul, IntKind.wrap_i64]; omega
  have hval : num ws / 2 ^ T % 2 ^ wd = x := by rw [h5, hT]; exact packN_get h6 hx
  have hxb : x < 2 ^ 60 := Nat.lt_of_lt_of_le (h6 x (List.mem_of_getElem? hx)) (Nat.pow_le_pow_right (by omega) d2)
  have hwx : IntKind.i64.wrap (x : Int) = (x : Int) := by rw [IntKind.wrap_i64]; omega
  obtain ⟨m, hm⟩ : ∃ m, m = ws.length := ⟨_, rfl⟩
  rw [← hm] at c0 hTw
  have HG := Lib.hid (show ∀ nq, Calls Try.prog 49 #[.slice (some ⟨g, 0, none⟩) m m, .int .i64 T, .int .i64 wd] (w.drewN nq) fun e w' => e = .returned (.int .u64 (x : Int)) ∧ w.drewN nq = w' from fun nq => by
    have := get_any g m m T wd ws (w.drewN nq) (h2.drewN nq) hm.symm h3 hTw d1 d2 (by omega)
    rw [hval] at this
    exact this)
  clear h1 h2 h3 h4 h5 h6 he hx hil hiw hT hTw hmul hval hxb hm d3
  go_enter Try.func45, Try.ntmps45
  go_wp2_with fail
  go_quiet ((go_at_call 49; exact quiet_eq (HG.out _)))
  go_wp2_with fail
  go_ret
  exact ⟨rfl, (Dr.refl w).drewN _⟩

set_option maxHeartbeats 1000000 in
theorem rAt_any (b p wd i x : Nat) (ls : List Nat) (w : World) (h : RowM w b p wd ls) (hx : ls[i]? = some x) :
    Calls Try.prog 30 #[.pointer (some ⟨p, 0, none⟩), .int .i64 i] w fun e w' => e = .returned (.tuple #[.int .i64 (x : Int), .bool true]) ∧ Dr w w' := by
  have hil : i < ls.length := (List.getElem?_eq_some_iff.1 hx).1
  obtain ⟨n, hn⟩ : ∃ n, n = ls.length := ⟨_, rfl⟩
  rw [← hn] at hil
  have HH := Lib.hid h; clear h
  have HX := Lib.hid hx; clear hx
  have HN := Lib.hid hn; clear hn
  go_enter Try.func30, Try.ntmps30
  go_wp2_with fail
  refine (rlen_any b p wd n ls w HH.out HN.out.symm).mono ?_
  rintro e w1 ⟨rfl, rfl⟩
  go_wp2_with fail
  refine (rat_any b p wd i x ls w HH.out HX.out).mono ?_
  rintro e w1 ⟨rfl, hd⟩
  have HD := Lib.hid hd; clear hd
  go_wp2_with fail
  go_ret2
  exact ⟨rfl, HD.out⟩

/-- A number's bytes. -/
def bytesN (N : Nat) (k : Nat) : List Int := (List.range k).map fun i => ((N / 2 ^ (8 * i) % 256 : Nat) : Int)
theorem bytesN_succ (N k : Nat) : bytesN N (k + 1) = bytesN N k ++ [((N / 2 ^ (8 * k) % 256 : Nat) : Int)] := by simp [bytesN, List.range_succ]

set_option maxHeartbeats 1000000 in
theorem rbytes_any (b p wd : Nat) (ls : List Nat) (w : World) (h : RowM w b p wd ls) :
    Calls Try.prog 27 #[.pointer (some ⟨p, 0, none⟩)] w fun e w' => ∃ A m c, m = (wd * ls.length + 7) / 8 ∧ e = .returned (.slice A m c) ∧ w'.ownsRow w.heap.size 5 1 (.slice A m c) m ((bytesN (packN wd ls) m).map (.int .u8)) ∧ Kp [] w w' := by
  obtain ⟨i0, hi, hz0, hz1, hz2⟩ := info_parts Try.info_u8
  obtain ⟨n, hn⟩ : ∃ n, n = ls.length := ⟨_, rfl⟩
  have HH := Lib.hid h
  obtain ⟨g, ws, h1, h2, h3, h4, h5, h6, he, _⟩ := h
  obtain ⟨d1, d2, d3⟩ := errRow_ok he
  rw [← hn] at d3 h4
  obtain ⟨P, hP⟩ : ∃ P, P = wd * n := ⟨_, rfl⟩
  rw [← hP] at d3 h4
  have hmul : (n : Int) * (wd : Int) = (P : Int) := by rw [hP, Nat.mul_comm]; exact (Int.natCast_mul n wd).symm
  have hw1 : IntKind.i64.wrap ((n : Int) * (wd : Int)) = (P : Int) := by rw [hmul, IntKind.wrap_i64]; omega
  have hw2 : IntKind.i64.wrap ((P : Int) + 7) = ((P + 7 : Nat) : Int) := by rw [IntKind.wrap_i64]; omega
  obtain ⟨m, hm⟩ : ∃ m, m = (P + 7) / 8 := ⟨_, rfl⟩
  have hw3 : Int.tdiv ((P : Int) + 7) 8 = (m : Int) := by rw [Int.tdiv_eq_ediv_of_nonneg (by omega)]; omega
  have hwm : IntKind.i64.wrap (m : Int) = (m : Int) := by rw [IntKind.wrap_i64]; omega
  have hmb : m ≤ 3000000 := by omega
  have HM := Lib.hid (show m = (wd * ls.length + 7) / 8 by rw [hm, hP, hn])
  have HW := Lib.hid (show Blk w g 64 (wordsV ws) from h2)
  have HR := Lib.hid h1
  have HLT := Lib.hid h3
  have HNM := Lib.hid h5
  obtain ⟨u, hu⟩ : ∃ u, u = ws.length := ⟨_, rfl⟩
  have HU := Lib.hid hu
  have hmu : m ≤ 8 * u := by rw [hu, h4, hm]; omega
  have HN := Lib.hid hn
  clear h1 h2 h3 h4 h5 h6 he hmul hm hP hn hu d3
  go_enter Try.func27, Try.ntmps27
  go_wp2_with fail
  refine (rlen_any b p wd n ls w HH.out HN.out.symm).mono ?_
  rintro e w1 ⟨rfl, rfl⟩
  go_wp2_with fail
  refine (rwide_any b p wd ls w HH.out).mono ?_
  rintro e w1 ⟨rfl, rfl⟩
  go_wp2_with fail
  go_loopw [2, 11] (fun y x wr => ∃ (k c1 : Nat) (A1 : Option Addr), x = .int .i64 (k : Int) ∧ y = .slice A1 k c1 ∧ k ≤ m ∧ Hid (wr.ownsRow w.heap.size 5 1 (.slice A1 k c1) k ((bytesN (packN wd ls) k).map (.int .u8))) ∧ Hid (Kp [] w wr)) (fun _ x _ => m - (intOf x).toNat)
  case atStart => exact ⟨0, 0, none, rfl, rfl, by omega, Lib.hid ⟨rfl, .inl ⟨rfl, rfl⟩⟩, Lib.hid (Kp.refl [] w)⟩
  case round =>
    obtain ⟨k, c1, A1, rfl, rfl, hk, HO, HK⟩ := hrel
    by_cases hlt : k < m
    · have c0 : wr.cell? ⟨p, 0, none⟩ = some (.slice (some ⟨g, 0, none⟩) u u) := by rw [(HR.out.kp0 HK.out).cell, HU.out]; rfl
      obtain ⟨q, hq⟩ : ∃ q, q = k / 8 := ⟨_, rfl⟩
      obtain ⟨r, hr⟩ : ∃ r, r = k % 8 := ⟨_, rfl⟩
      have hdiv : (k : Int).tdiv 8 = (q : Int) := by rw [Int.tdiv_eq_ediv_of_nonneg (by omega)]; omega
      have hmod : (k : Int).tmod 8 = (r : Int) := by rw [Int.tmod_eq_emod_of_nonneg (by omega)]; omega
      have hwq : IntKind.i64.wrap (q : Int) = (q : Int) := by rw [IntKind.wrap_i64]; omega
      have hwr : IntKind.i64.wrap (r : Int) = (r : Int) := by rw [IntKind.wrap_i64]; omega
      have hqu : q < u := by omega
      obtain ⟨r8, hr8⟩ : ∃ r8, r8 = r * 8 := ⟨_, rfl⟩
      have hw8 : IntKind.i64.wrap ((r : Int) * 8) = (r8 : Int) := by rw [IntKind.wrap_i64]; omega
      have hr864 : r8 < 64 := by omega
      obtain ⟨x, hx⟩ : ∃ x, ws[q]? = some x := ⟨_, List.getElem?_eq_getElem (by rw [← HU.out]; exact hqu)⟩
      have cx : wr.cell? ⟨g, q, none⟩ = some (.int .u64 (x : Int)) := by rw [(HW.out.kp0 HK.out).cell]; exact wordsV_get hx
      obtain ⟨X, hX⟩ : ∃ X, X = x / 2 ^ r8 := ⟨_, rfl⟩
      have hdx : (x : Int) / 2 ^ r8 = (X : Int) := by rw [hX]; simp
      have hdx' : (x : Int) / 2 ^ min r8 64 = (X : Int) := by rw [show min r8 64 = r8 from by omega]; exact hdx
      obtain ⟨V, hV⟩ : ∃ V, V = X % 256 := ⟨_, rfl⟩
      have hwV : IntKind.u8.wrap (X : Int) = (V : Int) := by
        have : IntKind.u8.wrap (X : Int) = (X : Int) % 256 := by simp [IntKind.wrap, IntKind.signed, IntKind.bits]
        rw [this, hV]; omega
      have HVAL := Lib.hid (show packN wd ls / 2 ^ (8 * k) % 256 = V by
        have := num_get (wd := 8) (r := r8) HLT.out hx (by omega)
        rw [← HNM.out, show 8 * k = 64 * q + r8 from by omega]
        rw [hV, hX]
        exact this)
      have HRX := Lib.hid (show Rd (wr.alloc (.cells #[.int .u8 (V : Int)] 5)) (wr.heap.size + 1) (some ⟨wr.heap.size, 0, none⟩) [.int .u8 (V : Int)] from Rd.new wr #[.int .u8 (V : Int)] 5 (0, 0))
      clear hq hr hr8 hx hX hV
      go_wp2_with (at_builtin; go_loud (refine wpList_append_rd rfl (.tmp 14) (.tmp 28) 43 rfl w.heap.size 5 i0 (.int .u8 0) 1 1 Try.underlying43 hi hz0 hz1 hz2 rfl (by decide) _ k _ rfl (own_kp0 HO.out ((Kp.refl [] _).alloc _)) _ _ 1 1 [.int .u8 (V : Int)] rfl rfl HRX.out (by simp [Value.oneCell']) (by unfold maxLen; omega) (by omega) (Nat.le_trans HK.out.size (by simp)) ?_); intro v2 w2 hown2 hgrow2 hat2
                   obtain ⟨A3, c3, rfl, _⟩ := own_form hown2
                   have HK2 := Lib.hid ((HK.out.alloc (.cells #[.int .u8 (V : Int)] 5)).grown hgrow2 (fun g hg => .inr (own_ge HO.out hg).1))
                   have HO2 := Lib.hid hown2
                   clear hown2 hgrow2 hat2)
      exact ⟨⟨k + 1, c3, A3, by go_num, rfl, by omega, Lib.hid (by rw [bytesN_succ, List.map_append, HVAL.out]; exact HO2.out), HK2⟩, by simp [intOf]; omega⟩
    · obtain rfl : m = k := by omega
      go_wp2_with fail
      go_ret
      exact ⟨A1, m, c1, HM.out, rfl, HO.out, HK.out⟩
end Go.Proofs.Ytlkgepojjjcaoaa
