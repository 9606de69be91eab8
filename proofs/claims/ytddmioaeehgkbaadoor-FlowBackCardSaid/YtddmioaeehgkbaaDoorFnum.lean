/-
  LAYER 3: Number, Gamma, Vec of the writer.
  CONDITIONS: as each says.
-/
import Derived.Test.YtddmioaeehgkbaaDoorFeach
import Derived.Deep.QuietTactic
import Derived.BigQuiet
namespace Go.Proofs.YtddmioaeehgkbaaDoor
open Go.RowKit

theorem okD_nat (M n : Nat) : okD (M : Int) (n : Int) = decide (bl n ≤ M) := by
  unfold okD
  rw [Int.toNat_natCast, decide_eq_true (by omega : (0 : Int) ≤ (n : Int)), Bool.true_and]
  by_cases h : bl n ≤ M
  · rw [decide_eq_true h, decide_eq_true (by omega)]
  · rw [decide_eq_false h, decide_eq_false (by omega)]
theorem okD_neg {m x : Int} (h : x < 0) : okD m x = false := by
  unfold okD
  rw [decide_eq_false (by omega), Bool.false_and]
set_option maxRecDepth 100000 in
set_option maxHeartbeats 4000000 in
theorem fnum1_any (b M : Nat) (x : Int) (w : World) (hb : w.cell? ⟨b, 0, none⟩ = some (.int .i64 (M : Int))) (hx : x ≤ 9223372036854775807) :
    Calls Tryd.prog 52 #[.int .i64 x, .pointer (some ⟨b, 0, none⟩)] w fun e w' => e = .returned (.bool (okD (M : Int) x)) ∧ Dr w w' := by
  obtain ⟨Z, hZ⟩ : ∃ Z, Z = okD (M : Int) x := ⟨_, rfl⟩
  rw [← hZ]
  have HZ := Lib.hid hZ; clear hZ
  by_cases h0 : x < 0
  · have hd : decide (0 ≤ x) = false := decide_eq_false (by omega)
    go_enter Tryd.func52, Tryd.ntmps52
    go_wp2_with fail
    go_quiet (fail)
    go_wp2_with fail
    go_ret
    exact ⟨by rw [HZ.out, okD_neg h0]; rfl, _, rfl⟩
  · obtain ⟨n, rfl⟩ : ∃ n : Nat, x = (n : Int) := ⟨x.toNat, by omega⟩
    obtain ⟨q, hq⟩ : ∃ q, q = bl n := ⟨_, rfl⟩
    have HQ := Lib.hid hq; clear hq
    have hq : ∀ w, Calls Tryd.prog 53 #[.int .i64 (n : Int)] w fun e w' => e = .returned (.int .i64 (q : Int)) ∧ w = w' := fun w => by
      rw [HQ.out]; exact fwidth_any n w (by omega)
    have HC := Lib.hid hq; clear hq
    have h0' : (0 : Int) ≤ (n : Int) := by omega
    go_enter Tryd.func52, Tryd.ntmps52
    go_wp2_with fail
    go_quiet ((go_at_call 53; exact quiet_eq (HC.out _)))
    go_wp2_with fail
    go_ret
    refine ⟨?_, _, rfl⟩
    rw [HZ.out, okD_nat, ← HQ.out]
    rfl
theorem fnum2_any (b M : Nat) (base : Nat) (A : Option Addr) (c n : Nat) (L : List Bool) (x : Int) (w : World) (hb : w.cell? ⟨b, 0, none⟩ = some (.int .i64 (M : Int))) (hM : M ≤ 60) (ho : w.ownsRow base 4 1 (.slice A n c) n (L.map .bool)) (hw : base ≤ w.heap.size) (hn : n ≤ 1000000000) (h0 : 0 ≤ x) (hx : x ≤ 9223372036854775807) :
    Calls Tryd.prog 55 #[.slice A n c, .int .i64 x, .pointer (some ⟨b, 0, none⟩)] w fun e w' => ∃ A' c', e = .returned (.slice A' (n + M) c') ∧ w'.ownsRow base 4 1 (.slice A' (n + M) c') (n + M) ((L ++ digL M x.toNat).map .bool) ∧ Kp (ownL (.slice A n c)) w w' := by
  obtain ⟨z, rfl⟩ : ∃ z : Nat, x = (z : Int) := ⟨x.toNat, by omega⟩
  rw [Int.toNat_natCast]
  have HO := Lib.hid ho; clear ho
  have HW := Lib.hid hw; clear hw
  go_enter Tryd.func55, Tryd.ntmps55
  go_wp2_with fail
  refine (fdigits_any base A c n M z L w HO.out HW.out (by omega) hn (by omega)).mono ?_
  rintro e w1 ⟨A', c', rfl, hown, hk, _⟩
  have HO1 := Lib.hid hown
  have HK1 := Lib.hid hk
  clear hown hk
  go_wp2_with fail
  go_ret
  exact ⟨A', c', rfl, HO1.out, HK1.out⟩
/-- What is new since a world changes nothing that was there. -/
theorem Kp.own {w0 w w' : World} {e : TypeId} {n : Nat} {v : Value} {xs : List Value} (h : w.ownsRow w0.heap.size e 1 v n xs) (hk : Kp (ownL v) w w') (h0 : Kp [] w0 w) : Kp [] w0 w' := h0.trans' hk (fun _ hx => .inr (own_ge h (mem_ownL.1 hx)).1)
theorem eachR_num {M : Nat} {s : WS} {l : List Int} (hM : M ≤ 60) : eachR (okD (M : Int)) (fun x => digL M x.toNat) s l = wNum s (M : Int) l := by
  unfold eachR wNum
  by_cases h : s.2 ≠ 0
  · rw [if_pos h, if_pos h]
  · have h2 : ¬ ((M : Int) < 0 ∨ 60 < (M : Int)) := by omega
    rw [if_neg h, if_neg h, if_neg h2, Int.toNat_natCast]
    rfl
theorem each_err (S : List Nat) (p : Nat) (s : WS) (v1 v2 v3 : Value) (w : World) (h : WrM w S p s) (he : s.2 ≠ 0) : Calls Tryd.prog 54 #[.pointer (some ⟨p, 0, none⟩), v1, v2, v3] w fun e w' => e = .returned (.int .i64 s.2) ∧ w = w' := by
  obtain ⟨L, err⟩ := s
  have HH := Lib.hid h
  obtain ⟨A0, c0, h1, _⟩ := h
  have H1 := Lib.hid h1
  have hc0 : w.cell? ⟨p, 0, none⟩ = some (.int .i64 err) := by rw [h1.cell]; rfl
  have HE := Lib.hid (show err ≠ 0 from he)
  clear h1 he
  go_enter Tryd.func54, Tryd.ntmps54
  go_wp2_with fail
  refine (wthere_any S p _ w HH.out).mono ?_
  rintro e w1 ⟨rfl, rfl⟩
  go_wp2_with fail
  refine (sound_no p _ err _ w H1.out HE.out).mono ?_
  rintro e w1 ⟨rfl, rfl⟩
  go_wp2_with fail
  go_ret
  exact ⟨rfl, rfl⟩
set_option maxRecDepth 100000 in
set_option maxHeartbeats 4000000 in
theorem wnumber_any (S : List Nat) (p n m c B : Nat) (M : Int) (A : Option Addr) (l : List Int) (s : WS) (w : World) (h : WrM w S p s) (hn : s.1.length = n) (hx : Rd w B A (l.map (.int .i64))) (hl : l.length = m) (hm : m ≤ 1000000) (hs : ∀ x ∈ l, x ≤ 9223372036854775807) :
    Calls Tryd.prog 26 #[.pointer (some ⟨p, 0, none⟩), .int .i64 M, .slice A m c] w fun e w' => e = .returned (.int .i64 (wNum s M l).2) ∧ WPost w w' S p (wNum s M l) := by
  have HK1 := Lib.hid ((Kp.refl [] w).alloc (.cells #[.int .i64 M] 3))
  obtain ⟨w1, hw1⟩ : ∃ w1, w1 = w.alloc (.cells #[.int .i64 M] 3) := ⟨_, rfl⟩
  obtain ⟨b, hb⟩ : ∃ b, b = w.heap.size := ⟨_, rfl⟩
  have hcb : w1.cell? ⟨b, 0, none⟩ = some (.int .i64 M) := by rw [hw1, hb]; exact (Blk.new w 3 [.int .i64 M]).cell 0
  have HW1 := Lib.hid hw1
  have HB1 := Lib.hid hb
  rw [← hw1] at HK1
  have hp1 := h.kp0 HK1.out
  obtain ⟨L, err⟩ := s
  obtain ⟨A0, c0, h1, h2, h3, hS⟩ := hp1
  have hn' : L.length = n := hn
  have h1' : Blk w1 p 91 [.int .i64 err, .slice A0 n c0, .bool true] := by rw [← hn']; exact h1
  have h3' : n ≤ 16777216 := by rw [← hn']; exact h3
  have H1 := Lib.hid h1'
  have H2 := Lib.hid h2
  have HS := Lib.hid hS
  have HLT := Lib.hid (show ∀ x ∈ S, x < w.heap.size from h.lt)
  have HH := Lib.hid (h.kp0 HK1.out)
  replace hx := hx.kp0 HK1.out
  have HS' := Lib.hid hs; clear hs
  have HX := Lib.hid hx; clear hx
  have HL := Lib.hid hl; clear hl
  have HN' := Lib.hid hn'; clear hn'
  have HCB := Lib.hid hcb; clear hcb
  clear h h1 h1' h2 h3 hS hn hw1 hb
  have HFIN := Lib.hid (show ∀ w' s', WPost w1 w' S p s' → WPost w w' S p s' from fun w' s' ⟨S', q1, q2, q3⟩ => ⟨S', q1, (HK1.out.mono (by simp)).trans q2, fun z hz => (q3 z hz).imp id (fun h => Nat.le_trans HK1.out.size h)⟩)
  by_cases hbad : err = 0 ∧ (M < 0 ∨ 60 < M)
  · obtain ⟨rfl, hM⟩ := hbad
    have HR := Lib.hid (show wNum (L, 0) M l = (L, 2) by unfold wNum; rw [if_neg (by simp), if_pos hM])
    rw [HR.out]
    have hcb := HCB.out
    rcases hM with hM | hM
    all_goals
      go_enter Tryd.func26, Tryd.ntmps26
      go_wp2_with fail
      rw [← HW1.out, ← HB1.out]
      refine (wthere_any S p _ w1 HH.out).mono ?_
      rintro e w2 ⟨rfl, rfl⟩
      go_wp2_with fail
      refine (sound_ok p _ _ w1 H1.out).mono ?_
      rintro e w2 ⟨rfl, rfl⟩
      go_wp2_with fail
      refine (spoil_new p _ 2 _ w1 H1.out).mono ?_
      rintro e w2 ⟨rfl, hb, hk⟩
      go_wp2_with fail
      go_ret
      exact ⟨rfl, HFIN.out _ _ (wspoil (A := A0) (c := c0) (L := L) (by rw [HN'.out]; exact hb) H2.out (by rw [HN'.out]; exact H1.out) (by rw [HN'.out]; exact h3') HS.out hk)⟩
  · by_cases he : err = 0
    · subst he
      obtain ⟨M, rfl⟩ : ∃ N : Nat, M = (N : Int) := ⟨M.toNat, by omega⟩
      have hM : M ≤ 60 := by omega
      obtain ⟨R, hR⟩ : ∃ R, R = wNum (L, 0) (M : Int) l := ⟨_, rfl⟩
      rw [← hR]
      have HRR := Lib.hid hR; clear hR hbad
      have HE := Lib.hid (each_any S p n m c B 52 55 #[.pointer (some ⟨b, 0, none⟩)] #[.pointer (some ⟨b, 0, none⟩)] A (okD (M : Int)) (fun x => digL M x.toNat) l (L, 0) w1 HH.out HN'.out HX.out HL.out hm
        (enters_fn Tryd.func52 (by kernel_rfl) rfl) (enters_fn Tryd.func55 (by kernel_rfl) rfl) (fun x _ _ => by rw [digL_len]; omega)
        (fun w' x hk hx => fnum1_any b M x w' (hk.cell HCB.out (by simp)) (HS'.out x hx))
        (fun w' A c n L x hk ho hn hx hok => by
          have h0 : 0 ≤ x := by
            unfold okD at hok
            rw [Bool.and_eq_true, decide_eq_true_iff] at hok
            exact hok.1
          refine (fnum2_any b M w1.heap.size A c n L x w' (hk.cell HCB.out (by simp)) hM ho hk.size hn h0 (HS'.out x hx)).mono fun e w'' ⟨A', c', h1, h2, h3⟩ => ?_
          exact ⟨A', c', M, by rw [digL_len], h1, h2, Kp.own ho h3 hk⟩))
      have hcb := HCB.out
      go_enter Tryd.func26, Tryd.ntmps26
      go_wp2_with fail
      rw [← HW1.out, ← HB1.out]
      refine (wthere_any S p _ w1 HH.out).mono ?_
      rintro e w2 ⟨rfl, rfl⟩
      go_wp2_with fail
      refine (sound_ok p _ _ w1 H1.out).mono ?_
      rintro e w2 ⟨rfl, rfl⟩
      go_wp2_with fail
      refine HE.out.mono ?_
      rw [eachR_num hM, ← HRR.out]
      rintro e w2 ⟨rfl, hp⟩
      have HP := Lib.hid (HFIN.out _ _ hp)
      clear hp
      go_wp2_with fail
      go_ret
      exact ⟨rfl, HP.out⟩
    · have HR := Lib.hid (show wNum (L, err) M l = (L, err) by unfold wNum; rw [if_pos he])
      rw [HR.out]
      have HE := Lib.hid he
      clear he hbad
      go_enter Tryd.func26, Tryd.ntmps26
      go_wp2_with fail
      rw [← HW1.out, ← HB1.out]
      refine (wthere_any S p _ w1 HH.out).mono ?_
      rintro e w2 ⟨rfl, rfl⟩
      go_wp2_with fail
      refine (sound_no p _ err _ w1 H1.out HE.out).mono ?_
      rintro e w2 ⟨rfl, rfl⟩
      go_wp2_with fail
      refine (each_err S p (L, err) _ _ _ w1 HH.out HE.out).mono ?_
      rintro e w2 ⟨rfl, rfl⟩
      go_wp2_with fail
      go_ret
      exact ⟨rfl, HFIN.out _ _ (WPost.refl HH.out)⟩
theorem fgam1_any (x : Int) (w : World) (hx : x ≤ 9223372036854775807) :
    Calls Tryd.prog 58 #[.int .i64 x] w fun e w' => e = .returned (.bool (okG x)) ∧ w = w' := by
  by_cases h0 : 0 < x
  · obtain ⟨n, rfl⟩ : ∃ n : Nat, x = (n : Int) := ⟨x.toNat, by omega⟩
    obtain ⟨q, hq⟩ : ∃ q, q = bl n := ⟨_, rfl⟩
    have hz : okG (n : Int) = decide ((q : Int) ≤ 60) := by
      unfold okG
      rw [decide_eq_true h0, Bool.true_and, Int.toNat_natCast, hq]
    rw [hz]
    have HQ := Lib.hid hq
    clear hz hq
    go_enter Tryd.func58, Tryd.ntmps58
    go_wp2_with fail
    refine (fwidth_any n w (by omega)).mono ?_
    rw [← HQ.out]
    rintro e w1 ⟨rfl, rfl⟩
    go_wp2_with fail
    go_ret
    exact ⟨rfl, rfl⟩
  · have hz : okG x = false := by unfold okG; rw [decide_eq_false h0, Bool.false_and]
    rw [hz]
    clear hz
    have hd : decide (0 < x) = false := decide_eq_false h0
    go_enter Tryd.func58, Tryd.ntmps58
    go_wp2_with fail
    go_ret
    exact ⟨rfl, rfl⟩
theorem okG_nat {x : Int} (h : okG x = true) : ∃ n : Nat, x = (n : Int) ∧ n ≠ 0 ∧ bl n ≤ 60 := by
  unfold okG at h
  rw [Bool.and_eq_true, decide_eq_true_iff, decide_eq_true_iff] at h
  exact ⟨x.toNat, by omega, by omega, by omega⟩
set_option maxRecDepth 100000 in
set_option maxHeartbeats 4000000 in
theorem fgam2_any (base : Nat) (A : Option Addr) (c n : Nat) (L : List Bool) (x : Int) (w : World) (ho : w.ownsRow base 4 1 (.slice A n c) n (L.map .bool)) (hw : base ≤ w.heap.size) (hn : n ≤ 1000000000) (h0 : okG x = true) (hx : x ≤ 9223372036854775807) :
    Calls Tryd.prog 59 #[.slice A n c, .int .i64 x] w fun e w' => ∃ A' c' k, k = (gamL x.toNat).length ∧ e = .returned (.slice A' (n + k) c') ∧ w'.ownsRow base 4 1 (.slice A' (n + k) c') (n + k) ((L ++ gamL x.toNat).map .bool) ∧ Kp (ownL (.slice A n c)) w w' := by
  obtain ⟨z, rfl, hz0, hzb⟩ := okG_nat h0
  rw [Int.toNat_natCast]
  have hz64 : z < 2 ^ 64 := by omega
  obtain ⟨q, hq⟩ : ∃ q, q = bl z := ⟨_, rfl⟩
  have hs := (bl_spec hz64 hz0).1
  have HG := Lib.hid (gamL_eq hz64 hz0)
  have HGL := Lib.hid (gamL_len hz64 hz0)
  rw [← hq] at hzb hs HG HGL
  obtain ⟨k, hk⟩ : ∃ k, k = 2 * q - 1 := ⟨_, rfl⟩
  rw [← hk] at HG HGL
  have hk1 : k + 1 = 2 * q := by omega
  have HQ := Lib.hid hq
  have HK1 := Lib.hid hk1
  have hw2 : IntKind.i64.wrap (2 * (q : Int)) = (k : Int) + 1 := by rw [IntKind.wrap_i64]; omega
  have hkb : k ≤ 119 := by omega
  have HO := Lib.hid ho; clear ho
  have HW := Lib.hid hw; clear hw
  clear h0 hq hk hk1
  go_enter Tryd.func59, Tryd.ntmps59
  go_wp2_with fail
  refine (fwidth_any z w (by omega)).mono ?_
  rw [← HQ.out]
  rintro e w1 ⟨rfl, rfl⟩
  go_wp2_with fail
  refine (fdigits_any base A c n k z L w HO.out HW.out (by omega) hn (by omega)).mono ?_
  rintro e w1 ⟨A', c', rfl, hown, hk, _⟩
  have HO1 := Lib.hid hown
  have HK := Lib.hid hk
  clear hown hk
  go_wp2_with fail
  go_ret
  exact ⟨A', c', k, HGL.out.symm, rfl, by rw [HG.out]; exact HO1.out, HK.out⟩
set_option maxRecDepth 100000 in
set_option maxHeartbeats 4000000 in
theorem wgamma_any (S : List Nat) (p n m c B : Nat) (A : Option Addr) (l : List Int) (s : WS) (w : World) (h : WrM w S p s) (hn : s.1.length = n) (hx : Rd w B A (l.map (.int .i64))) (hl : l.length = m) (hm : m ≤ 1000000) (hs : ∀ x ∈ l, x ≤ 9223372036854775807) :
    Calls Tryd.prog 28 #[.pointer (some ⟨p, 0, none⟩), .slice A m c] w fun e w' => e = .returned (.int .i64 (wGam s l).2) ∧ WPost w w' S p (wGam s l) := by
  have HE := Lib.hid (each_any S p n m c B 58 59 #[] #[] A okG (fun x => gamL x.toNat) l s w h hn hx hl hm
    (enters_fn Tryd.func58 (by kernel_rfl) rfl) (enters_fn Tryd.func59 (by kernel_rfl) rfl)
    (fun x _ hok => by
      obtain ⟨z, rfl, hz0, hzb⟩ := okG_nat hok
      unfold gamL
      rw [List.length_append, List.length_replicate, digL_len, Int.toNat_natCast]
      omega)
    (fun w' x _ hx => (fgam1_any x w' (hs x hx)).mono fun e w'' ⟨h1, h2⟩ => ⟨h1, by subst h2; exact Dr.refl _⟩)
    (fun w' A c n L x hk ho hn hx hok => (fgam2_any w.heap.size A c n L x w' ho hk.size hn hok (hs x hx)).mono fun e w'' ⟨A', c', k, h0, h1, h2, h3⟩ => ⟨A', c', k, h0, h1, h2, Kp.own ho h3 hk⟩))
  obtain ⟨R, hR⟩ : ∃ R, R = wGam s l := ⟨_, rfl⟩
  rw [← hR]
  have HR := Lib.hid (show eachR okG (fun x => gamL x.toNat) s l = R from hR.symm)
  clear hR h hn hx hl hs
  go_enter Tryd.func28, Tryd.ntmps28
  go_wp2_with fail
  refine HE.out.mono ?_
  rw [HR.out]
  rintro e w1 ⟨rfl, hp⟩
  have HP := Lib.hid hp; clear hp
  go_wp2_with fail
  go_ret
  exact ⟨rfl, HP.out⟩
set_option maxRecDepth 100000 in
set_option maxHeartbeats 4000000 in
theorem wvec_err (S : List Nat) (p : Nat) (s : WS) (w : World) (h : WrM w S p s) (he : s.2 ≠ 0) : Calls Tryd.prog 32 #[.pointer (some ⟨p, 0, none⟩)] w fun e w' => e = .returned (.tuple #[.pointer none, .int .i64 s.2]) ∧ Kp [] w w' := by
  obtain ⟨L, err⟩ := s
  have HH := Lib.hid h
  obtain ⟨A0, c0, h1, _⟩ := h
  have H1 := Lib.hid h1
  have hc0 : w.cell? ⟨p, 0, none⟩ = some (.int .i64 err) := by rw [h1.cell]; rfl
  have HE := Lib.hid (show err ≠ 0 from he)
  clear h1 he
  go_enter Tryd.func32, Tryd.ntmps32
  go_wp2_with fail
  refine (wthere_any S p _ w HH.out).mono ?_
  rintro e w1 ⟨rfl, rfl⟩
  go_wp2_with fail
  refine (sound_no p _ err _ w H1.out HE.out).mono ?_
  rintro e w1 ⟨rfl, rfl⟩
  go_wp2_with fail
  go_quiet (fail)
  go_wp2_with fail
  go_ret2
  exact ⟨rfl, (Kp.refl [] w).drewN _⟩
set_option maxRecDepth 100000 in
set_option maxHeartbeats 4000000 in
theorem wvec_ok (S : List Nat) (p : Nat) (L : List Bool) (w : World) (h : WrM w S p (L, 0)) : Calls Tryd.prog 32 #[.pointer (some ⟨p, 0, none⟩)] w fun e w' => ∃ T q, e = .returned (.tuple #[.pointer (some ⟨q, 0, none⟩), .int .i64 0]) ∧ VecM w' T q L false ∧ (∀ x ∈ T, w.heap.size ≤ x) ∧ Kp [] w w' := by
  have HH := Lib.hid h
  obtain ⟨A0, c0, h1, h2, h3, _⟩ := h
  obtain ⟨n, hn⟩ : ∃ n, n = L.length := ⟨_, rfl⟩
  have h1' : Blk w p 91 [.int .i64 0, .slice A0 n c0, .bool true] := by rw [hn]; exact h1
  have h3' : n ≤ 16777216 := by rw [hn]; exact h3
  have H1 := Lib.hid h1'
  have hc1 : w.cell? ⟨p, 1, none⟩ = some (.slice A0 n c0) := by rw [h1'.cell]; rfl
  have HRD := Lib.hid (show Rd w w.heap.size A0 (L.map .bool) from own_rd h2)
  have HN := Lib.hid hn
  clear h1 h1' h2 h3 hn
  go_enter Tryd.func32, Tryd.ntmps32
  go_wp2_with fail
  refine (wthere_any S p _ w HH.out).mono ?_
  rintro e w1 ⟨rfl, rfl⟩
  go_wp2_with fail
  refine (sound_ok p _ _ w H1.out).mono ?_
  rintro e w1 ⟨rfl, rfl⟩
  go_wp2_with fail
  refine (bof_any A0 n c0 _ L w HRD.out HN.out.symm h3').mono ?_
  rintro e w1 ⟨T, q, rfl, hv, hT, hk⟩
  have HV := Lib.hid hv
  have HT := Lib.hid hT
  have HK := Lib.hid hk
  clear hv hT hk
  go_wp2_with fail
  go_ret2
  exact ⟨T, q, rfl, HV.out, HT.out, HK.out⟩
end Go.Proofs.YtddmioaeehgkbaaDoor
