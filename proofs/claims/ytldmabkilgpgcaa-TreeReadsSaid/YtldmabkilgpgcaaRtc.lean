/-
  TreeReads: the walk.
  CONDITIONS: bytes.
-/
import Derived.Test.YtldmabkilgpgcaaRta
import Derived.Test.YtldmabkilgpgcaaRt8
import Derived.Test.YtldmabkilgpgcaaGaw
namespace Go.Proofs.Ytldmabkilgpgcaa
open Go.RowKit

theorem Rd.lentB {w : World} {g : Nat} {l more : List Int} (h : Blk w g 5 ((l ++ more).map (.int .u8))) : Rd w w.heap.size (some ⟨g, 0, none⟩) (l.map (.int .u8)) := by
  have := (h.rd h.lt).take (l.map (Value.int .u8)).length
  rwa [List.map_append, List.take_left'] at this
  rfl
theorem readT_len {b : List Nat} {h n : Nat} {C : List (Nat × Nat)} (hr : readT b = some (h, C, n)) : (levL h [C]).length ≤ 8 * b.length := by
  match b, hr with
  | [], hr => cases hr
  | [_], hr => cases hr
  | [_, _], hr => cases hr
  | [_, _, _], hr => cases hr
  | [_, _, _, _], hr => cases hr
  | b0 :: b1 :: b2 :: b3 :: b4 :: rest, hr =>
    change readC b0 (manyB b1 b2 b3 b4) (rest.length + 5) (b0 :: b1 :: b2 :: b3 :: b4 :: rest) rest = _ at hr
    unfold readC at hr
    by_cases c1 : ¬ (1 ≤ b0 ∧ b0 ≤ 17)
    · rw [if_pos c1] at hr; exact absurd hr (by simp)
    rw [if_neg c1] at hr
    obtain ⟨m, hm⟩ : ∃ m, m = manyB b1 b2 b3 b4 := ⟨_, rfl⟩
    rw [← hm] at hr
    by_cases c2 : rest.length + 5 < 5 + (m + 7) / 8
    · rw [if_pos c2] at hr; exact absurd hr (by simp)
    rw [if_neg c2] at hr
    by_cases c3 : readE (m : Int) (rest.take ((m + 7) / 8)) ≠ 0
    · rw [if_pos c3] at hr; exact absurd hr (by simp)
    rw [if_neg c3] at hr
    cases hg : growB b0 (bitsOf m (packN 8 (rest.take ((m + 7) / 8)))) [(0, 0)] with
    | none => rw [hg] at hr; exact absurd hr (by simp)
    | some D =>
      rw [hg] at hr
      simp only at hr
      by_cases c4 : treeB b0 (levL b0 [D]) = intsN ((b0 :: b1 :: b2 :: b3 :: b4 :: rest).take (5 + (m + 7) / 8))
      · rw [if_pos c4] at hr
        injection hr with hr
        injection hr with h1 h2
        injection h2 with h2 h3
        subst h1 h2
        have := congrArg List.length c4
        unfold treeB headB intsN bytesN at this
        simp at this
        simp
        omega
      · rw [if_neg c4] at hr; exact absurd hr (by simp)
set_option maxRecDepth 100000 in
set_option maxHeartbeats 4000000 in
theorem treads_any (A : Option Addr) (L c : Nat) (b : List Nat) (r cc node : Int) (w : World) (hx : Rd w w.heap.size A ((intsN b).map (.int .u8))) (hn : b.length = L) (hc : L ≤ c) (hs : ∀ y ∈ b, y < 256)
    (hr0 : -9223372036854775808 ≤ r) (hr1 : r ≤ 9223372036854775807) (hc0 : -9223372036854775808 ≤ cc) (hc1 : cc ≤ 9223372036854775807) (hn0 : -9223372036854775808 ≤ node) (hn1 : node ≤ 9223372036854775807) :
    Calls Try.prog 5 #[.slice A L c, .agg #[.int .i64 r, .int .i64 cc], .int .i64 node] w fun e w' => e = .returned (.bool true) ∧ Kp [] w w' := by
  have hk0 := (Kp.refl [] w).alloc (.cells #[.int .i64 r, .int .i64 cc] 24)
  have hb0 := Blk.new w 24 [.int .i64 r, .int .i64 cc]
  obtain ⟨w0, hw0⟩ : ∃ w0, w0 = w.alloc (.cells #[.int .i64 r, .int .i64 cc] 24) := ⟨_, rfl⟩
  obtain ⟨g, hg⟩ : ∃ g, g = w.heap.size := ⟨_, rfl⟩
  replace hk0 : Kp [] w w0 := by rw [hw0]; exact hk0
  replace hb0 : Blk w0 g 24 [.int .i64 r, .int .i64 cc] := by rw [hw0, hg]; exact hb0
  have HX := Lib.hid (hx.kp0 hk0)
  have HB := Lib.hid hb0
  have HK := Lib.hid hk0
  have HW0 := Lib.hid hw0
  have HG := Lib.hid hg
  have HN := Lib.hid hn; clear hn
  have HS := Lib.hid hs; clear hs
  clear hx hk0 hb0 hw0 hg
  go_enter Try.func5, Try.ntmps5
  by_cases hbig : 150 < L
  · go_wp2_with fail
    rw [← HW0.out]
    refine (tawake_any w0).mono ?_
    rintro e w1 ⟨rfl, hk1⟩
    have HK1 := Lib.hid (HK.out.trans hk1)
    clear hk1
    go_wp2_with fail
    go_ret
    exact ⟨rfl, HK1.out⟩
  have hL150 : L ≤ 150 := by omega
  have HN2 := Lib.hid (show (intsN b).length = L by rw [← HN.out]; simp [intsN])
  go_wp2_with fail
  rw [← HW0.out, ← HG.out]
  clear HW0
  refine (lentB A L c _ (intsN b) w0 HX.out HN2.out (by omega)).mono ?_
  rintro e w1 ⟨rfl, hk1, hb1⟩
  obtain ⟨gi, hgi⟩ : ∃ gi, gi = w0.heap.size := ⟨_, rfl⟩
  rw [← hgi] at hb1 ⊢
  have HX1 := Lib.hid (HX.out.kp0 hk1)
  have HB1 := Lib.hid (HB.out.kp0 hk1)
  have HK1 := Lib.hid (HK.out.trans hk1)
  have HI1 := Lib.hid hb1
  have HGI := Lib.hid (show g ≠ gi ∧ w.heap.size ≤ gi ∧ gi < w1.heap.size from ⟨by have := HB.out.lt; omega, by rw [hgi]; exact HK.out.size, hb1.lt⟩)
  clear hk1 hb1 hgi HX HB HK
  go_wp2_with fail
  refine (tread_any _ L (L + 12) _ b w1 (Rd.lentB HI1.out) HN.out (by omega) (by omega) HS.out).mono ?_
  rintro e w2 ⟨hk2, hcase⟩
  have HX2 := Lib.hid (HX1.out.kp0 hk2)
  have HB2 := Lib.hid (HB1.out.kp0 hk2)
  have HK2 := Lib.hid (HK1.out.trans hk2)
  have HI2 := Lib.hid (HI1.out.kp0 hk2)
  have HRR := Lib.hid (rread_any A L c _ b w2 HX2.out HN.out (by omega) hc HS.out)
  clear hk2 HX1 HB1 HK1 HI1
  rcases hcase with ⟨hno, rfl⟩ | ⟨h, C, n, S, p, q, hyes, rfl, ht, hS, hp, h1, h17, hCB⟩
  · have HNO := Lib.hid hno
    clear hno
    go_wp2_with fail
    refine HRR.out.mono ?_
    rintro e w3 ⟨hk3, ⟨_, rfl⟩ | ⟨h, C, n, pr, l, hyes, _⟩⟩
    rotate_left
    · rw [HNO.out] at hyes; cases hyes
    have HX3 := Lib.hid (HX2.out.kp0 hk3)
    have HI3 := Lib.hid (HI2.out.kp0 hk3)
    have HK3 := Lib.hid (HK2.out.trans hk3)
    clear hk3
    go_wp2_with fail
    refine (keptB _ A L (L + 12) c _ _ (intsN b) w3 (HI3.out.rd (B := w3.heap.size) HI3.out.lt) HX3.out HN2.out (by omega) (Nat.le_refl _)).mono ?_
    rintro e w4 ⟨rfl, hd4⟩
    have HI4 := Lib.hid (HI3.out.kp0 (hd4.kp []))
    have HK4 := Lib.hid (HK3.out.trans (hd4.kp []))
    clear hd4
    go_wp2_with fail
    refine (overB_some gi L (L + 12) _ w4 HI4.out (by rw [List.length_map, List.length_append, HN2.out, marksB_len]) (by omega) (by omega) (by omega)).mono ?_
    rintro e w5 ⟨rfl, hk5⟩
    have HK5 := Lib.hid (HK4.out.trans' hk5 (fun x hx => .inr (by simp only [List.mem_singleton] at hx; have := HGI.out.2.1; omega)))
    clear hk5
    go_wp2_with fail
    refine (tawake_any w5).mono ?_
    rintro e w6 ⟨rfl, hk6⟩
    have HK6 := Lib.hid (HK5.out.trans hk6)
    clear hk6
    go_wp2_with fail
    go_ret
    exact ⟨rfl, HK6.out⟩
  · have HYES := Lib.hid hyes
    have HT2 := Lib.hid ht
    have HS2 := Lib.hid hS
    have HCB := Lib.hid hCB
    have HPS := Lib.hid hp
    have hnI : (n : Int) ≤ 9223372036854775807 ∨ True := .inr trivial
    clear hyes ht hS hCB hp hnI
    go_wp2_with fail
    refine HRR.out.mono ?_
    rintro e w3 ⟨hk3, ⟨hno, _⟩ | ⟨h', C', n', pr, l, hyes', rfl, hrt, hln, hlm⟩⟩
    · rw [HYES.out] at hno; cases hno
    rw [HYES.out] at hyes'
    injection hyes' with hyes'
    injection hyes' with e1 e2
    injection e2 with e2 e3
    subst e1 e2 e3
    have HX3 := Lib.hid (HX2.out.kp0 hk3)
    have HB3 := Lib.hid (HB2.out.kp0 hk3)
    have HI3 := Lib.hid (HI2.out.kp0 hk3)
    have HK3 := Lib.hid (HK2.out.trans hk3)
    have HT3 := Lib.hid (HT2.out.kp0 hk3)
    have HRT := Lib.hid hrt
    have HLN := Lib.hid hln
    have HLM := Lib.hid hlm
    have HGW := Lib.hid (show gi < w2.heap.size from HI2.out.lt)
    clear hk3 hrt hln hlm HX2 HB2 HI2 HK2 HT2 HRR
    go_wp2_with fail
    refine (keptB _ A L (L + 12) c _ _ (intsN b) w3 (HI3.out.rd (B := w3.heap.size) HI3.out.lt) HX3.out HN2.out (by omega) (Nat.le_refl _)).mono ?_
    rintro e w4 ⟨rfl, hd4⟩
    have hd4' := hd4.kp []
    have HB4 := Lib.hid (HB3.out.kp0 hd4')
    have HI4 := Lib.hid (HI3.out.kp0 hd4')
    have HK4 := Lib.hid (HK3.out.trans hd4')
    have HT4 := Lib.hid (HT3.out.kp0 hd4')
    have HRT4 := Lib.hid (HRT.out.kp0 hd4')
    clear hd4 hd4' HX3 HB3 HI3 HK3 HT3 HRT
    go_wp2_with fail
    refine (overB_some gi L (L + 12) _ w4 HI4.out (by rw [List.length_map, List.length_append, HN2.out, marksB_len]) (by omega) (by omega) (by omega)).mono ?_
    rintro e w5 ⟨rfl, hk5⟩
    have HK5 := Lib.hid (HK4.out.trans' hk5 (fun x hx => .inr (by simp only [List.mem_singleton] at hx; have := HGI.out.2.1; omega)))
    have HRT5 := Lib.hid (HRT4.out.kp hk5 (fun x hx => by simp only [List.mem_singleton] at hx; have := HGW.out; omega))
    have HT5 := Lib.hid (HT4.out.kp hk5 (fun x hx hm => by simp only [List.mem_singleton] at hm; have := HS2.out x hx; have := HGI.out.2.2; omega) (fun hm => by simp only [List.mem_singleton] at hm; have := HPS.out; have := HGI.out.2.2; omega))
    have HB5 := Lib.hid (HB4.out.kp hk5 (fun hm => by simp only [List.mem_singleton] at hm; exact HGI.out.1 hm))
    clear hk5 HK4 HRT4 HT4 HB4 HI4
    have c0 : w5.cell? ⟨g, 0, none⟩ = some (.int .i64 r) := by rw [HB5.out.cell]; rfl
    have c1 : w5.cell? ⟨g, 1, none⟩ = some (.int .i64 cc) := by rw [HB5.out.cell]; rfl
    have hlev : levL h [l] = levL h [C] := lev_same h (same_one (fun p => HLM.out p))
    have hbl : (levL h [C]).length ≤ 20000 := by
      have := readT_len HYES.out
      rw [HN.out] at this
      omega
    obtain ⟨bs, hbs⟩ : ∃ bs, bs = levL h [C] := ⟨_, rfl⟩
    have HSM := Lib.hid (show Calls Try.prog 17 #[.pointer (some ⟨p, 0, none⟩), .pointer (some ⟨pr, 0, none⟩), .agg #[.int .i64 r, .int .i64 cc], .int .i64 node] w5 fun e w' => e = .returned (.bool true) ∧ Kp [] w5 w' from by
      have h5 := HT5.out
      have h6 := HRT5.out
      rw [hlev] at h6
      rw [← hbs] at h5 h6 hbl
      exact same_any S p q h w2.heap.size pr l C bs r cc node w5 h5 h6 hbs h1 h17 HCB.out HLN.out HLM.out hbl hr0 hr1 hc0 hc1 hn0 hn1)
    clear hlev hbl hbs HT5 HRT5 HB5
    go_wp2_with fail
    refine HSM.out.mono ?_
    rintro e w6 ⟨rfl, hk6⟩
    have HK6 := Lib.hid (HK5.out.trans hk6)
    clear hk6 HSM
    go_wp2_with fail
    refine (tawake_any w6).mono ?_
    rintro e w7 ⟨rfl, hk7⟩
    have HK7 := Lib.hid (HK6.out.trans hk7)
    clear hk7
    go_wp2_with fail
    go_ret
    exact ⟨rfl, HK7.out⟩
theorem treadsI_any (A : Option Addr) (L c : Nat) (b : List Int) (r cc node : Int) (w : World) (hx : Rd w w.heap.size A (b.map (.int .u8))) (hn : b.length = L) (hc : L ≤ c) (hb : ∀ x ∈ b, 0 ≤ x ∧ x ≤ 255)
    (hr0 : -9223372036854775808 ≤ r) (hr1 : r ≤ 9223372036854775807) (hc0 : -9223372036854775808 ≤ cc) (hc1 : cc ≤ 9223372036854775807) (hn0 : -9223372036854775808 ≤ node) (hn1 : node ≤ 9223372036854775807) :
    Calls Try.prog 5 #[.slice A L c, .agg #[.int .i64 r, .int .i64 cc], .int .i64 node] w fun e w' => e = .returned (.bool true) ∧ Kp [] w w' := by
  refine treads_any A L c (b.map Int.toNat) r cc node w (by rw [intsN_bytes hb]; exact hx) (by rw [List.length_map]; exact hn) hc (fun y hy => ?_) hr0 hr1 hc0 hc1 hn0 hn1
  obtain ⟨x, hx, rfl⟩ := List.mem_map.1 hy
  have := hb x hx
  omega
end Go.Proofs.Ytldmabkilgpgcaa
