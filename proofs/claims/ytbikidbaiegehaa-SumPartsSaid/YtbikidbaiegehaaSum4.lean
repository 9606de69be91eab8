/-
  THE CONTRACTS OF THE REFERENCE's Seal AND Open.
  CONDITIONS: at most 10^9 bytes.
-/
import Derived.Test.YtbikidbaiegehaaSum3
namespace Go.Proofs.Ytbikidbaiegehaa
open Go.RowKit

set_option maxHeartbeats 1000000 in
theorem rseal_any (A : Option Addr) (n c B : Nat) (b : List Int) (w : World) (hx : Rd w B A (b.map (.int .u8))) (hn : b.length = n) (hb : n ≤ 1000000000) (hby : Byt b) :
    Calls Try.prog 22 #[.slice A n c] w fun e w' => ∃ A' c', e = .returned (.slice A' (n + 4) c') ∧ w'.ownsRow w.heap.size 5 1 (.slice A' (n + 4) c') (n + 4) ((sealed b).map (.int .u8)) ∧ Kp [] w w' := by
  obtain ⟨i0, hi, hz0, hz1, hz2⟩ := info_parts Try.info_u8
  have HN := Lib.hid hn; clear hn
  have HX := Lib.hid hx; clear hx
  have hlt := crc_lt hby
  have HBY := Lib.hid hby; clear hby
  go_enter Try.func22, Try.ntmps22
  go_wp2_with fail
  refine (rof_any A n c B b _ HX.out HN.out hb HBY.out).mono ?_
  rintro e w1 ⟨rfl, rfl⟩
  obtain ⟨q, hq⟩ : ∃ q, q = crc b := ⟨_, rfl⟩
  rw [← hq] at hlt ⊢
  have HQ := Lib.hid hq; clear hq
  go_wp2_with (first | (at_builtin; refine wpList_append_rd rfl (.tmp 6) (.tmp 7) 23 rfl w.heap.size 5 i0 (.int .u8 0) 1 1 Try.underlying23 hi hz0 hz1 hz2 rfl (by decide) (.slice (some ⟨w.heap.size, 0, none⟩) 0 0) 0 [] rfl (World.ownsRow_made w #[] 0 (Nat.le_refl _) (Nat.zero_le _) rfl) B A n c (b.map (.int .u8)) rfl (by simpa using HN.out) (HX.out.kp0 ((Kp.refl [] w).alloc _)) (by simp [Value.oneCell']) (by unfold maxLen; omega) (by omega) (by simp) ?_; intro v2 w2 hown2 hgrow2 hat2; simp only [Nat.zero_add, List.nil_append] at hown2) | (at_builtin; refine wpList_append_rd rfl (.tmp 8) (.tmp 20) 23 rfl w.heap.size 5 i0 (.int .u8 0) 1 1 Try.underlying23 hi hz0 hz1 hz2 rfl (by decide) v2 n (b.map (.int .u8)) rfl (hown2.alloc _) _ _ 4 4 ((le4 q).map (.int .u8)) rfl (by simp [le4]) (by rw [le4_vals _ hlt]; exact (Blk.new w2 5 _).rd (Nat.lt_succ_self _)) (by simp [Value.oneCell']) (by unfold maxLen; omega) (by omega) (by have := hgrow2.size; simp at this ⊢; omega) ?_; intro v3 w3 hown3 hgrow3 hat3))
  have hk2 : Kp [] w w2 := ((Kp.refl [] w).alloc _).grown hgrow2 (by simp [Value.ownBlock])
  have hk3 : Kp [] w w3 := (hk2.alloc _).grown hgrow3 (fun g hg => .inr (own_ge hown2 hg).1)
  obtain ⟨A3, c3, rfl, _⟩ := own_form hown3
  have HO3 := Lib.hid hown3; clear hown3 hown2
  clear hgrow3 hat3 hgrow2 hat2
  go_wp2
  go_ret
  refine ⟨A3, c3, rfl, ?_, hk3⟩
  have h := HO3.out
  rw [HQ.out, ← List.map_append] at h
  exact h

set_option maxHeartbeats 1000000 in
theorem ropen_any (A : Option Addr) (n c B : Nat) (b : List Int) (w : World) (hx : Rd w B A (b.map (.int .u8))) (hn : b.length = n) (hc : n ≤ c) (hb : n ≤ 1000000000) (hby : Byt b) :
    Calls Try.prog 18 #[.slice A n c] w fun e w' => ∃ A' c', e = .returned (.tuple #[.slice A' (openL b).length c', .int .i64 (openE b)]) ∧ w'.ownsRow w.heap.size 5 1 (.slice A' (openL b).length c') (openL b).length ((openL b).map (.int .u8)) ∧ Kp [] w w' := by
  obtain ⟨i0, hi, hz0, hz1, hz2⟩ := info_parts Try.info_u8
  have HN := Lib.hid hn; clear hn
  have HX := Lib.hid hx; clear hx
  have HBY := Lib.hid hby; clear hby
  by_cases h4 : n < 4
  · have he : openE b = 4 := by unfold openE; rw [if_pos (by have := HN.out; omega)]
    have hl : openL b = [] := by unfold openL; rw [if_neg (by rw [he]; decide)]
    have HE := Lib.hid he; clear he
    have HL := Lib.hid hl; clear hl
    go_enter Try.func18, Try.ntmps18
    go_wp2
    go_ret2
    refine ⟨none, 0, by rw [HE.out, HL.out]; rfl, ?_, Kp.refl _ w⟩
    rw [HL.out]
    exact World.ownsRow_nil w _ _ _
  · obtain ⟨m, hm⟩ : ∃ m, n = m + 4 := ⟨n - 4, by omega⟩
    subst hm
    have hlen : (b.take m).length = m := by rw [List.length_take, HN.out]; omega
    have HLEN := Lib.hid hlen; clear hlen
    have hr : Rd w B A ((b.take m).map (.int .u8)) := by rw [List.map_take]; exact HX.out.take m
    have HR := Lib.hid hr; clear hr
    go_enter Try.func18, Try.ntmps18
    go_wp2_with (at_builtin; refine wpList_append_rd rfl (.tmp 10) (.tmp 15) 23 rfl w.heap.size 5 i0 (.int .u8 0) 1 1 Try.underlying23 hi hz0 hz1 hz2 rfl (by decide) (.slice (some ⟨w.heap.size, 0, none⟩) 0 0) 0 [] rfl (World.ownsRow_made w #[] 0 (Nat.le_refl _) (Nat.zero_le _) rfl) B A m c ((b.take m).map (.int .u8)) rfl (by simpa using HLEN.out) (HR.out.kp0 ((Kp.refl [] w).alloc _)) (oc_ints _ _) (by unfold maxLen; omega) (by omega) (by simp) ?_; intro v1 w1 hown1 hgrow1 hat1; simp only [Nat.zero_add, List.nil_append] at hown1)
    have hk1 : Kp [] w w1 := ((Kp.refl [] w).alloc _).grown hgrow1 (by simp [Value.ownBlock])
    obtain ⟨A1, c1, rfl, _⟩ := own_form hown1
    have HO1 := Lib.hid hown1; clear hown1
    have HK1 := Lib.hid hk1; clear hk1
    clear hgrow1 hat1
    refine (rseal_any A1 m c1 w1.heap.size (b.take m) _ (own_rd HO1.out) HLEN.out (by omega) (HBY.out.take m)).mono ?_
    rintro e w2 ⟨A2, c2, rfl, hown2, hk2⟩
    have HO2 := Lib.hid hown2; clear hown2
    have hk3 : Kp [] w w2 := HK1.out.trans hk2
    have HK3 := Lib.hid hk3; clear hk3
    have ho12 := own_kp0 HO1.out hk2
    have HO12 := Lib.hid ho12; clear ho12 hk2
    have hsl : (sealed (b.take m)).length = m + 4 := by rw [sealed_length, HLEN.out]
    have HSL := Lib.hid hsl; clear hsl
    go_wp2
    go_loopw [6] (fun i wr => ∃ k : Nat, k ≤ m + 4 ∧ i = .int .i64 k ∧ Hid (b.take k = (sealed (b.take m)).take k) ∧ Dr w2 wr) (fun i _ => m + 4 - (intOf i).toNat)
    case atStart => exact ⟨0, by omega, rfl, Lib.hid (by simp), Dr.refl _⟩
    case round =>
      obtain ⟨k, hk, rfl, hpre, hd⟩ := hrel
      by_cases hlt : k < m + 4
      · obtain ⟨x, ad, hxk, rfl, _, hcx⟩ := ((HX.out.kp0 HK3.out).kp0 (hd.kp [])).ix (i := k) (by have := HN.out; omega)
        obtain ⟨y, bd, hyk, rfl, _, hcy⟩ := ((own_rd HO2.out).kp0 (hd.kp [])).ix (i := k) (by have := HSL.out; omega)
        have hp1 := take_succ_of hxk
        have hp2 := take_succ_of hyk
        have HP1 := Lib.hid hp1; clear hp1
        have HP2 := Lib.hid hp2; clear hp2
        have HXK := Lib.hid hxk; clear hxk
        have HYK := Lib.hid hyk; clear hyk
        by_cases hxy : x = y
        · subst hxy
          go_wp2
          go_quiet (fail)
          go_wp2
          go_roundw
          case rel => exact ⟨k + 1, by omega, by go_num, Lib.hid (by rw [HP1.out, HP2.out, hpre.out]), hd.drewN _⟩
          case measure => simp [intOf]; omega
        · have hne : (x != y) = true := by simpa using hxy
          have hs : ¬ sealed (b.take m) = b := fun e => hxy (by
            have h1 := HYK.out
            rw [e, HXK.out] at h1
            exact Option.some.inj h1)
          have he : openE b = 7 := by
            unfold openE
            rw [if_neg (by have := HN.out; omega), if_neg (by rw [HN.out]; exact hs)]
          have hl : openL b = [] := by unfold openL; rw [if_neg (by rw [he]; decide)]
          have HE := Lib.hid he; clear he
          have HL := Lib.hid hl; clear hl
          clear hs hxy
          go_wp2
          go_quiet (fail)
          go_wp2
          go_ret2
          refine ⟨none, 0, by rw [HE.out, HL.out]; rfl, ?_, HK3.out.trans ((hd.drewN _).kp [])⟩
          rw [HL.out]
          exact World.ownsRow_nil _ _ _ _
      · have hs : sealed (b.take m) = b := by
          have h1 := hpre.out
          rw [List.take_of_length_le (by have := HN.out; omega), List.take_of_length_le (by have := HSL.out; omega)] at h1
          exact h1.symm
        have he : openE b = 0 := by
          unfold openE
          rw [if_neg (by have := HN.out; omega), if_pos (by rw [HN.out]; exact hs)]
        have hl : openL b = b.take m := by unfold openL; rw [if_pos he, HN.out]; rfl
        have HE := Lib.hid he; clear he
        have HL := Lib.hid hl; clear hl
        clear hs
        go_wp2
        go_ret2
        refine ⟨A1, c1, by rw [HE.out, HL.out, HLEN.out]; rfl, ?_, HK3.out.trans (hd.kp [])⟩
        rw [HL.out, HLEN.out]
        exact own_kp0 HO12.out (hd.kp [])
end Go.Proofs.Ytbikidbaiegehaa
