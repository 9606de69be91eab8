/-
  THE CONTRACTS OF LAYER 5's REFERENCE, second part: ossuaryref05.Lengths.
  CONDITIONS: rows of at most 10^9 numbers.
-/
import Derived.Test.YtlaionhlejmjdaaGreatDoorQ14
import Derived.Test.YtlaionhlejmjdaaGreatDoorQ04
namespace Go.Proofs.YtlaionhlejmjdaaGreatDoor
open Go.RowKit

/-- Both matrices, k rows of each. -/
structure Two (w : World) (b Gc Gp n k : Nat) (Rc Rp : Nat → Nat) (F H : Nat → Nat → Nat) : Prop where
  c : MatK w b Gc n k Rc F
  p : MatK w b Gp n k Rp H
  gs : Gc ≠ Gp
  rs : ∀ i j, i < k → j < k → Rc i ≠ Rp j
section
variable {w w' : World} {b Gc Gp n k : Nat} {Rc Rp : Nat → Nat} {F H : Nat → Nat → Nat}
theorem Two.kp0 (h : Two w b Gc Gp n k Rc Rp F H) (hk : Kp [] w w') : Two w' b Gc Gp n k Rc Rp F H := ⟨h.c.kp0 hk, h.p.kp0 hk, h.gs, h.rs⟩
theorem Two.made (h : Two w b Gc Gp n k Rc Rp (fun _ _ => 0) (fun _ _ => 0)) (hk : k < n) (hb : b ≤ w.heap.size) {w1 w2 : World}
    (h1 : w1 = (w.alloc (.cells (List.replicate n (.int .i64 0)).toArray 3)).setCell ⟨Gc, k, none⟩ (.slice (some ⟨w.heap.size, 0, none⟩) n n))
    (h2 : w2 = (w1.alloc (.cells (List.replicate n (.int .i64 0)).toArray 3)).setCell ⟨Gp, k, none⟩ (.slice (some ⟨w1.heap.size, 0, none⟩) n n)) :
    Two w2 b Gc Gp n (k + 1) (fun j => if j = k then w.heap.size else Rc j) (fun j => if j = k then w1.heap.size else Rp j) (fun _ _ => 0) (fun _ _ => 0) := by
  have hk1 : Kp [Gc] w w1 := by rw [h1]; exact ((Kp.refl [Gc] w).alloc _).setCell (.inl (by simp)) _
  have hk2 : Kp [Gp] w1 w2 := by rw [h2]; exact ((Kp.refl [Gp] w1).alloc _).setCell (.inl (by simp)) _
  have hs1 : w1.heap.size = w.heap.size + 1 := by rw [h1]; simp
  have c1 := h.c.made hk hb
  rw [← h1] at c1
  have p1 := h.p.kp hk1 (by simp; exact Ne.symm h.gs) (fun j hj => by simp; exact (h.p.row j hj).ne h.c.rows (by decide))
  have p2 := p1.made hk (by omega)
  rw [← h2] at p2
  refine ⟨c1.kp hk2 (by simp; exact h.gs) (fun j hj => by simp only [List.mem_singleton]; exact (c1.row j hj).ne p1.rows (by decide)), p2, h.gs, ?_⟩
  intro i j hi hj
  by_cases hik : i = k
  · by_cases hjk : j = k
    · rw [if_pos hik, if_pos hjk]; omega
    · rw [if_pos hik, if_neg hjk]
      have := (h.p.row j (by omega)).lt
      omega
  · by_cases hjk : j = k
    · rw [if_neg hik, if_pos hjk]
      have := (h.c.row i (by omega)).lt
      omega
    · rw [if_neg hik, if_neg hjk]
      exact h.rs i j (by omega) (by omega)
theorem Two.put (h : Two w b Gc Gp n n Rc Rp F H) {i j : Nat} (hi : i < n) (hj : j < n) (a c : Nat) :
    Two ((w.setCell ⟨Rc i, j, none⟩ (.int .i64 (a : Int))).setCell ⟨Rp i, j, none⟩ (.int .i64 (c : Int))) b Gc Gp n n Rc Rp (fun x y => if x = i ∧ y = j then a else F x y) (fun x y => if x = i ∧ y = j then c else H x y) := by
  have c1 := h.c.put hi hj a
  have k1 : Kp [Rc i] w (w.setCell ⟨Rc i, j, none⟩ (.int .i64 (a : Int))) := (Kp.refl _ w).setCell (.inl (by simp)) _
  have p1 := h.p.kp k1 (by simp only [List.mem_singleton]; exact Ne.symm ((h.c.row i hi).ne h.p.rows (by decide))) (fun x hx => by simp only [List.mem_singleton]; exact Ne.symm (h.rs i x hi hx))
  have p2 := p1.put hi hj c
  have k2 : Kp [Rp i] (w.setCell ⟨Rc i, j, none⟩ (.int .i64 (a : Int))) ((w.setCell ⟨Rc i, j, none⟩ (.int .i64 (a : Int))).setCell ⟨Rp i, j, none⟩ (.int .i64 (c : Int))) := (Kp.refl _ _).setCell (.inl (by simp)) _
  exact ⟨c1.kp k2 (by simp only [List.mem_singleton]; exact Ne.symm ((h.p.row i hi).ne h.c.rows (by decide))) (fun x hx => by simp only [List.mem_singleton]; exact h.rs x i hx hi), p2, h.gs, h.rs⟩
end

/-- What is reckoned: all rows shorter than so long, of those so long those that begin ahead of a place. -/
def Done (l : List Int) (n long at_ : Nat) (F H : Nat → Nat → Nat) : Prop := ∀ a b, a ≤ b → b < n → (b - a + 1 < long ∨ (b - a + 1 = long ∧ a < at_)) → F a b = C (wt l) a b ∧ (a < b → H a b = K (wt l) a b - a)

theorem Best.zero {f : Nat → Nat} {lo cur : Nat} {a b : Int} (h : Best f lo cur a b) (hc : cur ≤ lo) : a < 0 := by
  rcases h with ⟨_, rfl, _⟩ | ⟨h, _⟩
  · omega
  · omega
theorem Best.some {f : Nat → Nat} {lo cur : Nat} {a b : Int} (h : Best f lo cur a b) (hc : lo < cur) : 0 ≤ a := by
  rcases h with ⟨h, _⟩ | ⟨_, k, _, _, rfl, _⟩
  · omega
  · omega
theorem Done.start (l : List Int) (n : Nat) : Done l n 2 0 (fun _ _ => 0) (fun _ _ => 0) := by
  intro a b h1 h2 h3
  obtain rfl : a = b := by omega
  exact ⟨(C_self _ _).symm, fun h => by omega⟩
theorem Done.next {l : List Int} {n long at_ : Nat} {F H : Nat → Nat → Nat} (h : Done l n long at_ F H) (ha : n < at_ + long) : Done l n (long + 1) 0 F H := fun a b h1 h2 h3 => h a b h1 h2 (by omega)
theorem Done.put {l : List Int} {n long at_ j a c : Nat} {F H : Nat → Nat → Nat} (h : Done l n long at_ F H) (hj : at_ + long = j + 1) : Done l n long at_ (fun x y => if x = at_ ∧ y = j then a else F x y) (fun x y => if x = at_ ∧ y = j then c else H x y) := by
  intro x y h1 h2 h3
  have hn : ¬ (x = at_ ∧ y = j) := by omega
  dsimp only
  rw [if_neg hn, if_neg hn]
  exact h x y h1 h2 h3
theorem Done.step {l : List Int} {n long at_ j : Nat} {F H : Nat → Nat → Nat} (h : Done l n long at_ F H) (hj : at_ + long = j + 1) (hF : F at_ j = C (wt l) at_ j) (hH : H at_ j = K (wt l) at_ j - at_) : Done l n long (at_ + 1) F H := by
  intro x y h1 h2 h3
  by_cases e : x = at_ ∧ y = j
  · obtain ⟨rfl, rfl⟩ := e
    exact ⟨hF, fun _ => hH⟩
  · exact h x y h1 h2 (by omega)
theorem Tryz.info_rowI : (Tryz.prog.info? 51).map (fun i => (i.zero, i.size, i.bytes)) = some (some (.slice none 0 0), 1, 24) := by kernel_rfl

open Classical in
set_option maxRecDepth 100000 in
set_option maxHeartbeats 2000000 in
theorem rlengths_any (A : Option Addr) (n c B : Nat) (l : List Int) (w : World) (hx : Rd w B A (l.map (.int .i64))) (hn : l.length = n) (hb : n ≤ 1000000000) :
    Calls Tryz.prog 29 #[.slice A n c] w fun e w' => ∃ A' m c', m = (lensL l).length ∧ e = .returned (.tuple #[.slice A' m c', .int .i64 (lensE l)]) ∧ w'.ownsRow w.heap.size 3 1 (.slice A' m c') m ((lensL l).map (.int .i64)) ∧ Kp [] w w' := by
  obtain ⟨i0, hi, hz0, hz1, hz2⟩ := info_parts Tryz.info_rowI
  obtain ⟨i1, hi', hy0, hy1, hy2⟩ := info_parts Tryz.info_int
  have HX := Lib.hid hx; clear hx
  have HN := Lib.hid hn; clear hn
  go_enter Tryz.func29, Tryz.ntmps29
  go_wp2_with fail
  refine (rweights_any A n c B l w HX.out HN.out hb).mono ?_
  rintro e w1 ⟨rfl, hd1⟩
  have HK1 := Lib.hid (hd1.kp []); clear hd1
  by_cases hok : okW l
  · have hd : decide (okW l) = true := by simp [hok]
    rw [hd]
    have HOK := Lib.hid hok; clear hok hd
    by_cases h1 : n = 1
    · subst h1
      go_wp2_with fail
      go_ret2
      refine ⟨some ⟨w1.heap.size, 0, none⟩, 1, 1, by rw [lensL_one HOK.out HN.out]; rfl, by rw [lensE_ok HOK.out]; rfl, ?_, HK1.out.alloc _⟩
      rw [lensL_one HOK.out HN.out]
      exact own_of_blk (xs := [.int .i64 1]) (rest := []) (Blk.new w1 3 [.int .i64 1]) HK1.out.size (Nat.le_refl _) (by unfold maxLen; omega) rfl rfl
    · have hn1 : ((n : Int) == 1) = false := by simp; omega
      have hn257 : n ≤ 257 := by have := HOK.out.2.2; have := HN.out; omega
      have hn2 : 2 ≤ n := by have := HOK.out.2.1; have := HN.out; omega
      have hm1 := run_make_list (P := Tryz.prog) 135 51 i0 (.slice none 0 0) Tryz.underlying135 hi hz0 hz1 rfl .i64 .i64 n (by rw [hz2]; omega) (by omega)
      have hm2 := run_make_list (P := Tryz.prog) 51 3 i1 (.int .i64 0) Tryz.underlying51 hi' hy0 hy1 rfl .i64 .i64 n (by rw [hy2]; omega) (by omega)
      clear hi hz0 hz1 hz2 hi' hy0 hy1 hy2 h1
      have HT0 := Lib.hid (show Two ((w1.alloc (.cells (Array.replicate n (.slice none 0 0)) 51)).alloc (.cells (Array.replicate n (.slice none 0 0)) 51)) w.heap.size w1.heap.size (w1.heap.size + 1) n 0 (fun _ => 0) (fun _ => 0) (fun _ _ => 0) (fun _ _ => 0) from by
        have b1 := Blk.new w1 51 (List.replicate n (.slice none 0 0))
        have b2 := Blk.new (w1.alloc (.cells (List.replicate n (.slice none 0 0)).toArray 51)) 51 (List.replicate n (.slice none 0 0))
        have e : (w1.alloc (.cells (List.replicate n (.slice none 0 0)).toArray 51)).heap.size = w1.heap.size + 1 := by simp
        rw [e] at b2
        have hs := HK1.out.size
        refine ⟨MatK.start hs ?_, MatK.start (by omega) ?_, by omega, fun i j h => by omega⟩
        · simpa using b1.alloc (.cells (List.replicate n (.slice none 0 0)).toArray 51)
        · simpa using b2)
      go_wp2_with fail
      go_loopw [7] (fun x wr => ∃ (k : Nat) (Rc Rp : Nat → Nat), x = .int .i64 (k : Int) ∧ k ≤ n ∧ Hid (Two wr w.heap.size w1.heap.size (w1.heap.size + 1) n k Rc Rp (fun _ _ => 0) (fun _ _ => 0)) ∧ Hid (Kp [] w wr)) (fun x _ => n - (intOf x).toNat)
      case atStart => exact ⟨0, _, _, rfl, by omega, HT0, Lib.hid ((HK1.out.alloc _).alloc _)⟩
      case round =>
        obtain ⟨k, Rc, Rp, rfl, hk, HT, HK⟩ := hrel
        by_cases hlt : k < n
        · have hal := HT.out.c.rows.kp0 ((Kp.refl [] wr).alloc (.cells (Array.replicate n (.int .i64 0)) 3))
          have c1 : (wr.alloc (.cells (Array.replicate n (.int .i64 0)) 3)).cell? ⟨w1.heap.size, k, none⟩ = some (.slice none 0 0) := by rw [hal.cell]; simp [hlt]
          have f1 := hal.free k
          have hka : Kp [w1.heap.size] wr (((wr.alloc (.cells (Array.replicate n (.int .i64 0)) 3)).setCell ⟨w1.heap.size, k, none⟩ (.slice (some ⟨wr.heap.size, 0, none⟩) n n)).alloc (.cells (Array.replicate n (.int .i64 0)) 3)) := (((Kp.refl _ wr).alloc _).setCell (.inl (by simp)) _).alloc _
          have hpr := HT.out.p.rows.kp hka (by simp)
          have c2 : (((wr.alloc (.cells (Array.replicate n (.int .i64 0)) 3)).setCell ⟨w1.heap.size, k, none⟩ (.slice (some ⟨wr.heap.size, 0, none⟩) n n)).alloc (.cells (Array.replicate n (.int .i64 0)) 3)).cell? ⟨w1.heap.size + 1, k, none⟩ = some (.slice none 0 0) := by rw [hpr.cell]; simp [hlt]
          have f2 := hpr.free k
          clear hal
          clear hpr hka
          go_wp2_with fail
          exact ⟨⟨k + 1, fun j => if j = k then wr.heap.size else Rc j, fun j => if j = k then wr.heap.size + 1 else Rp j, by go_num, by omega, Lib.hid (by have hM := HT.out.made hlt HK.out.size rfl rfl; simpa using hM), Lib.hid ((((HK.out.alloc _).setCell (.inr HT.out.c.far.1) _).alloc _).setCell (.inr HT.out.p.far.1) _)⟩, by simp [intOf]; omega⟩
        · obtain rfl : n = k := by omega
          clear HT0
          go_wp2_with fail
          go_loopw [8] (fun x wr => ∃ (long : Nat) (F H : Nat → Nat → Nat), x = .int .i64 (long : Int) ∧ 2 ≤ long ∧ long ≤ n + 1 ∧ Hid (Done l n long 0 F H) ∧ Hid (Two wr w.heap.size w1.heap.size (w1.heap.size + 1) n n Rc Rp F H) ∧ Hid (Kp [] w wr)) (fun x _ => n + 1 - (intOf x).toNat)
          case atStart => exact ⟨2, _, _, rfl, by omega, by omega, Lib.hid (Done.start l n), HT, HK⟩
          case round =>
            clear HT HK
            obtain ⟨long, F, H, rfl, hl2, hln, HF, HT, HK⟩ := hrel
            by_cases hll : long ≤ n
            · go_wp2_with fail
              go_loopw [9] (fun x wr => ∃ (i : Nat) (F H : Nat → Nat → Nat), x = .int .i64 (i : Int) ∧ i + long ≤ n + 1 ∧ Hid (Done l n long i F H) ∧ Hid (Two wr w.heap.size w1.heap.size (w1.heap.size + 1) n n Rc Rp F H) ∧ Hid (Kp [] w wr)) (fun x _ => n + 1 - (intOf x).toNat)
              case atStart => exact ⟨0, F, H, rfl, by omega, HF, HT, HK⟩
              case round =>
                clear HF HT HK
                obtain ⟨i, F, H, rfl, hil, HF, HT, HK⟩ := hrel
                obtain ⟨j1, hj1⟩ : ∃ j1, j1 = i + long := ⟨_, rfl⟩
                have hwj : IntKind.i64.wrap ((i : Int) + (long : Int)) = (j1 : Int) := by rw [IntKind.wrap_i64]; omega
                by_cases hile : j1 ≤ n
                · obtain ⟨j, hj⟩ : ∃ j, j1 = j + 1 := ⟨j1 - 1, by omega⟩
                  have hwj2 : IntKind.i64.wrap ((j1 : Int) - 1) = (j : Int) := by rw [IntKind.wrap_i64]; omega
                  have HJ := Lib.hid (show i + long = j + 1 by omega)
                  have HJN := Lib.hid (show j < n ∧ i < j by omega)
                  have HJ1 := Lib.hid hj; clear hj
                  have HJL := Lib.hid hj1; clear hj1
                  go_wp2_with fail
                  go_loopw [11, 12] (fun y x wr' => ∃ c : Nat, x = .int .i64 (c : Int) ∧ i ≤ c ∧ c ≤ j + 1 ∧ y = .int .i64 ((pre (wt l) c - pre (wt l) i : Nat) : Int) ∧ wr = wr') (fun _ x _ => n + 1 - (intOf x).toNat)
                  case atStart => exact ⟨i, rfl, by omega, by have := HJN.out; omega, by rw [Nat.sub_self]; rfl, rfl⟩
                  case round =>
                    obtain ⟨c2, rfl, hc1, hc2, rfl, rfl⟩ := hrel
                    by_cases hcj : c2 ≤ j
                    · obtain ⟨x, ad, hxk, rfl, _, hcx⟩ := (HX.out.kp0 HK.out).ix (i := c2) (by have := HN.out; have := HJN.out; omega)
                      obtain ⟨v, hv, hvb⟩ : ∃ v, v = wt l c2 ∧ v ≤ 4294967296 := ⟨_, rfl, wt_le HOK.out.1 c2⟩
                      have hxv := wt_get HOK.out.1 hxk
                      rw [← hv] at hxv
                      subst hxv
                      obtain ⟨u, hu⟩ : ∃ u, u = pre (wt l) c2 - pre (wt l) i := ⟨_, rfl⟩
                      have hub : u ≤ 258 * 4294967296 := by
                        have h1 := pre_le HOK.out.1 c2
                        have h2 : c2 * 4294967296 ≤ 258 * 4294967296 := Nat.mul_le_mul_right _ (by have := HJN.out; omega)
                        omega
                      have hnx : u + v = pre (wt l) (c2 + 1) - pre (wt l) i := by
                        have h1 := pre_mono (wt l) hc1
                        simp only [pre]
                        omega
                      rw [← hu]
                      have HNX := Lib.hid hnx; clear hnx hu hv hxk
                      have hcn : c2 < n := by have := HJN.out; omega
                      go_wp2_with fail
                      exact ⟨⟨c2 + 1, by go_num, by omega, by omega, by rw [← HNX.out]; go_num, trivial⟩, by simp [intOf]; have := HJN.out; omega⟩
                    · obtain rfl : c2 = j + 1 := by omega
                      obtain ⟨sv, hsv⟩ : ∃ sv, sv = pre (wt l) (j + 1) - pre (wt l) i := ⟨_, rfl⟩
                      have hsb : sv ≤ 258 * 4294967296 := by
                        have h1 := pre_le HOK.out.1 (j + 1)
                        have h2 : (j + 1) * 4294967296 ≤ 258 * 4294967296 := Nat.mul_le_mul_right _ (by have := HJN.out; omega)
                        omega
                      rw [← hsv]
                      have HSV := Lib.hid (show sv = S (wt l) i j from hsv); clear hsv
                      go_wp2_with fail
                      go_loopw [13] (fun x wr => ∃ (k : Nat) (F H : Nat → Nat → Nat) (a b : Int), x = .int .i64 (k : Int) ∧ 1 ≤ k ∧ k ≤ long ∧ Hid (Best (spc (wt l) i j) (i + 1) (i + k) a b) ∧ Hid (1 < k → ((F i j : Nat) : Int) = (sv : Int) + a ∧ ((H i j : Nat) : Int) = b - i) ∧ Hid (Done l n long i F H) ∧ Hid (Two wr w.heap.size w1.heap.size (w1.heap.size + 1) n n Rc Rp F H) ∧ Hid (Kp [] w wr)) (fun x _ => n + 1 - (intOf x).toNat)
                      case atStart => exact ⟨1, F, H, -1, 0, rfl, by omega, by omega, Lib.hid (.inl ⟨rfl, rfl, rfl⟩), Lib.hid (fun h => by omega), HF, HT, HK⟩
                      case round =>
                        clear HF HT HK
                        obtain ⟨k, F, H, a, b, rfl, hk1, hk2, HB, HV, HF, HT, HK⟩ := hrel
                        by_cases hkl : k < long
                        · obtain ⟨p, hp⟩ : ∃ p, p = i + k := ⟨_, rfl⟩
                          obtain ⟨p1, hp1⟩ : ∃ p1, p = p1 + 1 := ⟨p - 1, by omega⟩
                          have hwp : IntKind.i64.wrap ((i : Int) + (k : Int)) = (p : Int) := by rw [IntKind.wrap_i64]; omega
                          have hwp1 : IntKind.i64.wrap ((p : Int) - 1) = (p1 : Int) := by rw [IntKind.wrap_i64]; omega
                          have HPP := Lib.hid (show i < p ∧ p ≤ j ∧ p = p1 + 1 ∧ p = i + k by have := HJ.out; omega)
                          clear hp hp1
                          have hin : i < n := by have := HJN.out; omega
                          have hjn : j < n := HJN.out.1
                          have hpn : p < n := by have := HPP.out; omega
                          have hp1n : p1 < n := by have := HPP.out; omega
                          obtain ⟨c1, c3, _⟩ := HT.out.c.at_ (i := i) (j := p1) hin hp1n
                          obtain ⟨d1, d3, _⟩ := HT.out.c.at_ (i := p) (j := j) hpn hjn
                          obtain ⟨_, e3, e4⟩ := HT.out.c.at_ (i := i) (j := j) hin hjn
                          rw [(HF.out i p1 (by have := HPP.out; omega) hp1n (by have := HPP.out; omega)).1] at c3
                          rw [(HF.out p j (by have := HPP.out; omega) hjn (by have := HPP.out; have := HJ.out; omega)).1] at d3
                          have hb1 := C_bound (wt l) _ i p1 rfl (by have := HPP.out; omega)
                          have hb2 := C_bound (wt l) _ p j rfl (by have := HPP.out; omega)
                          have hp1' := pre_le HOK.out.1 (p1 + 1)
                          have hp2' := pre_le HOK.out.1 (j + 1)
                          have hsp : spc (wt l) i j p = C (wt l) i p1 + C (wt l) p j := by unfold spc; rw [HPP.out.2.2.1]; rfl
                          obtain ⟨ca, hca⟩ : ∃ ca, ca = C (wt l) i p1 := ⟨_, rfl⟩
                          obtain ⟨cb, hcb⟩ : ∃ cb, cb = C (wt l) p j := ⟨_, rfl⟩
                          rw [← hca] at c3 hb1 hsp
                          rw [← hcb] at d3 hb2 hsp
                          have hla : ca ≤ 257 * (258 * 4294967296) := Nat.le_trans hb1 (Nat.mul_le_mul (by omega) (Nat.le_trans hp1' (Nat.mul_le_mul_right _ (by omega))))
                          have hlb : cb ≤ 257 * (258 * 4294967296) := Nat.le_trans hb2 (Nat.mul_le_mul (by omega) (Nat.le_trans hp2' (Nat.mul_le_mul_right _ (by omega))))
                          obtain ⟨cn, hcn⟩ : ∃ cn, cn = sv + ca + cb := ⟨_, rfl⟩
                          have hw3 : IntKind.i64.wrap ((sv : Int) + (ca : Int)) = (sv : Int) + (ca : Int) := by rw [IntKind.wrap_i64]; omega
                          have hw4 : IntKind.i64.wrap ((sv : Int) + (ca : Int) + (cb : Int)) = (cn : Int) := by rw [IntKind.wrap_i64]; omega
                          obtain ⟨old, hold⟩ : ∃ old, old = F i j := ⟨_, rfl⟩
                          rw [← hold] at e3
                          have HCN := Lib.hid (show (cn : Int) = (sv : Int) + ((spc (wt l) i j p : Nat) : Int) by rw [hsp]; omega)
                          have HOLD := Lib.hid hold; clear hold
                          clear hca hcb hb1 hb2 hp1' hp2' hsp hcn hla hlb
                          go_wp2_with fail
                          go_quiet (fail)
                          have hT1 := HT.out.kp0 ((Kp.refl [] wr).drewN nq)
                          have kq : Kp [Rc i] (wr.drewN nq) ((wr.drewN nq).setCell ⟨Rc i, j, none⟩ (.int .i64 (cn : Int))) := (Kp.refl _ _).setCell (.inl (by simp)) _
                          have hTp := hT1.p.kp kq (by simp only [List.mem_singleton]; exact Ne.symm ((hT1.c.row i hin).ne hT1.p.rows (by decide))) (fun x hx => by simp only [List.mem_singleton]; exact Ne.symm (hT1.rs i x hin hx))
                          obtain ⟨g1, g3, g4⟩ := hTp.at_ (i := i) (j := j) hin hjn
                          have HPUT := Lib.hid (hT1.put hin hjn cn k)
                          have HFR := Lib.hid (show w.heap.size ≤ Rc i ∧ w.heap.size ≤ Rp i from ⟨hT1.c.far.2 i hin, hT1.p.far.2 i hin⟩)
                          clear hTp kq hT1
                          have hBe := HB.out
                          rw [← HPP.out.2.2.2] at hBe
                          have HBE := Lib.hid hBe; clear hBe HB
                          by_cases hk1' : k = 1
                          · have hke : ((k : Int) == 1) = true := by simp; omega
                            have hT := HBE.out.takes (by have := HPP.out; omega) (.inl (HBE.out.zero (by have := HPP.out; omega)))
                            rw [show p + 1 = i + (k + 1) from by have := HPP.out; omega] at hT
                            have HTK := Lib.hid hT; clear hT
                            have HK11 := Lib.hid hk1'; clear hk1'
                            go_wp2_with fail
                            have hT := HTK.out
                            refine ⟨⟨k + 1, _, _, ((spc (wt l) i j p : Nat) : Int), (p : Int), by go_num, by omega, by omega, Lib.hid hT, Lib.hid (fun _ => ?_), Lib.hid (HF.out.put HJ.out), HPUT, Lib.hid (((HK.out.drewN _).setCell (.inr HFR.out.1) _).setCell (.inr HFR.out.2) _)⟩, by simp [intOf]; omega⟩
                            rw [if_pos ⟨rfl, rfl⟩, if_pos ⟨rfl, rfl⟩]
                            exact ⟨HCN.out, by have := HPP.out; omega⟩
                          · have hke : ((k : Int) == 1) = false := by simp; omega
                            have HV1 := Lib.hid (HV.out (by omega))
                            by_cases hlt2 : cn < old
                            · have hT := HBE.out.takes (by have := HPP.out; omega) (.inr (by have := HV1.out.1; have := HOLD.out; have := HCN.out; omega))
                              rw [show p + 1 = i + (k + 1) from by have := HPP.out; omega] at hT
                              have HTK := Lib.hid hT; clear hT
                              go_wp2_with fail
                              have hT := HTK.out
                              refine ⟨⟨k + 1, _, _, ((spc (wt l) i j p : Nat) : Int), (p : Int), by go_num, by omega, by omega, Lib.hid hT, Lib.hid (fun _ => ?_), Lib.hid (HF.out.put HJ.out), HPUT, Lib.hid (((HK.out.drewN _).setCell (.inr HFR.out.1) _).setCell (.inr HFR.out.2) _)⟩, by simp [intOf]; omega⟩
                              rw [if_pos ⟨rfl, rfl⟩, if_pos ⟨rfl, rfl⟩]
                              exact ⟨HCN.out, by have := HPP.out; omega⟩
                            · have hT := HBE.out.keeps (by have := HV1.out.1; have := HOLD.out; have := HCN.out; have := HBE.out.some (by have := HPP.out; omega); omega)
                              rw [show p + 1 = i + (k + 1) from by have := HPP.out; omega] at hT
                              have HTK := Lib.hid hT; clear hT
                              go_wp2_with fail
                              exact ⟨⟨k + 1, F, H, a, b, by go_num, by omega, by omega, HTK, Lib.hid (fun _ => HV1.out), HF, Lib.hid (HT.out.kp0 ((Kp.refl [] wr).drewN nq)), Lib.hid (HK.out.drewN _)⟩, by simp [intOf]; omega⟩
                        · obtain rfl : k = long := by omega
                          have hBd := HB.out
                          rw [HJ.out] at hBd
                          have hKb := K_bound (wt l) HJN.out.2
                          obtain ⟨ea, eb⟩ := hBd.done (p := K (wt l) i j) (by omega) (by omega) (fun q h1 h2 => K_min (wt l) (by omega) (by omega)) (fun q h1 h2 => K_first (wt l) (by omega) HJN.out.2 h2)
                          have hV := HV.out (by omega)
                          have hCe := C_eq (wt l) HJN.out.2
                          have hsv := HSV.out
                          have hDS := Lib.hid (HF.out.step HJ.out (by rw [hCe, ← hsv]; have := hV.1; unfold spc at ea; omega) (by have := hV.2; omega))
                          have HEND := Lib.hid (show i + 1 + k ≤ n + 1 by have := HJ.out; have := HJN.out; omega)
                          clear ea eb hV hCe hsv hBd hKb
                          go_wp2_with fail
                          exact ⟨⟨i + 1, F, H, by go_num, HEND.out, hDS, HT, HK⟩, by simp [intOf]; omega⟩
                · have hN := Lib.hid (HF.out.next (by omega))
                  go_wp2_with fail
                  exact ⟨⟨long + 1, F, H, by go_num, by omega, by omega, hN, HT, HK⟩, by simp [intOf]; omega⟩
            · obtain rfl : long = n + 1 := by omega
              have HDN := Lib.hid (show ∀ a b, a < b → b < n → H a b = K (wt l) a b - a from fun a b q1 q2 => (HF.out a b (by omega) q2 (by omega)).2 q1)
              obtain ⟨p, hp⟩ : ∃ p, n = p + 1 := ⟨n - 1, by omega⟩
              have hwp : IntKind.i64.wrap ((n : Int) - 1) = (p : Int) := by rw [IntKind.wrap_i64]; omega
              have HP := Lib.hid hp; clear hp
              go_wp2_with fail
              have HTA := Lib.hid (HT.out.kp0 ((Kp.refl [] wr).alloc (.cells (Array.replicate n (.int .i64 0)) 3)))
              have hbn : Blk (wr.alloc (.cells (Array.replicate n (.int .i64 0)) 3)) wr.heap.size 3 ((List.replicate n (0 : Int)).map (.int .i64)) := by simpa using Blk.new wr 3 (List.replicate n (.int .i64 0))
              refine (rrow_any w.heap.size (w1.heap.size + 1) n wr.heap.size n n Rp H l hn257 HDN.out p 0 p 0 (List.replicate n 0) _ rfl (by omega) (by have := HP.out; omega) (by have := HP.out; omega) HTA.out.p (fun x hx => by have := (HT.out.p.row x hx).lt; omega) hbn (by simp)).mono ?_
              rintro e w2 ⟨rfl, hb2, hk2⟩
              have hll : lens (wt l) 0 p 0 = lensL l := by rw [lensL_more HOK.out (by have := HN.out; have := HP.out; omega), HN.out, HP.out]; rfl
              have hlen : (lensL l).length = n := by rw [lensL_len HOK.out, HN.out]
              rw [hll, laidAt_all (by rw [hlen]; simp)] at hb2
              have HB2 := Lib.hid hb2; clear hb2
              have HLEN := Lib.hid hlen; clear hlen hll
              have HK2 := Lib.hid ((HK.out.alloc (.cells (Array.replicate n (.int .i64 0)) 3)).trans' hk2 (by intro g hg; simp only [List.mem_singleton] at hg; subst hg; exact .inr HK.out.size)); clear hk2
              go_wp2_with fail
              go_ret2
              refine ⟨some ⟨wr.heap.size, 0, none⟩, n, n, HLEN.out.symm, by rw [lensE_ok HOK.out]; rfl, ?_, HK2.out⟩
              exact own_of_blk (xs := (lensL l).map (.int .i64)) (rest := []) (by simpa using HB2.out) HK.out.size (Nat.le_refl _) (by unfold maxLen; omega) (by rw [List.length_map, HLEN.out, Nat.mul_one]) (by rw [List.append_nil, List.length_map, HLEN.out, Nat.mul_one])
  · have hd : decide (okW l) = false := by simp [hok]
    rw [hd]
    have HOK := Lib.hid hok; clear hok hd
    go_wp2_with fail
    go_ret2
    refine ⟨none, 0, 0, by rw [lensL_no HOK.out]; rfl, by rw [lensE_no HOK.out]; rfl, ?_, HK1.out⟩
    rw [lensL_no HOK.out]
    exact ⟨rfl, .inl ⟨rfl, rfl⟩⟩
end Go.Proofs.YtlaionhlejmjdaaGreatDoor
