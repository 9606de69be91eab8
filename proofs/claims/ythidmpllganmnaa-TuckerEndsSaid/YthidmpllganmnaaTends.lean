/-
  THE STATEMENT TuckerEnds OF LAYER 5, its walk: a closed statement; it returns true and writes to nothing that was there.
  CONDITIONS: none.
-/
import Derived.Test.YthidmpllganmnaaTfits
import Derived.Test.YthidmpllganmnaaMBest
import Derived.Test.YthidmpllganmnaaRegF
import Derived.Test.YthidmpllganmnaaRegT
namespace Go.Proofs.Ythidmpllganmnaa
open Go.RowKit

/-- Two rows of the call's own that lie apart. -/
structure Pair (w : World) (b : Nat) (y z : Value) (m k : Nat) (v u : List Int) : Prop where
  o1 : w.ownsRow b 3 1 y m (v.map (.int .i64))
  o2 : w.ownsRow b 3 1 z k (u.map (.int .i64))
  ne : ∀ g, y.ownBlock = some g → z.ownBlock ≠ some g
section
variable {w w' : World} {b m k : Nat} {y z y' : Value} {v u : List Int}
theorem Pair.swap (h : Pair w b y z m k v u) : Pair w b z y k m u v := ⟨h.o2, h.o1, fun g h1 h2 => h.ne g h2 h1⟩
theorem Pair.kp0 (h : Pair w b y z m k v u) (hk : Kp [] w w') : Pair w' b y z m k v u := ⟨own_kp0 h.o1 hk, own_kp0 h.o2 hk, h.ne⟩
theorem Pair.left {o : Obj} {x : Int} (h : Pair w b y z m k v u) (hown : w'.ownsRow b 3 1 y' (m + 1) (v.map (.int .i64) ++ [.int .i64 x])) (hg : (w.alloc o).grownBy w' y.ownBlock) (hat : y'.ownBlock = y.ownBlock ∨ y'.ownBlock = some (w.alloc o).heap.size) :
    Pair w' b y' z (m + 1) k (v ++ [x]) u := by
  have hk : Kp (ownL y) w w' := ((Kp.refl _ w).alloc o).grown hg (fun g hg => .inl (mem_ownL.2 hg))
  refine ⟨by rw [List.map_append]; exact hown, own_kp h.o2 hk (fun g hg hm => h.ne g (mem_ownL.1 hm) hg), fun g h1 h2 => ?_⟩
  rcases hat with e | e
  · exact h.ne g (e ▸ h1) h2
  · rw [e] at h1
    injection h1 with h1
    have := (own_ge h.o2 h2).2
    simp at h1
    omega
theorem Pair.keep {o : Obj} {w0 : World} (h : Pair w b y z m k v u) (hk : Kp [] w0 w) (hg : (w.alloc o).grownBy w' y.ownBlock) (hb : b = w0.heap.size) : Kp [] w0 w' :=
  (hk.alloc o).grown hg (fun g hg => .inr (by subst hb; exact (own_ge h.o1 hg).1))
end
theorem Pair.nil (w : World) (b : Nat) : Pair w b (.slice none 0 0) (.slice none 0 0) 0 0 [] [] := ⟨⟨rfl, .inl ⟨rfl, rfl⟩⟩, ⟨rfl, .inl ⟨rfl, rfl⟩⟩, fun g h => by cases h⟩
theorem own_new {w : World} {o : Obj} {v v' : Value} (hat : v'.ownBlock = v.ownBlock ∨ v'.ownBlock = some (w.alloc o).heap.size) : ∀ x ∈ ownL v', x ∈ ownL v ∨ w.heap.size ≤ x := fun x hx => by
  rw [mem_ownL] at hx
  rcases hat with h | h
  · exact .inl (by rw [mem_ownL, ← h]; exact hx)
  · rw [h] at hx
    injection hx with hx
    subst hx
    exact .inr (by simp)
theorem app_facts {w w2 : World} {o : Obj} {v v' : Value} (hg : (w.alloc o).grownBy w2 v.ownBlock) (hat : v'.ownBlock = v.ownBlock ∨ v'.ownBlock = some (w.alloc o).heap.size) : Kp (ownL v) w w2 ∧ ∀ x ∈ ownL v', x ∈ ownL v ∨ w.heap.size ≤ x :=
  ⟨((Kp.refl _ w).alloc o).grown hg (fun _ hb => .inl (mem_ownL.2 hb)), own_new hat⟩
/-- All of a list lie in so many bits. -/
def Sm (l : List Int) : Prop := ∀ x ∈ l, x ≤ 9223372036854775807
theorem Sm.snoc {l : List Int} {x : Int} (h : Sm l) (hx : x ≤ 9223372036854775807) : Sm (l ++ [x]) := by
  intro z hz
  rcases List.mem_append.1 hz with hz | hz
  · exact h z hz
  · simp at hz; omega
theorem Sm.one {x : Int} (hx : x ≤ 9223372036854775807) : Sm [x] := by intro z hz; simp at hz; omega
theorem Sm.two {x y : Int} (hx : x ≤ 9223372036854775807) (hy : y ≤ 9223372036854775807) : Sm [x, y] := by intro z hz; simp at hz; omega
theorem rd_new (w : World) (l : List Int) (C : Array Value) (hC : C.toList = l.map (.int .i64)) : Rd (w.alloc (.cells C 3)) (w.alloc (.cells C 3)).heap.size (some ⟨w.heap.size, 0, none⟩) (l.map (.int .i64)) := by
  rw [← hC]
  exact (Rd.new w C 3 (0, 0)).here

theorem rd_pair (w : World) (l m : List Int) (C D : Array Value) (hC : C.toList = l.map (.int .i64)) (hD : D.toList = m.map (.int .i64)) : ∃ B, Rd ((w.alloc (.cells C 3)).alloc (.cells D 3)) B (some ⟨w.heap.size, 0, none⟩) (l.map (.int .i64)) ∧ Rd ((w.alloc (.cells C 3)).alloc (.cells D 3)) B (some ⟨w.heap.size + 1, 0, none⟩) (m.map (.int .i64)) := by
  have h1 := (rd_new w l C hC).kp0 ((Kp.refl [] _).alloc (.cells D 3))
  have h2 := rd_new (w.alloc (.cells C 3)) m D hD
  have e : (w.alloc (.cells C 3)).heap.size = w.heap.size + 1 := by simp
  rw [e] at h2
  exact ⟨_, h1.here, h2.here⟩
theorem en_cell {w : World} {B E i : Nat} {l : List Int} {x : Int} (h : Rd w B (some ⟨E, 0, none⟩) (l.map (.int .i64))) (hx : l[i]? = some x) : w.cell? ⟨E, i, none⟩ = some (.int .i64 x) := by
  obtain ⟨ad, e, _, hc⟩ := h.at_ (i := i) (u := .int .i64 x) (by rw [List.getElem?_map, hx]; rfl)
  injection e with e
  subst e
  rwa [addr_lit_add, Nat.zero_add] at hc
/-- The ends. -/
def enL : List Int := [-9223372036854775808, -1, 0, 1, 4294967296, 4294967297, 9223372036854775807]
theorem enL_sm : Sm enL := by intro x hx; simp [enL] at hx; omega
def chL (n : Nat) : List Int := (List.range n).map fun k => ((min (k + 1) 256 : Nat) : Int)
theorem chL_succ (n : Nat) : chL (n + 1) = chL n ++ [((min (n + 1) 256 : Nat) : Int)] := by simp [chL, List.range_succ]
theorem chL_len (n : Nat) : (chL n).length = n := by simp [chL]
theorem chL_sm (n : Nat) : Sm (chL n) := by
  intro x hx
  obtain ⟨k, _, rfl⟩ := List.mem_map.1 hx
  omega
def roL (n : Nat) : List Int := List.replicate n 4294967296
theorem roL_succ (n : Nat) : roL (n + 1) = roL n ++ [4294967296] := List.replicate_succ'
theorem roL_len (n : Nat) : (roL n).length = n := List.length_replicate
theorem roL_ok : okW (roL 257) := ⟨fun x hx => by have := List.eq_of_mem_replicate hx; omega, by rw [roL_len]; omega, by rw [roL_len]; omega⟩
theorem roL_no : ¬ okW (roL 258) := fun h => by have := h.2.2; rw [roL_len] at this; omega
theorem chL_take : (chL 258).take 257 = chL 257 := by unfold chL; rw [← List.map_take, List.take_range, show min 257 258 = 257 from rfl]
theorem roL_take : (roL 258).take 257 = roL 257 := by unfold roL; rw [List.take_replicate, show min 257 258 = 257 from rfl]

set_option maxRecDepth 100000 in
set_option maxHeartbeats 40000000 in
theorem ends_any (w : World) : Calls Try.prog 5 #[] w fun e w' => e = .returned (.bool true) ∧ Kp [] w w' := by
  obtain ⟨i0, hi, hz0, hz1, hz2⟩ := info_parts Try.info_int
  go_enter Try.func5, Try.ntmps5
  go_wp2_with fail
  go_loopw [1] (fun x wr => ∃ n : Nat, x = .int .i64 n ∧ n ≤ 1365 ∧ Hid (Kp [] w wr)) (fun x _ => 1365 - (intOf x).toNat)
  case atStart => exact ⟨0, rfl, by omega, Lib.hid (Kp.refl [] w)⟩
  case round =>
    obtain ⟨n, rfl, hn, HK⟩ := hrel
    by_cases hlt : n < 1365
    · skip
      have hnd : decide ((n : Int) < 1365) = true := by simp; omega
      go_wp2_with fail
      go_loopw [2, 3, 4] (fun y z x wr => ∃ (k m c1 c2 : Nat) (A1 A2 : Option Addr) (v u : List Int), x = .int .i64 (k : Int) ∧ y = .slice A1 m c1 ∧ z = .slice A2 m c2 ∧ m + k ≤ 1365 ∧ Hid (v.length = m ∧ u.length = m) ∧ Hid (Sm u) ∧ Hid (Pair wr w.heap.size (.slice A1 m c1) (.slice A2 m c2) m m v u) ∧ Hid (Kp [] w wr)) (fun _ _ x _ => (intOf x).toNat)
      case atStart => exact ⟨n, 0, 0, 0, none, none, [], [], rfl, rfl, rfl, by omega, Lib.hid ⟨rfl, rfl⟩, Lib.hid (fun x hx => by cases hx), Lib.hid (Pair.nil _ _), HK⟩
      case round =>
        clear HK
        obtain ⟨k, m, c1, c2, A1, A2, v, u, rfl, rfl, rfl, hmk, HL, HS, HP, HK⟩ := hrel
        by_cases hk0 : 0 < k
        · obtain ⟨kp, hkp⟩ : ∃ kp, k = kp + 1 := ⟨k - 1, by omega⟩
          have hwk : IntKind.i64.wrap ((k : Int) - 1) = (kp : Int) := by rw [IntKind.wrap_i64]; omega
          obtain ⟨r, hr⟩ : ∃ r, r = kp % 4 := ⟨_, rfl⟩
          obtain ⟨q, hq⟩ : ∃ q, q = kp / 4 := ⟨_, rfl⟩
          have hr4 : r < 4 := by omega
          have hmod : (kp : Int).tmod 4 = (r : Int) := by rw [Int.tmod_eq_emod_of_nonneg (by omega)]; omega
          have hdiv : (kp : Int).tdiv 4 = (q : Int) := by rw [Int.tdiv_eq_ediv_of_nonneg (by omega)]; omega
          obtain ⟨x, hx, hx5⟩ : ∃ x : Int, [(0 : Int), 1, 2, 5][r]? = some x ∧ x ≤ 5 := by
            rcases (show r = 0 ∨ r = 1 ∨ r = 2 ∨ r = 3 by omega) with e | e | e | e <;> subst e <;> exact ⟨_, rfl, by omega⟩
          have hcx : (wr.alloc (.cells #[.int .i64 0, .int .i64 1, .int .i64 2, .int .i64 5] 3)).cell? ⟨wr.heap.size, r, none⟩ = some (.int .i64 x) := by
            have := (Blk.new wr 3 ([0, 1, 2, 5].map (Value.int .i64))).cell r
            rw [List.getElem?_map, hx] at this
            exact this
          have hwq : IntKind.i64.wrap (q : Int) = (q : Int) := by rw [IntKind.wrap_i64]; omega
          have hw1 : IntKind.i64.wrap (1 + (r : Int)) = ((r + 1 : Nat) : Int) := by rw [IntKind.wrap_i64]; omega
          have HQ := Lib.hid (show q < k ∧ q ≤ kp by omega)
          have HKP := Lib.hid hkp; clear hkp hr hq hx
          have HP1 := Lib.hid (HP.out.kp0 ((Kp.refl [] wr).alloc (.cells #[.int .i64 0, .int .i64 1, .int .i64 2, .int .i64 5] 3)))
          have HK1 := Lib.hid (HK.out.alloc (.cells #[.int .i64 0, .int .i64 1, .int .i64 2, .int .i64 5] 3))
          clear HP
          have HRX := Lib.hid (show Rd ((wr.alloc (.cells #[.int .i64 0, .int .i64 1, .int .i64 2, .int .i64 5] 3)).alloc (.cells #[.int .i64 x] 3)) (wr.heap.size + 2) (some ⟨wr.heap.size + 1, 0, none⟩) [.int .i64 x] by simpa using Rd.new (wr.alloc (.cells #[.int .i64 0, .int .i64 1, .int .i64 2, .int .i64 5] 3)) #[.int .i64 x] 3 (0, 0))
          go_wp2_with (first
            | (at_builtin; refine wpList_append_rd rfl (.tmp 25) (.tmp 32) 22 rfl w.heap.size 3 i0 (.int .i64 0) 1 8 Try.underlying22 hi hz0 hz1 hz2 rfl (by decide) _ m _ rfl (own_kp0 HP1.out.o1 ((Kp.refl [] _).alloc _)) _ _ 1 1 [.int .i64 x] rfl rfl HRX.out (by simp [Value.oneCell']) (by unfold maxLen; omega) (by omega) (Nat.le_trans HK1.out.size (by simp)) ?_; intro v2 w2 hown2 hgrow2 hat2
               obtain ⟨A3, c3, rfl, _⟩ := own_form hown2
               have HP2 := Lib.hid (HP1.out.left hown2 hgrow2 hat2).swap
               have HK2 := Lib.hid (HP1.out.keep HK1.out hgrow2 rfl)
               have HRY := Lib.hid (show Rd (w2.alloc (.cells #[.int .i64 ((r + 1 : Nat) : Int)] 3)) (w2.heap.size + 1) (some ⟨w2.heap.size, 0, none⟩) [.int .i64 ((r + 1 : Nat) : Int)] from Rd.new w2 #[.int .i64 ((r + 1 : Nat) : Int)] 3 (0, 0))
               clear hown2 hgrow2 hat2 HP1 HK1 HRX hcx)
            | (at_builtin; refine wpList_append_rd rfl (.tmp 34) (.tmp 39) 22 rfl w.heap.size 3 i0 (.int .i64 0) 1 8 Try.underlying22 hi hz0 hz1 hz2 rfl (by decide) _ m _ rfl (own_kp0 HP2.out.o1 ((Kp.refl [] _).alloc _)) _ _ 1 1 [.int .i64 ((r + 1 : Nat) : Int)] rfl rfl HRY.out (by simp [Value.oneCell']) (by unfold maxLen; omega) (by omega) (Nat.le_trans HK2.out.size (by simp)) ?_; intro v3 w3 hown3 hgrow3 hat3
               obtain ⟨A4, c4, rfl, _⟩ := own_form hown3
               have HP3 := Lib.hid (HP2.out.left hown3 hgrow3 hat3).swap
               have HK3 := Lib.hid (HP2.out.keep HK2.out hgrow3 rfl)
               clear hown3 hgrow3 hat3 HP2 HK2 HRY))
          have HL3 := Lib.hid (show (v ++ [x]).length = m + 1 ∧ (u ++ [((r + 1 : Nat) : Int)]).length = m + 1 from ⟨by rw [List.length_append, HL.out.1]; rfl, by rw [List.length_append, HL.out.2]; rfl⟩)
          have HS3 := Lib.hid (HS.out.snoc (x := ((r + 1 : Nat) : Int)) (by omega))
          exact ⟨⟨q, m + 1, c3, c4, A3, A4, _, _, rfl, rfl, rfl, by have := HQ.out; have := HKP.out; omega, HL3, HS3, HP3, HK3⟩, by simp [intOf]; exact HQ.out.1⟩
        · obtain rfl : k = 0 := by omega
          have HX1 := Lib.hid (own_rd HP.out.o1)
          have HX2 := Lib.hid (own_rd HP.out.o2)
          have hmc2 : m ≤ c2 := by
            obtain ⟨_, _, hv2, hmc2, _⟩ := own_form HP.out.o2
            injection hv2 with _ _ hv2
            omega
          clear HP
          have hmb : m ≤ 1365 := by omega
          go_wp2_with fail
          refine (tells_any A1 m c1 _ v wr HX1.out HL.out.1 (by omega)).mono ?_
          rintro e w1 ⟨rfl, hk1⟩
          have HK1 := Lib.hid hk1; clear hk1
          go_wp2_with fail
          refine (fitsL_any A1 A2 m m c1 c2 _ _ v u w1 (HX1.out.kp0 HK1.out) (HX2.out.kp0 HK1.out) HL.out.1 HL.out.2 (by omega) (by omega) HS.out).mono ?_
          rintro e w2 ⟨rfl, hk2⟩
          have HK2 := Lib.hid (HK1.out.trans hk2); clear hk2
          clear HK1
          by_cases hm0 : 0 < m
          · have hmd : decide ((0 : Int) < (m : Int)) = true := by simp; omega
            have hp1 : 1 ≤ m := by omega
            obtain ⟨ad, rfl, _⟩ := HX2.out.at_ (i := 0) (u := .int .i64 (u.getD 0 0)) (by
              rw [List.getElem?_map, List.getD_eq_getElem?_getD, List.getElem?_eq_getElem (by rw [HL.out.2]; exact hm0)]; rfl)
            have hr := (HX2.out.kp0 HK2.out).here
            by_cases hc21 : c2 = 1
            · subst hc21
              have HRT := Lib.hid (show Rd w2 w2.heap.size (some ad) ((u.drop 1).map (.int .i64)) by
                rw [List.drop_of_length_le (by rw [HL.out.2]; omega)]
                exact Rd.nil _ _ _)
              clear hr
              go_wp2_with fail
              refine (fitsL_any A1 _ m _ c1 _ _ _ v (u.drop 1) w2 (HX1.out.kp0 HK2.out) HRT.out HL.out.1 (by have := List.length_drop (i := 1) (l := u); have := HL.out.2; omega) (by omega) (by omega) (fun x hx => HS.out x (List.mem_of_mem_drop hx))).mono ?_
              rintro e w3 ⟨rfl, hk3⟩
              have HK3 := Lib.hid ((HK.out.trans HK2.out).trans hk3); clear hk3
              go_wp2_with fail
              exact ⟨⟨n + 1, by go_num, by omega, HK3⟩, by simp [intOf]; omega⟩
            · have HRT := Lib.hid (show Rd w2 w2.heap.size (some ⟨ad.block, ad.off + 1, none⟩) ((u.drop 1).map (.int .i64)) by rw [List.map_drop]; exact hr.drop 1)
              have hc1 : 1 ≤ c2 := by omega
              clear hr
              go_wp2_with fail
              refine (fitsL_any A1 _ m _ c1 _ _ _ v (u.drop 1) w2 (HX1.out.kp0 HK2.out) HRT.out HL.out.1 (by have := List.length_drop (i := 1) (l := u); have := HL.out.2; omega) (by omega) (by omega) (fun x hx => HS.out x (List.mem_of_mem_drop hx))).mono ?_
              rintro e w3 ⟨rfl, hk3⟩
              have HK3 := Lib.hid ((HK.out.trans HK2.out).trans hk3); clear hk3
              go_wp2_with fail
              exact ⟨⟨n + 1, by go_num, by omega, HK3⟩, by simp [intOf]; omega⟩
          · have hmd : decide ((0 : Int) < (m : Int)) = false := by simp; omega
            go_wp2_with fail
            exact ⟨⟨n + 1, by go_num, by omega, Lib.hid (HK.out.trans HK2.out)⟩, by simp [intOf]; omega⟩
    · have hnd : decide ((n : Int) < 1365) = false := by simp; omega
      clear hlt hn
      go_wp2_with fail
      have HEN := Lib.hid (show Rd (wr.alloc (.cells #[.int .i64 (-9223372036854775808), .int .i64 (-1), .int .i64 0, .int .i64 1, .int .i64 4294967296, .int .i64 4294967297, .int .i64 9223372036854775807] 3)) (wr.alloc (.cells #[.int .i64 (-9223372036854775808), .int .i64 (-1), .int .i64 0, .int .i64 1, .int .i64 4294967296, .int .i64 4294967297, .int .i64 9223372036854775807] 3)).heap.size (some ⟨wr.heap.size, 0, none⟩) (enL.map (.int .i64)) from rd_new wr enL _ rfl)
      have HK1 := Lib.hid (HK.out.alloc (.cells #[.int .i64 (-9223372036854775808), .int .i64 (-1), .int .i64 0, .int .i64 1, .int .i64 4294967296, .int .i64 4294967297, .int .i64 9223372036854775807] 3))
      generalize wr.heap.size = E at HEN ⊢
      generalize (wr.alloc (.cells #[.int .i64 (-9223372036854775808), .int .i64 (-1), .int .i64 0, .int .i64 1, .int .i64 4294967296, .int .i64 4294967297, .int .i64 9223372036854775807] 3)) = w2 at HEN HK1 ⊢
      clear HK
      go_loopw [6] (fun x wr => ∃ i : Nat, x = .int .i64 i ∧ i ≤ 7 ∧ Hid (Rd wr wr.heap.size (some ⟨E, 0, none⟩) (enL.map (.int .i64))) ∧ Hid (Kp [] w wr)) (fun x _ => 7 - (intOf x).toNat)
      case atStart => exact ⟨0, rfl, by omega, HEN, HK1⟩
      case round =>
        clear HEN HK1
        obtain ⟨i, rfl, hi7, HEN, HK⟩ := hrel
        by_cases hil : i < 7
        · have hid : decide ((i : Int) < 7) = true := by simp; omega
          obtain ⟨a, hia⟩ : ∃ a, enL[i]? = some a := ⟨_, List.getElem?_eq_getElem (by show i < 7; exact hil)⟩
          have hab := enL_sm a (List.mem_of_getElem? hia)
          have HIA := Lib.hid hia; clear hia
          go_wp2_with fail
          go_loopw [7] (fun x wr => ∃ k : Nat, x = .int .i64 k ∧ k ≤ 7 ∧ Hid (Rd wr wr.heap.size (some ⟨E, 0, none⟩) (enL.map (.int .i64))) ∧ Hid (Kp [] w wr)) (fun x _ => 7 - (intOf x).toNat)
          case atStart => exact ⟨0, rfl, by omega, HEN, HK⟩
          case round =>
            clear HEN HK
            obtain ⟨k, rfl, hk7, HEN, HK⟩ := hrel
            by_cases hkl : k < 7
            · obtain ⟨b, hkb⟩ : ∃ b, enL[k]? = some b := ⟨_, List.getElem?_eq_getElem (by show k < 7; exact hkl)⟩
              have hbb := enL_sm b (List.mem_of_getElem? hkb)
              have HKB := Lib.hid hkb; clear hkb
              have hii : (i : Int) < 7 := by omega
              have hki : (k : Int) < 7 := by omega
              go_upto_region 19 with fail
              have HC84 := Lib.hid (fun (A9 : Option Addr) (c9 : Nat) (w9 : World) (hr9 : Rd w9 w9.heap.size A9 [Value.int .i64 a, Value.int .i64 b]) => tells_any A9 2 c9 w9.heap.size [a, b] w9 (by simpa using hr9) rfl (by decide))
              have HC96 := Lib.hid (fun (A9 : Option Addr) (c9 : Nat) (w9 : World) (hr9 : Rd w9 w9.heap.size A9 [Value.int .i64 a, Value.int .i64 7, Value.int .i64 b, Value.int .i64 4294967296]) => tells_any A9 4 c9 w9.heap.size [a, 7, b, 4294967296] w9 (by simpa using hr9) rfl (by decide))
              have HC110 := Lib.hid (fun (A9 A8 : Option Addr) (c9 c8 : Nat) (w9 : World) (hr9 : Rd w9 w9.heap.size A9 [Value.int .i64 a, Value.int .i64 b]) (hr8 : Rd w9 w9.heap.size A8 [Value.int .i64 1, Value.int .i64 1]) => fitsL_any A9 A8 2 2 c9 c8 w9.heap.size w9.heap.size [a, b] [1, 1] w9 (by simpa using hr9) (by simpa using hr8) rfl rfl (by decide) (by decide) (Sm.two (by omega) (by omega)))
              have HC124 := Lib.hid (fun (A9 A8 : Option Addr) (c9 c8 : Nat) (w9 : World) (hr9 : Rd w9 w9.heap.size A9 [Value.int .i64 3, Value.int .i64 4]) (hr8 : Rd w9 w9.heap.size A8 [Value.int .i64 a, Value.int .i64 b]) => fitsL_any A9 A8 2 2 c9 c8 w9.heap.size w9.heap.size [3, 4] [a, b] w9 (by simpa using hr9) (by simpa using hr8) rfl rfl (by decide) (by decide) (Sm.two hab hbb))
              have HC138 := Lib.hid (fun (A9 A8 : Option Addr) (c9 c8 : Nat) (w9 : World) (hr9 : Rd w9 w9.heap.size A9 [Value.int .i64 a]) (hr8 : Rd w9 w9.heap.size A8 [Value.int .i64 b]) => fitsL_any A9 A8 1 1 c9 c8 w9.heap.size w9.heap.size [a] [b] w9 (by simpa using hr9) (by simpa using hr8) rfl rfl (by decide) (by decide) (Sm.one hbb))
              simp only [List.append_eq, List.cons_append, List.nil_append]
              refine wp_region_facts (by kernel_rfl) 197 [75, 76, 77, 78, 79, 80, 81, 82, 83, 84, 85, 86, 87, 88, 89, 90, 91, 92, 93, 94, 95, 96, 97, 98, 99, 100, 101, 102, 103, 104, 105, 106, 107, 108, 109, 110, 111, 112, 113, 114, 115, 116, 117, 118, 119, 120, 121, 122, 123, 124, 125, 126, 127, 128, 129, 130, 131, 132, 133, 134, 135, 136, 137, 138, 139, 140] [[], [], [75, 76], [77], [], [], [79, 80], [81], [78, 82], [83], [84], [85], [86], [86], [87, 88, 86], [89, 86], [86], [86], [91, 92, 86], [93, 86], [90, 94, 86], [95, 86], [96, 86], [86, 97], [98], [99], [99], [100, 101, 99], [102, 99], [99], [99], [104, 105, 99], [106, 99], [103, 107, 99], [99], [108, 109, 99], [110, 99], [99, 111], [112], [113], [113], [113], [115, 116, 113], [117, 113], [113], [113], [119, 120, 113], [121, 113], [118, 122, 113], [114, 123, 113], [124, 113], [113, 125], [126], [127], [127], [128, 129, 127], [130, 127], [131, 127], [127], [127], [133, 134, 127], [135, 127], [136, 127], [132, 137, 127], [138, 127], [127, 139]] (by kernel_rfl) (by kernel_rfl) rfl (factOf [(75, .eq (.slice (some ⟨E, 0, none⟩) 7 7)), (76, .eq (.int .i64 (i : Int))), (77, .eq (.pointer (some ⟨E, i, none⟩))), (78, .eq (.int .i64 a)), (79, .eq (.slice (some ⟨E, 0, none⟩) 7 7)), (80, .eq (.int .i64 (k : Int))), (81, .eq (.pointer (some ⟨E, k, none⟩))), (82, .eq (.int .i64 b)), (83, SFact.vals 2 ([.int .i64 a, .int .i64 b])), (84, .eq (.bool true)), (85, .eq (.bool false)), (86, .eq (.bool false)), (87, .eq (.slice (some ⟨E, 0, none⟩) 7 7)), (88, .eq (.int .i64 (i : Int))), (89, .eq (.pointer (some ⟨E, i, none⟩))), (90, .eq (.int .i64 a)), (91, .eq (.slice (some ⟨E, 0, none⟩) 7 7)), (92, .eq (.int .i64 (k : Int))), (93, .eq (.pointer (some ⟨E, k, none⟩))), (94, .eq (.int .i64 b)), (95, SFact.vals 4 ([.int .i64 a, .int .i64 7, .int .i64 b, .int .i64 4294967296])), (96, .eq (.bool true)), (97, .eq (.bool false)), (98, .eq (.bool false)), (99, .eq (.bool false)), (100, .eq (.slice (some ⟨E, 0, none⟩) 7 7)), (101, .eq (.int .i64 (i : Int))), (102, .eq (.pointer (some ⟨E, i, none⟩))), (103, .eq (.int .i64 a)), (104, .eq (.slice (some ⟨E, 0, none⟩) 7 7)), (105, .eq (.int .i64 (k : Int))), (106, .eq (.pointer (some ⟨E, k, none⟩))), (107, .eq (.int .i64 b)), (108, SFact.vals 2 ([.int .i64 a, .int .i64 b])), (109, SFact.vals 2 ([.int .i64 1, .int .i64 1])), (110, .eq (.bool true)), (111, .eq (.bool false)), (112, .eq (.bool false)), (113, .eq (.bool false)), (114, SFact.vals 2 ([.int .i64 3, .int .i64 4])), (115, .eq (.slice (some ⟨E, 0, none⟩) 7 7)), (116, .eq (.int .i64 (i : Int))), (117, .eq (.pointer (some ⟨E, i, none⟩))), (118, .eq (.int .i64 a)), (119, .eq (.slice (some ⟨E, 0, none⟩) 7 7)), (120, .eq (.int .i64 (k : Int))), (121, .eq (.pointer (some ⟨E, k, none⟩))), (122, .eq (.int .i64 b)), (123, SFact.vals 2 ([.int .i64 a, .int .i64 b])), (124, .eq (.bool true)), (125, .eq (.bool false)), (126, .eq (.bool false)), (127, .eq (.bool false)), (128, .eq (.slice (some ⟨E, 0, none⟩) 7 7)), (129, .eq (.int .i64 (i : Int))), (130, .eq (.pointer (some ⟨E, i, none⟩))), (131, .eq (.int .i64 a)), (132, SFact.vals 1 ([.int .i64 a])), (133, .eq (.slice (some ⟨E, 0, none⟩) 7 7)), (134, .eq (.int .i64 (k : Int))), (135, .eq (.pointer (some ⟨E, k, none⟩))), (136, .eq (.int .i64 b)), (137, SFact.vals 1 ([.int .i64 b])), (138, .eq (.bool true)), (139, .eq (.bool false)), (140, .eq (.bool false))]) (factOf_stable _) _ (fun x => by simp only [fillL, Nat.reduceAdd, Nat.reduceEqDiff, ↓reduceIte]; rfl) ?_ ?_
              · refine ⟨?_, ?_, ?_, ?_, ?_, ?_, ?_, ?_, ?_, ?_, ?_, ?_, ?_, ?_, ?_, ?_, ?_, ?_, ?_, ?_, ?_, ?_, ?_, ?_, ?_, ?_, ?_, ?_, ?_, ?_, ?_, ?_, ?_, ?_, ?_, ?_, ?_, ?_, ?_, ?_, ?_, ?_, ?_, ?_, ?_, ?_, ?_, ?_, ?_, ?_, ?_, ?_, ?_, ?_, ?_, ?_, ?_, ?_, ?_, ?_, ?_, ?_, ?_, ?_, ?_, ?_, trivial⟩
                · intro fx w' fa hk hd ev  -- 75 = Op.move (Operand.tmp 5)
                  have e5 : fa.tmps[5]?.getD undef = .slice (some ⟨E, 0, none⟩) 7 7 := ev.old 5 rfl
                  refine stepF_un rfl (fun K hK => ?_)
                  exact stepF_val _ hK (run_move rfl e5 _) rfl
                · intro fx w' fa hk hd ev  -- 76 = Op.move (Operand.tmp 6)
                  have e6 : fa.tmps[6]?.getD undef = .int .i64 (i : Int) := ev.old 6 rfl
                  refine stepF_un rfl (fun K hK => ?_)
                  exact stepF_val _ hK (run_move rfl e6 _) rfl
                · intro fx w' fa hk hd ev  -- 77 = Op.indexAddr 22 (Operand.tmp 75) (Operand.tmp 76)
                  have h75 : fx 75 = .slice (some ⟨E, 0, none⟩) 7 7 := hd.1
                  have e75 : fa.tmps[75]?.getD undef = .slice (some ⟨E, 0, none⟩) 7 7 := (ev.new 75 rfl).trans h75
                  have h76 : fx 76 = .int .i64 (i : Int) := hd.2.1
                  have e76 : fa.tmps[76]?.getD undef = .int .i64 (i : Int) := (ev.new 76 rfl).trans h76
                  refine stepF_un rfl (fun K hK => ?_)
                  have hz0 : (0 : Int) ≤ (i : Int) := Int.natCast_nonneg _
                  go_simp
                  exact hK _ _ rfl (Kp.refl _ _)
                · intro fx w' fa hk hd ev  -- 78 = Op.load 3 (Operand.tmp 77)
                  have h77 : fx 77 = .pointer (some ⟨E, i, none⟩) := hd.1
                  have e77 : fa.tmps[77]?.getD undef = .pointer (some ⟨E, i, none⟩) := (ev.new 77 rfl).trans h77
                  refine stepF_un rfl (fun K hK => ?_)
                  have cx := en_cell (HEN.out.kp0 hk) HIA.out
                  go_simp
                  exact hK _ _ rfl (Kp.refl _ _)
                · intro fx w' fa hk hd ev  -- 79 = Op.move (Operand.tmp 5)
                  have e5 : fa.tmps[5]?.getD undef = .slice (some ⟨E, 0, none⟩) 7 7 := ev.old 5 rfl
                  refine stepF_un rfl (fun K hK => ?_)
                  exact stepF_val _ hK (run_move rfl e5 _) rfl
                · intro fx w' fa hk hd ev  -- 80 = Op.move (Operand.tmp 7)
                  have e7 : fa.tmps[7]?.getD undef = .int .i64 (k : Int) := ev.old 7 rfl
                  refine stepF_un rfl (fun K hK => ?_)
                  exact stepF_val _ hK (run_move rfl e7 _) rfl
                · intro fx w' fa hk hd ev  -- 81 = Op.indexAddr 22 (Operand.tmp 79) (Operand.tmp 80)
                  have h79 : fx 79 = .slice (some ⟨E, 0, none⟩) 7 7 := hd.1
                  have e79 : fa.tmps[79]?.getD undef = .slice (some ⟨E, 0, none⟩) 7 7 := (ev.new 79 rfl).trans h79
                  have h80 : fx 80 = .int .i64 (k : Int) := hd.2.1
                  have e80 : fa.tmps[80]?.getD undef = .int .i64 (k : Int) := (ev.new 80 rfl).trans h80
                  refine stepF_un rfl (fun K hK => ?_)
                  have hz0 : (0 : Int) ≤ (k : Int) := Int.natCast_nonneg _
                  go_simp
                  exact hK _ _ rfl (Kp.refl _ _)
                · intro fx w' fa hk hd ev  -- 82 = Op.load 3 (Operand.tmp 81)
                  have h81 : fx 81 = .pointer (some ⟨E, k, none⟩) := hd.1
                  have e81 : fa.tmps[81]?.getD undef = .pointer (some ⟨E, k, none⟩) := (ev.new 81 rfl).trans h81
                  refine stepF_un rfl (fun K hK => ?_)
                  have cx := en_cell (HEN.out.kp0 hk) HKB.out
                  go_simp
                  exact hK _ _ rfl (Kp.refl _ _)
                · intro fx w' fa hk hd ev  -- 83 = Op.buildSlice 22 2 #[(0, Operand.tmp 78), (1, Operand.tmp 82
                  have h78 : fx 78 = .int .i64 a := hd.1
                  have e78 : fa.tmps[78]?.getD undef = .int .i64 a := (ev.new 78 rfl).trans h78
                  have h82 : fx 82 = .int .i64 b := hd.2.1
                  have e82 : fa.tmps[82]?.getD undef = .int .i64 b := (ev.new 82 rfl).trans h82
                  refine stepF_un rfl (fun K hK => ?_)
                  go_simp
                  exact hK _ _ (vals_new w' ([.int .i64 a, .int .i64 b]) 3 2) ((Kp.refl _ _).alloc _)
                · intro fx w' fa hk hd ev  -- 84 = Op.call { callee := Callee.value (Operand.func 3), args := #
                  have h83 : (SFact.vals 2 ([.int .i64 a, .int .i64 b]) : SFact).p (fx 83) w' := hd.1
                  obtain ⟨A83, c83, v83, hc83, hr83⟩ := h83
                  have e83 : fa.tmps[83]?.getD undef = .slice A83 2 c83 := (ev.new 83 rfl).trans v83
                  refine stepF_un rfl (fun K hK => ?_)
                  go_simp
                  (with_reducible refine (HC84.out A83 c83 w' hr83).mono ?_)
                  rintro e w1 ⟨rfl, hk1⟩
                  exact hK _ _ rfl hk1
                · intro fx w' fa hk hd ev  -- 85 = Op.unOp UnOp.not 4 (Operand.tmp 84)
                  have h84 : fx 84 = .bool true := hd.1
                  have e84 : fa.tmps[84]?.getD undef = .bool true := (ev.new 84 rfl).trans h84
                  refine stepF_un rfl (fun K hK => ?_)
                  go_simp
                  exact hK _ _ rfl (Kp.refl _ _)
                · intro fx w' fa hk hd ev  -- 86 = Op.move (Operand.tmp 85)
                  have h85 : fx 85 = .bool false := hd.1
                  have e85 : fa.tmps[85]?.getD undef = .bool false := (ev.new 85 rfl).trans h85
                  refine stepF_un rfl (fun K hK => ?_)
                  exact stepF_val _ hK (run_move rfl e85 _) rfl
                · intro fx w' fa hk hd ev  -- 87 = Op.move (Operand.tmp 5)
                  have h86 : fx 86 = .bool false := hd.1
                  have e86 : fa.tmps[86]?.getD undef = .bool false := (ev.new 86 rfl).trans h86
                  have e5 : fa.tmps[5]?.getD undef = .slice (some ⟨E, 0, none⟩) 7 7 := ev.old 5 rfl
                  refine stepF_yes (i := 11) (g := 86) (b := false) rfl rfl rfl e86 (fun K hK => ?_)
                  exact stepF_val _ hK (run_move rfl e5 _) rfl
                · intro fx w' fa hk hd ev  -- 88 = Op.move (Operand.tmp 6)
                  have h86 : fx 86 = .bool false := hd.1
                  have e86 : fa.tmps[86]?.getD undef = .bool false := (ev.new 86 rfl).trans h86
                  have e6 : fa.tmps[6]?.getD undef = .int .i64 (i : Int) := ev.old 6 rfl
                  refine stepF_yes (i := 11) (g := 86) (b := false) rfl rfl rfl e86 (fun K hK => ?_)
                  exact stepF_val _ hK (run_move rfl e6 _) rfl
                · intro fx w' fa hk hd ev  -- 89 = Op.indexAddr 22 (Operand.tmp 87) (Operand.tmp 88)
                  have h87 : fx 87 = .slice (some ⟨E, 0, none⟩) 7 7 := hd.1
                  have e87 : fa.tmps[87]?.getD undef = .slice (some ⟨E, 0, none⟩) 7 7 := (ev.new 87 rfl).trans h87
                  have h88 : fx 88 = .int .i64 (i : Int) := hd.2.1
                  have e88 : fa.tmps[88]?.getD undef = .int .i64 (i : Int) := (ev.new 88 rfl).trans h88
                  have h86 : fx 86 = .bool false := hd.2.2.1
                  have e86 : fa.tmps[86]?.getD undef = .bool false := (ev.new 86 rfl).trans h86
                  refine stepF_yes (i := 11) (g := 86) (b := false) rfl rfl rfl e86 (fun K hK => ?_)
                  have hz0 : (0 : Int) ≤ (i : Int) := Int.natCast_nonneg _
                  go_simp
                  exact hK _ _ rfl (Kp.refl _ _)
                · intro fx w' fa hk hd ev  -- 90 = Op.load 3 (Operand.tmp 89)
                  have h89 : fx 89 = .pointer (some ⟨E, i, none⟩) := hd.1
                  have e89 : fa.tmps[89]?.getD undef = .pointer (some ⟨E, i, none⟩) := (ev.new 89 rfl).trans h89
                  have h86 : fx 86 = .bool false := hd.2.1
                  have e86 : fa.tmps[86]?.getD undef = .bool false := (ev.new 86 rfl).trans h86
                  refine stepF_yes (i := 11) (g := 86) (b := false) rfl rfl rfl e86 (fun K hK => ?_)
                  have cx := en_cell (HEN.out.kp0 hk) HIA.out
                  go_simp
                  exact hK _ _ rfl (Kp.refl _ _)
                · intro fx w' fa hk hd ev  -- 91 = Op.move (Operand.tmp 5)
                  have h86 : fx 86 = .bool false := hd.1
                  have e86 : fa.tmps[86]?.getD undef = .bool false := (ev.new 86 rfl).trans h86
                  have e5 : fa.tmps[5]?.getD undef = .slice (some ⟨E, 0, none⟩) 7 7 := ev.old 5 rfl
                  refine stepF_yes (i := 11) (g := 86) (b := false) rfl rfl rfl e86 (fun K hK => ?_)
                  exact stepF_val _ hK (run_move rfl e5 _) rfl
                · intro fx w' fa hk hd ev  -- 92 = Op.move (Operand.tmp 7)
                  have h86 : fx 86 = .bool false := hd.1
                  have e86 : fa.tmps[86]?.getD undef = .bool false := (ev.new 86 rfl).trans h86
                  have e7 : fa.tmps[7]?.getD undef = .int .i64 (k : Int) := ev.old 7 rfl
                  refine stepF_yes (i := 11) (g := 86) (b := false) rfl rfl rfl e86 (fun K hK => ?_)
                  exact stepF_val _ hK (run_move rfl e7 _) rfl
                · intro fx w' fa hk hd ev  -- 93 = Op.indexAddr 22 (Operand.tmp 91) (Operand.tmp 92)
                  have h91 : fx 91 = .slice (some ⟨E, 0, none⟩) 7 7 := hd.1
                  have e91 : fa.tmps[91]?.getD undef = .slice (some ⟨E, 0, none⟩) 7 7 := (ev.new 91 rfl).trans h91
                  have h92 : fx 92 = .int .i64 (k : Int) := hd.2.1
                  have e92 : fa.tmps[92]?.getD undef = .int .i64 (k : Int) := (ev.new 92 rfl).trans h92
                  have h86 : fx 86 = .bool false := hd.2.2.1
                  have e86 : fa.tmps[86]?.getD undef = .bool false := (ev.new 86 rfl).trans h86
                  refine stepF_yes (i := 11) (g := 86) (b := false) rfl rfl rfl e86 (fun K hK => ?_)
                  have hz0 : (0 : Int) ≤ (k : Int) := Int.natCast_nonneg _
                  go_simp
                  exact hK _ _ rfl (Kp.refl _ _)
                · intro fx w' fa hk hd ev  -- 94 = Op.load 3 (Operand.tmp 93)
                  have h93 : fx 93 = .pointer (some ⟨E, k, none⟩) := hd.1
                  have e93 : fa.tmps[93]?.getD undef = .pointer (some ⟨E, k, none⟩) := (ev.new 93 rfl).trans h93
                  have h86 : fx 86 = .bool false := hd.2.1
                  have e86 : fa.tmps[86]?.getD undef = .bool false := (ev.new 86 rfl).trans h86
                  refine stepF_yes (i := 11) (g := 86) (b := false) rfl rfl rfl e86 (fun K hK => ?_)
                  have cx := en_cell (HEN.out.kp0 hk) HKB.out
                  go_simp
                  exact hK _ _ rfl (Kp.refl _ _)
                · intro fx w' fa hk hd ev  -- 95 = Op.buildSlice 22 4 #[(0, Operand.tmp 90), (1, Operand.const 
                  have h90 : fx 90 = .int .i64 a := hd.1
                  have e90 : fa.tmps[90]?.getD undef = .int .i64 a := (ev.new 90 rfl).trans h90
                  have h94 : fx 94 = .int .i64 b := hd.2.1
                  have e94 : fa.tmps[94]?.getD undef = .int .i64 b := (ev.new 94 rfl).trans h94
                  have h86 : fx 86 = .bool false := hd.2.2.1
                  have e86 : fa.tmps[86]?.getD undef = .bool false := (ev.new 86 rfl).trans h86
                  refine stepF_yes (i := 11) (g := 86) (b := false) rfl rfl rfl e86 (fun K hK => ?_)
                  go_simp
                  exact hK _ _ (vals_new w' ([.int .i64 a, .int .i64 7, .int .i64 b, .int .i64 4294967296]) 3 4) ((Kp.refl _ _).alloc _)
                · intro fx w' fa hk hd ev  -- 96 = Op.call { callee := Callee.value (Operand.func 3), args := #
                  have h95 : (SFact.vals 4 ([.int .i64 a, .int .i64 7, .int .i64 b, .int .i64 4294967296]) : SFact).p (fx 95) w' := hd.1
                  obtain ⟨A95, c95, v95, hc95, hr95⟩ := h95
                  have e95 : fa.tmps[95]?.getD undef = .slice A95 4 c95 := (ev.new 95 rfl).trans v95
                  have h86 : fx 86 = .bool false := hd.2.1
                  have e86 : fa.tmps[86]?.getD undef = .bool false := (ev.new 86 rfl).trans h86
                  refine stepF_yes (i := 11) (g := 86) (b := false) rfl rfl rfl e86 (fun K hK => ?_)
                  go_simp
                  (with_reducible refine (HC96.out A95 c95 w' hr95).mono ?_)
                  rintro e w1 ⟨rfl, hk1⟩
                  exact hK _ _ rfl hk1
                · intro fx w' fa hk hd ev  -- 97 = Op.unOp UnOp.not 4 (Operand.tmp 96)
                  have h96 : fx 96 = .bool true := hd.1
                  have e96 : fa.tmps[96]?.getD undef = .bool true := (ev.new 96 rfl).trans h96
                  have h86 : fx 86 = .bool false := hd.2.1
                  have e86 : fa.tmps[86]?.getD undef = .bool false := (ev.new 86 rfl).trans h86
                  refine stepF_yes (i := 11) (g := 86) (b := false) rfl rfl rfl e86 (fun K hK => ?_)
                  go_simp
                  exact hK _ _ rfl (Kp.refl _ _)
                · intro fx w' fa hk hd ev  -- 98 = Op.pick (Operand.tmp 86) (Operand.const (Value.bool true)) (
                  have h86 : fx 86 = .bool false := hd.1
                  have e86 : fa.tmps[86]?.getD undef = .bool false := (ev.new 86 rfl).trans h86
                  have h97 : fx 97 = .bool false := hd.2.1
                  have e97 : fa.tmps[97]?.getD undef = .bool false := (ev.new 97 rfl).trans h97
                  refine stepF_un rfl (fun K hK => ?_)
                  go_simp
                  exact hK _ _ rfl (Kp.refl _ _)
                · intro fx w' fa hk hd ev  -- 99 = Op.move (Operand.tmp 98)
                  have h98 : fx 98 = .bool false := hd.1
                  have e98 : fa.tmps[98]?.getD undef = .bool false := (ev.new 98 rfl).trans h98
                  refine stepF_un rfl (fun K hK => ?_)
                  exact stepF_val _ hK (run_move rfl e98 _) rfl
                · intro fx w' fa hk hd ev  -- 100 = Op.move (Operand.tmp 5)
                  have h99 : fx 99 = .bool false := hd.1
                  have e99 : fa.tmps[99]?.getD undef = .bool false := (ev.new 99 rfl).trans h99
                  have e5 : fa.tmps[5]?.getD undef = .slice (some ⟨E, 0, none⟩) 7 7 := ev.old 5 rfl
                  refine stepF_yes (i := 24) (g := 99) (b := false) rfl rfl rfl e99 (fun K hK => ?_)
                  exact stepF_val _ hK (run_move rfl e5 _) rfl
                · intro fx w' fa hk hd ev  -- 101 = Op.move (Operand.tmp 6)
                  have h99 : fx 99 = .bool false := hd.1
                  have e99 : fa.tmps[99]?.getD undef = .bool false := (ev.new 99 rfl).trans h99
                  have e6 : fa.tmps[6]?.getD undef = .int .i64 (i : Int) := ev.old 6 rfl
                  refine stepF_yes (i := 24) (g := 99) (b := false) rfl rfl rfl e99 (fun K hK => ?_)
                  exact stepF_val _ hK (run_move rfl e6 _) rfl
                · intro fx w' fa hk hd ev  -- 102 = Op.indexAddr 22 (Operand.tmp 100) (Operand.tmp 101)
                  have h100 : fx 100 = .slice (some ⟨E, 0, none⟩) 7 7 := hd.1
                  have e100 : fa.tmps[100]?.getD undef = .slice (some ⟨E, 0, none⟩) 7 7 := (ev.new 100 rfl).trans h100
                  have h101 : fx 101 = .int .i64 (i : Int) := hd.2.1
                  have e101 : fa.tmps[101]?.getD undef = .int .i64 (i : Int) := (ev.new 101 rfl).trans h101
                  have h99 : fx 99 = .bool false := hd.2.2.1
                  have e99 : fa.tmps[99]?.getD undef = .bool false := (ev.new 99 rfl).trans h99
                  refine stepF_yes (i := 24) (g := 99) (b := false) rfl rfl rfl e99 (fun K hK => ?_)
                  have hz0 : (0 : Int) ≤ (i : Int) := Int.natCast_nonneg _
                  go_simp
                  exact hK _ _ rfl (Kp.refl _ _)
                · intro fx w' fa hk hd ev  -- 103 = Op.load 3 (Operand.tmp 102)
                  have h102 : fx 102 = .pointer (some ⟨E, i, none⟩) := hd.1
                  have e102 : fa.tmps[102]?.getD undef = .pointer (some ⟨E, i, none⟩) := (ev.new 102 rfl).trans h102
                  have h99 : fx 99 = .bool false := hd.2.1
                  have e99 : fa.tmps[99]?.getD undef = .bool false := (ev.new 99 rfl).trans h99
                  refine stepF_yes (i := 24) (g := 99) (b := false) rfl rfl rfl e99 (fun K hK => ?_)
                  have cx := en_cell (HEN.out.kp0 hk) HIA.out
                  go_simp
                  exact hK _ _ rfl (Kp.refl _ _)
                · intro fx w' fa hk hd ev  -- 104 = Op.move (Operand.tmp 5)
                  have h99 : fx 99 = .bool false := hd.1
                  have e99 : fa.tmps[99]?.getD undef = .bool false := (ev.new 99 rfl).trans h99
                  have e5 : fa.tmps[5]?.getD undef = .slice (some ⟨E, 0, none⟩) 7 7 := ev.old 5 rfl
                  refine stepF_yes (i := 24) (g := 99) (b := false) rfl rfl rfl e99 (fun K hK => ?_)
                  exact stepF_val _ hK (run_move rfl e5 _) rfl
                · intro fx w' fa hk hd ev  -- 105 = Op.move (Operand.tmp 7)
                  have h99 : fx 99 = .bool false := hd.1
                  have e99 : fa.tmps[99]?.getD undef = .bool false := (ev.new 99 rfl).trans h99
                  have e7 : fa.tmps[7]?.getD undef = .int .i64 (k : Int) := ev.old 7 rfl
                  refine stepF_yes (i := 24) (g := 99) (b := false) rfl rfl rfl e99 (fun K hK => ?_)
                  exact stepF_val _ hK (run_move rfl e7 _) rfl
                · intro fx w' fa hk hd ev  -- 106 = Op.indexAddr 22 (Operand.tmp 104) (Operand.tmp 105)
                  have h104 : fx 104 = .slice (some ⟨E, 0, none⟩) 7 7 := hd.1
                  have e104 : fa.tmps[104]?.getD undef = .slice (some ⟨E, 0, none⟩) 7 7 := (ev.new 104 rfl).trans h104
                  have h105 : fx 105 = .int .i64 (k : Int) := hd.2.1
                  have e105 : fa.tmps[105]?.getD undef = .int .i64 (k : Int) := (ev.new 105 rfl).trans h105
                  have h99 : fx 99 = .bool false := hd.2.2.1
                  have e99 : fa.tmps[99]?.getD undef = .bool false := (ev.new 99 rfl).trans h99
                  refine stepF_yes (i := 24) (g := 99) (b := false) rfl rfl rfl e99 (fun K hK => ?_)
                  have hz0 : (0 : Int) ≤ (k : Int) := Int.natCast_nonneg _
                  go_simp
                  exact hK _ _ rfl (Kp.refl _ _)
                · intro fx w' fa hk hd ev  -- 107 = Op.load 3 (Operand.tmp 106)
                  have h106 : fx 106 = .pointer (some ⟨E, k, none⟩) := hd.1
                  have e106 : fa.tmps[106]?.getD undef = .pointer (some ⟨E, k, none⟩) := (ev.new 106 rfl).trans h106
                  have h99 : fx 99 = .bool false := hd.2.1
                  have e99 : fa.tmps[99]?.getD undef = .bool false := (ev.new 99 rfl).trans h99
                  refine stepF_yes (i := 24) (g := 99) (b := false) rfl rfl rfl e99 (fun K hK => ?_)
                  have cx := en_cell (HEN.out.kp0 hk) HKB.out
                  go_simp
                  exact hK _ _ rfl (Kp.refl _ _)
                · intro fx w' fa hk hd ev  -- 108 = Op.buildSlice 22 2 #[(0, Operand.tmp 103), (1, Operand.tmp 1
                  have h103 : fx 103 = .int .i64 a := hd.1
                  have e103 : fa.tmps[103]?.getD undef = .int .i64 a := (ev.new 103 rfl).trans h103
                  have h107 : fx 107 = .int .i64 b := hd.2.1
                  have e107 : fa.tmps[107]?.getD undef = .int .i64 b := (ev.new 107 rfl).trans h107
                  have h99 : fx 99 = .bool false := hd.2.2.1
                  have e99 : fa.tmps[99]?.getD undef = .bool false := (ev.new 99 rfl).trans h99
                  refine stepF_yes (i := 24) (g := 99) (b := false) rfl rfl rfl e99 (fun K hK => ?_)
                  go_simp
                  exact hK _ _ (vals_new w' ([.int .i64 a, .int .i64 b]) 3 2) ((Kp.refl _ _).alloc _)
                · intro fx w' fa hk hd ev  -- 109 = Op.buildSlice 22 2 #[(0, Operand.const (Value.int IntKind.i6
                  have h99 : fx 99 = .bool false := hd.1
                  have e99 : fa.tmps[99]?.getD undef = .bool false := (ev.new 99 rfl).trans h99
                  refine stepF_yes (i := 24) (g := 99) (b := false) rfl rfl rfl e99 (fun K hK => ?_)
                  go_simp
                  exact hK _ _ (vals_new w' ([.int .i64 1, .int .i64 1]) 3 2) ((Kp.refl _ _).alloc _)
                · intro fx w' fa hk hd ev  -- 110 = Op.call { callee := Callee.value (Operand.func 4), args := #
                  have h108 : (SFact.vals 2 ([.int .i64 a, .int .i64 b]) : SFact).p (fx 108) w' := hd.1
                  obtain ⟨A108, c108, v108, hc108, hr108⟩ := h108
                  have e108 : fa.tmps[108]?.getD undef = .slice A108 2 c108 := (ev.new 108 rfl).trans v108
                  have h109 : (SFact.vals 2 ([.int .i64 1, .int .i64 1]) : SFact).p (fx 109) w' := hd.2.1
                  obtain ⟨A109, c109, v109, hc109, hr109⟩ := h109
                  have e109 : fa.tmps[109]?.getD undef = .slice A109 2 c109 := (ev.new 109 rfl).trans v109
                  have h99 : fx 99 = .bool false := hd.2.2.1
                  have e99 : fa.tmps[99]?.getD undef = .bool false := (ev.new 99 rfl).trans h99
                  refine stepF_yes (i := 24) (g := 99) (b := false) rfl rfl rfl e99 (fun K hK => ?_)
                  go_simp
                  (with_reducible refine (HC110.out A108 A109 c108 c109 w' hr108 hr109).mono ?_)
                  rintro e w1 ⟨rfl, hk1⟩
                  exact hK _ _ rfl hk1
                · intro fx w' fa hk hd ev  -- 111 = Op.unOp UnOp.not 4 (Operand.tmp 110)
                  have h110 : fx 110 = .bool true := hd.1
                  have e110 : fa.tmps[110]?.getD undef = .bool true := (ev.new 110 rfl).trans h110
                  have h99 : fx 99 = .bool false := hd.2.1
                  have e99 : fa.tmps[99]?.getD undef = .bool false := (ev.new 99 rfl).trans h99
                  refine stepF_yes (i := 24) (g := 99) (b := false) rfl rfl rfl e99 (fun K hK => ?_)
                  go_simp
                  exact hK _ _ rfl (Kp.refl _ _)
                · intro fx w' fa hk hd ev  -- 112 = Op.pick (Operand.tmp 99) (Operand.const (Value.bool true)) (
                  have h99 : fx 99 = .bool false := hd.1
                  have e99 : fa.tmps[99]?.getD undef = .bool false := (ev.new 99 rfl).trans h99
                  have h111 : fx 111 = .bool false := hd.2.1
                  have e111 : fa.tmps[111]?.getD undef = .bool false := (ev.new 111 rfl).trans h111
                  refine stepF_un rfl (fun K hK => ?_)
                  go_simp
                  exact hK _ _ rfl (Kp.refl _ _)
                · intro fx w' fa hk hd ev  -- 113 = Op.move (Operand.tmp 112)
                  have h112 : fx 112 = .bool false := hd.1
                  have e112 : fa.tmps[112]?.getD undef = .bool false := (ev.new 112 rfl).trans h112
                  refine stepF_un rfl (fun K hK => ?_)
                  exact stepF_val _ hK (run_move rfl e112 _) rfl
                · intro fx w' fa hk hd ev  -- 114 = Op.buildSlice 22 2 #[(0, Operand.const (Value.int IntKind.i6
                  have h113 : fx 113 = .bool false := hd.1
                  have e113 : fa.tmps[113]?.getD undef = .bool false := (ev.new 113 rfl).trans h113
                  refine stepF_yes (i := 38) (g := 113) (b := false) rfl rfl rfl e113 (fun K hK => ?_)
                  go_simp
                  exact hK _ _ (vals_new w' ([.int .i64 3, .int .i64 4]) 3 2) ((Kp.refl _ _).alloc _)
                · intro fx w' fa hk hd ev  -- 115 = Op.move (Operand.tmp 5)
                  have h113 : fx 113 = .bool false := hd.1
                  have e113 : fa.tmps[113]?.getD undef = .bool false := (ev.new 113 rfl).trans h113
                  have e5 : fa.tmps[5]?.getD undef = .slice (some ⟨E, 0, none⟩) 7 7 := ev.old 5 rfl
                  refine stepF_yes (i := 38) (g := 113) (b := false) rfl rfl rfl e113 (fun K hK => ?_)
                  exact stepF_val _ hK (run_move rfl e5 _) rfl
                · intro fx w' fa hk hd ev  -- 116 = Op.move (Operand.tmp 6)
                  have h113 : fx 113 = .bool false := hd.1
                  have e113 : fa.tmps[113]?.getD undef = .bool false := (ev.new 113 rfl).trans h113
                  have e6 : fa.tmps[6]?.getD undef = .int .i64 (i : Int) := ev.old 6 rfl
                  refine stepF_yes (i := 38) (g := 113) (b := false) rfl rfl rfl e113 (fun K hK => ?_)
                  exact stepF_val _ hK (run_move rfl e6 _) rfl
                · intro fx w' fa hk hd ev  -- 117 = Op.indexAddr 22 (Operand.tmp 115) (Operand.tmp 116)
                  have h115 : fx 115 = .slice (some ⟨E, 0, none⟩) 7 7 := hd.1
                  have e115 : fa.tmps[115]?.getD undef = .slice (some ⟨E, 0, none⟩) 7 7 := (ev.new 115 rfl).trans h115
                  have h116 : fx 116 = .int .i64 (i : Int) := hd.2.1
                  have e116 : fa.tmps[116]?.getD undef = .int .i64 (i : Int) := (ev.new 116 rfl).trans h116
                  have h113 : fx 113 = .bool false := hd.2.2.1
                  have e113 : fa.tmps[113]?.getD undef = .bool false := (ev.new 113 rfl).trans h113
                  refine stepF_yes (i := 38) (g := 113) (b := false) rfl rfl rfl e113 (fun K hK => ?_)
                  have hz0 : (0 : Int) ≤ (i : Int) := Int.natCast_nonneg _
                  go_simp
                  exact hK _ _ rfl (Kp.refl _ _)
                · intro fx w' fa hk hd ev  -- 118 = Op.load 3 (Operand.tmp 117)
                  have h117 : fx 117 = .pointer (some ⟨E, i, none⟩) := hd.1
                  have e117 : fa.tmps[117]?.getD undef = .pointer (some ⟨E, i, none⟩) := (ev.new 117 rfl).trans h117
                  have h113 : fx 113 = .bool false := hd.2.1
                  have e113 : fa.tmps[113]?.getD undef = .bool false := (ev.new 113 rfl).trans h113
                  refine stepF_yes (i := 38) (g := 113) (b := false) rfl rfl rfl e113 (fun K hK => ?_)
                  have cx := en_cell (HEN.out.kp0 hk) HIA.out
                  go_simp
                  exact hK _ _ rfl (Kp.refl _ _)
                · intro fx w' fa hk hd ev  -- 119 = Op.move (Operand.tmp 5)
                  have h113 : fx 113 = .bool false := hd.1
                  have e113 : fa.tmps[113]?.getD undef = .bool false := (ev.new 113 rfl).trans h113
                  have e5 : fa.tmps[5]?.getD undef = .slice (some ⟨E, 0, none⟩) 7 7 := ev.old 5 rfl
                  refine stepF_yes (i := 38) (g := 113) (b := false) rfl rfl rfl e113 (fun K hK => ?_)
                  exact stepF_val _ hK (run_move rfl e5 _) rfl
                · intro fx w' fa hk hd ev  -- 120 = Op.move (Operand.tmp 7)
                  have h113 : fx 113 = .bool false := hd.1
                  have e113 : fa.tmps[113]?.getD undef = .bool false := (ev.new 113 rfl).trans h113
                  have e7 : fa.tmps[7]?.getD undef = .int .i64 (k : Int) := ev.old 7 rfl
                  refine stepF_yes (i := 38) (g := 113) (b := false) rfl rfl rfl e113 (fun K hK => ?_)
                  exact stepF_val _ hK (run_move rfl e7 _) rfl
                · intro fx w' fa hk hd ev  -- 121 = Op.indexAddr 22 (Operand.tmp 119) (Operand.tmp 120)
                  have h119 : fx 119 = .slice (some ⟨E, 0, none⟩) 7 7 := hd.1
                  have e119 : fa.tmps[119]?.getD undef = .slice (some ⟨E, 0, none⟩) 7 7 := (ev.new 119 rfl).trans h119
                  have h120 : fx 120 = .int .i64 (k : Int) := hd.2.1
                  have e120 : fa.tmps[120]?.getD undef = .int .i64 (k : Int) := (ev.new 120 rfl).trans h120
                  have h113 : fx 113 = .bool false := hd.2.2.1
                  have e113 : fa.tmps[113]?.getD undef = .bool false := (ev.new 113 rfl).trans h113
                  refine stepF_yes (i := 38) (g := 113) (b := false) rfl rfl rfl e113 (fun K hK => ?_)
                  have hz0 : (0 : Int) ≤ (k : Int) := Int.natCast_nonneg _
                  go_simp
                  exact hK _ _ rfl (Kp.refl _ _)
                · intro fx w' fa hk hd ev  -- 122 = Op.load 3 (Operand.tmp 121)
                  have h121 : fx 121 = .pointer (some ⟨E, k, none⟩) := hd.1
                  have e121 : fa.tmps[121]?.getD undef = .pointer (some ⟨E, k, none⟩) := (ev.new 121 rfl).trans h121
                  have h113 : fx 113 = .bool false := hd.2.1
                  have e113 : fa.tmps[113]?.getD undef = .bool false := (ev.new 113 rfl).trans h113
                  refine stepF_yes (i := 38) (g := 113) (b := false) rfl rfl rfl e113 (fun K hK => ?_)
                  have cx := en_cell (HEN.out.kp0 hk) HKB.out
                  go_simp
                  exact hK _ _ rfl (Kp.refl _ _)
                · intro fx w' fa hk hd ev  -- 123 = Op.buildSlice 22 2 #[(0, Operand.tmp 118), (1, Operand.tmp 1
                  have h118 : fx 118 = .int .i64 a := hd.1
                  have e118 : fa.tmps[118]?.getD undef = .int .i64 a := (ev.new 118 rfl).trans h118
                  have h122 : fx 122 = .int .i64 b := hd.2.1
                  have e122 : fa.tmps[122]?.getD undef = .int .i64 b := (ev.new 122 rfl).trans h122
                  have h113 : fx 113 = .bool false := hd.2.2.1
                  have e113 : fa.tmps[113]?.getD undef = .bool false := (ev.new 113 rfl).trans h113
                  refine stepF_yes (i := 38) (g := 113) (b := false) rfl rfl rfl e113 (fun K hK => ?_)
                  go_simp
                  exact hK _ _ (vals_new w' ([.int .i64 a, .int .i64 b]) 3 2) ((Kp.refl _ _).alloc _)
                · intro fx w' fa hk hd ev  -- 124 = Op.call { callee := Callee.value (Operand.func 4), args := #
                  have h114 : (SFact.vals 2 ([.int .i64 3, .int .i64 4]) : SFact).p (fx 114) w' := hd.1
                  obtain ⟨A114, c114, v114, hc114, hr114⟩ := h114
                  have e114 : fa.tmps[114]?.getD undef = .slice A114 2 c114 := (ev.new 114 rfl).trans v114
                  have h123 : (SFact.vals 2 ([.int .i64 a, .int .i64 b]) : SFact).p (fx 123) w' := hd.2.1
                  obtain ⟨A123, c123, v123, hc123, hr123⟩ := h123
                  have e123 : fa.tmps[123]?.getD undef = .slice A123 2 c123 := (ev.new 123 rfl).trans v123
                  have h113 : fx 113 = .bool false := hd.2.2.1
                  have e113 : fa.tmps[113]?.getD undef = .bool false := (ev.new 113 rfl).trans h113
                  refine stepF_yes (i := 38) (g := 113) (b := false) rfl rfl rfl e113 (fun K hK => ?_)
                  go_simp
                  (with_reducible refine (HC124.out A114 A123 c114 c123 w' hr114 hr123).mono ?_)
                  rintro e w1 ⟨rfl, hk1⟩
                  exact hK _ _ rfl hk1
                · intro fx w' fa hk hd ev  -- 125 = Op.unOp UnOp.not 4 (Operand.tmp 124)
                  have h124 : fx 124 = .bool true := hd.1
                  have e124 : fa.tmps[124]?.getD undef = .bool true := (ev.new 124 rfl).trans h124
                  have h113 : fx 113 = .bool false := hd.2.1
                  have e113 : fa.tmps[113]?.getD undef = .bool false := (ev.new 113 rfl).trans h113
                  refine stepF_yes (i := 38) (g := 113) (b := false) rfl rfl rfl e113 (fun K hK => ?_)
                  go_simp
                  exact hK _ _ rfl (Kp.refl _ _)
                · intro fx w' fa hk hd ev  -- 126 = Op.pick (Operand.tmp 113) (Operand.const (Value.bool true)) 
                  have h113 : fx 113 = .bool false := hd.1
                  have e113 : fa.tmps[113]?.getD undef = .bool false := (ev.new 113 rfl).trans h113
                  have h125 : fx 125 = .bool false := hd.2.1
                  have e125 : fa.tmps[125]?.getD undef = .bool false := (ev.new 125 rfl).trans h125
                  refine stepF_un rfl (fun K hK => ?_)
                  go_simp
                  exact hK _ _ rfl (Kp.refl _ _)
                · intro fx w' fa hk hd ev  -- 127 = Op.move (Operand.tmp 126)
                  have h126 : fx 126 = .bool false := hd.1
                  have e126 : fa.tmps[126]?.getD undef = .bool false := (ev.new 126 rfl).trans h126
                  refine stepF_un rfl (fun K hK => ?_)
                  exact stepF_val _ hK (run_move rfl e126 _) rfl
                · intro fx w' fa hk hd ev  -- 128 = Op.move (Operand.tmp 5)
                  have h127 : fx 127 = .bool false := hd.1
                  have e127 : fa.tmps[127]?.getD undef = .bool false := (ev.new 127 rfl).trans h127
                  have e5 : fa.tmps[5]?.getD undef = .slice (some ⟨E, 0, none⟩) 7 7 := ev.old 5 rfl
                  refine stepF_yes (i := 52) (g := 127) (b := false) rfl rfl rfl e127 (fun K hK => ?_)
                  exact stepF_val _ hK (run_move rfl e5 _) rfl
                · intro fx w' fa hk hd ev  -- 129 = Op.move (Operand.tmp 6)
                  have h127 : fx 127 = .bool false := hd.1
                  have e127 : fa.tmps[127]?.getD undef = .bool false := (ev.new 127 rfl).trans h127
                  have e6 : fa.tmps[6]?.getD undef = .int .i64 (i : Int) := ev.old 6 rfl
                  refine stepF_yes (i := 52) (g := 127) (b := false) rfl rfl rfl e127 (fun K hK => ?_)
                  exact stepF_val _ hK (run_move rfl e6 _) rfl
                · intro fx w' fa hk hd ev  -- 130 = Op.indexAddr 22 (Operand.tmp 128) (Operand.tmp 129)
                  have h128 : fx 128 = .slice (some ⟨E, 0, none⟩) 7 7 := hd.1
                  have e128 : fa.tmps[128]?.getD undef = .slice (some ⟨E, 0, none⟩) 7 7 := (ev.new 128 rfl).trans h128
                  have h129 : fx 129 = .int .i64 (i : Int) := hd.2.1
                  have e129 : fa.tmps[129]?.getD undef = .int .i64 (i : Int) := (ev.new 129 rfl).trans h129
                  have h127 : fx 127 = .bool false := hd.2.2.1
                  have e127 : fa.tmps[127]?.getD undef = .bool false := (ev.new 127 rfl).trans h127
                  refine stepF_yes (i := 52) (g := 127) (b := false) rfl rfl rfl e127 (fun K hK => ?_)
                  have hz0 : (0 : Int) ≤ (i : Int) := Int.natCast_nonneg _
                  go_simp
                  exact hK _ _ rfl (Kp.refl _ _)
                · intro fx w' fa hk hd ev  -- 131 = Op.load 3 (Operand.tmp 130)
                  have h130 : fx 130 = .pointer (some ⟨E, i, none⟩) := hd.1
                  have e130 : fa.tmps[130]?.getD undef = .pointer (some ⟨E, i, none⟩) := (ev.new 130 rfl).trans h130
                  have h127 : fx 127 = .bool false := hd.2.1
                  have e127 : fa.tmps[127]?.getD undef = .bool false := (ev.new 127 rfl).trans h127
                  refine stepF_yes (i := 52) (g := 127) (b := false) rfl rfl rfl e127 (fun K hK => ?_)
                  have cx := en_cell (HEN.out.kp0 hk) HIA.out
                  go_simp
                  exact hK _ _ rfl (Kp.refl _ _)
                · intro fx w' fa hk hd ev  -- 132 = Op.buildSlice 22 1 #[(0, Operand.tmp 131)]
                  have h131 : fx 131 = .int .i64 a := hd.1
                  have e131 : fa.tmps[131]?.getD undef = .int .i64 a := (ev.new 131 rfl).trans h131
                  have h127 : fx 127 = .bool false := hd.2.1
                  have e127 : fa.tmps[127]?.getD undef = .bool false := (ev.new 127 rfl).trans h127
                  refine stepF_yes (i := 52) (g := 127) (b := false) rfl rfl rfl e127 (fun K hK => ?_)
                  go_simp
                  exact hK _ _ (vals_new w' ([.int .i64 a]) 3 1) ((Kp.refl _ _).alloc _)
                · intro fx w' fa hk hd ev  -- 133 = Op.move (Operand.tmp 5)
                  have h127 : fx 127 = .bool false := hd.1
                  have e127 : fa.tmps[127]?.getD undef = .bool false := (ev.new 127 rfl).trans h127
                  have e5 : fa.tmps[5]?.getD undef = .slice (some ⟨E, 0, none⟩) 7 7 := ev.old 5 rfl
                  refine stepF_yes (i := 52) (g := 127) (b := false) rfl rfl rfl e127 (fun K hK => ?_)
                  exact stepF_val _ hK (run_move rfl e5 _) rfl
                · intro fx w' fa hk hd ev  -- 134 = Op.move (Operand.tmp 7)
                  have h127 : fx 127 = .bool false := hd.1
                  have e127 : fa.tmps[127]?.getD undef = .bool false := (ev.new 127 rfl).trans h127
                  have e7 : fa.tmps[7]?.getD undef = .int .i64 (k : Int) := ev.old 7 rfl
                  refine stepF_yes (i := 52) (g := 127) (b := false) rfl rfl rfl e127 (fun K hK => ?_)
                  exact stepF_val _ hK (run_move rfl e7 _) rfl
                · intro fx w' fa hk hd ev  -- 135 = Op.indexAddr 22 (Operand.tmp 133) (Operand.tmp 134)
                  have h133 : fx 133 = .slice (some ⟨E, 0, none⟩) 7 7 := hd.1
                  have e133 : fa.tmps[133]?.getD undef = .slice (some ⟨E, 0, none⟩) 7 7 := (ev.new 133 rfl).trans h133
                  have h134 : fx 134 = .int .i64 (k : Int) := hd.2.1
                  have e134 : fa.tmps[134]?.getD undef = .int .i64 (k : Int) := (ev.new 134 rfl).trans h134
                  have h127 : fx 127 = .bool false := hd.2.2.1
                  have e127 : fa.tmps[127]?.getD undef = .bool false := (ev.new 127 rfl).trans h127
                  refine stepF_yes (i := 52) (g := 127) (b := false) rfl rfl rfl e127 (fun K hK => ?_)
                  have hz0 : (0 : Int) ≤ (k : Int) := Int.natCast_nonneg _
                  go_simp
                  exact hK _ _ rfl (Kp.refl _ _)
                · intro fx w' fa hk hd ev  -- 136 = Op.load 3 (Operand.tmp 135)
                  have h135 : fx 135 = .pointer (some ⟨E, k, none⟩) := hd.1
                  have e135 : fa.tmps[135]?.getD undef = .pointer (some ⟨E, k, none⟩) := (ev.new 135 rfl).trans h135
                  have h127 : fx 127 = .bool false := hd.2.1
                  have e127 : fa.tmps[127]?.getD undef = .bool false := (ev.new 127 rfl).trans h127
                  refine stepF_yes (i := 52) (g := 127) (b := false) rfl rfl rfl e127 (fun K hK => ?_)
                  have cx := en_cell (HEN.out.kp0 hk) HKB.out
                  go_simp
                  exact hK _ _ rfl (Kp.refl _ _)
                · intro fx w' fa hk hd ev  -- 137 = Op.buildSlice 22 1 #[(0, Operand.tmp 136)]
                  have h136 : fx 136 = .int .i64 b := hd.1
                  have e136 : fa.tmps[136]?.getD undef = .int .i64 b := (ev.new 136 rfl).trans h136
                  have h127 : fx 127 = .bool false := hd.2.1
                  have e127 : fa.tmps[127]?.getD undef = .bool false := (ev.new 127 rfl).trans h127
                  refine stepF_yes (i := 52) (g := 127) (b := false) rfl rfl rfl e127 (fun K hK => ?_)
                  go_simp
                  exact hK _ _ (vals_new w' ([.int .i64 b]) 3 1) ((Kp.refl _ _).alloc _)
                · intro fx w' fa hk hd ev  -- 138 = Op.call { callee := Callee.value (Operand.func 4), args := #
                  have h132 : (SFact.vals 1 ([.int .i64 a]) : SFact).p (fx 132) w' := hd.1
                  obtain ⟨A132, c132, v132, hc132, hr132⟩ := h132
                  have e132 : fa.tmps[132]?.getD undef = .slice A132 1 c132 := (ev.new 132 rfl).trans v132
                  have h137 : (SFact.vals 1 ([.int .i64 b]) : SFact).p (fx 137) w' := hd.2.1
                  obtain ⟨A137, c137, v137, hc137, hr137⟩ := h137
                  have e137 : fa.tmps[137]?.getD undef = .slice A137 1 c137 := (ev.new 137 rfl).trans v137
                  have h127 : fx 127 = .bool false := hd.2.2.1
                  have e127 : fa.tmps[127]?.getD undef = .bool false := (ev.new 127 rfl).trans h127
                  refine stepF_yes (i := 52) (g := 127) (b := false) rfl rfl rfl e127 (fun K hK => ?_)
                  go_simp
                  (with_reducible refine (HC138.out A132 A137 c132 c137 w' hr132 hr137).mono ?_)
                  rintro e w1 ⟨rfl, hk1⟩
                  exact hK _ _ rfl hk1
                · intro fx w' fa hk hd ev  -- 139 = Op.unOp UnOp.not 4 (Operand.tmp 138)
                  have h138 : fx 138 = .bool true := hd.1
                  have e138 : fa.tmps[138]?.getD undef = .bool true := (ev.new 138 rfl).trans h138
                  have h127 : fx 127 = .bool false := hd.2.1
                  have e127 : fa.tmps[127]?.getD undef = .bool false := (ev.new 127 rfl).trans h127
                  refine stepF_yes (i := 52) (g := 127) (b := false) rfl rfl rfl e127 (fun K hK => ?_)
                  go_simp
                  exact hK _ _ rfl (Kp.refl _ _)
                · intro fx w' fa hk hd ev  -- 140 = Op.pick (Operand.tmp 127) (Operand.const (Value.bool true)) 
                  have h127 : fx 127 = .bool false := hd.1
                  have e127 : fa.tmps[127]?.getD undef = .bool false := (ev.new 127 rfl).trans h127
                  have h139 : fx 139 = .bool false := hd.2.1
                  have e139 : fa.tmps[139]?.getD undef = .bool false := (ev.new 139 rfl).trans h139
                  refine stepF_un rfl (fun K hK => ?_)
                  go_simp
                  exact hK _ _ rfl (Kp.refl _ _)
              · intro fx w' hk hd
                have h140 : fx 140 = .bool false := hd.2.2.2.2.2.2.2.2.2.2.2.2.2.2.2.2.2.2.2.2.2.2.2.2.2.2.2.2.2.2.2.2.2.2.2.2.2.2.2.2.2.2.2.2.2.2.2.2.2.2.2.2.2.2.2.2.2.2.2.2.2.2.2.2.2.1
                have HKR := Lib.hid hk
                rw [h140]
                clear hk hd
                go_wp2_with fail
                exact ⟨⟨k + 1, by go_num, by omega, Lib.hid (HEN.out.kp0 HKR.out).here, Lib.hid (HK.out.trans HKR.out)⟩, by simp [intOf]; omega⟩
            · go_wp2_with fail
              exact ⟨⟨i + 1, by go_num, by omega, HEN, HK⟩, by simp [intOf]; omega⟩
        · skip
          have hi7d : decide ((i : Int) < 7) = false := by simp; omega
          obtain ⟨i7, hi7e⟩ : ∃ i7, i7 = i := ⟨_, rfl⟩
          rw [← hi7e] at hi7d ⊢
          clear HEN hi7e hil hi7
          go_wp2_with fail
          go_loopw [8, 9, 10] (fun y z x wr => ∃ (i c1 c2 : Nat) (A1 A2 : Option Addr), x = .int .i64 (i : Int) ∧ y = .slice A1 i c1 ∧ z = .slice A2 i c2 ∧ i ≤ 258 ∧ Hid (Pair wr w.heap.size (.slice A1 i c1) (.slice A2 i c2) i i (roL i) (chL i)) ∧ Hid (Kp [] w wr)) (fun _ _ x _ => 258 - (intOf x).toNat)
          case atStart => exact ⟨0, 0, 0, none, none, rfl, rfl, rfl, by omega, Lib.hid (Pair.nil _ _), HK⟩
          case round =>
            clear HK
            obtain ⟨i, c1, c2, A1, A2, rfl, rfl, rfl, hi8, HP, HK⟩ := hrel
            by_cases hil : i < 258
            · skip
              have hi0 : (0 : Int) ≤ (i : Int) := by omega
              have hi1 : (i : Int) ≤ 257 := by omega
              have hi2 : decide ((i : Int) < 258) = true := by simp; omega
              obtain ⟨mn, hmn⟩ : ∃ mn, mn = min (i + 1) 256 := ⟨_, rfl⟩
              have HMN := Lib.hid hmn
              clear hmn
              have HSZ := Lib.hid HK.out.size
              go_upto_region 26 with (at_builtin; go_loud (refine wpList_append_rd rfl (.tmp 145) (.tmp 146) 22 rfl (w.heap.size) 3 i0 (.int .i64 0) 1 8 Try.underlying22 hi hz0 hz1 hz2 rfl (by decide) (.slice A1 i c1) (i) _ rfl (own_kp0 HP.out.o1 ((Kp.refl [] _).alloc _)) _ _ 1 1 [.int .i64 4294967296] rfl rfl (Rd.new wr #[.int .i64 4294967296] 3 (0, 0)) (by intro u hu; simp at hu; subst hu; rfl) (by unfold maxLen; omega) (by omega) (by have := HSZ.out; simp; omega) ?_); intro v2 w2 hown2 hgrow2 hat2; obtain ⟨hka2, hga2⟩ := app_facts hgrow2 hat2; obtain ⟨A2', c2', rfl, _⟩ := own_form hown2)
              have HP2 := Lib.hid (HP.out.left hown2 hgrow2 hat2).swap
              have HK2 := Lib.hid (HP.out.keep HK.out hgrow2 rfl)
              have HSZ2 := Lib.hid HK2.out.size
              clear hown2 hgrow2 hat2 hka2 hga2 HP HK
              have hif : (if 256 < (i : Int) + 1 then 256 else (i : Int) + 1) = (mn : Int) := by split <;> (have := HMN.out; omega)
              go_wp2_with (at_builtin; go_loud (refine wpList_append_rd rfl (.tmp 148) (.tmp 152) 22 rfl (w.heap.size) 3 i0 (.int .i64 0) 1 8 Try.underlying22 hi hz0 hz1 hz2 rfl (by decide) (.slice A2 i c2) (i) _ rfl (own_kp0 HP2.out.o1 ((Kp.refl [] _).alloc _)) _ _ 1 1 [.int .i64 (mn : Int)] rfl rfl (Rd.new w2 #[.int .i64 (mn : Int)] 3 (0, 0)) (by intro u hu; simp at hu; subst hu; rfl) (by unfold maxLen; omega) (by omega) (by have := HSZ2.out; simp; omega) ?_); intro v3 w3 hown3 hgrow3 hat3; obtain ⟨hka3, hga3⟩ := app_facts hgrow3 hat3; obtain ⟨A3', c3', rfl, _⟩ := own_form hown3)
              have HP3 := Lib.hid (HP2.out.left hown3 hgrow3 hat3).swap
              have HK3 := Lib.hid (HP2.out.keep HK2.out hgrow3 rfl)
              exact ⟨⟨i + 1, c2', c3', A2', A3', by go_num, rfl, rfl, by omega, Lib.hid (by rw [roL_succ, chL_succ, ← HMN.out]; exact HP3.out), HK3⟩, by simp [intOf]; omega⟩
            · obtain rfl : i = 258 := by omega
              have hc1 : 258 ≤ c1 := by
                obtain ⟨_, _, hv, hc, _⟩ := own_form HP.out.o1
                injection hv with _ _ hv
                omega
              have hc2 : 258 ≤ c2 := by
                obtain ⟨_, _, hv, hc, _⟩ := own_form HP.out.o2
                injection hv with _ _ hv
                omega
              have HX1 := Lib.hid (own_rd HP.out.o1)
              have HX2 := Lib.hid (own_rd HP.out.o2)
              have hc17 : 257 ≤ c1 := by omega
              have hc27 : 257 ≤ c2 := by omega
              have HT1 := Lib.hid (show Rd wr wr.heap.size A1 ((roL 257).map (.int .i64)) by rw [← roL_take, List.map_take]; exact HX1.out.take 257)
              have HT2 := Lib.hid (show Rd wr wr.heap.size A2 ((chL 257).map (.int .i64)) by rw [← chL_take, List.map_take]; exact HX2.out.take 257)
              clear HP
              go_wp2_with fail
              refine (tlengths_any A1 257 c1 _ (roL 257) wr HT1.out (roL_len _) (by omega)).mono ?_
              rintro e w3 ⟨A5, m5, c5, hm5, rfl, hown5, hk5⟩
              rw [lensL_len roL_ok, roL_len] at hm5
              subst hm5
              rw [lensE_ok roL_ok]
              have HX5 := Lib.hid (own_rd hown5)
              have HK5 := Lib.hid hk5; clear hk5 hown5
              go_wp2_with fail
              refine (tlengths_any A1 258 c1 _ (roL 258) w3 (HX1.out.kp0 HK5.out) (roL_len _) (by omega)).mono ?_
              rintro e w4 ⟨A6, m6, c6, hm6, rfl, hown6, hk6⟩
              rw [lensE_no roL_no]
              have HX5' := Lib.hid (HX5.out.kp0 hk6).here
              have HK6 := Lib.hid (HK5.out.trans hk6); clear hk6 hown6 hm6 HK5 HX5
              go_upto_region 29 with fail
              have hI1 : (257 : Int) ≤ (c1 : Int) := by omega
              have hI2 : (257 : Int) ≤ (c2 : Int) := by omega
              have HD181 := Lib.hid (fun w' (hk : Kp [] _ w') => fitsL_any _ _ 257 257 c1 c2 _ _ (roL 257) (chL 257) w' ((HT1.out.kp0 HK6.out).kp0 hk) ((HT2.out.kp0 HK6.out).kp0 hk) (roL_len _) (chL_len _) (by omega) (by omega) (chL_sm _))
              have HD186 := Lib.hid (fun w' (hk : Kp [] _ w') => fitsL_any _ _ 258 258 c1 c2 _ _ (roL 258) (chL 258) w' ((HX1.out.kp0 HK6.out).kp0 hk) ((HX2.out.kp0 HK6.out).kp0 hk) (roL_len _) (chL_len _) (by omega) (by omega) (chL_sm _))
              have HD192 := Lib.hid (fun w' (hk : Kp [] _ w') => fitsL_any _ _ 257 257 c1 c5 _ _ (roL 257) (lensL (roL 257)) w' ((HT1.out.kp0 HK6.out).kp0 hk) (HX5'.out.kp0 hk) (roL_len _) (by rw [lensL_len roL_ok, roL_len]) (by omega) (by omega) (fun x hx => by have := okF_bound (okF_lens roL_ok) x hx; omega))
              refine wp_region_facts (by kernel_rfl) 197 [0, 165, 166, 167, 168, 169, 170, 171, 172, 173, 174, 175, 176, 177, 178, 179, 180, 181, 182, 183, 184, 185, 186, 187, 188, 189, 190, 191, 192, 193, 194, 195, 196] [[], [165], [166], [167], [168, 167], [169, 167], [167, 170], [171], [172], [173, 172], [172, 174], [175], [176], [177, 176], [176], [179, 176], [178, 180, 176], [176, 181], [182], [183], [183], [184, 185, 183], [183, 186], [187], [188], [189, 188], [188], [190, 191, 188], [188, 192], [193], [194], [194, 195], [196]] (by kernel_rfl) (by kernel_rfl) rfl (factOf [(165, .eq (.int .i64 0)), (166, .eq (.bool true)), (167, .eq (.bool true)), (168, .eq (.slice A5 257 c5)), (169, .eq (.int .i64 257)), (170, .eq (.bool true)), (171, .eq (.bool true)), (172, .eq (.bool true)), (173, .eq (.int .i64 2)), (174, .eq (.bool true)), (175, .eq (.bool true)), (176, .eq (.bool true)), (177, .eq (.slice A1 258 c1)), (178, .eq (.slice A1 257 c1)), (179, .eq (.slice A2 258 c2)), (180, .eq (.slice A2 257 c2)), (181, .eq (.bool true)), (182, .eq (.bool true)), (183, .eq (.bool true)), (184, .eq (.slice A1 258 c1)), (185, .eq (.slice A2 258 c2)), (186, .eq (.bool true)), (187, .eq (.bool true)), (188, .eq (.bool true)), (189, .eq (.slice A1 258 c1)), (190, .eq (.slice A1 257 c1)), (191, .eq (.slice A5 257 c5)), (192, .eq (.bool true)), (193, .eq (.bool true)), (194, .eq (.bool true)), (195, .eq (.bool true)), (196, .eq (.bool true)), (0, .eq (.bool true))]) (factOf_stable _) _ (fun x => by simp only [fillL, Nat.reduceAdd, Nat.reduceEqDiff, ↓reduceIte]; rfl) ?_ ?_
              · refine ⟨?_, ?_, ?_, ?_, ?_, ?_, ?_, ?_, ?_, ?_, ?_, ?_, ?_, ?_, ?_, ?_, ?_, ?_, ?_, ?_, ?_, ?_, ?_, ?_, ?_, ?_, ?_, ?_, ?_, ?_, ?_, ?_, ?_, trivial⟩
                · intro fx w' fa hk hd ev  -- 165 = Op.move (Operand.tmp 12)
                  have e12 : fa.tmps[12]?.getD undef = .int .i64 0 := ev.old 12 rfl
                  refine stepF_un rfl (fun K hK => ?_)
                  exact stepF_val _ hK (run_move rfl e12 _) rfl
                · intro fx w' fa hk hd ev  -- 166 = Op.binOp BinOp.eql 25 (Operand.tmp 165) (Operand.const (Valu
                  have h165 : fx 165 = .int .i64 0 := hd.1
                  have e165 : fa.tmps[165]?.getD undef = .int .i64 0 := (ev.new 165 rfl).trans h165
                  refine stepF_un rfl (fun K hK => ?_)
                  go_simp
                  exact hK _ _ rfl (Kp.refl _ _)
                · intro fx w' fa hk hd ev  -- 167 = Op.move (Operand.tmp 166)
                  have h166 : fx 166 = .bool true := hd.1
                  have e166 : fa.tmps[166]?.getD undef = .bool true := (ev.new 166 rfl).trans h166
                  refine stepF_un rfl (fun K hK => ?_)
                  exact stepF_val _ hK (run_move rfl e166 _) rfl
                · intro fx w' fa hk hd ev  -- 168 = Op.move (Operand.tmp 11)
                  have h167 : fx 167 = .bool true := hd.1
                  have e167 : fa.tmps[167]?.getD undef = .bool true := (ev.new 167 rfl).trans h167
                  have e11 : fa.tmps[11]?.getD undef = .slice A5 257 c5 := ev.old 11 rfl
                  refine stepF_yes (i := 2) (g := 167) (b := true) rfl rfl rfl e167 (fun K hK => ?_)
                  exact stepF_val _ hK (run_move rfl e11 _) rfl
                · intro fx w' fa hk hd ev  -- 169 = Op.call { callee := Callee.builtin Builtin.len, args := #[Op
                  have h168 : fx 168 = .slice A5 257 c5 := hd.1
                  have e168 : fa.tmps[168]?.getD undef = .slice A5 257 c5 := (ev.new 168 rfl).trans h168
                  have h167 : fx 167 = .bool true := hd.2.1
                  have e167 : fa.tmps[167]?.getD undef = .bool true := (ev.new 167 rfl).trans h167
                  refine stepF_yes (i := 2) (g := 167) (b := true) rfl rfl rfl e167 (fun K hK => ?_)
                  go_simp
                  exact hK _ _ rfl (Kp.refl _ _)
                · intro fx w' fa hk hd ev  -- 170 = Op.binOp BinOp.eql 3 (Operand.tmp 169) (Operand.const (Value
                  have h169 : fx 169 = .int .i64 257 := hd.1
                  have e169 : fa.tmps[169]?.getD undef = .int .i64 257 := (ev.new 169 rfl).trans h169
                  have h167 : fx 167 = .bool true := hd.2.1
                  have e167 : fa.tmps[167]?.getD undef = .bool true := (ev.new 167 rfl).trans h167
                  refine stepF_yes (i := 2) (g := 167) (b := true) rfl rfl rfl e167 (fun K hK => ?_)
                  go_simp
                  exact hK _ _ rfl (Kp.refl _ _)
                · intro fx w' fa hk hd ev  -- 171 = Op.pick (Operand.tmp 167) (Operand.tmp 170) (Operand.const (
                  have h167 : fx 167 = .bool true := hd.1
                  have e167 : fa.tmps[167]?.getD undef = .bool true := (ev.new 167 rfl).trans h167
                  have h170 : fx 170 = .bool true := hd.2.1
                  have e170 : fa.tmps[170]?.getD undef = .bool true := (ev.new 170 rfl).trans h170
                  refine stepF_un rfl (fun K hK => ?_)
                  go_simp
                  exact hK _ _ rfl (Kp.refl _ _)
                · intro fx w' fa hk hd ev  -- 172 = Op.move (Operand.tmp 171)
                  have h171 : fx 171 = .bool true := hd.1
                  have e171 : fa.tmps[171]?.getD undef = .bool true := (ev.new 171 rfl).trans h171
                  refine stepF_un rfl (fun K hK => ?_)
                  exact stepF_val _ hK (run_move rfl e171 _) rfl
                · intro fx w' fa hk hd ev  -- 173 = Op.move (Operand.tmp 14)
                  have h172 : fx 172 = .bool true := hd.1
                  have e172 : fa.tmps[172]?.getD undef = .bool true := (ev.new 172 rfl).trans h172
                  have e14 : fa.tmps[14]?.getD undef = .int .i64 2 := ev.old 14 rfl
                  refine stepF_yes (i := 7) (g := 172) (b := true) rfl rfl rfl e172 (fun K hK => ?_)
                  exact stepF_val _ hK (run_move rfl e14 _) rfl
                · intro fx w' fa hk hd ev  -- 174 = Op.binOp BinOp.eql 25 (Operand.tmp 173) (Operand.const (Valu
                  have h173 : fx 173 = .int .i64 2 := hd.1
                  have e173 : fa.tmps[173]?.getD undef = .int .i64 2 := (ev.new 173 rfl).trans h173
                  have h172 : fx 172 = .bool true := hd.2.1
                  have e172 : fa.tmps[172]?.getD undef = .bool true := (ev.new 172 rfl).trans h172
                  refine stepF_yes (i := 7) (g := 172) (b := true) rfl rfl rfl e172 (fun K hK => ?_)
                  go_simp
                  exact hK _ _ rfl (Kp.refl _ _)
                · intro fx w' fa hk hd ev  -- 175 = Op.pick (Operand.tmp 172) (Operand.tmp 174) (Operand.const (
                  have h172 : fx 172 = .bool true := hd.1
                  have e172 : fa.tmps[172]?.getD undef = .bool true := (ev.new 172 rfl).trans h172
                  have h174 : fx 174 = .bool true := hd.2.1
                  have e174 : fa.tmps[174]?.getD undef = .bool true := (ev.new 174 rfl).trans h174
                  refine stepF_un rfl (fun K hK => ?_)
                  go_simp
                  exact hK _ _ rfl (Kp.refl _ _)
                · intro fx w' fa hk hd ev  -- 176 = Op.move (Operand.tmp 175)
                  have h175 : fx 175 = .bool true := hd.1
                  have e175 : fa.tmps[175]?.getD undef = .bool true := (ev.new 175 rfl).trans h175
                  refine stepF_un rfl (fun K hK => ?_)
                  exact stepF_val _ hK (run_move rfl e175 _) rfl
                · intro fx w' fa hk hd ev  -- 177 = Op.move (Operand.tmp 8)
                  have h176 : fx 176 = .bool true := hd.1
                  have e176 : fa.tmps[176]?.getD undef = .bool true := (ev.new 176 rfl).trans h176
                  have e8 : fa.tmps[8]?.getD undef = .slice A1 258 c1 := ev.old 8 rfl
                  refine stepF_yes (i := 11) (g := 176) (b := true) rfl rfl rfl e176 (fun K hK => ?_)
                  exact stepF_val _ hK (run_move rfl e8 _) rfl
                · intro fx w' fa hk hd ev  -- 178 = Op.slice 22 (Operand.tmp 177) none (some (Operand.const (Val
                  have h177 : fx 177 = .slice A1 258 c1 := hd.1
                  have e177 : fa.tmps[177]?.getD undef = .slice A1 258 c1 := (ev.new 177 rfl).trans h177
                  have h176 : fx 176 = .bool true := hd.2.1
                  have e176 : fa.tmps[176]?.getD undef = .bool true := (ev.new 176 rfl).trans h176
                  refine stepF_yes (i := 11) (g := 176) (b := true) rfl rfl rfl e176 (fun K hK => ?_)
                  go_simp
                  exact hK _ _ rfl (Kp.refl _ _)
                · intro fx w' fa hk hd ev  -- 179 = Op.move (Operand.tmp 9)
                  have h176 : fx 176 = .bool true := hd.1
                  have e176 : fa.tmps[176]?.getD undef = .bool true := (ev.new 176 rfl).trans h176
                  have e9 : fa.tmps[9]?.getD undef = .slice A2 258 c2 := ev.old 9 rfl
                  refine stepF_yes (i := 11) (g := 176) (b := true) rfl rfl rfl e176 (fun K hK => ?_)
                  exact stepF_val _ hK (run_move rfl e9 _) rfl
                · intro fx w' fa hk hd ev  -- 180 = Op.slice 22 (Operand.tmp 179) none (some (Operand.const (Val
                  have h179 : fx 179 = .slice A2 258 c2 := hd.1
                  have e179 : fa.tmps[179]?.getD undef = .slice A2 258 c2 := (ev.new 179 rfl).trans h179
                  have h176 : fx 176 = .bool true := hd.2.1
                  have e176 : fa.tmps[176]?.getD undef = .bool true := (ev.new 176 rfl).trans h176
                  refine stepF_yes (i := 11) (g := 176) (b := true) rfl rfl rfl e176 (fun K hK => ?_)
                  go_simp
                  exact hK _ _ rfl (Kp.refl _ _)
                · intro fx w' fa hk hd ev  -- 181 = Op.call { callee := Callee.value (Operand.func 4), args := #
                  have h178 : fx 178 = .slice A1 257 c1 := hd.1
                  have e178 : fa.tmps[178]?.getD undef = .slice A1 257 c1 := (ev.new 178 rfl).trans h178
                  have h180 : fx 180 = .slice A2 257 c2 := hd.2.1
                  have e180 : fa.tmps[180]?.getD undef = .slice A2 257 c2 := (ev.new 180 rfl).trans h180
                  have h176 : fx 176 = .bool true := hd.2.2.1
                  have e176 : fa.tmps[176]?.getD undef = .bool true := (ev.new 176 rfl).trans h176
                  refine stepF_yes (i := 11) (g := 176) (b := true) rfl rfl rfl e176 (fun K hK => ?_)
                  go_simp
                  (with_reducible refine (HD181.out w' hk).mono ?_)
                  rintro e w1 ⟨rfl, hk1⟩
                  exact hK _ _ rfl hk1
                · intro fx w' fa hk hd ev  -- 182 = Op.pick (Operand.tmp 176) (Operand.tmp 181) (Operand.const (
                  have h176 : fx 176 = .bool true := hd.1
                  have e176 : fa.tmps[176]?.getD undef = .bool true := (ev.new 176 rfl).trans h176
                  have h181 : fx 181 = .bool true := hd.2.1
                  have e181 : fa.tmps[181]?.getD undef = .bool true := (ev.new 181 rfl).trans h181
                  refine stepF_un rfl (fun K hK => ?_)
                  go_simp
                  exact hK _ _ rfl (Kp.refl _ _)
                · intro fx w' fa hk hd ev  -- 183 = Op.move (Operand.tmp 182)
                  have h182 : fx 182 = .bool true := hd.1
                  have e182 : fa.tmps[182]?.getD undef = .bool true := (ev.new 182 rfl).trans h182
                  refine stepF_un rfl (fun K hK => ?_)
                  exact stepF_val _ hK (run_move rfl e182 _) rfl
                · intro fx w' fa hk hd ev  -- 184 = Op.move (Operand.tmp 8)
                  have h183 : fx 183 = .bool true := hd.1
                  have e183 : fa.tmps[183]?.getD undef = .bool true := (ev.new 183 rfl).trans h183
                  have e8 : fa.tmps[8]?.getD undef = .slice A1 258 c1 := ev.old 8 rfl
                  refine stepF_yes (i := 18) (g := 183) (b := true) rfl rfl rfl e183 (fun K hK => ?_)
                  exact stepF_val _ hK (run_move rfl e8 _) rfl
                · intro fx w' fa hk hd ev  -- 185 = Op.move (Operand.tmp 9)
                  have h183 : fx 183 = .bool true := hd.1
                  have e183 : fa.tmps[183]?.getD undef = .bool true := (ev.new 183 rfl).trans h183
                  have e9 : fa.tmps[9]?.getD undef = .slice A2 258 c2 := ev.old 9 rfl
                  refine stepF_yes (i := 18) (g := 183) (b := true) rfl rfl rfl e183 (fun K hK => ?_)
                  exact stepF_val _ hK (run_move rfl e9 _) rfl
                · intro fx w' fa hk hd ev  -- 186 = Op.call { callee := Callee.value (Operand.func 4), args := #
                  have h184 : fx 184 = .slice A1 258 c1 := hd.1
                  have e184 : fa.tmps[184]?.getD undef = .slice A1 258 c1 := (ev.new 184 rfl).trans h184
                  have h185 : fx 185 = .slice A2 258 c2 := hd.2.1
                  have e185 : fa.tmps[185]?.getD undef = .slice A2 258 c2 := (ev.new 185 rfl).trans h185
                  have h183 : fx 183 = .bool true := hd.2.2.1
                  have e183 : fa.tmps[183]?.getD undef = .bool true := (ev.new 183 rfl).trans h183
                  refine stepF_yes (i := 18) (g := 183) (b := true) rfl rfl rfl e183 (fun K hK => ?_)
                  go_simp
                  (with_reducible refine (HD186.out w' hk).mono ?_)
                  rintro e w1 ⟨rfl, hk1⟩
                  exact hK _ _ rfl hk1
                · intro fx w' fa hk hd ev  -- 187 = Op.pick (Operand.tmp 183) (Operand.tmp 186) (Operand.const (
                  have h183 : fx 183 = .bool true := hd.1
                  have e183 : fa.tmps[183]?.getD undef = .bool true := (ev.new 183 rfl).trans h183
                  have h186 : fx 186 = .bool true := hd.2.1
                  have e186 : fa.tmps[186]?.getD undef = .bool true := (ev.new 186 rfl).trans h186
                  refine stepF_un rfl (fun K hK => ?_)
                  go_simp
                  exact hK _ _ rfl (Kp.refl _ _)
                · intro fx w' fa hk hd ev  -- 188 = Op.move (Operand.tmp 187)
                  have h187 : fx 187 = .bool true := hd.1
                  have e187 : fa.tmps[187]?.getD undef = .bool true := (ev.new 187 rfl).trans h187
                  refine stepF_un rfl (fun K hK => ?_)
                  exact stepF_val _ hK (run_move rfl e187 _) rfl
                · intro fx w' fa hk hd ev  -- 189 = Op.move (Operand.tmp 8)
                  have h188 : fx 188 = .bool true := hd.1
                  have e188 : fa.tmps[188]?.getD undef = .bool true := (ev.new 188 rfl).trans h188
                  have e8 : fa.tmps[8]?.getD undef = .slice A1 258 c1 := ev.old 8 rfl
                  refine stepF_yes (i := 23) (g := 188) (b := true) rfl rfl rfl e188 (fun K hK => ?_)
                  exact stepF_val _ hK (run_move rfl e8 _) rfl
                · intro fx w' fa hk hd ev  -- 190 = Op.slice 22 (Operand.tmp 189) none (some (Operand.const (Val
                  have h189 : fx 189 = .slice A1 258 c1 := hd.1
                  have e189 : fa.tmps[189]?.getD undef = .slice A1 258 c1 := (ev.new 189 rfl).trans h189
                  have h188 : fx 188 = .bool true := hd.2.1
                  have e188 : fa.tmps[188]?.getD undef = .bool true := (ev.new 188 rfl).trans h188
                  refine stepF_yes (i := 23) (g := 188) (b := true) rfl rfl rfl e188 (fun K hK => ?_)
                  go_simp
                  exact hK _ _ rfl (Kp.refl _ _)
                · intro fx w' fa hk hd ev  -- 191 = Op.move (Operand.tmp 11)
                  have h188 : fx 188 = .bool true := hd.1
                  have e188 : fa.tmps[188]?.getD undef = .bool true := (ev.new 188 rfl).trans h188
                  have e11 : fa.tmps[11]?.getD undef = .slice A5 257 c5 := ev.old 11 rfl
                  refine stepF_yes (i := 23) (g := 188) (b := true) rfl rfl rfl e188 (fun K hK => ?_)
                  exact stepF_val _ hK (run_move rfl e11 _) rfl
                · intro fx w' fa hk hd ev  -- 192 = Op.call { callee := Callee.value (Operand.func 4), args := #
                  have h190 : fx 190 = .slice A1 257 c1 := hd.1
                  have e190 : fa.tmps[190]?.getD undef = .slice A1 257 c1 := (ev.new 190 rfl).trans h190
                  have h191 : fx 191 = .slice A5 257 c5 := hd.2.1
                  have e191 : fa.tmps[191]?.getD undef = .slice A5 257 c5 := (ev.new 191 rfl).trans h191
                  have h188 : fx 188 = .bool true := hd.2.2.1
                  have e188 : fa.tmps[188]?.getD undef = .bool true := (ev.new 188 rfl).trans h188
                  refine stepF_yes (i := 23) (g := 188) (b := true) rfl rfl rfl e188 (fun K hK => ?_)
                  go_simp
                  (with_reducible refine (HD192.out w' hk).mono ?_)
                  rintro e w1 ⟨rfl, hk1⟩
                  exact hK _ _ rfl hk1
                · intro fx w' fa hk hd ev  -- 193 = Op.pick (Operand.tmp 188) (Operand.tmp 192) (Operand.const (
                  have h188 : fx 188 = .bool true := hd.1
                  have e188 : fa.tmps[188]?.getD undef = .bool true := (ev.new 188 rfl).trans h188
                  have h192 : fx 192 = .bool true := hd.2.1
                  have e192 : fa.tmps[192]?.getD undef = .bool true := (ev.new 192 rfl).trans h192
                  refine stepF_un rfl (fun K hK => ?_)
                  go_simp
                  exact hK _ _ rfl (Kp.refl _ _)
                · intro fx w' fa hk hd ev  -- 194 = Op.move (Operand.tmp 193)
                  have h193 : fx 193 = .bool true := hd.1
                  have e193 : fa.tmps[193]?.getD undef = .bool true := (ev.new 193 rfl).trans h193
                  refine stepF_un rfl (fun K hK => ?_)
                  exact stepF_val _ hK (run_move rfl e193 _) rfl
                · intro fx w' fa hk hd ev  -- 195 = Op.call { callee := Callee.value (Operand.func 8), args := #
                  have h194 : fx 194 = .bool true := hd.1
                  have e194 : fa.tmps[194]?.getD undef = .bool true := (ev.new 194 rfl).trans h194
                  refine stepF_yes (i := 29) (g := 194) (b := true) rfl rfl rfl e194 (fun K hK => ?_)
                  go_simp
                  refine (awake_any _).mono ?_
                  rintro e w1 ⟨rfl, hk1⟩
                  exact hK _ _ rfl hk1
                · intro fx w' fa hk hd ev  -- 196 = Op.pick (Operand.tmp 194) (Operand.tmp 195) (Operand.const (
                  have h194 : fx 194 = .bool true := hd.1
                  have e194 : fa.tmps[194]?.getD undef = .bool true := (ev.new 194 rfl).trans h194
                  have h195 : fx 195 = .bool true := hd.2.1
                  have e195 : fa.tmps[195]?.getD undef = .bool true := (ev.new 195 rfl).trans h195
                  refine stepF_un rfl (fun K hK => ?_)
                  go_simp
                  exact hK _ _ rfl (Kp.refl _ _)
                · intro fx w' fa hk hd ev  -- 0 = Op.assign (Operand.tmp 196)
                  have h196 : fx 196 = .bool true := hd.1
                  have e196 : fa.tmps[196]?.getD undef = .bool true := (ev.new 196 rfl).trans h196
                  refine stepF_un rfl (fun K hK => ?_)
                  exact stepF_val _ hK (run_assign rfl e196 _) rfl
              · intro fx w' hk hd
                have h0 : fx 0 = .bool true := hd.1
                have HKR := Lib.hid ((HK.out.trans HK6.out).trans hk)
                rw [h0]
                clear hk hd
                go_wp2_with fail
                go_ret
                exact ⟨rfl, HKR.out⟩
end Go.Proofs.Ythidmpllganmnaa
