/-
  THE STATEMENT SumParts OF LAYER 4, its walk: for every bytes and two places, the call returns true and writes to nothing that was there.
  CONDITIONS: the slice takes at most 2^47 bytes.
-/
import Derived.Test.YtbikidbaiegehaaSumS
namespace Go.Proofs.Ytbikidbaiegehaa
open Go.RowKit

theorem parts1 (b : List Int) : [b].flatten = b := by simp
theorem parts2 (b : List Int) (p : Nat) : [b.take p, b.drop p].flatten = b := by simp
theorem parts4 (b : List Int) {p q : Nat} (h : p ≤ q) : [b.take p, (b.drop p).take (q - p), [], b.drop q].flatten = b := by
  have h1 : b.drop q = (b.drop p).drop (q - p) := by rw [List.drop_drop]; congr 1; omega
  simp only [List.flatten_cons, List.flatten_nil, List.append_nil, List.nil_append]
  rw [h1, List.take_append_drop, List.take_append_drop]
theorem parts1_byt {b : List Int} (h : Byt b) : ∀ xs ∈ [b], Byt xs := by intro xs hx; simp at hx; subst hx; exact h
theorem parts2_byt {b : List Int} {p : Nat} (h : Byt b) : ∀ xs ∈ [b.take p, b.drop p], Byt xs := by
  intro xs hx
  simp only [List.mem_cons, List.not_mem_nil, or_false] at hx
  rcases hx with rfl | rfl
  · exact h.take p
  · intro x hx; exact h x (List.mem_of_mem_drop hx)
theorem parts4_byt {b : List Int} {p q : Nat} (h : Byt b) : ∀ xs ∈ [b.take p, (b.drop p).take (q - p), [], b.drop q], Byt xs := by
  intro xs hx
  simp only [List.mem_cons, List.not_mem_nil, or_false] at hx
  rcases hx with rfl | rfl | rfl | rfl
  · exact h.take p
  · intro x hx; exact h x (List.mem_of_mem_drop (List.mem_of_mem_take hx))
  · intro x hx; cases hx
  · intro x hx; exact h x (List.mem_of_mem_drop hx)

theorem IsRd.all {w : World} {B : Nat} {A : Option Addr} {n c : Nat} {k : IntKind} {b : List Int} (h : Rd w B A (b.map (.int k))) (hn : b.length = n) (hc : n ≤ c) : IsRd k b (.slice A n c) w := ⟨A, c, by rw [hn], by omega, h.here⟩
theorem IsRd.to {w : World} {B : Nat} {A : Option Addr} {n c p : Nat} {k : IntKind} {b : List Int} (h : Rd w B A (b.map (.int k))) (hn : b.length = n) (hc : n ≤ c) (hp : p ≤ n) : IsRd k (b.take p) (.slice A p c) w := by
  have hl : (b.take p).length = p := by rw [List.length_take]; omega
  exact ⟨A, c, by rw [hl], by omega, by rw [List.map_take]; exact h.here.take p⟩
theorem IsRd.fro {w : World} {B : Nat} {A : Option Addr} {n c p : Nat} {k : IntKind} {b : List Int} (h : Rd w B A (b.map (.int k))) (hn : b.length = n) (hc : n ≤ c) (hp : p ≤ n) :
    IsRd k (b.drop p) (.slice (if c = p then A else A.map (·.add p)) (n - p) (c - p)) w := by
  have hl : (b.drop p).length = n - p := by rw [List.length_drop]; omega
  refine ⟨_, _, by rw [hl], by omega, ?_⟩
  by_cases hcp : c = p
  · rw [List.drop_of_length_le (by omega)]
    exact Rd.nil _ _ _
  · rw [if_neg hcp, List.map_drop]
    cases A with
    | none => rw [h.none_nil]; simp; exact Rd.nil _ _ _
    | some ad => exact h.here.drop p
theorem IsRd.mid {w : World} {B : Nat} {A : Option Addr} {n c p q : Nat} {k : IntKind} {b : List Int} (h : Rd w B A (b.map (.int k))) (hn : b.length = n) (hc : n ≤ c) (hp : p ≤ q) (hq : q ≤ n) :
    IsRd k ((b.drop p).take (q - p)) (.slice (if c = p then A else A.map (·.add p)) (q - p) (c - p)) w := by
  obtain ⟨A', c', hv, hc', hr⟩ := IsRd.fro (p := p) h hn hc (by omega)
  have hl : ((b.drop p).take (q - p)).length = q - p := by rw [List.length_take, List.length_drop]; omega
  injection hv with h1 h2 h3
  refine ⟨_, _, by rw [hl], by omega, ?_⟩
  rw [List.map_take, h1]
  exact hr.take _

theorem one_rows {w : World} {A : Option Addr} {n c : Nat} {b : List Int} {t : TypeId} (h : IsRd .u8 b (.slice A n c) w) :
    RdRows (w.alloc (.cells #[.slice A n c] t)) (w.alloc (.cells #[.slice A n c] t)).heap.size .u8 (some ⟨w.heap.size, 0, none⟩) [b] := by
  obtain ⟨A', c', hv, _, hr⟩ := IsRows.new (xss := [b]) (t := t) (n := 1) rfl (RowsL.cons h RowsL.nil_)
  injection hv with h1
  subst h1
  exact hr
theorem openE_zero {b : List Int} (h : openE b = 0) : sealed (openL b) = b := by
  have hl : openL b = b.take (b.length - 4) := by unfold openL; rw [if_pos h]
  rw [hl]
  unfold openE at h
  split at h
  · omega
  · split at h
    · assumption
    · omega
theorem openL_byt {b : List Int} (h : Byt b) : Byt (openL b) := by
  unfold openL
  split
  · exact h.take _
  · intro x hx; cases hx
theorem openL_le (b : List Int) : (openL b).length ≤ b.length := by
  unfold openL
  split
  · rw [List.length_take]; omega
  · simp

set_option maxRecDepth 100000 in
set_option maxHeartbeats 4000000 in
theorem sumParts_any (A : Option Addr) (n c : Nat) (x y : Int) (b : List Int) (w : World) (hy : Rd w w.heap.size A (b.map (.int .u8))) (hn : b.length = n) (hmc : n ≤ c) (hmb : n ≤ 140737488355328) (hyb : Byt b) :
    Calls Try.prog 6 #[.slice A n c, .int .i64 x, .int .i64 y] w fun e w' => e = .returned (.bool true) ∧ Kp [] w w' := by
  obtain ⟨i0, hi, hz0, hz1, hz2⟩ := info_parts Try.info_u8
  have HY := Lib.hid hy; clear hy
  have HN := Lib.hid hn; clear hn
  have HBY := Lib.hid hyb; clear hyb
  go_enter Try.func6, Try.ntmps6
  go_wp2_with fail
  refine (awake4_any _).mono ?_
  rintro e w1 ⟨rfl, hk1⟩
  have HK1 := Lib.hid hk1; clear hk1
  by_cases hs : 3000 < n
  · go_wp2
    go_ret
    exact ⟨rfl, HK1.out⟩
  · have hs' : n ≤ 3000 := by omega
    clear hs hmb
    have HR := Lib.hid (HY.out.kp0 HK1.out)
    go_wp2_with fail
    refine (pick_any x ((n : Int) + 1) _ (by omega)).mono ?_
    rintro e w' ⟨rfl, rfl⟩
    obtain ⟨p, hp, hpn⟩ : ∃ p : Nat, pickI x ((n : Int) + 1) = p ∧ p ≤ n := by
      have := pickI_bound (x := x) (n := (n : Int) + 1) (by omega)
      exact ⟨(pickI x ((n : Int) + 1)).toNat, by omega, by omega⟩
    rw [hp]
    clear hp
    go_wp2_with fail
    refine (pick_any y ((n : Int) - (p : Int) + 1) _ (by omega)).mono ?_
    rintro e w' ⟨rfl, rfl⟩
    obtain ⟨d, hd, hdn⟩ : ∃ d : Nat, pickI y ((n : Int) - (p : Int) + 1) = d ∧ p + d ≤ n := by
      have := pickI_bound (x := y) (n := (n : Int) - (p : Int) + 1) (by omega)
      exact ⟨(pickI y ((n : Int) - (p : Int) + 1)).toNat, by omega, by omega⟩
    rw [hd]
    clear hd
    obtain ⟨q, hq⟩ : ∃ q, q = p + d := ⟨_, rfl⟩
    have hpq : p ≤ q := by omega
    have hqn : q ≤ n := by omega
    have hpc : p ≤ c := by omega
    have hqc2 : q ≤ c := by omega
    have hqc : (p : Int) + (d : Int) = (q : Int) := by omega
    obtain ⟨Q, hQ⟩ : ∃ Q, Q = crc b := ⟨_, rfl⟩
    obtain ⟨zs, hzs⟩ : ∃ zs, zs = sealed b := ⟨_, rfl⟩
    have hzl : zs.length = n + 4 := by rw [hzs, sealed_length, HN.out]
    have hzb : Byt zs := by rw [hzs]; exact sealed_byte HBY.out
    have HZ := Lib.hid hzs; clear hzs
    have HZL := Lib.hid hzl; clear hzl
    have HZB := Lib.hid hzb; clear hzb
    have HQ := Lib.hid hQ; clear hQ
    clear hq hdn
    go_wp2
    refine wp_region_rel (by kernel_rfl) 106 [44, 45, 47, 48, 57, 58, 60, 61, 62] [34, 35, 36, 37, 38, 39, 40, 41, 42, 43, 44, 45, 46, 47, 48, 49, 50, 51, 52, 53, 54, 55, 56, 57, 58, 59, 60, 61, 62, 63, 64] [([false, false, false, false, false, false, false, false, false, false, false, false, false, false, false, false, false, false, false, false, false, false, false, false, false, false, false, false, false, false, false], []), ([false, false, false, false, false, false, false, false, false, false, false, false, false, false, false, false, false, false, false, false, false, false, false, false, false, false, false, false, false, false, false], []), ([true, true, false, false, false, false, false, false, false, false, false, false, false, false, false, false, false, false, false, false, false, false, false, false, false, false, false, false, false, false, false], []), ([false, false, false, false, false, false, false, false, false, false, false, false, false, false, false, false, false, false, false, false, false, false, false, false, false, false, false, false, false, false, false], []), ([false, false, false, false, false, false, false, false, false, false, false, false, false, false, false, false, false, false, false, false, false, false, false, false, false, false, false, false, false, false, false], []), ([false, false, false, false, false, false, false, false, false, false, false, false, false, false, false, false, false, false, false, false, false, false, false, false, false, false, false, false, false, false, false], []), ([false, false, false, true, true, true, false, false, false, false, false, false, false, false, false, false, false, false, false, false, false, false, false, false, false, false, false, false, false, false, false], []), ([false, false, false, false, false, false, false, false, false, false, false, false, false, false, false, false, false, false, false, false, false, false, false, false, false, false, false, false, false, false, false], []), ([false, false, false, false, false, false, false, false, false, false, false, false, false, false, false, false, false, false, false, false, false, false, false, false, false, false, false, false, false, false, false], []), ([false, false, false, false, false, false, false, true, true, false, false, false, false, false, false, false, false, false, false, false, false, false, false, false, false, false, false, false, false, false, false], []), ([true, true, true, true, true, true, true, true, true, true, false, false, false, false, false, false, false, false, false, false, false, false, false, false, false, false, false, false, false, false, false], []), ([true, true, true, true, true, true, true, true, true, true, false, false, false, false, false, false, false, false, false, false, false, false, false, false, false, false, false, false, false, false, false], [44]), ([false, false, false, false, false, false, false, false, false, false, false, false, false, false, false, false, false, false, false, false, false, false, false, false, false, false, false, false, false, false, false], []), ([false, false, false, false, false, false, false, false, false, false, false, false, true, false, false, false, false, false, false, false, false, false, false, false, false, false, false, false, false, false, false], []), ([true, true, true, true, true, true, true, true, true, true, false, false, true, false, false, false, false, false, false, false, false, false, false, false, false, false, false, false, false, false, false], [44, 45, 47]), ([true, true, true, true, true, true, true, true, true, true, false, false, true, false, false, false, false, false, false, false, false, false, false, false, false, false, false, false, false, false, false], [44, 45, 47, 48]), ([true, true, true, true, true, true, true, true, true, true, false, false, true, false, false, true, false, false, false, false, false, false, false, false, false, false, false, false, false, false, false], [44, 45, 47, 48]), ([true, true, true, true, true, true, true, true, true, true, false, false, true, false, false, true, true, false, false, false, false, false, false, false, false, false, false, false, false, false, false], [44, 45, 47, 48]), ([true, true, true, true, true, true, true, true, true, true, false, false, true, false, false, true, true, false, false, false, false, false, false, false, false, false, false, false, false, false, false], [44, 45, 47, 48]), ([true, true, true, true, true, true, true, true, true, true, false, false, true, false, false, true, true, true, true, false, false, false, false, false, false, false, false, false, false, false, false], [44, 45, 47, 48]), ([true, true, true, true, true, true, true, true, true, true, false, false, true, false, false, true, true, false, false, false, false, false, false, false, false, false, false, false, false, false, false], [44, 45, 47, 48]), ([true, true, true, true, true, true, true, true, true, true, false, false, true, false, false, true, true, false, false, false, false, false, false, false, false, false, false, false, false, false, false], [44, 45, 47, 48]), ([true, true, true, true, true, true, true, true, true, true, false, false, true, false, false, true, true, false, false, false, true, true, false, false, false, false, false, false, false, false, false], [44, 45, 47, 48]), ([true, true, true, true, true, true, true, true, true, true, false, false, true, false, false, true, true, true, true, true, true, true, true, false, false, false, false, false, false, false, false], [44, 45, 47, 48]), ([true, true, true, true, true, true, true, true, true, true, false, false, true, false, false, true, true, true, true, true, true, true, true, false, false, false, false, false, false, false, false], [44, 45, 47, 48, 57]), ([true, true, true, true, true, true, true, true, true, true, false, false, true, false, false, true, true, false, false, false, false, false, false, false, false, false, false, false, false, false, false], [44, 45, 47, 48]), ([true, true, true, true, true, true, true, true, true, true, false, false, true, false, false, true, true, false, false, false, false, false, false, false, false, true, false, false, false, false, false], [44, 45, 47, 48]), ([true, true, true, true, true, true, true, true, true, true, false, false, true, false, false, true, true, true, true, true, true, true, true, false, false, true, false, false, false, false, false], [44, 45, 47, 48, 57, 58, 60]), ([true, true, true, true, true, true, true, true, true, true, false, false, true, false, false, true, true, true, true, true, true, true, true, false, false, true, false, false, false, false, false], [44, 45, 47, 48, 57, 58, 60, 61]), ([true, true, true, true, true, true, true, true, true, true, false, false, true, false, false, true, true, true, true, true, true, true, true, false, false, true, false, false, false, false, false], [44, 45, 47, 48, 57, 58, 60, 61, 62]), ([true, true, true, true, true, true, true, true, true, true, false, false, true, false, false, true, true, true, true, true, true, true, true, false, false, true, false, false, false, true, false], [44, 45, 47, 48, 57, 58, 60, 61, 62])] [true, true, true, true, true, true, true, true, true, true, false, false, true, false, false, true, true, true, true, true, true, true, true, false, false, true, false, false, false, true, true] (by kernel_rfl) (by kernel_rfl) rfl (factOf [(100000, .eq undef), (44, .rows .u8 [b.take p, (b.drop p).take (q - p), [], b.drop q]), (45, .eq (.int .u32 (Q : Int))), (47, .rows .u8 [b]), (48, .eq (.int .u32 (Q : Int))), (57, .rows .u8 [b.take p, b.drop p]), (58, .rd .u8 zs), (60, .rows .u8 [b]), (61, .rd .u8 zs), (62, .eq (.bool true))]) (factOf_stable _) _ (fun x => by simp only [fillL, Nat.reduceAdd, Nat.reduceEqDiff, ↓reduceIte]; rfl) ?_ ?_
    · refine relAll_cons (fun x w' hk hd => ?_) ?_
      · dsimp only
        clear hd
        repeat (first | (refine wpSel_no ?_) | (refine wpSel_yes (fun K hK => ?_); go_simp; (refine hK _ ?_; clear hK K)))
        refine wpSel_nil ?_
        refine relStep_pure rfl ?_
        go_simp
      refine relAll_cons (fun x w' hk hd => ?_) ?_
      · dsimp only
        clear hd
        repeat (first | (refine wpSel_no ?_) | (refine wpSel_yes (fun K hK => ?_); go_simp; (refine hK _ ?_; clear hK K)))
        refine wpSel_nil ?_
        refine relStep_pure rfl ?_
        go_simp
      refine relAll_cons (fun x w' hk hd => ?_) ?_
      · dsimp only
        clear hd
        repeat (first | (refine wpSel_no ?_) | (refine wpSel_yes (fun K hK => ?_); go_simp; (refine hK _ ?_; clear hK K)))
        refine wpSel_nil ?_
        refine relStep_pure rfl ?_
        go_simp
      refine relAll_cons (fun x w' hk hd => ?_) ?_
      · dsimp only
        clear hd
        repeat (first | (refine wpSel_no ?_) | (refine wpSel_yes (fun K hK => ?_); go_simp; (refine hK _ ?_; clear hK K)))
        refine wpSel_nil ?_
        refine relStep_pure rfl ?_
        go_simp
      refine relAll_cons (fun x w' hk hd => ?_) ?_
      · dsimp only
        clear hd
        repeat (first | (refine wpSel_no ?_) | (refine wpSel_yes (fun K hK => ?_); go_simp; (refine hK _ ?_; clear hK K)))
        refine wpSel_nil ?_
        refine relStep_pure rfl ?_
        go_simp
      refine relAll_cons (fun x w' hk hd => ?_) ?_
      · dsimp only
        clear hd
        repeat (first | (refine wpSel_no ?_) | (refine wpSel_yes (fun K hK => ?_); go_simp; (refine hK _ ?_; clear hK K)))
        refine wpSel_nil ?_
        refine relStep_pure rfl ?_
        go_simp
      refine relAll_cons (fun x w' hk hd => ?_) ?_
      · dsimp only
        clear hd
        repeat (first | (refine wpSel_no ?_) | (refine wpSel_yes (fun K hK => ?_); go_simp; (refine hK _ ?_; clear hK K)))
        refine wpSel_nil ?_
        refine relStep_pure rfl ?_
        go_simp
      refine relAll_cons (fun x w' hk hd => ?_) ?_
      · dsimp only
        clear hd
        repeat (first | (refine wpSel_no ?_) | (refine wpSel_yes (fun K hK => ?_); go_simp; (refine hK _ ?_; clear hK K)))
        refine wpSel_nil ?_
        refine relStep_pure rfl ?_
        go_simp
      refine relAll_cons (fun x w' hk hd => ?_) ?_
      · dsimp only
        clear hd
        repeat (first | (refine wpSel_no ?_) | (refine wpSel_yes (fun K hK => ?_); go_simp; (refine hK _ ?_; clear hK K)))
        refine wpSel_nil ?_
        refine relStep_pure rfl ?_
        go_simp
      refine relAll_cons (fun x w' hk hd => ?_) ?_
      · dsimp only
        clear hd
        repeat (first | (refine wpSel_no ?_) | (refine wpSel_yes (fun K hK => ?_); go_simp; (refine hK _ ?_; clear hK K)))
        refine wpSel_nil ?_
        refine relStep_pure rfl ?_
        go_simp
      refine relAll_cons (fun x w' hk hd => ?_) ?_
      · dsimp only
        clear hd
        repeat (first | (refine wpSel_no ?_) | (refine wpSel_yes (fun K hK => ?_); go_simp; (refine hK _ ?_; clear hK K)))
        refine wpSel_nil ?_
        refine relStep_imp rfl (fun K hK => ?_)
        go_simp
        exact hK _ _ (IsRows.new (xss := [b.take p, (b.drop p).take (q - p), [], b.drop q]) rfl (RowsL.cons (IsRd.to ((HR.out.kp0 hk).here) HN.out hmc (by omega)) (RowsL.cons (IsRd.mid ((HR.out.kp0 hk).here) HN.out hmc (by omega) (by omega)) (RowsL.cons (IsRd.nil _ _) (RowsL.cons (IsRd.fro ((HR.out.kp0 hk).here) HN.out hmc (by omega)) RowsL.nil_))))) ((Kp.refl _ _).alloc _)
      refine relAll_cons (fun x w' hk hd => ?_) ?_
      · dsimp only
        simp only [depAll, factOf, Nat.reduceEqDiff, ↓reduceIte, SFact.rows_p] at hd
        obtain ⟨⟨A44, c44, e44, hc44, hr44⟩, -⟩ := hd
        repeat (first | (refine wpSel_no ?_) | (refine wpSel_yes (fun K hK => ?_); go_simp; (refine hK _ ?_; clear hK K)))
        refine wpSel_nil ?_
        refine relStep_imp rfl (fun K hK => ?_)
        go_simp
        refine (of_any _ 4 _ _ [b.take p, (b.drop p).take (q - p), [], b.drop q] _ hr44 (Nat.le_refl _) rfl (by omega) (by rw [parts4 b (show p ≤ q by omega), HN.out]; omega) (parts4_byt HBY.out)).mono ?_
        rintro e w1 ⟨rfl, hk1⟩
        rw [parts4 b (show p ≤ q by omega), ← HQ.out]
        exact hK _ _ rfl hk1
      refine relAll_cons (fun x w' hk hd => ?_) ?_
      · dsimp only
        clear hd
        repeat (first | (refine wpSel_no ?_) | (refine wpSel_yes (fun K hK => ?_); go_simp; (refine hK _ ?_; clear hK K)))
        refine wpSel_nil ?_
        refine relStep_pure rfl ?_
        go_simp
      refine relAll_cons (fun x w' hk hd => ?_) ?_
      · dsimp only
        clear hd
        repeat (first | (refine wpSel_no ?_) | (refine wpSel_yes (fun K hK => ?_); go_simp; (refine hK _ ?_; clear hK K)))
        refine wpSel_nil ?_
        refine relStep_imp rfl (fun K hK => ?_)
        go_simp
        exact hK _ _ (IsRows.new (xss := [b]) rfl (RowsL.cons (IsRd.all ((HR.out.kp0 hk).here) HN.out hmc) RowsL.nil_)) ((Kp.refl _ _).alloc _)
      refine relAll_cons (fun x w' hk hd => ?_) ?_
      · dsimp only
        simp only [depAll, factOf, Nat.reduceEqDiff, ↓reduceIte, SFact.eq_p, SFact.rows_p] at hd
        obtain ⟨⟨A44, c44, e44, hc44, hr44⟩, e45, ⟨A47, c47, e47, hc47, hr47⟩, -⟩ := hd
        repeat (first | (refine wpSel_no ?_) | (refine wpSel_yes (fun K hK => ?_); go_simp; (refine hK _ ?_; clear hK K)))
        refine wpSel_nil ?_
        refine relStep_imp rfl (fun K hK => ?_)
        go_simp
        refine (of_any _ 1 _ _ [b] _ hr47 (Nat.le_refl _) rfl (by omega) (by rw [parts1 b, HN.out]; omega) (parts1_byt HBY.out)).mono ?_
        rintro e w1 ⟨rfl, hk1⟩
        rw [parts1 b, ← HQ.out]
        exact hK _ _ rfl hk1
      refine relAll_cons (fun x w' hk hd => ?_) ?_
      · dsimp only
        simp only [depAll, factOf, Nat.reduceEqDiff, ↓reduceIte, SFact.eq_p, SFact.rows_p] at hd
        obtain ⟨⟨A44, c44, e44, hc44, hr44⟩, e45, ⟨A47, c47, e47, hc47, hr47⟩, e48, -⟩ := hd
        repeat (first | (refine wpSel_no ?_) | (refine wpSel_yes (fun K hK => ?_); go_simp; (refine hK _ ?_; clear hK K)))
        refine wpSel_nil ?_
        refine relStep_pure rfl ?_
        go_simp
      refine relAll_cons (fun x w' hk hd => ?_) ?_
      · dsimp only
        simp only [depAll, factOf, Nat.reduceEqDiff, ↓reduceIte, SFact.eq_p, SFact.rows_p] at hd
        obtain ⟨⟨A44, c44, e44, hc44, hr44⟩, e45, ⟨A47, c47, e47, hc47, hr47⟩, e48, -⟩ := hd
        repeat (first | (refine wpSel_no ?_) | (refine wpSel_yes (fun K hK => ?_); go_simp; (refine hK _ ?_; clear hK K)))
        refine wpSel_nil ?_
        refine relStep_pure rfl ?_
        go_simp
      refine relAll_cons (fun x w' hk hd => ?_) ?_
      · dsimp only
        simp only [depAll, factOf, Nat.reduceEqDiff, ↓reduceIte, SFact.eq_p, SFact.rows_p] at hd
        obtain ⟨⟨A44, c44, e44, hc44, hr44⟩, e45, ⟨A47, c47, e47, hc47, hr47⟩, e48, -⟩ := hd
        repeat (first | (refine wpSel_no ?_) | (refine wpSel_yes (fun K hK => ?_); go_simp; (refine hK _ ?_; clear hK K)))
        refine wpSel_nil ?_
        refine relStep_pure rfl ?_
        go_simp
      refine relAll_cons (fun x w' hk hd => ?_) ?_
      · dsimp only
        simp only [depAll, factOf, Nat.reduceEqDiff, ↓reduceIte, SFact.eq_p, SFact.rows_p] at hd
        obtain ⟨⟨A44, c44, e44, hc44, hr44⟩, e45, ⟨A47, c47, e47, hc47, hr47⟩, e48, -⟩ := hd
        repeat (first | (refine wpSel_no ?_) | (refine wpSel_yes (fun K hK => ?_); go_simp; (refine hK _ ?_; clear hK K)))
        refine wpSel_nil ?_
        refine relStep_pure rfl ?_
        go_simp
      refine relAll_cons (fun x w' hk hd => ?_) ?_
      · dsimp only
        simp only [depAll, factOf, Nat.reduceEqDiff, ↓reduceIte, SFact.eq_p, SFact.rows_p] at hd
        obtain ⟨⟨A44, c44, e44, hc44, hr44⟩, e45, ⟨A47, c47, e47, hc47, hr47⟩, e48, -⟩ := hd
        repeat (first | (refine wpSel_no ?_) | (refine wpSel_yes (fun K hK => ?_); go_simp; (refine hK _ ?_; clear hK K)))
        refine wpSel_nil ?_
        refine relStep_pure rfl ?_
        go_simp
      refine relAll_cons (fun x w' hk hd => ?_) ?_
      · dsimp only
        simp only [depAll, factOf, Nat.reduceEqDiff, ↓reduceIte, SFact.eq_p, SFact.rows_p] at hd
        obtain ⟨⟨A44, c44, e44, hc44, hr44⟩, e45, ⟨A47, c47, e47, hc47, hr47⟩, e48, -⟩ := hd
        repeat (first | (refine wpSel_no ?_) | (refine wpSel_yes (fun K hK => ?_); go_simp; (refine hK _ ?_; clear hK K)))
        refine wpSel_nil ?_
        refine relStep_pure rfl ?_
        go_simp
      refine relAll_cons (fun x w' hk hd => ?_) ?_
      · dsimp only
        simp only [depAll, factOf, Nat.reduceEqDiff, ↓reduceIte, SFact.eq_p, SFact.rows_p] at hd
        obtain ⟨⟨A44, c44, e44, hc44, hr44⟩, e45, ⟨A47, c47, e47, hc47, hr47⟩, e48, -⟩ := hd
        repeat (first | (refine wpSel_no ?_) | (refine wpSel_yes (fun K hK => ?_); go_simp; (refine hK _ ?_; clear hK K)))
        refine wpSel_nil ?_
        refine relStep_pure rfl ?_
        go_simp
      refine relAll_cons (fun x w' hk hd => ?_) ?_
      · dsimp only
        simp only [depAll, factOf, Nat.reduceEqDiff, ↓reduceIte, SFact.eq_p, SFact.rows_p] at hd
        obtain ⟨⟨A44, c44, e44, hc44, hr44⟩, e45, ⟨A47, c47, e47, hc47, hr47⟩, e48, -⟩ := hd
        repeat (first | (refine wpSel_no ?_) | (refine wpSel_yes (fun K hK => ?_); go_simp; (refine hK _ ?_; clear hK K)))
        refine wpSel_nil ?_
        refine relStep_pure rfl ?_
        go_simp
      refine relAll_cons (fun x w' hk hd => ?_) ?_
      · dsimp only
        simp only [depAll, factOf, Nat.reduceEqDiff, ↓reduceIte, SFact.eq_p, SFact.rows_p] at hd
        obtain ⟨⟨A44, c44, e44, hc44, hr44⟩, e45, ⟨A47, c47, e47, hc47, hr47⟩, e48, -⟩ := hd
        repeat (first | (refine wpSel_no ?_) | (refine wpSel_yes (fun K hK => ?_); go_simp; (refine hK _ ?_; clear hK K)))
        refine wpSel_nil ?_
        refine relStep_imp rfl (fun K hK => ?_)
        go_simp
        exact hK _ _ (IsRows.new (xss := [b.take p, b.drop p]) rfl (RowsL.cons (IsRd.to ((HR.out.kp0 hk).here) HN.out hmc (by omega)) (RowsL.cons (IsRd.fro ((HR.out.kp0 hk).here) HN.out hmc (by omega)) RowsL.nil_))) ((Kp.refl _ _).alloc _)
      refine relAll_cons (fun x w' hk hd => ?_) ?_
      · dsimp only
        simp only [depAll, factOf, Nat.reduceEqDiff, ↓reduceIte, SFact.eq_p, SFact.rows_p] at hd
        obtain ⟨⟨A44, c44, e44, hc44, hr44⟩, e45, ⟨A47, c47, e47, hc47, hr47⟩, e48, ⟨A57, c57, e57, hc57, hr57⟩, -⟩ := hd
        repeat (first | (refine wpSel_no ?_) | (refine wpSel_yes (fun K hK => ?_); go_simp; (refine hK _ ?_; clear hK K)))
        refine wpSel_nil ?_
        refine relStep_imp rfl (fun K hK => ?_)
        go_simp
        refine (seal_any _ 2 _ _ [b.take p, b.drop p] _ hr57 (Nat.le_refl _) rfl (by omega) (by rw [parts2 b p, HN.out]; omega) (parts2_byt HBY.out)).mono ?_
        rintro e w1 ⟨A1, c1, rfl, hown1, hk1⟩
        rw [parts2 b p, ← HZ.out, HN.out] at hown1
        rw [parts2 b p, HN.out]
        exact hK _ _ (IsRd.of_own hown1 HZL.out) hk1
      refine relAll_cons (fun x w' hk hd => ?_) ?_
      · dsimp only
        simp only [depAll, factOf, Nat.reduceEqDiff, ↓reduceIte, SFact.eq_p, SFact.rows_p] at hd
        obtain ⟨⟨A44, c44, e44, hc44, hr44⟩, e45, ⟨A47, c47, e47, hc47, hr47⟩, e48, -⟩ := hd
        repeat (first | (refine wpSel_no ?_) | (refine wpSel_yes (fun K hK => ?_); go_simp; (refine hK _ ?_; clear hK K)))
        refine wpSel_nil ?_
        refine relStep_pure rfl ?_
        go_simp
      refine relAll_cons (fun x w' hk hd => ?_) ?_
      · dsimp only
        simp only [depAll, factOf, Nat.reduceEqDiff, ↓reduceIte, SFact.eq_p, SFact.rows_p] at hd
        obtain ⟨⟨A44, c44, e44, hc44, hr44⟩, e45, ⟨A47, c47, e47, hc47, hr47⟩, e48, -⟩ := hd
        repeat (first | (refine wpSel_no ?_) | (refine wpSel_yes (fun K hK => ?_); go_simp; (refine hK _ ?_; clear hK K)))
        refine wpSel_nil ?_
        refine relStep_imp rfl (fun K hK => ?_)
        go_simp
        exact hK _ _ (IsRows.new (xss := [b]) rfl (RowsL.cons (IsRd.all ((HR.out.kp0 hk).here) HN.out hmc) RowsL.nil_)) ((Kp.refl _ _).alloc _)
      refine relAll_cons (fun x w' hk hd => ?_) ?_
      · dsimp only
        simp only [depAll, factOf, Nat.reduceEqDiff, ↓reduceIte, SFact.eq_p, SFact.rd_p, SFact.rows_p] at hd
        obtain ⟨⟨A44, c44, e44, hc44, hr44⟩, e45, ⟨A47, c47, e47, hc47, hr47⟩, e48, ⟨A57, c57, e57, hc57, hr57⟩, ⟨A58, c58, e58, hc58, hr58⟩, ⟨A60, c60, e60, hc60, hr60⟩, -⟩ := hd
        repeat (first | (refine wpSel_no ?_) | (refine wpSel_yes (fun K hK => ?_); go_simp; (refine hK _ ?_; clear hK K)))
        refine wpSel_nil ?_
        refine relStep_imp rfl (fun K hK => ?_)
        go_simp
        refine (seal_any _ 1 _ _ [b] _ hr60 (Nat.le_refl _) rfl (by omega) (by rw [parts1 b, HN.out]; omega) (parts1_byt HBY.out)).mono ?_
        rintro e w1 ⟨A1, c1, rfl, hown1, hk1⟩
        rw [parts1 b, ← HZ.out, HN.out] at hown1
        rw [parts1 b, HN.out]
        exact hK _ _ (IsRd.of_own hown1 HZL.out) hk1
      refine relAll_cons (fun x w' hk hd => ?_) ?_
      · dsimp only
        simp only [depAll, factOf, Nat.reduceEqDiff, ↓reduceIte, SFact.eq_p, SFact.rd_p, SFact.rows_p] at hd
        obtain ⟨⟨A44, c44, e44, hc44, hr44⟩, e45, ⟨A47, c47, e47, hc47, hr47⟩, e48, ⟨A57, c57, e57, hc57, hr57⟩, ⟨A58, c58, e58, hc58, hr58⟩, ⟨A60, c60, e60, hc60, hr60⟩, ⟨A61, c61, e61, hc61, hr61⟩, -⟩ := hd
        repeat (first | (refine wpSel_no ?_) | (refine wpSel_yes (fun K hK => ?_); go_simp; (refine hK _ ?_; clear hK K)))
        refine wpSel_nil ?_
        refine relStep_imp rfl (fun K hK => ?_)
        go_simp
        refine (sameB _ _ _ _ _ _ _ _ zs zs _ hr58 hr61 rfl rfl (by rw [HZL.out]; omega) (by rw [HZL.out]; omega)).mono ?_
        rintro e w1 ⟨rfl, hd1⟩
        rw [show decide (zs = zs) = true from by simp]
        exact hK _ _ rfl (hd1.kp [])
      refine relAll_cons (fun x w' hk hd => ?_) ?_
      · dsimp only
        simp only [depAll, factOf, Nat.reduceEqDiff, ↓reduceIte, SFact.eq_p, SFact.rd_p, SFact.rows_p] at hd
        obtain ⟨⟨A44, c44, e44, hc44, hr44⟩, e45, ⟨A47, c47, e47, hc47, hr47⟩, e48, ⟨A57, c57, e57, hc57, hr57⟩, ⟨A58, c58, e58, hc58, hr58⟩, ⟨A60, c60, e60, hc60, hr60⟩, ⟨A61, c61, e61, hc61, hr61⟩, e62, -⟩ := hd
        repeat (first | (refine wpSel_no ?_) | (refine wpSel_yes (fun K hK => ?_); go_simp; (refine hK _ ?_; clear hK K)))
        refine wpSel_nil ?_
        refine relStep_pure rfl ?_
        go_simp
      refine relAll_cons (fun x w' hk hd => ?_) ?_
      · dsimp only
        simp only [depAll, factOf, Nat.reduceEqDiff, ↓reduceIte, SFact.eq_p, SFact.rd_p, SFact.rows_p] at hd
        obtain ⟨⟨A44, c44, e44, hc44, hr44⟩, e45, ⟨A47, c47, e47, hc47, hr47⟩, e48, ⟨A57, c57, e57, hc57, hr57⟩, ⟨A58, c58, e58, hc58, hr58⟩, ⟨A60, c60, e60, hc60, hr60⟩, ⟨A61, c61, e61, hc61, hr61⟩, e62, -⟩ := hd
        repeat (first | (refine wpSel_no ?_) | (refine wpSel_yes (fun K hK => ?_); go_simp; (refine hK _ ?_; clear hK K)))
        refine wpSel_nil ?_
        refine relStep_pure rfl ?_
        go_simp
      exact relAll_nil
    · intro x w' hk hd
      dsimp only
      simp only [depAll, factOf, Nat.reduceEqDiff, ↓reduceIte, SFact.eq_p, SFact.rd_p, SFact.rows_p] at hd
      obtain ⟨⟨A44, c44, e44, hc44, hr44⟩, e45, ⟨A47, c47, e47, hc47, hr47⟩, e48, ⟨A57, c57, e57, hc57, hr57⟩, ⟨A58, c58, e58, hc58, hr58⟩, ⟨A60, c60, e60, hc60, hr60⟩, ⟨A61, c61, e61, hc61, hr61⟩, e62, -⟩ := hd
      repeat (first | (refine wpSel_no ?_) | (refine wpSel_yes (fun K hK => ?_); go_simp; (refine hK _ ?_; clear hK K)))
      refine wpSel_nil ?_
      have HKR := Lib.hid (HK1.out.trans hk)
      clear hk e45 e48 e62 hr44 hr47 hr57 hr58 hr60 hr61 hc44 hc47 hc57 hc58 hc60 hc61
      generalize (if c = p then A else Option.map (fun x => x.add p) A) = A9
      generalize (if c = q then A else Option.map (fun x => x.add q) A) = A8
      go_wp2_with fail
      have HR0 := Lib.hid (HY.out.kp0 HKR.out)
      refine (seal_any _ 1 1 _ [b] _ (one_rows (IsRd.all HR0.out HN.out hmc)) (Nat.le_refl _) rfl (by omega) (by rw [parts1, HN.out]; omega) (parts1_byt HBY.out)).mono ?_
      rintro e w2 ⟨A2, c2, rfl, hown2, hk2⟩
      rw [parts1, ← HZ.out, HN.out] at hown2
      rw [parts1, HN.out]
      obtain ⟨m, hm⟩ : ∃ m, m = n + 4 := ⟨_, rfl⟩
      rw [← hm] at hown2 ⊢
      have hzl2 : zs.length = m := by rw [HZL.out, hm]
      have hmb : m ≤ 3004 := by omega
      clear hm HR0
      have HZM := Lib.hid hzl2; clear hzl2
      have HO2 := Lib.hid hown2; clear hown2
      have HK2 := Lib.hid (HKR.out.trans (((Kp.refl [] _).alloc _).trans hk2)); clear hk2
      clear HKR
      go_wp2_with fail
      refine (seal_any _ 1 1 _ [zs] _ (one_rows (IsRd.of_own HO2.out HZM.out)) (Nat.le_refl _) rfl (by omega) (by rw [parts1, HZM.out]; omega) (parts1_byt HZB.out)).mono ?_
      rintro e w3 ⟨A3, c3, rfl, hown3, hk3⟩
      obtain ⟨ys, hys⟩ : ∃ ys, ys = sealed zs := ⟨_, rfl⟩
      rw [parts1, ← hys, HZM.out] at hown3
      rw [parts1, HZM.out]
      obtain ⟨u, hu⟩ : ∃ u, u = m + 4 := ⟨_, rfl⟩
      rw [← hu] at hown3 ⊢
      have hyl : ys.length = u := by rw [hys, sealed_length, HZM.out, hu]
      have hyb : Byt ys := by rw [hys]; exact sealed_byte HZB.out
      have hye : openE ys = 0 := by rw [hys]; exact openE_sealed
      have hyo : openL ys = zs := by rw [hys]; exact openL_sealed
      have hub : u ≤ 3008 := by omega
      clear hu hys
      have HO3 := Lib.hid hown3; clear hown3
      have HK3 := Lib.hid (HK2.out.trans (((Kp.refl [] _).alloc _).trans hk3)); clear hk3 HO2 HK2
      have HYL := Lib.hid hyl; clear hyl
      have HYB := Lib.hid hyb; clear hyb
      have HYE := Lib.hid hye; clear hye
      have HYO := Lib.hid hyo; clear hyo
      go_wp2_with fail
      refine (open_any A3 u c3 _ ys _ (own_rd HO3.out) HYL.out (own_cap HO3.out) (by omega) HYB.out).mono ?_
      rintro e w4 ⟨A4, c4, rfl, hown4, hk4⟩
      rw [HYO.out, HZM.out] at hown4
      rw [HYE.out, HYO.out, HZM.out]
      have HO4 := Lib.hid hown4; clear hown4
      have HK4 := Lib.hid (HK3.out.trans hk4); clear hk4 HK3 HO3
      have hze : openE zs = 0 := by rw [HZ.out]; exact openE_sealed
      have hzo : openL zs = b := by rw [HZ.out]; exact openL_sealed
      have HZE := Lib.hid hze; clear hze
      have HZO := Lib.hid hzo; clear hzo
      go_wp2_with fail
      refine (open_any A4 m c4 _ zs _ (own_rd HO4.out) HZM.out (own_cap HO4.out) (by omega) HZB.out).mono ?_
      rintro e w5 ⟨A5, c5, rfl, hown5, hk5⟩
      rw [HZO.out, HN.out] at hown5
      rw [HZE.out, HZO.out, HN.out]
      have HO5 := Lib.hid hown5; clear hown5
      have HK5 := Lib.hid (HK4.out.trans hk5); clear hk5 HK4 HO4
      go_wp2_with fail
      refine (open_any A n c _ b _ (HY.out.kp0 HK5.out) HN.out hmc (by omega) HBY.out).mono ?_
      rintro e w6 ⟨A6, c6, rfl, hown6, hk6⟩
      have HO6 := Lib.hid (own_kp0 HO5.out hk6)
      have HK6 := Lib.hid (HK5.out.trans hk6)
      obtain ⟨L, hL⟩ : ∃ L, L = openL b := ⟨_, rfl⟩
      obtain ⟨E, hE⟩ : ∃ E, E = openE b := ⟨_, rfl⟩
      have hLb : Byt L := by rw [hL]; exact openL_byt HBY.out
      obtain ⟨l, hl⟩ : ∃ l, L.length = l := ⟨_, rfl⟩
      have hll : l ≤ n := by rw [← hl, hL, ← HN.out]; exact openL_le b
      have hEz : E = 0 → sealed L = b := by rw [hE, hL]; exact openE_zero
      rw [← hL, hl] at hown6
      rw [← hL, ← hE, hl]
      have HP6 := Lib.hid hown6; clear hown6
      have HLB := Lib.hid hLb; clear hLb
      have HLL := Lib.hid hl; clear hl
      have HEZ := Lib.hid hEz; clear hEz
      clear hL hE HK5 HO5 hk6
      go_wp2_with fail
      refine (sameB A5 A n n c5 c _ _ b b _ (own_rd HO6.out) (HY.out.kp0 HK6.out) HN.out HN.out (by omega) (by omega)).mono ?_
      rintro e w7 ⟨rfl, hd7⟩
      rw [show decide (b = b) = true from by simp]
      have HK7 := Lib.hid (HK6.out.trans (hd7.kp []))
      have HP7 := Lib.hid (own_kp0 HP6.out (hd7.kp []))
      clear hd7 HK6 HP6 HO6
      by_cases hE0 : E = 0
      · have hsl := HEZ.out hE0
        subst hE0
        have HSL := Lib.hid hsl; clear hsl
        go_wp2_with fail
        refine (seal_any _ 1 1 _ [L] _ (one_rows (IsRd.of_own HP7.out HLL.out)) (Nat.le_refl _) rfl (by omega) (by rw [parts1, HLL.out]; omega) (parts1_byt HLB.out)).mono ?_
        rintro e w8 ⟨A8', c8, rfl, hown8, hk8⟩
        have hlen8 : [L].flatten.length + 4 = n := by rw [parts1, ← HN.out, ← HSL.out, sealed_length]
        rw [hlen8] at hown8 ⊢
        rw [parts1, HSL.out] at hown8
        have HK8 := Lib.hid (HK7.out.trans (((Kp.refl [] _).alloc _).trans hk8))
        have HO8 := Lib.hid hown8
        clear hown8 hk8 hlen8 HP7 HK7
        go_wp2_with fail
        refine (sameB A8' A n n c8 c _ _ b b _ (own_rd HO8.out) (HY.out.kp0 HK8.out) HN.out HN.out (by omega) (by omega)).mono ?_
        rintro e w9 ⟨rfl, hd9⟩
        rw [show decide (b = b) = true from by simp]
        have HK9 := Lib.hid (HK8.out.trans (hd9.kp []))
        clear hd9 HK8 HO8
        go_wp2
        go_ret
        exact ⟨rfl, HK9.out⟩
      · have hE1 : (E != 0) = true := by simpa using hE0
        go_wp2
        go_ret
        exact ⟨rfl, HK7.out⟩

end Go.Proofs.Ytbikidbaiegehaa

