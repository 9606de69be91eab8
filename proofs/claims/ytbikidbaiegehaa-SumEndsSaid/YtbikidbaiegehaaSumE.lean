/-
  THE STATEMENT SumEnds OF LAYER 4, its walk: a closed statement; it returns true and writes to nothing that was there.
  CONDITIONS: none.
-/
import Derived.Test.YtbikidbaiegehaaSumT
import Derived.Test.YtbikidbaiegehaaRegion
namespace Go.Proofs.Ytbikidbaiegehaa
open Go.RowKit

theorem byt2 (k : Nat) : Byt [(k : Int) % 256, 1] := by intro x hx; simp at hx; omega
theorem rowsLen (k : Nat) : ∀ xs ∈ [[(k : Int) % 256], [], [((k : Int) * 7) % 256]], xs.length ≤ 140737488355328 := by
  intro xs hx
  simp at hx
  rcases hx with rfl | rfl | rfl <;> simp
theorem rowsByt (k : Nat) : ∀ xs ∈ [[(k : Int) % 256], [], [((k : Int) * 7) % 256]], Byt xs := by
  intro xs hx
  simp only [List.mem_cons, List.not_mem_nil, or_false] at hx
  rcases hx with rfl | rfl | rfl <;> (intro x hx; simp at hx; try omega)
theorem repLen (n : Nat) (h : n ≤ 1000) : ∀ xs ∈ [List.replicate n (0 : Int)], xs.length ≤ 140737488355328 := by
  intro xs hx
  simp at hx
  subst hx
  simp
  omega
theorem rep1Byt (n : Nat) : Byt (List.replicate n (0 : Int)) := by intro x hx; rw [List.mem_replicate] at hx; omega
theorem repByt (n : Nat) : ∀ xs ∈ [List.replicate n (0 : Int)], Byt xs := by intro xs hx; simp at hx; subst hx; exact rep1Byt n
theorem oneByt {l : List Int} (h : Byt l) : ∀ xs ∈ [l], Byt xs := by intro xs hx; simp at hx; subst hx; exact h
theorem oneLen {l : List Int} (h : l.length ≤ 1000) : ∀ xs ∈ [l], xs.length ≤ 140737488355328 := by intro xs hx; simp at hx; subst hx; omega
theorem setByt {l : List Int} (h : Byt l) (i : Nat) {y : Int} (hy : 0 ≤ y ∧ y ≤ 255) : Byt (l.set i y) := by
  intro x hx
  rcases List.mem_or_eq_of_mem_set hx with h1 | h1
  · exact h x h1
  · subst h1; exact hy

set_option maxRecDepth 100000 in
set_option maxHeartbeats 4000000 in
theorem sumEnds_any (w : World) : Calls Try.prog 4 #[] w fun e w' => e = .returned (.bool true) ∧ Kp [] w w' := by
  obtain ⟨i0, hi, hz0, hz1, hz2⟩ := info_parts Try.info_u8
  go_enter Try.func4, Try.ntmps4
  go_wp2
  go_loopw [1] (fun i wr => ∃ k : Nat, k ≤ 256 ∧ i = .int .i64 k ∧ Kp [] w wr) (fun i _ => 256 - (intOf i).toNat)
  case atStart => exact ⟨0, by omega, rfl, Kp.refl _ _⟩
  case round =>
    obtain ⟨k, hk, rfl, hkp⟩ := hrel
    by_cases hlt : k < 256
    · have hw0 : IntKind.i64.wrap ((k : Int) * 7) = (k : Int) * 7 := by rw [IntKind.wrap_i64]; omega
      have hw1 : IntKind.u8.wrap ((k : Int) * 7) = (k : Int) * 7 % 256 := rfl
      obtain ⟨m41, hw3, hm41⟩ : ∃ m : Nat, (k : Int).tmod 41 = (m : Int) ∧ m ≤ 40 := ⟨k % 41, by rw [Int.tmod_eq_emod_of_nonneg (by omega)]; omega, by omega⟩
      obtain ⟨m9, hw4, hm9⟩ : ∃ m : Nat, (k : Int).tmod 9 = (m : Int) ∧ m ≤ 8 := ⟨k % 9, by rw [Int.tmod_eq_emod_of_nonneg (by omega)]; omega, by omega⟩
      have hw2 : IntKind.u8.wrap (k : Int) = (k : Int) % 256 := rfl
      obtain ⟨zs, hzs⟩ : ∃ zs, zs = sealed [(k : Int) % 256, 1] := ⟨_, rfl⟩
      have hzl : zs.length = 6 := by rw [hzs]; rfl
      have hzb : Byt zs := by rw [hzs]; exact sealed_byte (byt2 k)
      have HZ := Lib.hid hzs; clear hzs
      have HZL := Lib.hid hzl; clear hzl
      have HZB := Lib.hid hzb; clear hzb
      have hm1 := run_make_list (P := Try.prog) 23 5 i0 (.int .u8 0) Try.underlying23 hi hz0 hz1 rfl .i64 .i64 m41 (by rw [hz2]; omega) (by omega)
      have hm2 := run_make_list (P := Try.prog) 23 5 i0 (.int .u8 0) Try.underlying23 hi hz0 hz1 rfl .i64 .i64 m9 (by rw [hz2]; omega) (by omega)
      go_wp2
      refine wp_region_rel (by kernel_rfl) 87 [14, 18, 19, 22, 23, 24, 29, 30, 33, 34] [12, 13, 14, 15, 16, 17, 18, 19, 20, 21, 22, 23, 24, 25, 26, 27, 28, 29, 30, 31, 32, 33, 34, 35, 36] [([false, false, false, false, false, false, false, false, false, false, false, false, false, false, false, false, false, false, false, false, false, false, false, false, false], []), ([true, false, false, false, false, false, false, false, false, false, false, false, false, false, false, false, false, false, false, false, false, false, false, false, false], []), ([true, true, false, false, false, false, false, false, false, false, false, false, false, false, false, false, false, false, false, false, false, false, false, false, false], []), ([false, false, false, false, false, false, false, false, false, false, false, false, false, false, false, false, false, false, false, false, false, false, false, false, false], []), ([false, false, false, true, false, false, false, false, false, false, false, false, false, false, false, false, false, false, false, false, false, false, false, false, false], []), ([false, false, false, true, true, false, false, false, false, false, false, false, false, false, false, false, false, false, false, false, false, false, false, false, false], []), ([false, false, false, true, true, true, false, false, false, false, false, false, false, false, false, false, false, false, false, false, false, false, false, false, false], []), ([true, true, false, true, true, true, false, false, false, false, false, false, false, false, false, false, false, false, false, false, false, false, false, false, false], [14, 18]), ([false, false, false, false, false, false, false, false, false, false, false, false, false, false, false, false, false, false, false, false, false, false, false, false, false], []), ([false, false, false, false, false, false, false, false, true, false, false, false, false, false, false, false, false, false, false, false, false, false, false, false, false], []), ([false, false, false, false, false, false, false, false, true, true, false, false, false, false, false, false, false, false, false, false, false, false, false, false, false], []), ([false, false, false, false, false, false, false, false, true, true, false, false, false, false, false, false, false, false, false, false, false, false, false, false, false], [22]), ([true, true, false, true, true, true, false, false, true, true, false, false, false, false, false, false, false, false, false, false, false, false, false, false, false], [14, 18, 19, 22, 23]), ([true, true, false, true, true, true, false, false, true, true, false, false, false, false, false, false, false, false, false, false, false, false, false, false, false], [14, 18, 19, 22, 23, 24]), ([true, true, false, true, true, true, false, false, true, true, false, false, false, true, false, false, false, false, false, false, false, false, false, false, false], [14, 18, 19, 22, 23, 24]), ([true, true, false, true, true, true, false, false, true, true, false, false, false, true, true, false, false, false, false, false, false, false, false, false, false], [14, 18, 19, 22, 23, 24]), ([true, true, false, true, true, true, false, false, true, true, false, false, false, true, true, true, false, false, false, false, false, false, false, false, false], [14, 18, 19, 22, 23, 24]), ([true, true, false, true, true, true, false, false, true, true, false, false, false, true, true, true, true, false, false, false, false, false, false, false, false], [14, 18, 19, 22, 23, 24]), ([true, true, false, true, true, true, false, false, true, true, false, false, false, true, true, true, true, false, false, false, false, false, false, false, false], [14, 18, 19, 22, 23, 24, 29]), ([true, true, false, true, true, true, false, false, true, true, false, false, false, true, true, false, false, false, false, false, false, false, false, false, false], [14, 18, 19, 22, 23, 24]), ([true, true, false, true, true, true, false, false, true, true, false, false, false, true, true, false, false, false, false, true, false, false, false, false, false], [14, 18, 19, 22, 23, 24]), ([true, true, false, true, true, true, false, false, true, true, false, false, false, true, true, false, false, false, false, true, true, false, false, false, false], [14, 18, 19, 22, 23, 24]), ([true, true, false, true, true, true, false, false, true, true, false, false, false, true, true, true, true, false, false, true, true, false, false, false, false], [14, 18, 19, 22, 23, 24, 29, 30, 33]), ([true, true, false, true, true, true, false, false, true, true, false, false, false, true, true, true, true, false, false, true, true, false, false, false, false], [14, 18, 19, 22, 23, 24, 29, 30, 33, 34]), ([true, true, false, true, true, true, false, false, true, true, false, false, false, true, true, true, true, false, false, true, true, false, false, true, false], [14, 18, 19, 22, 23, 24, 29, 30, 33, 34])] [true, true, false, true, true, true, false, false, true, true, false, false, false, true, true, true, true, false, false, true, true, false, false, true, true] (by kernel_rfl) (by kernel_rfl) rfl (factOf [(100000, .eq undef), (14, .rd .u8 [(k : Int) % 256]), (18, .rd .u8 [((k : Int) * 7) % 256]), (19, .rows .u8 [[(k : Int) % 256], [], [((k : Int) * 7) % 256]]), (22, .rd .u8 [(k : Int) % 256, 1]), (23, .rd .u8 zs), (24, .eq (.bool true)), (29, .rd .u8 (List.replicate m41 0)), (30, .rows .u8 [List.replicate m41 0]), (33, .rd .u8 (List.replicate m9 0)), (34, .eq (.bool true))]) (factOf_stable _) _ (fun x => by simp only [fillL, Nat.reduceAdd, Nat.reduceEqDiff, ↓reduceIte]; rfl) ?_ ?_
      · refine relAll_cons (fun x w' hk hd => ?_) ?_
        · dsimp only
          clear hd
          repeat (first | (refine wpSel_no ?_) | (refine wpSel_yes (fun K hK => ?_); go_simp; (refine hK _ ?_; clear hK K)))
          refine wpSel_nil ?_
          refine relStep_pure rfl ?_
          go_simp
        refine relAll_cons (fun x w' hk hd => ?_) ?_
        · dsimp only
          clear hd
          repeat (first | (refine wpSel_no ?_) | (refine wpSel_yes (fun K hK => ?_); go_simp; (refine hK _ ?_; clear hK K)))
          refine wpSel_nil ?_
          refine relStep_pure rfl ?_
          go_simp
        refine relAll_cons (fun x w' hk hd => ?_) ?_
        · dsimp only
          clear hd
          repeat (first | (refine wpSel_no ?_) | (refine wpSel_yes (fun K hK => ?_); go_simp; (refine hK _ ?_; clear hK K)))
          refine wpSel_nil ?_
          refine relStep_imp rfl (fun K hK => ?_)
          go_simp
          exact hK _ _ (IsRd.new w' .u8 [(k : Int) % 256] 5 1 rfl) ((Kp.refl _ _).alloc _)
        refine relAll_cons (fun x w' hk hd => ?_) ?_
        · dsimp only
          clear hd
          repeat (first | (refine wpSel_no ?_) | (refine wpSel_yes (fun K hK => ?_); go_simp; (refine hK _ ?_; clear hK K)))
          refine wpSel_nil ?_
          refine relStep_pure rfl ?_
          go_simp
        refine relAll_cons (fun x w' hk hd => ?_) ?_
        · dsimp only
          clear hd
          repeat (first | (refine wpSel_no ?_) | (refine wpSel_yes (fun K hK => ?_); go_simp; (refine hK _ ?_; clear hK K)))
          refine wpSel_nil ?_
          refine relStep_pure rfl ?_
          go_simp
        refine relAll_cons (fun x w' hk hd => ?_) ?_
        · dsimp only
          clear hd
          repeat (first | (refine wpSel_no ?_) | (refine wpSel_yes (fun K hK => ?_); go_simp; (refine hK _ ?_; clear hK K)))
          refine wpSel_nil ?_
          refine relStep_pure rfl ?_
          go_simp
        refine relAll_cons (fun x w' hk hd => ?_) ?_
        · dsimp only
          clear hd
          repeat (first | (refine wpSel_no ?_) | (refine wpSel_yes (fun K hK => ?_); go_simp; (refine hK _ ?_; clear hK K)))
          refine wpSel_nil ?_
          refine relStep_imp rfl (fun K hK => ?_)
          go_simp
          exact hK _ _ (IsRd.new w' .u8 [((k : Int) * 7) % 256] 5 1 rfl) ((Kp.refl _ _).alloc _)
        refine relAll_cons (fun x w' hk hd => ?_) ?_
        · dsimp only
          simp only [depAll, factOf, Nat.reduceEqDiff, ↓reduceIte, SFact.rd_p] at hd
          obtain ⟨⟨A14, c14, e14, hc14, hr14⟩, ⟨A18, c18, e18, hc18, hr18⟩, -⟩ := hd
          repeat (first | (refine wpSel_no ?_) | (refine wpSel_yes (fun K hK => ?_); go_simp; (refine hK _ ?_; clear hK K)))
          refine wpSel_nil ?_
          refine relStep_imp rfl (fun K hK => ?_)
          go_simp
          exact hK _ _ (IsRows.new (xss := [[(k : Int) % 256], [], [((k : Int) * 7) % 256]]) rfl (RowsL.cons ⟨A14, c14, rfl, hc14, hr14⟩ (RowsL.cons (IsRd.nil _ _) (RowsL.cons ⟨A18, c18, rfl, hc18, hr18⟩ RowsL.nil_)))) ((Kp.refl _ _).alloc _)
        refine relAll_cons (fun x w' hk hd => ?_) ?_
        · dsimp only
          clear hd
          repeat (first | (refine wpSel_no ?_) | (refine wpSel_yes (fun K hK => ?_); go_simp; (refine hK _ ?_; clear hK K)))
          refine wpSel_nil ?_
          refine relStep_pure rfl ?_
          go_simp
        refine relAll_cons (fun x w' hk hd => ?_) ?_
        · dsimp only
          clear hd
          repeat (first | (refine wpSel_no ?_) | (refine wpSel_yes (fun K hK => ?_); go_simp; (refine hK _ ?_; clear hK K)))
          refine wpSel_nil ?_
          refine relStep_pure rfl ?_
          go_simp
        refine relAll_cons (fun x w' hk hd => ?_) ?_
        · dsimp only
          clear hd
          repeat (first | (refine wpSel_no ?_) | (refine wpSel_yes (fun K hK => ?_); go_simp; (refine hK _ ?_; clear hK K)))
          refine wpSel_nil ?_
          refine relStep_imp rfl (fun K hK => ?_)
          go_simp
          exact hK _ _ (IsRd.new w' .u8 [(k : Int) % 256, 1] 5 2 rfl) ((Kp.refl _ _).alloc _)
        refine relAll_cons (fun x w' hk hd => ?_) ?_
        · dsimp only
          simp only [depAll, factOf, Nat.reduceEqDiff, ↓reduceIte, SFact.rd_p] at hd
          obtain ⟨⟨A22, c22, e22, hc22, hr22⟩, -⟩ := hd
          repeat (first | (refine wpSel_no ?_) | (refine wpSel_yes (fun K hK => ?_); go_simp; (refine hK _ ?_; clear hK K)))
          refine wpSel_nil ?_
          refine relStep_imp rfl (fun K hK => ?_)
          go_simp
          refine (rseal_any _ 2 _ _ [(k : Int) % 256, 1] _ hr22 rfl (by omega) (byt2 k)).mono ?_
          rintro e w1 ⟨A1, c1, rfl, hown1, hk1⟩
          rw [← HZ.out] at hown1
          exact hK _ _ (IsRd.of_own hown1 HZL.out) hk1
        refine relAll_cons (fun x w' hk hd => ?_) ?_
        · dsimp only
          simp only [depAll, factOf, Nat.reduceEqDiff, ↓reduceIte, SFact.rd_p, SFact.rows_p] at hd
          obtain ⟨⟨A14, c14, e14, hc14, hr14⟩, ⟨A18, c18, e18, hc18, hr18⟩, ⟨A19, c19, e19, hc19, hr19⟩, ⟨A22, c22, e22, hc22, hr22⟩, ⟨A23, c23, e23, hc23, hr23⟩, -⟩ := hd
          repeat (first | (refine wpSel_no ?_) | (refine wpSel_yes (fun K hK => ?_); go_simp; (refine hK _ ?_; clear hK K)))
          refine wpSel_nil ?_
          refine relStep_imp rfl (fun K hK => ?_)
          go_simp
          have hz6 : zs.length ≤ 6 := by rw [HZL.out]; omega
          refine (sumTells_any _ _ 3 _ _ _ [[(k : Int) % 256], [], [((k : Int) * 7) % 256]] zs _ hr19 rfl (by omega) (rowsLen k) (rowsByt k) hr23 rfl hc23 (by omega) HZB.out).mono ?_
          rintro e w1 ⟨rfl, hk1⟩
          exact hK _ _ rfl hk1
        refine relAll_cons (fun x w' hk hd => ?_) ?_
        · dsimp only
          simp only [depAll, factOf, Nat.reduceEqDiff, ↓reduceIte, SFact.eq_p, SFact.rd_p, SFact.rows_p] at hd
          obtain ⟨⟨A14, c14, e14, hc14, hr14⟩, ⟨A18, c18, e18, hc18, hr18⟩, ⟨A19, c19, e19, hc19, hr19⟩, ⟨A22, c22, e22, hc22, hr22⟩, ⟨A23, c23, e23, hc23, hr23⟩, e24, -⟩ := hd
          repeat (first | (refine wpSel_no ?_) | (refine wpSel_yes (fun K hK => ?_); go_simp; (refine hK _ ?_; clear hK K)))
          refine wpSel_nil ?_
          refine relStep_pure rfl ?_
          go_simp
        refine relAll_cons (fun x w' hk hd => ?_) ?_
        · dsimp only
          simp only [depAll, factOf, Nat.reduceEqDiff, ↓reduceIte, SFact.eq_p, SFact.rd_p, SFact.rows_p] at hd
          obtain ⟨⟨A14, c14, e14, hc14, hr14⟩, ⟨A18, c18, e18, hc18, hr18⟩, ⟨A19, c19, e19, hc19, hr19⟩, ⟨A22, c22, e22, hc22, hr22⟩, ⟨A23, c23, e23, hc23, hr23⟩, e24, -⟩ := hd
          repeat (first | (refine wpSel_no ?_) | (refine wpSel_yes (fun K hK => ?_); go_simp; (refine hK _ ?_; clear hK K)))
          refine wpSel_nil ?_
          refine relStep_pure rfl ?_
          go_simp
        refine relAll_cons (fun x w' hk hd => ?_) ?_
        · dsimp only
          simp only [depAll, factOf, Nat.reduceEqDiff, ↓reduceIte, SFact.eq_p, SFact.rd_p, SFact.rows_p] at hd
          obtain ⟨⟨A14, c14, e14, hc14, hr14⟩, ⟨A18, c18, e18, hc18, hr18⟩, ⟨A19, c19, e19, hc19, hr19⟩, ⟨A22, c22, e22, hc22, hr22⟩, ⟨A23, c23, e23, hc23, hr23⟩, e24, -⟩ := hd
          repeat (first | (refine wpSel_no ?_) | (refine wpSel_yes (fun K hK => ?_); go_simp; (refine hK _ ?_; clear hK K)))
          refine wpSel_nil ?_
          refine relStep_pure rfl ?_
          go_simp
        refine relAll_cons (fun x w' hk hd => ?_) ?_
        · dsimp only
          simp only [depAll, factOf, Nat.reduceEqDiff, ↓reduceIte, SFact.eq_p, SFact.rd_p, SFact.rows_p] at hd
          obtain ⟨⟨A14, c14, e14, hc14, hr14⟩, ⟨A18, c18, e18, hc18, hr18⟩, ⟨A19, c19, e19, hc19, hr19⟩, ⟨A22, c22, e22, hc22, hr22⟩, ⟨A23, c23, e23, hc23, hr23⟩, e24, -⟩ := hd
          repeat (first | (refine wpSel_no ?_) | (refine wpSel_yes (fun K hK => ?_); go_simp; (refine hK _ ?_; clear hK K)))
          refine wpSel_nil ?_
          refine relStep_pure rfl ?_
          go_simp
        refine relAll_cons (fun x w' hk hd => ?_) ?_
        · dsimp only
          simp only [depAll, factOf, Nat.reduceEqDiff, ↓reduceIte, SFact.eq_p, SFact.rd_p, SFact.rows_p] at hd
          obtain ⟨⟨A14, c14, e14, hc14, hr14⟩, ⟨A18, c18, e18, hc18, hr18⟩, ⟨A19, c19, e19, hc19, hr19⟩, ⟨A22, c22, e22, hc22, hr22⟩, ⟨A23, c23, e23, hc23, hr23⟩, e24, -⟩ := hd
          repeat (first | (refine wpSel_no ?_) | (refine wpSel_yes (fun K hK => ?_); go_simp; (refine hK _ ?_; clear hK K)))
          refine wpSel_nil ?_
          refine relStep_imp rfl (fun K hK => ?_)
          go_simp
          exact hK _ _ (IsRd.zeros (Blk.new _ _ _)) ((Kp.refl _ _).alloc _)
        refine relAll_cons (fun x w' hk hd => ?_) ?_
        · dsimp only
          simp only [depAll, factOf, Nat.reduceEqDiff, ↓reduceIte, SFact.eq_p, SFact.rd_p, SFact.rows_p] at hd
          obtain ⟨⟨A14, c14, e14, hc14, hr14⟩, ⟨A18, c18, e18, hc18, hr18⟩, ⟨A19, c19, e19, hc19, hr19⟩, ⟨A22, c22, e22, hc22, hr22⟩, ⟨A23, c23, e23, hc23, hr23⟩, e24, ⟨A29, c29, e29, hc29, hr29⟩, -⟩ := hd
          repeat (first | (refine wpSel_no ?_) | (refine wpSel_yes (fun K hK => ?_); go_simp; (refine hK _ ?_; clear hK K)))
          refine wpSel_nil ?_
          refine relStep_imp rfl (fun K hK => ?_)
          go_simp
          exact hK _ _ (IsRows.new (xss := [List.replicate m41 0]) rfl (RowsL.cons ⟨A29, c29, by simp, hc29, hr29⟩ RowsL.nil_)) ((Kp.refl _ _).alloc _)
        refine relAll_cons (fun x w' hk hd => ?_) ?_
        · dsimp only
          simp only [depAll, factOf, Nat.reduceEqDiff, ↓reduceIte, SFact.eq_p, SFact.rd_p, SFact.rows_p] at hd
          obtain ⟨⟨A14, c14, e14, hc14, hr14⟩, ⟨A18, c18, e18, hc18, hr18⟩, ⟨A19, c19, e19, hc19, hr19⟩, ⟨A22, c22, e22, hc22, hr22⟩, ⟨A23, c23, e23, hc23, hr23⟩, e24, -⟩ := hd
          repeat (first | (refine wpSel_no ?_) | (refine wpSel_yes (fun K hK => ?_); go_simp; (refine hK _ ?_; clear hK K)))
          refine wpSel_nil ?_
          refine relStep_pure rfl ?_
          go_simp
        refine relAll_cons (fun x w' hk hd => ?_) ?_
        · dsimp only
          simp only [depAll, factOf, Nat.reduceEqDiff, ↓reduceIte, SFact.eq_p, SFact.rd_p, SFact.rows_p] at hd
          obtain ⟨⟨A14, c14, e14, hc14, hr14⟩, ⟨A18, c18, e18, hc18, hr18⟩, ⟨A19, c19, e19, hc19, hr19⟩, ⟨A22, c22, e22, hc22, hr22⟩, ⟨A23, c23, e23, hc23, hr23⟩, e24, -⟩ := hd
          repeat (first | (refine wpSel_no ?_) | (refine wpSel_yes (fun K hK => ?_); go_simp; (refine hK _ ?_; clear hK K)))
          refine wpSel_nil ?_
          refine relStep_pure rfl ?_
          go_simp
        refine relAll_cons (fun x w' hk hd => ?_) ?_
        · dsimp only
          simp only [depAll, factOf, Nat.reduceEqDiff, ↓reduceIte, SFact.eq_p, SFact.rd_p, SFact.rows_p] at hd
          obtain ⟨⟨A14, c14, e14, hc14, hr14⟩, ⟨A18, c18, e18, hc18, hr18⟩, ⟨A19, c19, e19, hc19, hr19⟩, ⟨A22, c22, e22, hc22, hr22⟩, ⟨A23, c23, e23, hc23, hr23⟩, e24, -⟩ := hd
          repeat (first | (refine wpSel_no ?_) | (refine wpSel_yes (fun K hK => ?_); go_simp; (refine hK _ ?_; clear hK K)))
          refine wpSel_nil ?_
          refine relStep_imp rfl (fun K hK => ?_)
          go_simp
          exact hK _ _ (IsRd.zeros (Blk.new _ _ _)) ((Kp.refl _ _).alloc _)
        refine relAll_cons (fun x w' hk hd => ?_) ?_
        · dsimp only
          simp only [depAll, factOf, Nat.reduceEqDiff, ↓reduceIte, SFact.eq_p, SFact.rd_p, SFact.rows_p] at hd
          obtain ⟨⟨A14, c14, e14, hc14, hr14⟩, ⟨A18, c18, e18, hc18, hr18⟩, ⟨A19, c19, e19, hc19, hr19⟩, ⟨A22, c22, e22, hc22, hr22⟩, ⟨A23, c23, e23, hc23, hr23⟩, e24, ⟨A29, c29, e29, hc29, hr29⟩, ⟨A30, c30, e30, hc30, hr30⟩, ⟨A33, c33, e33, hc33, hr33⟩, -⟩ := hd
          repeat (first | (refine wpSel_no ?_) | (refine wpSel_yes (fun K hK => ?_); go_simp; (refine hK _ ?_; clear hK K)))
          refine wpSel_nil ?_
          refine relStep_imp rfl (fun K hK => ?_)
          go_simp
          refine (sumTells_any _ _ 1 _ m9 _ [List.replicate m41 0] (List.replicate m9 0) _ hr30 rfl (by omega) (repLen _ (by omega)) (repByt _) hr33 (by simp) (by simpa using hc33) (by omega) (rep1Byt _)).mono ?_
          rintro e w1 ⟨rfl, hk1⟩
          exact hK _ _ rfl hk1
        refine relAll_cons (fun x w' hk hd => ?_) ?_
        · dsimp only
          simp only [depAll, factOf, Nat.reduceEqDiff, ↓reduceIte, SFact.eq_p, SFact.rd_p, SFact.rows_p] at hd
          obtain ⟨⟨A14, c14, e14, hc14, hr14⟩, ⟨A18, c18, e18, hc18, hr18⟩, ⟨A19, c19, e19, hc19, hr19⟩, ⟨A22, c22, e22, hc22, hr22⟩, ⟨A23, c23, e23, hc23, hr23⟩, e24, ⟨A29, c29, e29, hc29, hr29⟩, ⟨A30, c30, e30, hc30, hr30⟩, ⟨A33, c33, e33, hc33, hr33⟩, e34, -⟩ := hd
          repeat (first | (refine wpSel_no ?_) | (refine wpSel_yes (fun K hK => ?_); go_simp; (refine hK _ ?_; clear hK K)))
          refine wpSel_nil ?_
          refine relStep_pure rfl ?_
          go_simp
        refine relAll_cons (fun x w' hk hd => ?_) ?_
        · dsimp only
          simp only [depAll, factOf, Nat.reduceEqDiff, ↓reduceIte, SFact.eq_p, SFact.rd_p, SFact.rows_p] at hd
          obtain ⟨⟨A14, c14, e14, hc14, hr14⟩, ⟨A18, c18, e18, hc18, hr18⟩, ⟨A19, c19, e19, hc19, hr19⟩, ⟨A22, c22, e22, hc22, hr22⟩, ⟨A23, c23, e23, hc23, hr23⟩, e24, ⟨A29, c29, e29, hc29, hr29⟩, ⟨A30, c30, e30, hc30, hr30⟩, ⟨A33, c33, e33, hc33, hr33⟩, e34, -⟩ := hd
          repeat (first | (refine wpSel_no ?_) | (refine wpSel_yes (fun K hK => ?_); go_simp; (refine hK _ ?_; clear hK K)))
          refine wpSel_nil ?_
          refine relStep_pure rfl ?_
          go_simp
        exact relAll_nil
      · intro x w' hk hd
        dsimp only
        simp only [depAll, factOf, Nat.reduceEqDiff, ↓reduceIte, SFact.eq_p, SFact.rd_p, SFact.rows_p] at hd
        obtain ⟨⟨A14, c14, e14, hc14, hr14⟩, ⟨A18, c18, e18, hc18, hr18⟩, ⟨A19, c19, e19, hc19, hr19⟩, ⟨A22, c22, e22, hc22, hr22⟩, ⟨A23, c23, e23, hc23, hr23⟩, e24, ⟨A29, c29, e29, hc29, hr29⟩, ⟨A30, c30, e30, hc30, hr30⟩, ⟨A33, c33, e33, hc33, hr33⟩, e34, -⟩ := hd
        repeat (first | (refine wpSel_no ?_) | (refine wpSel_yes (fun K hK => ?_); go_simp; (refine hK _ ?_; clear hK K)))
        refine wpSel_nil ?_
        go_wp2
        go_roundw
        case rel => exact ⟨k + 1, by omega, by go_num, hkp.trans hk⟩
        case measure => simp [intOf]; omega
    · have HK := Lib.hid hkp; clear hkp
      have hd9 : decide ((k : Int) < 256) = false := by simp; omega
      go_wp2_with fail
      refine (rseal_any _ 6 _ _ [1, 2, 3, 200, 0, 255] _ ((Rd.new wr _ _ _).here) rfl (by omega) (by intro x hx; simp at hx; omega)).mono ?_
      rintro e w1 ⟨A1, c1, rfl, hown1, hk1⟩
      obtain ⟨zs, hzs⟩ : ∃ zs, zs = sealed [1, 2, 3, 200, 0, 255] := ⟨_, rfl⟩
      have hzl : zs.length = 10 := by rw [hzs]; rfl
      have hzb : Byt zs := by rw [hzs]; exact sealed_byte (by intro x hx; simp at hx; omega)
      rw [← hzs] at hown1
      clear hzs
      have hc1 : 10 ≤ c1 := by
        obtain ⟨_, _, hv, h, _⟩ := own_form hown1
        injection hv with _ _ hv
        omega
      have hk2 : Kp [] w w1 := (HK.out.alloc _).trans hk1
      have HZL := Lib.hid hzl; clear hzl
      have HZB := Lib.hid hzb; clear hzb
      have HO := Lib.hid hown1; clear hown1
      have HKW := Lib.hid hk2; clear hk2 hk1 HK
      obtain ⟨wb, rfl⟩ : ∃ wb : World, wb = w1 := ⟨_, rfl⟩
      go_wp2
      go_loopw [3] (fun i wr => ∃ k : Nat, k ≤ 11 ∧ i = .int .i64 k ∧ Kp [] wb wr) (fun i _ => 11 - (intOf i).toNat)
      case atStart => exact ⟨0, by omega, rfl, Kp.refl _ _⟩
      case round =>
        obtain ⟨i, hi11, rfl, hkb⟩ := hrel
        have HKB := Lib.hid hkb; clear hkb
        by_cases hle : i ≤ 10
        · have hd42 : decide ((i : Int) ≤ 10) = true := by simp; omega
          go_wp2_with fail
          refine (sumTells_any none A1 0 0 i c1 [] (zs.take i) _ (RdRows.nil _ _ _ _) rfl (by omega) (by simp) (by simp) ?_ ?_ (by omega) (by omega) (HZB.out.take i)).mono ?_
          · rw [List.map_take]; exact (((own_rd HO.out).kp0 HKB.out).here).take i
          · rw [List.length_take, HZL.out]; omega
          rintro e w3 ⟨rfl, hk3⟩
          have HKC := Lib.hid (HKB.out.trans hk3)
          clear hk3 HKB
          go_wp2
          obtain ⟨wc, rfl⟩ : ∃ wc : World, wc = w3 := ⟨_, rfl⟩
          go_loopw [4] (fun j wr => ∃ k : Nat, k ≤ 255 ∧ j = .int .i64 k ∧ Kp [] wb wr) (fun j _ => 255 - (intOf j).toNat)
          case atStart => exact ⟨0, by omega, rfl, HKC.out⟩
          case round =>
            obtain ⟨j, hj, rfl, hkj⟩ := hrel
            have HKJ := Lib.hid hkj; clear hkj
            by_cases hj2 : j < 255
            · by_cases hi2 : i < 10
              · go_upto_region 16 with (at_builtin; refine wpList_append_rd rfl (.tmp 60) (.tmp 61) 23 rfl wr.heap.size 5 i0 (.int .u8 0) 1 1 Try.underlying23 hi hz0 hz1 hz2 rfl (by decide) (.slice (some ⟨wr.heap.size, 0, none⟩) 0 0) 0 [] rfl (World.ownsRow_made wr #[] 0 (Nat.le_refl _) (Nat.zero_le _) rfl) _ A1 10 c1 (zs.map (.int .u8)) rfl (by simpa using HZL.out) ((((own_rd HO.out).kp0 HKJ.out).here).kp0 ((Kp.refl [] wr).alloc _)) (oc_ints _ _) (by unfold maxLen; omega) (by omega) (by simp) ?_; intro v4 w4 hown4 hgrow4 hat4; simp only [Nat.zero_add, List.nil_append] at hown4)
                rcases own_blk hown4 with ⟨hv, h0, _⟩ | ⟨g, cap, rest, rfl, hg, hbk, hnc, hcm, hxl, hrl⟩
                · omega
                have hk4 : Kp [] wr w4 := ((Kp.refl [] wr).alloc _).grown hgrow4 (by simp [Value.ownBlock])
                have HK4 := Lib.hid hk4; clear hk4 hgrow4 hat4 hown4
                obtain ⟨z, hz⟩ : ∃ z, zs[i]? = some z := ⟨_, List.getElem?_eq_getElem (by rw [HZL.out]; exact hi2)⟩
                have hcell : w4.cell? ⟨g, i, none⟩ = some (.int .u8 z) := by
                  rw [hbk.cell, List.getElem?_append_left (by rw [hxl]; omega), List.getElem?_map, hz]; rfl
                have hfree := hbk.free i
                have hzr := HZB.out.at_ hz
                have HB4 := Lib.hid hbk; clear hbk
                have HZI := Lib.hid hz; clear hz
                clear hxl hrl
                have hcap : cap ≤ 9223372036854775807 := by simpa only [maxLen] using hcm
                go_wp2_with fail
                obtain ⟨y, hy⟩ : ∃ y, y = (z + (j : Int)) % 256 := ⟨_, rfl⟩
                have hyb : 0 ≤ y ∧ y ≤ 255 := by rw [hy]; omega
                rw [← hy]
                have HY := Lib.hid hy; clear hy
                have hb5 : Blk (w4.setCell ⟨g, i, none⟩ (.int .u8 y)) g 5 ((zs.set i y).map (.int .u8) ++ rest) := by
                  have := HB4.out.set_ i (.int .u8 y)
                  rwa [List.set_append_left _ _ (by rw [List.length_map, HZL.out]; exact hi2), ← List.map_set] at this
                have hk5 : Kp [] wb (w4.setCell ⟨g, i, none⟩ (.int .u8 y)) := (HKJ.out.trans HK4.out).setCell (.inr (by have := HKJ.out.size; show _ ≤ g; omega)) _
                have hlen : (zs.set i y).length = 10 := by rw [List.length_set, HZL.out]
                have hr5 : IsRd .u8 (zs.set i y) (.slice (some ⟨g, 0, none⟩) 10 cap) (w4.setCell ⟨g, i, none⟩ (.int .u8 y)) := by
                  have h := (hb5.rd hb5.lt).take 10
                  rw [List.take_append_of_le_length (by rw [List.length_map, hlen]; omega), List.take_of_length_le (by rw [List.length_map, hlen]; omega)] at h
                  exact ⟨_, _, by rw [hlen], by rw [hlen]; exact hnc, h⟩
                have hby5 := setByt HZB.out i hyb
                have hrows := IsRows.new (xss := [zs.set i y]) (t := 23) rfl (RowsL.cons hr5 RowsL.nil_)
                have hr6 := hr5.kp0 (w' := (w4.setCell ⟨g, i, none⟩ (.int .u8 y)).alloc (.cells #[.slice (some ⟨g, 0, none⟩) 10 cap] 23)) ((Kp.refl [] _).alloc _)
                obtain ⟨_, _, hv1, _, hrd6⟩ := hr6
                injection hv1 with hv1 he1 he2
                clear he1 he2
                obtain ⟨_, _, hv2, _, hrr6⟩ := hrows
                injection hv2 with hv2 he1 he2
                clear he1 he2
                subst hv1 hv2
                refine (sumTells_any _ _ 1 1 10 cap [zs.set i y] (zs.set i y) _ ?_ rfl (by omega) (oneLen (by omega)) (oneByt hby5) hrd6 hlen hnc (by omega) hby5).mono ?_
                · simpa using hrr6
                rintro e w6 ⟨rfl, hk6⟩
                have hk7 : Kp [] wb w6 := (hk5.alloc _).trans hk6
                have HK7 := Lib.hid hk7
                clear hk7 hk6 hk5 hb5 hr5 hrd6 hrr6 hcell hfree HK4 HB4 hlen
                go_wp2
                go_roundw
                case rel => exact ⟨j + 1, by omega, by go_num, HK7.out⟩
                case measure => simp [intOf]; omega
              · go_wp2
                go_roundw
                case rel => exact ⟨i + 1, by omega, by go_num, HKJ.out⟩
                case measure => simp [intOf]; omega
            · go_wp2
              go_roundw
              case rel => exact ⟨i + 1, by omega, by go_num, HKJ.out⟩
              case measure => simp [intOf]; omega
        · go_wp2_with fail
          refine (open_any none 0 0 0 [] _ (Rd.nil _ _ _) rfl (by omega) (by omega) (by intro x hx; cases hx)).mono ?_
          rintro e w7 ⟨A7, c7, rfl, _, hk7⟩
          have HK7 := Lib.hid (HKW.out.trans (HKB.out.trans hk7))
          clear hk7
          have he : openE [] = 4 := rfl
          rw [he]
          go_wp2_with fail
          refine (awake4_any _).mono ?_
          rintro e w8 ⟨rfl, hk8⟩
          have HK8 := Lib.hid (HK7.out.trans hk8); clear hk8
          go_wp2
          go_ret
          exact ⟨rfl, HK8.out⟩
end Go.Proofs.Ytbikidbaiegehaa

