/-
  TreeOf: the walk.
  LAYER 15 (tree), the document's: the pairs that bits may be of.
  TreeReads: the walk.
  CONDITIONS: as each lemma says.
-/
import Derived.Test.YtldmabkilgpgcaaQ19
import Derived.Test.YtldmabkilgpgcaaQ10
import Derived.Test.YtldmabkilgpgcaaQ14
import Derived.Test.YtldmabkilgpgcaaQ12
namespace Go.Proofs.Ytldmabkilgpgcaa
open Go.RowKit

/-- The lent pairs, the first k of them struck out. -/
def inC (l : List (Int × Int)) (k : Nat) (rest : List Value) : List Value := List.replicate (k * 2) (.int .i64 0) ++ ((pcI l).drop (k * 2) ++ rest)
theorem pcI_drop {l : List (Int × Int)} {k : Nat} {p : Int × Int} (h : l[k]? = some p) : (pcI l).drop (k * 2) = .int .i64 p.1 :: .int .i64 p.2 :: (pcI l).drop ((k + 1) * 2) := by
  obtain ⟨h1, h2⟩ := pcI_get h
  obtain ⟨l1, e1⟩ := List.getElem?_eq_some_iff.1 h1
  obtain ⟨l2, e2⟩ := List.getElem?_eq_some_iff.1 h2
  rw [List.drop_eq_getElem_cons l1, e1, List.drop_eq_getElem_cons l2, e2]
  rw [show k * 2 + 1 + 1 = (k + 1) * 2 by omega]
theorem inC_get {l : List (Int × Int)} {k : Nat} {p : Int × Int} (h : l[k]? = some p) (rest : List Value) : (inC l k rest)[k * 2]? = some (.int .i64 p.1) ∧ (inC l k rest)[k * 2 + 1]? = some (.int .i64 p.2) := by
  unfold inC
  rw [pcI_drop h]
  constructor
  · rw [List.getElem?_append_right (by simp)]
    simp
  · rw [List.getElem?_append_right (by simp)]
    simp
theorem inC_set {l : List (Int × Int)} {k : Nat} {p : Int × Int} (h : l[k]? = some p) (rest : List Value) : ((inC l k rest).set (k * 2) (.int .i64 0)).set (k * 2 + 1) (.int .i64 0) = inC l (k + 1) rest := by
  unfold inC
  rw [pcI_drop h, List.set_append_right _ _ (by simp), List.set_append_right _ _ (by simp)]
  simp only [List.length_replicate, Nat.sub_self, Nat.add_sub_cancel_left, List.cons_append, List.set_cons_zero, List.set_cons_succ]
  rw [show (k + 1) * 2 = k * 2 + 1 + 1 by omega, List.replicate_succ', List.replicate_succ', List.append_assoc, List.append_assoc]
  rfl
theorem inC_end {l : List (Int × Int)} {n : Nat} (hn : l.length = n) (rest : List Value) : inC l n rest = List.replicate (n * 2) (.int .i64 0) ++ rest := by
  unfold inC
  rw [List.drop_of_length_le (by rw [pcI_len, hn]; exact Nat.le_refl _), List.nil_append]
/-- Pairs inside are those of naturals. -/
theorem inside_nats {h : Nat} : ∀ {l : List (Int × Int)}, (l.any fun p => outI ((2 ^ h : Nat) : Int) p.1 p.2) = false → ∃ m : List (Nat × Nat), l = m.map upI ∧ ∀ p ∈ m, p.1 < 2 ^ h ∧ p.2 < 2 ^ h
  | [], _ => ⟨[], rfl, by simp⟩
  | p :: l, hh => by
    rw [List.any_cons, Bool.or_eq_false_iff] at hh
    obtain ⟨m, rfl, hm⟩ := inside_nats hh.2
    have h1 := hh.1
    unfold outI at h1
    simp only [Bool.not_eq_false', decide_eq_true_iff] at h1
    obtain ⟨a, b, c, d⟩ := h1
    refine ⟨(p.1.toNat, p.2.toNat) :: m, ?_, fun x hx => ?_⟩
    · rw [List.map_cons]
      unfold upI
      simp only [Int.toNat_of_nonneg a, Int.toNat_of_nonneg c]
    · rcases List.mem_cons.1 hx with rfl | hx
      · exact ⟨by simp only; omega, by simp only; omega⟩
      · exact hm x hx
/-- What both ways to make a tree answer where there is none. -/
theorem of_none (s : Int) (n : Nat) (l : List (Int × Int)) (hs0 : -9223372036854775808 ≤ s) (hs1 : s ≤ 9223372036854775807) (hn : l.length = n) (hb : n ≤ 150) (hl : ∀ p ∈ l, Pok p) (hno : hgt s = 0 ∨ (l.any fun p => outI s p.1 p.2) = true) :
    ∃ er : Int, er ≠ 0 ∧ (∀ w B A c, Rd w B A (pcI l) → Calls Try.prog 10 #[.int .i64 s, .slice A n c] w fun e w' => e = .returned (.tuple #[.pointer none, .int .i64 er]) ∧ Kp [] w w') ∧
      (∀ w B A c, Rd w B A (pcI l) → Calls Try.prog 11 #[.int .i64 s, .slice A n c] w fun e w' => e = .returned (.tuple #[.pointer none, .int .i64 er]) ∧ Kp [] w w') := by
  by_cases h0 : hgt s = 0
  · exact ⟨2, by decide, fun w _ _ _ _ => tof_arg s _ w h0 hs0 hs1, fun w _ _ _ _ => rof_arg s _ w h0 hs0 hs1⟩
  · have ho : (l.any fun p => outI s p.1 p.2) = true := by
      rcases hno with h | h
      · exact absurd h h0
      · exact h
    exact ⟨6, by decide, fun w B A c hx => tof_out s _ n c B A l w rfl h0 hx hn (by omega) ho (fun p hp => hl p hp), fun w B A c hx => rof_out s _ n c B A l w rfl h0 hx hn (by omega) ho⟩
set_option maxRecDepth 100000 in
set_option maxHeartbeats 4000000 in
theorem treeof_any (s : Int) (A : Option Addr) (n c : Nat) (l : List (Int × Int)) (r cc node : Int) (w : World) (hx : Rd w w.heap.size A (pcI l)) (hn : l.length = n) (hnb : n ≤ 140737488351232) (hl : ∀ p ∈ l, Pok p)
    (hs0 : -9223372036854775808 ≤ s) (hs1 : s ≤ 9223372036854775807) (hr0 : -9223372036854775808 ≤ r) (hr1 : r ≤ 9223372036854775807) (hc0 : -9223372036854775808 ≤ cc) (hc1 : cc ≤ 9223372036854775807) (hn0 : -9223372036854775808 ≤ node) (hn1 : node ≤ 9223372036854775807) :
    Calls Try.prog 3 #[.int .i64 s, .slice A n c, .agg #[.int .i64 r, .int .i64 cc], .int .i64 node] w fun e w' => e = .returned (.bool true) ∧ Kp [] w w' := by
  have hk0 := (Kp.refl [] w).alloc (.cells #[.int .i64 r, .int .i64 cc] 24)
  have hb0 := Blk.new w 24 [.int .i64 r, .int .i64 cc]
  obtain ⟨w0, hw0⟩ : ∃ w0, w0 = w.alloc (.cells #[.int .i64 r, .int .i64 cc] 24) := ⟨_, rfl⟩
  obtain ⟨g, hg⟩ : ∃ g, g = w.heap.size := ⟨_, rfl⟩
  replace hk0 : Kp [] w w0 := by rw [hw0]; exact hk0
  replace hb0 : Blk w0 g 24 [.int .i64 r, .int .i64 cc] := by rw [hw0, hg]; exact hb0
  have HX := Lib.hid (hx.kp0 hk0)
  have HB := Lib.hid hb0
  have HK := Lib.hid hk0
  have HW0 := Lib.hid hw0
  have HG := Lib.hid hg
  have HN := Lib.hid hn; clear hn
  have HL := Lib.hid hl; clear hl
  clear hx hk0 hb0 hw0 hg
  go_enter Try.func3, Try.ntmps3
  by_cases hbig : 150 < n
  · go_wp2_with fail
    rw [← HW0.out]
    refine (tawake_any w0).mono ?_
    rintro e w1 ⟨rfl, hk1⟩
    have HK1 := Lib.hid (HK.out.trans hk1)
    clear hk1
    go_wp2_with fail
    go_ret
    exact ⟨rfl, HK1.out⟩
  have hn150 : n ≤ 150 := by omega
  go_wp2_with fail
  rw [← HW0.out, ← HG.out]
  clear HW0
  refine (lentP_any A n c _ l w0 HX.out HN.out (by omega)).mono ?_
  rintro e w1 ⟨rfl, ho1, hk1⟩
  obtain ⟨gi, hgi⟩ : ∃ gi, gi = w0.heap.size := ⟨_, rfl⟩
  rw [← hgi] at ho1 ⊢
  have HX1 := Lib.hid (HX.out.kp0 hk1)
  have HB1 := Lib.hid (HB.out.kp0 hk1)
  have HK1 := Lib.hid (HK.out.trans hk1)
  have HRI := Lib.hid (show Rd w1 w1.heap.size (some ⟨gi, 0, none⟩) (pcI l) from by
    have h9 := (own_rd ho1).take (n * 2)
    rwa [List.take_append_of_le_length (by rw [pcI_len, HN.out]; omega), List.take_of_length_le (by rw [pcI_len, HN.out]; omega)] at h9)
  obtain ⟨rest, hbi⟩ : ∃ rest, Blk w1 gi 24 (inC l 0 ([.int .i64 7, .int .i64 7] ++ rest)) := by
    rcases own_blk ho1 with ⟨h, _⟩ | ⟨g', cap, rest, hv, _, hb, _⟩
    · cases h
    · injection hv with hv
      injection hv with hv
      injection hv with hv
      subst hv
      refine ⟨rest, ?_⟩
      rw [List.append_assoc] at hb
      exact hb
  have HBI := Lib.hid hbi
  have HGI := Lib.hid (show g ≠ gi ∧ w.heap.size ≤ gi ∧ gi < w1.heap.size from ⟨by have := HB.out.lt; omega, by rw [hgi]; exact HK.out.size, hbi.lt⟩)
  clear ho1 hk1 hgi hbi HX HB HK
  have HPR := Lib.hid (fun w' (hk : Kp [] w1 w') => pairs_any A n c w.heap.size l w' (HX1.out.kp0 hk) (Nat.le_trans HK1.out.size hk.size) HN.out (by omega))
  have q0 : w1.cell? ⟨g, 0, none⟩ = some (.int .i64 r) := by rw [HB1.out.cell]; rfl
  obtain ⟨D, hD⟩ : ∃ D, D = sideI (max s r) := ⟨_, rfl⟩
  have HSD := Lib.hid (show ∀ w', Calls Try.prog 13 #[.int .i64 s, .int .i64 r] w' fun e w'' => e = .returned (.int .i64 D) ∧ Kp [] w' w'' from fun w' => by
    rw [hD]; exact (tside_any s r _ w' rfl).mono fun e w'' ⟨a, b⟩ => ⟨a, by rw [b]; exact Kp.refl _ _⟩)
  have HRD := Lib.hid (show ∀ w', Calls Try.prog 14 #[.int .i64 s, .int .i64 r] w' fun e w'' => e = .returned (.int .i64 D) ∧ Kp [] w' w'' from fun w' => by
    rw [hD]; exact (rside_any s r _ w' rfl).mono fun e w'' ⟨a, b⟩ => ⟨a, by rw [b]; exact Kp.refl _ _⟩)
  clear hD
  by_cases hno : hgt s = 0 ∨ (l.any fun p => outI s p.1 p.2) = true
  · go_wp2_with fail
    obtain ⟨er, hev, hof, hrf⟩ := of_none s n l hs0 hs1 HN.out hn150 (fun p hp => HL.out p hp) hno
    have HEV := Lib.hid hev
    have HRF := Lib.hid hrf
    refine (hof w1 _ _ _ HRI.out).mono ?_
    rintro e w2 ⟨rfl, hk2⟩
    have hpr := HPR.out w2 hk2
    have q02 := hk2.cell q0 (by simp)
    have HK2 := Lib.hid (HK1.out.trans hk2)
    have HX2 := Lib.hid (HX1.out.kp0 hk2)
    have HB2 := Lib.hid (HB1.out.kp0 hk2)
    have HI2 := Lib.hid (HBI.out.kp0 hk2)
    clear hof hk2 q0 hev hrf HK1 HX1 HB1 HBI HPR HRI
    go_wp2_with fail
    refine hpr.mono ?_
    rintro e w3 ⟨Ao, co, rfl, hop, hk3⟩
    have q03 := hk3.cell q02 (by simp)
    have HOP := Lib.hid (own_rd hop)
    have HK3' := Lib.hid (HK2.out.trans hk3)
    have HX3' := Lib.hid (HX2.out.kp0 hk3)
    have HI3' := Lib.hid (HI2.out.kp0 hk3)
    clear hop hk3 q02 HK2 HX2 HB2 HI2 hpr
    go_wp2_with fail
    refine (HRF.out w3 _ _ _ HOP.out).mono ?_
    rintro e wq ⟨rfl, hkq⟩
    have q0w := hkq.cell q03 (by simp)
    have HK3 := Lib.hid (HK3'.out.trans hkq)
    have HX3 := Lib.hid (HX3'.out.kp0 hkq)
    have HI3 := Lib.hid (HI3'.out.kp0 hkq)
    have hev1 : (er == 0) = false := by simp [HEV.out]
    have hev2 : (er != 0) = true := by simp [HEV.out]
    clear hkq q03 HK3' HX3' HI3' HOP HRF
    go_wp2_with fail
    have HQ0 := Lib.hid q0w
    clear q0w
    refine wp_region_facts (by kernel_rfl) 98 [34, 35, 36, 37, 38, 39, 40, 41, 42, 43, 44, 45, 46, 47] [[], [], [34, 35], [36], [37], [37], [39, 37], [38, 40, 37], [37], [37], [43, 37], [42, 44, 37], [41, 45, 37], [37, 46]] (by kernel_rfl) (by kernel_rfl) rfl (factOf [(34, .eq (.int .i64 er)), (35, .eq (.int .i64 er)), (36, .eq (.bool false)), (37, .eq (.bool false)), (38, .eq (.int .i64 s)), (39, .eq (.pointer (some ⟨g, 0, none⟩))), (40, .eq (.int .i64 r)), (41, .eq (.int .i64 D)), (42, .eq (.int .i64 s)), (43, .eq (.pointer (some ⟨g, 0, none⟩))), (44, .eq (.int .i64 r)), (45, .eq (.int .i64 D)), (46, .eq (.bool false)), (47, .eq (.bool false))]) (factOf_stable _) _ (fun x => by simp only [fillL, Nat.reduceAdd, Nat.reduceEqDiff, ↓reduceIte]; rfl) ?_ ?_
    · refine ⟨?_, ?_, ?_, ?_, ?_, ?_, ?_, ?_, ?_, ?_, ?_, ?_, ?_, ?_, trivial⟩
      · intro fx w' fa hk hd ev  -- 34 = Op.move (Operand.tmp 11)
        have e11 : fa.tmps[11]?.getD undef = .int .i64 er := ev.old 11 rfl
        refine stepF_un rfl (fun K hK => ?_)
        exact stepF_val _ hK (run_move rfl e11 _) rfl
      · intro fx w' fa hk hd ev  -- 35 = Op.move (Operand.tmp 13)
        have e13 : fa.tmps[13]?.getD undef = .int .i64 er := ev.old 13 rfl
        refine stepF_un rfl (fun K hK => ?_)
        exact stepF_val _ hK (run_move rfl e13 _) rfl
      · intro fx w' fa hk hd ev  -- 36 = Op.binOp BinOp.neq 28 (Operand.tmp 34) (Operand.tmp 35) 28
        have h34 : fx 34 = .int .i64 er := hd.1
        have e34 : fa.tmps[34]?.getD undef = .int .i64 er := (ev.new 34 rfl).trans h34
        have h35 : fx 35 = .int .i64 er := hd.2.1
        have e35 : fa.tmps[35]?.getD undef = .int .i64 er := (ev.new 35 rfl).trans h35
        refine stepF_un rfl (fun K hK => ?_)
        go_simp
        exact hK _ _ rfl (Kp.refl _ _)
      · intro fx w' fa hk hd ev  -- 37 = Op.move (Operand.tmp 36)
        have h36 : fx 36 = .bool false := hd.1
        have e36 : fa.tmps[36]?.getD undef = .bool false := (ev.new 36 rfl).trans h36
        refine stepF_un rfl (fun K hK => ?_)
        exact stepF_val _ hK (run_move rfl e36 _) rfl
      · intro fx w' fa hk hd ev  -- 38 = Op.move (Operand.tmp 0)
        have h37 : fx 37 = .bool false := hd.1
        have e37 : fa.tmps[37]?.getD undef = .bool false := (ev.new 37 rfl).trans h37
        have e0 : fa.tmps[0]?.getD undef = .int .i64 s := ev.old 0 rfl
        refine stepF_yes (i := 3) (g := 37) (b := false) rfl rfl rfl e37 (fun K hK => ?_)
        exact stepF_val _ hK (run_move rfl e0 _) rfl
      · intro fx w' fa hk hd ev  -- 39 = Op.fieldAddr 24 (Operand.tmp 6) 0
        have h37 : fx 37 = .bool false := hd.1
        have e37 : fa.tmps[37]?.getD undef = .bool false := (ev.new 37 rfl).trans h37
        have e6 : fa.tmps[6]?.getD undef = .pointer (some ⟨g, 0, none⟩) := ev.old 6 rfl
        refine stepF_yes (i := 3) (g := 37) (b := false) rfl rfl rfl e37 (fun K hK => ?_)
        go_simp
        exact hK _ _ rfl (Kp.refl _ _)
      · intro fx w' fa hk hd ev  -- 40 = Op.load 3 (Operand.tmp 39)
        have h39 : fx 39 = .pointer (some ⟨g, 0, none⟩) := hd.1
        have e39 : fa.tmps[39]?.getD undef = .pointer (some ⟨g, 0, none⟩) := (ev.new 39 rfl).trans h39
        have h37 : fx 37 = .bool false := hd.2.1
        have e37 : fa.tmps[37]?.getD undef = .bool false := (ev.new 37 rfl).trans h37
        refine stepF_yes (i := 3) (g := 37) (b := false) rfl rfl rfl e37 (fun K hK => ?_)
        have q9 := hk.cell HQ0.out (by simp)
        go_simp
        exact hK _ _ rfl (Kp.refl _ _)
      · intro fx w' fa hk hd ev  -- 41 = Op.call { callee := Callee.value (Operand.func 13), args := 
        have h38 : fx 38 = .int .i64 s := hd.1
        have e38 : fa.tmps[38]?.getD undef = .int .i64 s := (ev.new 38 rfl).trans h38
        have h40 : fx 40 = .int .i64 r := hd.2.1
        have e40 : fa.tmps[40]?.getD undef = .int .i64 r := (ev.new 40 rfl).trans h40
        have h37 : fx 37 = .bool false := hd.2.2.1
        have e37 : fa.tmps[37]?.getD undef = .bool false := (ev.new 37 rfl).trans h37
        refine stepF_yes (i := 3) (g := 37) (b := false) rfl rfl rfl e37 (fun K hK => ?_)
        go_simp
        refine (HSD.out w').mono ?_
        rintro e w1 ⟨rfl, hk1⟩
        exact hK _ _ rfl hk1
      · intro fx w' fa hk hd ev  -- 42 = Op.move (Operand.tmp 0)
        have h37 : fx 37 = .bool false := hd.1
        have e37 : fa.tmps[37]?.getD undef = .bool false := (ev.new 37 rfl).trans h37
        have e0 : fa.tmps[0]?.getD undef = .int .i64 s := ev.old 0 rfl
        refine stepF_yes (i := 3) (g := 37) (b := false) rfl rfl rfl e37 (fun K hK => ?_)
        exact stepF_val _ hK (run_move rfl e0 _) rfl
      · intro fx w' fa hk hd ev  -- 43 = Op.fieldAddr 24 (Operand.tmp 6) 0
        have h37 : fx 37 = .bool false := hd.1
        have e37 : fa.tmps[37]?.getD undef = .bool false := (ev.new 37 rfl).trans h37
        have e6 : fa.tmps[6]?.getD undef = .pointer (some ⟨g, 0, none⟩) := ev.old 6 rfl
        refine stepF_yes (i := 3) (g := 37) (b := false) rfl rfl rfl e37 (fun K hK => ?_)
        go_simp
        exact hK _ _ rfl (Kp.refl _ _)
      · intro fx w' fa hk hd ev  -- 44 = Op.load 3 (Operand.tmp 43)
        have h43 : fx 43 = .pointer (some ⟨g, 0, none⟩) := hd.1
        have e43 : fa.tmps[43]?.getD undef = .pointer (some ⟨g, 0, none⟩) := (ev.new 43 rfl).trans h43
        have h37 : fx 37 = .bool false := hd.2.1
        have e37 : fa.tmps[37]?.getD undef = .bool false := (ev.new 37 rfl).trans h37
        refine stepF_yes (i := 3) (g := 37) (b := false) rfl rfl rfl e37 (fun K hK => ?_)
        have q9 := hk.cell HQ0.out (by simp)
        go_simp
        exact hK _ _ rfl (Kp.refl _ _)
      · intro fx w' fa hk hd ev  -- 45 = Op.call { callee := Callee.value (Operand.func 14), args := 
        have h42 : fx 42 = .int .i64 s := hd.1
        have e42 : fa.tmps[42]?.getD undef = .int .i64 s := (ev.new 42 rfl).trans h42
        have h44 : fx 44 = .int .i64 r := hd.2.1
        have e44 : fa.tmps[44]?.getD undef = .int .i64 r := (ev.new 44 rfl).trans h44
        have h37 : fx 37 = .bool false := hd.2.2.1
        have e37 : fa.tmps[37]?.getD undef = .bool false := (ev.new 37 rfl).trans h37
        refine stepF_yes (i := 3) (g := 37) (b := false) rfl rfl rfl e37 (fun K hK => ?_)
        go_simp
        refine (HRD.out w').mono ?_
        rintro e w1 ⟨rfl, hk1⟩
        exact hK _ _ rfl hk1
      · intro fx w' fa hk hd ev  -- 46 = Op.binOp BinOp.neq 3 (Operand.tmp 41) (Operand.tmp 45) 3
        have h41 : fx 41 = .int .i64 D := hd.1
        have e41 : fa.tmps[41]?.getD undef = .int .i64 D := (ev.new 41 rfl).trans h41
        have h45 : fx 45 = .int .i64 D := hd.2.1
        have e45 : fa.tmps[45]?.getD undef = .int .i64 D := (ev.new 45 rfl).trans h45
        have h37 : fx 37 = .bool false := hd.2.2.1
        have e37 : fa.tmps[37]?.getD undef = .bool false := (ev.new 37 rfl).trans h37
        refine stepF_yes (i := 3) (g := 37) (b := false) rfl rfl rfl e37 (fun K hK => ?_)
        go_simp
        exact hK _ _ rfl (Kp.refl _ _)
      · intro fx w' fa hk hd ev  -- 47 = Op.pick (Operand.tmp 37) (Operand.const (Value.bool true)) (
        have h37 : fx 37 = .bool false := hd.1
        have e37 : fa.tmps[37]?.getD undef = .bool false := (ev.new 37 rfl).trans h37
        have h46 : fx 46 = .bool false := hd.2.1
        have e46 : fa.tmps[46]?.getD undef = .bool false := (ev.new 46 rfl).trans h46
        refine stepF_un rfl (fun K hK => ?_)
        go_simp
        exact hK _ _ rfl (Kp.refl _ _)
    · intro fx w' hk hd
      have h47 : fx 47 = .bool false := hd.2.2.2.2.2.2.2.2.2.2.2.2.2.1
      rw [h47]
      have HK4 := Lib.hid (HK3.out.trans hk)
      have HX4 := Lib.hid (HX3.out.kp0 hk)
      have HI4 := Lib.hid (HI3.out.kp0 hk)
      have HKF := Lib.hid hk
      obtain ⟨w4, hw4⟩ : ∃ w4, w4 = w' := ⟨_, rfl⟩
      rw [← hw4] at HK4 HX4 HI4 HKF ⊢
      clear hk hd hw4 HX3 HI3
      go_wp2_with fail
      go_loopw [14] (fun x wr => ∃ k : Nat, x = .int .i64 (k : Int) ∧ k ≤ n ∧ Hid (Blk wr gi 24 (inC l k ([.int .i64 7, .int .i64 7] ++ rest))) ∧ Hid (Kp [gi] w4 wr)) (fun x _ => n - (intOf x).toNat)
      case atStart => exact ⟨0, rfl, by omega, HI4, Lib.hid (Kp.refl _ _)⟩
      case round =>
        clear HI4
        obtain ⟨k, rfl, hk, HBI, HKR⟩ := hrel
        by_cases hlt : k < n
        · have hxr := HX4.out.kp HKR.out (fun x hx => by simp only [List.mem_singleton] at hx; have := HGI.out.2.1; omega)
          obtain ⟨a, b, ad, hxk, had, _, hcx, hcy⟩ := hxr.ixI (k := k) (by rw [HN.out]; exact hlt)
          subst had
          obtain ⟨i0', i1'⟩ := inC_get hxk ([.int .i64 7, .int .i64 7] ++ rest)
          have d0 : wr.cell? ⟨gi, k * 2, none⟩ = some (.int .i64 a) := by rw [HBI.out.cell]; exact i0'
          have d1 : wr.cell? ⟨gi, k * 2 + 1, none⟩ = some (.int .i64 b) := by rw [HBI.out.cell]; exact i1'
          have HIS := Lib.hid (inC_set hxk ([.int .i64 7, .int .i64 7] ++ rest))
          have hpe := pair_eq a b a b
          rw [decide_eq_true ⟨rfl, rfl⟩] at hpe
          have hj0 : (0 : Int) ≤ (k : Int) := by omega
          have hj1 : (k : Int) < (n : Int) := by omega
          clear hxr hxk i0' i1'
          go_wp2_with fail
          refine wp_region_facts (by kernel_rfl) 98 [54, 55, 56, 57, 58, 59, 60, 61, 62] [[], [], [54, 55], [56], [], [], [58, 59], [60], [57, 61]] (by kernel_rfl) (by kernel_rfl) rfl (factOf [(54, .eq (.slice (some ⟨gi, 0, none⟩) n (n + 2))), (55, .eq (.int .i64 (k : Int))), (56, .eq (.pointer (some ⟨gi, k * 2, none⟩))), (57, .eq (.agg #[.int .i64 a, .int .i64 b])), (58, .eq (.slice (some ad) n c)), (59, .eq (.int .i64 (k : Int))), (60, .eq (.pointer (some (ad.add (k * 2))))), (61, .eq (.agg #[.int .i64 a, .int .i64 b])), (62, .eq (.bool false))]) (factOf_stable _) _ (fun x => by simp only [fillL, Nat.reduceAdd, Nat.reduceEqDiff, ↓reduceIte]; rfl) ?_ ?_
          · refine ⟨?_, ?_, ?_, ?_, ?_, ?_, ?_, ?_, ?_, trivial⟩
            · intro fx w' fa hk hd ev  -- 54 = Op.move (Operand.tmp 9)
              have e9 : fa.tmps[9]?.getD undef = .slice (some ⟨gi, 0, none⟩) n (n + 2) := ev.old 9 rfl
              refine stepF_un rfl (fun K hK => ?_)
              exact stepF_val _ hK (run_move rfl e9 _) rfl
            · intro fx w' fa hk hd ev  -- 55 = Op.move (Operand.tmp 14)
              have e14 : fa.tmps[14]?.getD undef = .int .i64 (k : Int) := ev.old 14 rfl
              refine stepF_un rfl (fun K hK => ?_)
              exact stepF_val _ hK (run_move rfl e14 _) rfl
            · intro fx w' fa hk hd ev  -- 56 = Op.indexAddr 22 (Operand.tmp 54) (Operand.tmp 55)
              have h54 : fx 54 = .slice (some ⟨gi, 0, none⟩) n (n + 2) := hd.1
              have e54 : fa.tmps[54]?.getD undef = .slice (some ⟨gi, 0, none⟩) n (n + 2) := (ev.new 54 rfl).trans h54
              have h55 : fx 55 = .int .i64 (k : Int) := hd.2.1
              have e55 : fa.tmps[55]?.getD undef = .int .i64 (k : Int) := (ev.new 55 rfl).trans h55
              refine stepF_un rfl (fun K hK => ?_)
              go_simp
              exact hK _ _ rfl (Kp.refl _ _)
            · intro fx w' fa hk hd ev  -- 57 = Op.load 24 (Operand.tmp 56)
              have h56 : fx 56 = .pointer (some ⟨gi, k * 2, none⟩) := hd.1
              have e56 : fa.tmps[56]?.getD undef = .pointer (some ⟨gi, k * 2, none⟩) := (ev.new 56 rfl).trans h56
              refine stepF_un rfl (fun K hK => ?_)
              have d01 := hk.cell d0 (by simp)
              have d11 := hk.cell d1 (by simp)
              go_simp
              exact hK _ _ rfl (Kp.refl _ _)
            · intro fx w' fa hk hd ev  -- 58 = Op.move (Operand.tmp 1)
              have e1 : fa.tmps[1]?.getD undef = .slice (some ad) n c := ev.old 1 rfl
              refine stepF_un rfl (fun K hK => ?_)
              exact stepF_val _ hK (run_move rfl e1 _) rfl
            · intro fx w' fa hk hd ev  -- 59 = Op.move (Operand.tmp 14)
              have e14 : fa.tmps[14]?.getD undef = .int .i64 (k : Int) := ev.old 14 rfl
              refine stepF_un rfl (fun K hK => ?_)
              exact stepF_val _ hK (run_move rfl e14 _) rfl
            · intro fx w' fa hk hd ev  -- 60 = Op.indexAddr 22 (Operand.tmp 58) (Operand.tmp 59)
              have h58 : fx 58 = .slice (some ad) n c := hd.1
              have e58 : fa.tmps[58]?.getD undef = .slice (some ad) n c := (ev.new 58 rfl).trans h58
              have h59 : fx 59 = .int .i64 (k : Int) := hd.2.1
              have e59 : fa.tmps[59]?.getD undef = .int .i64 (k : Int) := (ev.new 59 rfl).trans h59
              refine stepF_un rfl (fun K hK => ?_)
              go_simp
              exact hK _ _ rfl (Kp.refl _ _)
            · intro fx w' fa hk hd ev  -- 61 = Op.load 24 (Operand.tmp 60)
              have h60 : fx 60 = .pointer (some (ad.add (k * 2))) := hd.1
              have e60 : fa.tmps[60]?.getD undef = .pointer (some (ad.add (k * 2))) := (ev.new 60 rfl).trans h60
              refine stepF_un rfl (fun K hK => ?_)
              have d01 := hk.cell hcx (by simp)
              have d11 := hk.cell hcy (by simp)
              go_simp
              exact hK _ _ rfl (Kp.refl _ _)
            · intro fx w' fa hk hd ev  -- 62 = Op.binOp BinOp.neq 24 (Operand.tmp 57) (Operand.tmp 61) 24
              have h57 : fx 57 = .agg #[.int .i64 a, .int .i64 b] := hd.1
              have e57 : fa.tmps[57]?.getD undef = .agg #[.int .i64 a, .int .i64 b] := (ev.new 57 rfl).trans h57
              have h61 : fx 61 = .agg #[.int .i64 a, .int .i64 b] := hd.2.1
              have e61 : fa.tmps[61]?.getD undef = .agg #[.int .i64 a, .int .i64 b] := (ev.new 61 rfl).trans h61
              refine stepF_un rfl (fun K hK => ?_)
              go_simp
              exact hK _ _ rfl (Kp.refl _ _)
          · intro fx w' hk hd
            have h62 : fx 62 = .bool false := hd.2.2.2.2.2.2.2.2.1
            rw [h62]
            have d01 := hk.cell d0 (by simp)
            have d11 := hk.cell d1 (by simp)
            have bi := HBI.out.kp0 hk
            have f0 := bi.free (k * 2)
            have f1 := bi.free (k * 2 + 1)
            have bs9 := (bi.set_ (k * 2) (.int .i64 0)).set_ (k * 2 + 1) (.int .i64 0)
            rw [HIS.out] at bs9
            have HB9 := Lib.hid bs9
            have HK9 := Lib.hid (((HKR.out.trans (hk.nil)).setCell (p := ⟨gi, k * 2, none⟩) (.inl (by simp)) (.int .i64 0)).setCell (p := ⟨gi, k * 2 + 1, none⟩) (.inl (by simp)) (.int .i64 0))
            clear hk hd bi bs9 d0 d1 hcx hcy hpe
            go_wp2_with fail
            exact ⟨⟨k + 1, by go_num, by omega, HB9, HK9⟩, by simp [intOf]; omega⟩
        · obtain rfl : n = k := by omega
          have HKW := Lib.hid (HK4.out.trans' HKR.out (fun x hx => .inr (by simp only [List.mem_singleton] at hx; have := HGI.out.2.1; omega)))
          go_wp2_with fail
          refine (tawake_any wr).mono ?_
          rintro e w5 ⟨rfl, hk5⟩
          have HK5 := Lib.hid (HKW.out.trans hk5)
          clear hk5
          go_wp2_with fail
          go_ret
          exact ⟨rfl, HK5.out⟩
  · obtain ⟨h0, hout⟩ : hgt s ≠ 0 ∧ (l.any fun p => outI s p.1 p.2) = false := by
      refine ⟨fun h => hno (.inl h), ?_⟩
      cases h : (l.any fun p => outI s p.1 p.2) with
      | false => rfl
      | true => exact absurd (.inr h) hno
    obtain ⟨h, hh⟩ : ∃ h, h = hgt s := ⟨_, rfl⟩
    obtain ⟨h1, h17, hsp⟩ : 1 ≤ h ∧ h ≤ 17 ∧ s = ((2 ^ h : Nat) : Int) := by
      rw [hh]
      rcases hgt_spec s with h' | h'
      · exact absurd h'.1 h0
      · exact h'
    rw [hsp] at hout
    obtain ⟨m, rfl, hm⟩ := inside_nats hout
    rw [← pc_I] at HX1 HRI
    have hml : m.length = n := by have := HN.out; rwa [List.length_map] at this
    have hof := tof_ok h n (n + 2) _ (some ⟨gi, 0, none⟩) m w1 h1 h17 HRI.out hml (by omega) hm (k_all h1 m).1
    rw [← hsp] at hof
    obtain ⟨bs, hbs⟩ : ∃ bs, bs = levL h [m] := ⟨_, rfl⟩
    rw [← hbs] at hof
    have HML := Lib.hid hml
    have HM := Lib.hid hm
    have HSS := Lib.hid hsp
    have HBS := Lib.hid hbs
    have hbl : bs.length ≤ 10268 := by
      rw [hbs]
      exact Nat.le_trans (levL_len 150 h [m] (by simp) (by simp [hml]; omega)) (by omega)
    clear hno h0 hout hh hml hm hsp hbs
    go_wp2_with fail
    refine hof.mono ?_
    rintro e w2 ⟨S, p, q, rfl, ht, hS, hp, hk2⟩
    have hpr := HPR.out w2 hk2
    have q02 := hk2.cell q0 (by simp)
    have HT := Lib.hid ht
    have HSG := Lib.hid (show (∀ x ∈ S, gi < x) ∧ gi < p from ⟨fun x hx => Nat.lt_of_lt_of_le HGI.out.2.2 (hS x hx), Nat.lt_of_lt_of_le HGI.out.2.2 hp⟩)
    have HK2 := Lib.hid (HK1.out.trans hk2)
    have HX2 := Lib.hid (show Rd w2 w.heap.size A (pcI (m.map upI)) from by rw [← pc_I]; exact HX1.out.kp0 hk2)
    have HI2 := Lib.hid (HBI.out.kp0 hk2)
    have HB2 := Lib.hid (HB1.out.kp0 hk2)
    clear hof ht hS hp hk2 q0 HK1 HX1 HB1 HBI HPR HRI
    go_wp2_with fail
    refine hpr.mono ?_
    rintro e w3 ⟨Ao, co, rfl, hop, hk3⟩
    have q03 := hk3.cell q02 (by simp)
    have hof2 := rof_ok h n co _ Ao m w3 h1 h17 (by rw [pc_I]; exact own_rd hop) (Nat.le_refl _) HML.out (by omega) HM.out
    rw [← HSS.out] at hof2
    have HT3 := Lib.hid (HT.out.kp0 hk3)
    have HK3' := Lib.hid (HK2.out.trans hk3)
    have HX3' := Lib.hid (HX2.out.kp0 hk3)
    have HI3' := Lib.hid (HI2.out.kp0 hk3)
    have HB3' := Lib.hid (HB2.out.kp0 hk3)
    clear hop hk3 q02 HK2 HX2 HI2 HB2 HT hpr
    go_wp2_with fail
    refine hof2.mono ?_
    rintro e wq ⟨pr, L, rfl, hrt, hLn, hLm, hkq⟩
    have q0w := hkq.cell q03 (by simp)
    have HT4 := Lib.hid (HT3.out.kp0 hkq)
    have HRT := Lib.hid hrt
    have HLN := Lib.hid hLn
    have HLM := Lib.hid hLm
    have HLV := Lib.hid (show levL h [L] = bs from by rw [HBS.out]; exact lev_same h ((.cons hLm .nil : Tog SameS [L] [m])))
    have HPG := Lib.hid (show gi < wq.heap.size from (HI3'.out.kp0 hkq).lt)
    have HPG3 := Lib.hid (show gi < w3.heap.size from HI3'.out.lt)
    have HK3 := Lib.hid (HK3'.out.trans hkq)
    have HX3 := Lib.hid (HX3'.out.kp0 hkq)
    have HI3 := Lib.hid (HI3'.out.kp0 hkq)
    have HB3 := Lib.hid (HB3'.out.kp0 hkq)
    rw [HLV.out] at HRT
    clear hkq q03 HK3' HX3' HI3' HB3' HT3 hrt hLn hLm hof2
    go_wp2_with fail
    have HQ0 := Lib.hid q0w
    clear q0w
    refine wp_region_facts (by kernel_rfl) 98 [34, 35, 36, 37, 38, 39, 40, 41, 42, 43, 44, 45, 46, 47] [[], [], [34, 35], [36], [37], [37], [39, 37], [38, 40, 37], [37], [37], [43, 37], [42, 44, 37], [41, 45, 37], [37, 46]] (by kernel_rfl) (by kernel_rfl) rfl (factOf [(34, .eq (.int .i64 0)), (35, .eq (.int .i64 0)), (36, .eq (.bool false)), (37, .eq (.bool false)), (38, .eq (.int .i64 s)), (39, .eq (.pointer (some ⟨g, 0, none⟩))), (40, .eq (.int .i64 r)), (41, .eq (.int .i64 D)), (42, .eq (.int .i64 s)), (43, .eq (.pointer (some ⟨g, 0, none⟩))), (44, .eq (.int .i64 r)), (45, .eq (.int .i64 D)), (46, .eq (.bool false)), (47, .eq (.bool false))]) (factOf_stable _) _ (fun x => by simp only [fillL, Nat.reduceAdd, Nat.reduceEqDiff, ↓reduceIte]; rfl) ?_ ?_
    · refine ⟨?_, ?_, ?_, ?_, ?_, ?_, ?_, ?_, ?_, ?_, ?_, ?_, ?_, ?_, trivial⟩
      · intro fx w' fa hk hd ev  -- 34 = Op.move (Operand.tmp 11)
        have e11 : fa.tmps[11]?.getD undef = .int .i64 0 := ev.old 11 rfl
        refine stepF_un rfl (fun K hK => ?_)
        exact stepF_val _ hK (run_move rfl e11 _) rfl
      · intro fx w' fa hk hd ev  -- 35 = Op.move (Operand.tmp 13)
        have e13 : fa.tmps[13]?.getD undef = .int .i64 0 := ev.old 13 rfl
        refine stepF_un rfl (fun K hK => ?_)
        exact stepF_val _ hK (run_move rfl e13 _) rfl
      · intro fx w' fa hk hd ev  -- 36 = Op.binOp BinOp.neq 28 (Operand.tmp 34) (Operand.tmp 35) 28
        have h34 : fx 34 = .int .i64 0 := hd.1
        have e34 : fa.tmps[34]?.getD undef = .int .i64 0 := (ev.new 34 rfl).trans h34
        have h35 : fx 35 = .int .i64 0 := hd.2.1
        have e35 : fa.tmps[35]?.getD undef = .int .i64 0 := (ev.new 35 rfl).trans h35
        refine stepF_un rfl (fun K hK => ?_)
        go_simp
        exact hK _ _ rfl (Kp.refl _ _)
      · intro fx w' fa hk hd ev  -- 37 = Op.move (Operand.tmp 36)
        have h36 : fx 36 = .bool false := hd.1
        have e36 : fa.tmps[36]?.getD undef = .bool false := (ev.new 36 rfl).trans h36
        refine stepF_un rfl (fun K hK => ?_)
        exact stepF_val _ hK (run_move rfl e36 _) rfl
      · intro fx w' fa hk hd ev  -- 38 = Op.move (Operand.tmp 0)
        have h37 : fx 37 = .bool false := hd.1
        have e37 : fa.tmps[37]?.getD undef = .bool false := (ev.new 37 rfl).trans h37
        have e0 : fa.tmps[0]?.getD undef = .int .i64 s := ev.old 0 rfl
        refine stepF_yes (i := 3) (g := 37) (b := false) rfl rfl rfl e37 (fun K hK => ?_)
        exact stepF_val _ hK (run_move rfl e0 _) rfl
      · intro fx w' fa hk hd ev  -- 39 = Op.fieldAddr 24 (Operand.tmp 6) 0
        have h37 : fx 37 = .bool false := hd.1
        have e37 : fa.tmps[37]?.getD undef = .bool false := (ev.new 37 rfl).trans h37
        have e6 : fa.tmps[6]?.getD undef = .pointer (some ⟨g, 0, none⟩) := ev.old 6 rfl
        refine stepF_yes (i := 3) (g := 37) (b := false) rfl rfl rfl e37 (fun K hK => ?_)
        go_simp
        exact hK _ _ rfl (Kp.refl _ _)
      · intro fx w' fa hk hd ev  -- 40 = Op.load 3 (Operand.tmp 39)
        have h39 : fx 39 = .pointer (some ⟨g, 0, none⟩) := hd.1
        have e39 : fa.tmps[39]?.getD undef = .pointer (some ⟨g, 0, none⟩) := (ev.new 39 rfl).trans h39
        have h37 : fx 37 = .bool false := hd.2.1
        have e37 : fa.tmps[37]?.getD undef = .bool false := (ev.new 37 rfl).trans h37
        refine stepF_yes (i := 3) (g := 37) (b := false) rfl rfl rfl e37 (fun K hK => ?_)
        have q9 := hk.cell HQ0.out (by simp)
        go_simp
        exact hK _ _ rfl (Kp.refl _ _)
      · intro fx w' fa hk hd ev  -- 41 = Op.call { callee := Callee.value (Operand.func 13), args := 
        have h38 : fx 38 = .int .i64 s := hd.1
        have e38 : fa.tmps[38]?.getD undef = .int .i64 s := (ev.new 38 rfl).trans h38
        have h40 : fx 40 = .int .i64 r := hd.2.1
        have e40 : fa.tmps[40]?.getD undef = .int .i64 r := (ev.new 40 rfl).trans h40
        have h37 : fx 37 = .bool false := hd.2.2.1
        have e37 : fa.tmps[37]?.getD undef = .bool false := (ev.new 37 rfl).trans h37
        refine stepF_yes (i := 3) (g := 37) (b := false) rfl rfl rfl e37 (fun K hK => ?_)
        go_simp
        refine (HSD.out w').mono ?_
        rintro e w1 ⟨rfl, hk1⟩
        exact hK _ _ rfl hk1
      · intro fx w' fa hk hd ev  -- 42 = Op.move (Operand.tmp 0)
        have h37 : fx 37 = .bool false := hd.1
        have e37 : fa.tmps[37]?.getD undef = .bool false := (ev.new 37 rfl).trans h37
        have e0 : fa.tmps[0]?.getD undef = .int .i64 s := ev.old 0 rfl
        refine stepF_yes (i := 3) (g := 37) (b := false) rfl rfl rfl e37 (fun K hK => ?_)
        exact stepF_val _ hK (run_move rfl e0 _) rfl
      · intro fx w' fa hk hd ev  -- 43 = Op.fieldAddr 24 (Operand.tmp 6) 0
        have h37 : fx 37 = .bool false := hd.1
        have e37 : fa.tmps[37]?.getD undef = .bool false := (ev.new 37 rfl).trans h37
        have e6 : fa.tmps[6]?.getD undef = .pointer (some ⟨g, 0, none⟩) := ev.old 6 rfl
        refine stepF_yes (i := 3) (g := 37) (b := false) rfl rfl rfl e37 (fun K hK => ?_)
        go_simp
        exact hK _ _ rfl (Kp.refl _ _)
      · intro fx w' fa hk hd ev  -- 44 = Op.load 3 (Operand.tmp 43)
        have h43 : fx 43 = .pointer (some ⟨g, 0, none⟩) := hd.1
        have e43 : fa.tmps[43]?.getD undef = .pointer (some ⟨g, 0, none⟩) := (ev.new 43 rfl).trans h43
        have h37 : fx 37 = .bool false := hd.2.1
        have e37 : fa.tmps[37]?.getD undef = .bool false := (ev.new 37 rfl).trans h37
        refine stepF_yes (i := 3) (g := 37) (b := false) rfl rfl rfl e37 (fun K hK => ?_)
        have q9 := hk.cell HQ0.out (by simp)
        go_simp
        exact hK _ _ rfl (Kp.refl _ _)
      · intro fx w' fa hk hd ev  -- 45 = Op.call { callee := Callee.value (Operand.func 14), args := 
        have h42 : fx 42 = .int .i64 s := hd.1
        have e42 : fa.tmps[42]?.getD undef = .int .i64 s := (ev.new 42 rfl).trans h42
        have h44 : fx 44 = .int .i64 r := hd.2.1
        have e44 : fa.tmps[44]?.getD undef = .int .i64 r := (ev.new 44 rfl).trans h44
        have h37 : fx 37 = .bool false := hd.2.2.1
        have e37 : fa.tmps[37]?.getD undef = .bool false := (ev.new 37 rfl).trans h37
        refine stepF_yes (i := 3) (g := 37) (b := false) rfl rfl rfl e37 (fun K hK => ?_)
        go_simp
        refine (HRD.out w').mono ?_
        rintro e w1 ⟨rfl, hk1⟩
        exact hK _ _ rfl hk1
      · intro fx w' fa hk hd ev  -- 46 = Op.binOp BinOp.neq 3 (Operand.tmp 41) (Operand.tmp 45) 3
        have h41 : fx 41 = .int .i64 D := hd.1
        have e41 : fa.tmps[41]?.getD undef = .int .i64 D := (ev.new 41 rfl).trans h41
        have h45 : fx 45 = .int .i64 D := hd.2.1
        have e45 : fa.tmps[45]?.getD undef = .int .i64 D := (ev.new 45 rfl).trans h45
        have h37 : fx 37 = .bool false := hd.2.2.1
        have e37 : fa.tmps[37]?.getD undef = .bool false := (ev.new 37 rfl).trans h37
        refine stepF_yes (i := 3) (g := 37) (b := false) rfl rfl rfl e37 (fun K hK => ?_)
        go_simp
        exact hK _ _ rfl (Kp.refl _ _)
      · intro fx w' fa hk hd ev  -- 47 = Op.pick (Operand.tmp 37) (Operand.const (Value.bool true)) (
        have h37 : fx 37 = .bool false := hd.1
        have e37 : fa.tmps[37]?.getD undef = .bool false := (ev.new 37 rfl).trans h37
        have h46 : fx 46 = .bool false := hd.2.1
        have e46 : fa.tmps[46]?.getD undef = .bool false := (ev.new 46 rfl).trans h46
        refine stepF_un rfl (fun K hK => ?_)
        go_simp
        exact hK _ _ rfl (Kp.refl _ _)
    · intro fx w' hk hd
      have h47 : fx 47 = .bool false := hd.2.2.2.2.2.2.2.2.2.2.2.2.2.1
      rw [h47]
      have HK4 := Lib.hid (HK3.out.trans hk)
      have HX4 := Lib.hid (HX3.out.kp0 hk)
      have HI4 := Lib.hid (HI3.out.kp0 hk)
      have HKF := Lib.hid hk
      obtain ⟨w4, hw4⟩ : ∃ w4, w4 = w' := ⟨_, rfl⟩
      rw [← hw4] at HK4 HX4 HI4 HKF ⊢
      clear hk hd hw4 HX3 HI3
      go_wp2_with fail
      go_loopw [14] (fun x wr => ∃ k : Nat, x = .int .i64 (k : Int) ∧ k ≤ n ∧ Hid (Blk wr gi 24 (inC (m.map upI) k ([.int .i64 7, .int .i64 7] ++ rest))) ∧ Hid (Kp [gi] w4 wr)) (fun x _ => n - (intOf x).toNat)
      case atStart => exact ⟨0, rfl, by omega, HI4, Lib.hid (Kp.refl _ _)⟩
      case round =>
        clear HI4
        obtain ⟨k, rfl, hk, HBI, HKR⟩ := hrel
        by_cases hlt : k < n
        · have hxr := HX4.out.kp HKR.out (fun x hx => by simp only [List.mem_singleton] at hx; have := HGI.out.2.1; omega)
          obtain ⟨a, b, ad, hxk, had, _, hcx, hcy⟩ := hxr.ixI (k := k) (by rw [HN.out]; exact hlt)
          subst had
          obtain ⟨i0', i1'⟩ := inC_get hxk ([.int .i64 7, .int .i64 7] ++ rest)
          have d0 : wr.cell? ⟨gi, k * 2, none⟩ = some (.int .i64 a) := by rw [HBI.out.cell]; exact i0'
          have d1 : wr.cell? ⟨gi, k * 2 + 1, none⟩ = some (.int .i64 b) := by rw [HBI.out.cell]; exact i1'
          have HIS := Lib.hid (inC_set hxk ([.int .i64 7, .int .i64 7] ++ rest))
          have hpe := pair_eq a b a b
          rw [decide_eq_true ⟨rfl, rfl⟩] at hpe
          have hj0 : (0 : Int) ≤ (k : Int) := by omega
          have hj1 : (k : Int) < (n : Int) := by omega
          clear hxr hxk i0' i1'
          go_wp2_with fail
          refine wp_region_facts (by kernel_rfl) 98 [54, 55, 56, 57, 58, 59, 60, 61, 62] [[], [], [54, 55], [56], [], [], [58, 59], [60], [57, 61]] (by kernel_rfl) (by kernel_rfl) rfl (factOf [(54, .eq (.slice (some ⟨gi, 0, none⟩) n (n + 2))), (55, .eq (.int .i64 (k : Int))), (56, .eq (.pointer (some ⟨gi, k * 2, none⟩))), (57, .eq (.agg #[.int .i64 a, .int .i64 b])), (58, .eq (.slice (some ad) n c)), (59, .eq (.int .i64 (k : Int))), (60, .eq (.pointer (some (ad.add (k * 2))))), (61, .eq (.agg #[.int .i64 a, .int .i64 b])), (62, .eq (.bool false))]) (factOf_stable _) _ (fun x => by simp only [fillL, Nat.reduceAdd, Nat.reduceEqDiff, ↓reduceIte]; rfl) ?_ ?_
          · refine ⟨?_, ?_, ?_, ?_, ?_, ?_, ?_, ?_, ?_, trivial⟩
            · intro fx w' fa hk hd ev  -- 54 = Op.move (Operand.tmp 9)
              have e9 : fa.tmps[9]?.getD undef = .slice (some ⟨gi, 0, none⟩) n (n + 2) := ev.old 9 rfl
              refine stepF_un rfl (fun K hK => ?_)
              exact stepF_val _ hK (run_move rfl e9 _) rfl
            · intro fx w' fa hk hd ev  -- 55 = Op.move (Operand.tmp 14)
              have e14 : fa.tmps[14]?.getD undef = .int .i64 (k : Int) := ev.old 14 rfl
              refine stepF_un rfl (fun K hK => ?_)
              exact stepF_val _ hK (run_move rfl e14 _) rfl
            · intro fx w' fa hk hd ev  -- 56 = Op.indexAddr 22 (Operand.tmp 54) (Operand.tmp 55)
              have h54 : fx 54 = .slice (some ⟨gi, 0, none⟩) n (n + 2) := hd.1
              have e54 : fa.tmps[54]?.getD undef = .slice (some ⟨gi, 0, none⟩) n (n + 2) := (ev.new 54 rfl).trans h54
              have h55 : fx 55 = .int .i64 (k : Int) := hd.2.1
              have e55 : fa.tmps[55]?.getD undef = .int .i64 (k : Int) := (ev.new 55 rfl).trans h55
              refine stepF_un rfl (fun K hK => ?_)
              go_simp
              exact hK _ _ rfl (Kp.refl _ _)
            · intro fx w' fa hk hd ev  -- 57 = Op.load 24 (Operand.tmp 56)
              have h56 : fx 56 = .pointer (some ⟨gi, k * 2, none⟩) := hd.1
              have e56 : fa.tmps[56]?.getD undef = .pointer (some ⟨gi, k * 2, none⟩) := (ev.new 56 rfl).trans h56
              refine stepF_un rfl (fun K hK => ?_)
              have d01 := hk.cell d0 (by simp)
              have d11 := hk.cell d1 (by simp)
              go_simp
              exact hK _ _ rfl (Kp.refl _ _)
            · intro fx w' fa hk hd ev  -- 58 = Op.move (Operand.tmp 1)
              have e1 : fa.tmps[1]?.getD undef = .slice (some ad) n c := ev.old 1 rfl
              refine stepF_un rfl (fun K hK => ?_)
              exact stepF_val _ hK (run_move rfl e1 _) rfl
            · intro fx w' fa hk hd ev  -- 59 = Op.move (Operand.tmp 14)
              have e14 : fa.tmps[14]?.getD undef = .int .i64 (k : Int) := ev.old 14 rfl
              refine stepF_un rfl (fun K hK => ?_)
              exact stepF_val _ hK (run_move rfl e14 _) rfl
            · intro fx w' fa hk hd ev  -- 60 = Op.indexAddr 22 (Operand.tmp 58) (Operand.tmp 59)
              have h58 : fx 58 = .slice (some ad) n c := hd.1
              have e58 : fa.tmps[58]?.getD undef = .slice (some ad) n c := (ev.new 58 rfl).trans h58
              have h59 : fx 59 = .int .i64 (k : Int) := hd.2.1
              have e59 : fa.tmps[59]?.getD undef = .int .i64 (k : Int) := (ev.new 59 rfl).trans h59
              refine stepF_un rfl (fun K hK => ?_)
              go_simp
              exact hK _ _ rfl (Kp.refl _ _)
            · intro fx w' fa hk hd ev  -- 61 = Op.load 24 (Operand.tmp 60)
              have h60 : fx 60 = .pointer (some (ad.add (k * 2))) := hd.1
              have e60 : fa.tmps[60]?.getD undef = .pointer (some (ad.add (k * 2))) := (ev.new 60 rfl).trans h60
              refine stepF_un rfl (fun K hK => ?_)
              have d01 := hk.cell hcx (by simp)
              have d11 := hk.cell hcy (by simp)
              go_simp
              exact hK _ _ rfl (Kp.refl _ _)
            · intro fx w' fa hk hd ev  -- 62 = Op.binOp BinOp.neq 24 (Operand.tmp 57) (Operand.tmp 61) 24
              have h57 : fx 57 = .agg #[.int .i64 a, .int .i64 b] := hd.1
              have e57 : fa.tmps[57]?.getD undef = .agg #[.int .i64 a, .int .i64 b] := (ev.new 57 rfl).trans h57
              have h61 : fx 61 = .agg #[.int .i64 a, .int .i64 b] := hd.2.1
              have e61 : fa.tmps[61]?.getD undef = .agg #[.int .i64 a, .int .i64 b] := (ev.new 61 rfl).trans h61
              refine stepF_un rfl (fun K hK => ?_)
              go_simp
              exact hK _ _ rfl (Kp.refl _ _)
          · intro fx w' hk hd
            have h62 : fx 62 = .bool false := hd.2.2.2.2.2.2.2.2.1
            rw [h62]
            have d01 := hk.cell d0 (by simp)
            have d11 := hk.cell d1 (by simp)
            have bi := HBI.out.kp0 hk
            have f0 := bi.free (k * 2)
            have f1 := bi.free (k * 2 + 1)
            have bs9 := (bi.set_ (k * 2) (.int .i64 0)).set_ (k * 2 + 1) (.int .i64 0)
            rw [HIS.out] at bs9
            have HB9 := Lib.hid bs9
            have HK9 := Lib.hid (((HKR.out.trans (hk.nil)).setCell (p := ⟨gi, k * 2, none⟩) (.inl (by simp)) (.int .i64 0)).setCell (p := ⟨gi, k * 2 + 1, none⟩) (.inl (by simp)) (.int .i64 0))
            clear hk hd bi bs9 d0 d1 hcx hcy hpe
            go_wp2_with fail
            exact ⟨⟨k + 1, by go_num, by omega, HB9, HK9⟩, by simp [intOf]; omega⟩
        · obtain rfl : n = k := by omega
          have HKW := Lib.hid (HK4.out.trans' HKR.out (fun x hx => .inr (by simp only [List.mem_singleton] at hx; have := HGI.out.2.1; omega)))
          have HRT5 := Lib.hid ((HRT.out.kp0 HKF.out).kp HKR.out (fun x hx => by simp only [List.mem_singleton] at hx; have := HPG3.out; omega))
          have HT5 := Lib.hid ((HT4.out.kp0 HKF.out).kp HKR.out (fun x hx hm => by simp only [List.mem_singleton] at hm; have := HSG.out.1 x hx; omega) (fun hm => by simp only [List.mem_singleton] at hm; have := HSG.out.2; omega))
          have HB5 := Lib.hid ((HB3.out.kp0 HKF.out).kp HKR.out (fun hm => by simp only [List.mem_singleton] at hm; exact HGI.out.1 hm))
          rw [inC_end HN.out] at HBI
          have HLT := Lib.hid (show g < wr.heap.size ∧ gi < wr.heap.size ∧ p < wr.heap.size ∧ (∀ x ∈ S, x < wr.heap.size) from ⟨HB5.out.lt, HBI.out.lt, HT5.out.1.lt, HT5.out.2.1.lt⟩)
          clear HRT HT4 HB3 HK4 HX4 HKF HKR HPG HK3
          go_wp2_with fail
          refine (tbytes_any S p q h _ bs wr HT5.out h17).mono ?_
          rintro e w5 ⟨Ab, mb, cb, hmb, rfl, hob, hk5⟩
          obtain ⟨gB, lB, rfl, hgB, hbB, hlB, hmcB, hcB⟩ : ∃ gB lB, Ab = some ⟨gB, 0, none⟩ ∧ wr.heap.size ≤ gB ∧ Blk w5 gB 5 lB ∧ lB.length = cb ∧ mb ≤ cb ∧ cb ≤ 9223372036854775807 := by
            rcases own_blk hob with ⟨h9, _⟩ | ⟨gB, cap, rb, hv, hg9, hb9, hm9, hc9, _, hl9⟩
            · injection h9 with _ h9
              omega
            · injection hv with hv1 _ hv3
              subst hv1 hv3
              exact ⟨gB, _, rfl, hg9, hb9, by rw [hl9]; omega, hm9, by unfold maxLen at hc9; omega⟩
          have hmb9 : mb ≤ 1000000000 := by omega
          have HK5 := Lib.hid hk5
          have HBB := Lib.hid hbB
          have HGB := Lib.hid hgB
          clear hob hk5 hmb hbB hgB
          go_wp2_with fail
          refine (overB_some gB mb cb lB w5 HBB.out hlB hmcB hcB hmb9).mono ?_
          rintro e w6 ⟨rfl, hk6⟩
          have hk56 : Kp [] wr w6 := HK5.out.trans' hk6 (fun x hx => .inr (by simp only [List.mem_singleton] at hx; have := HGB.out; omega))
          have HT7 := Lib.hid (HT5.out.kp0 hk56)
          have HB7 := Lib.hid (HB5.out.kp0 hk56)
          have HI7 := Lib.hid (HBI.out.kp0 hk56)
          have HRT7 := Lib.hid (HRT5.out.kp0 hk56)
          have HK7 := Lib.hid (HKW.out.trans hk56)
          have hsame := same_any S p q h w3.heap.size pr L m bs r cc node w6 HT7.out HRT7.out HBS.out h1 h17 HM.out HLN.out HLM.out (by omega) hr0 hr1 hc0 hc1 hn0 hn1
          have HSA := Lib.hid hsame
          have s0 : w6.cell? ⟨gi, n * 2, none⟩ = some (.int .i64 7) := by
            rw [HI7.out.cell, List.getElem?_append_right (by simp)]
            simp
          have s1 : w6.cell? ⟨gi, n * 2 + 1, none⟩ = some (.int .i64 7) := by
            rw [HI7.out.cell, List.getElem?_append_right (by simp)]
            simp
          have t0 : w6.cell? ⟨g, 0, none⟩ = some (.int .i64 r) := by rw [HB7.out.cell]; rfl
          have t1 : w6.cell? ⟨g, 1, none⟩ = some (.int .i64 cc) := by rw [HB7.out.cell]; rfl
          have hpe := pair_eq 7 7 7 7
          rw [decide_eq_true ⟨rfl, rfl⟩] at hpe
          have u0 : (0 : Int) ≤ (n : Int) := by omega
          have u1 : (n : Int) < (n : Int) + 1 := by omega
          have u2 : (n : Int) + 1 ≤ (n : Int) + 2 := by omega
          have u3 : n + 1 ≤ n + 2 := by omega
          have u4 : n < n + 1 := by omega
          clear hsame hk6 hk56 HBB HT5 HRT5 HB5 HBI HKW HT7 HRT7 HB7 HI7 HLT
          go_wp2_with fail
          refine HSA.out.mono ?_
          rintro e w7 ⟨rfl, hk7⟩
          have HK8 := Lib.hid (HK7.out.trans hk7)
          clear hk7 s0 s1 t0 t1 hpe HSA
          go_wp2_with fail
          refine (tawake_any w7).mono ?_
          rintro e w8 ⟨rfl, hk8⟩
          have HK9 := Lib.hid (HK8.out.trans hk8)
          clear hk8
          go_wp2_with fail
          go_ret
          exact ⟨rfl, HK9.out⟩
end Go.Proofs.Ytldmabkilgpgcaa
namespace Go.Proofs.Ytldmabkilgpgcaa
open Go.RowKit

theorem growB_len {h : Nat} {bs : List Bool} {C : List (Nat × Nat)} (hl : bs.length < 4 * C.length) : growB (h + 1) bs C = none := by
  unfold growB
  rw [if_pos hl]
theorem growB_next {h : Nat} {bs : List Bool} {C : List (Nat × Nat)} (hl : 4 * C.length ≤ bs.length) : growB (h + 1) bs C = growB h (bs.drop (4 * C.length)) (kidsC C bs) := by
  conv => lhs; unfold growB
  rw [if_neg (by omega)]
theorem kidsQ_len {c : Nat × Nat} {bs : List Bool} : ∀ {q : Nat}, q ≤ 4 → (kidsQ c bs q).length ≤ q := fun {q} hq => by
  rcases (show q = 0 ∨ q = 1 ∨ q = 2 ∨ q = 3 ∨ q = 4 by omega) with rfl | rfl | rfl | rfl | rfl <;> (unfold kidsQ; refine Nat.le_trans (by rw [List.length_map]; exact List.length_filter_le _ _) (by decide))
/-- What the document's pairs gives. -/
def RGrownP (h N : Nat) (bs : List Bool) (w : World) (e : Ending) (w' : World) : Prop := Kp [] w w' ∧ ((growB h bs [(0, 0)] = none ∧ e = .returned (.tuple #[.slice none 0 0, .bool false])) ∨
  ∃ (C : List (Nat × Nat)) (A : Option Addr) (n c : Nat), growB h bs [(0, 0)] = some C ∧ C.length = n ∧ n ≤ N + 1 ∧ e = .returned (.tuple #[.slice A n c, .bool true]) ∧ Rd w' w'.heap.size A (pc C) ∧ ∀ p ∈ C, p.1 < 2 ^ h ∧ p.2 < 2 ^ h)
set_option maxRecDepth 100000 in
set_option maxHeartbeats 4000000 in
theorem rpairs_any (A : Option Addr) (N c B h : Nat) (bs : List Bool) (w : World) (hx : Rd w B A (bs.map .bool)) (hN : bs.length = N) (hNb : N ≤ 100000) (h1 : 1 ≤ h) (h17 : h ≤ 17) :
    Calls Try.prog 52 #[.int .i64 (h : Int), .slice A N c] w (RGrownP h N bs w) := by
  obtain ⟨i0, hi', hz0, hz1, hz2⟩ := info_parts Try.info_rpair
  obtain ⟨R, hR⟩ : ∃ R, R = growB h bs [(0, 0)] := ⟨_, rfl⟩
  have HX := Lib.hid hx
  have HN := Lib.hid hN
  have HRR := Lib.hid hR.symm
  have HR0 := Lib.hid hR
  clear hx hN
  go_enter Try.func52, Try.ntmps52
  by_cases h4 : N < 4
  · have HR := Lib.hid (show growB h bs [(0, 0)] = none by
      obtain ⟨a, rfl⟩ : ∃ a, h = a + 1 := ⟨h - 1, by omega⟩
      exact growB_len (by rw [HN.out]; simpa using h4))
    have h4I : (N : Int) < 4 := by omega
    clear hR
    go_wp2_with fail
    go_ret2
    exact ⟨Kp.refl _ _, .inl ⟨HR.out, rfl⟩⟩
  have h4I : ¬ (N : Int) < 4 := by omega
  clear hR
  have b0 := own_build w w.heap.size 71 2 1 [.int .i64 0, .int .i64 0] (Nat.le_refl _) rfl (by decide)
  have HO := Lib.hid (show (w.alloc (.cells #[.int .i64 0, .int .i64 0] 71)).ownsRow w.heap.size 71 2 (.slice (some ⟨w.heap.size, 0, none⟩) 1 1) 1 (pc [(0, 0)]) from b0)
  have HK := Lib.hid ((Kp.refl [] w).alloc (.cells #[.int .i64 0, .int .i64 0] 71))
  clear b0
  go_wp2_with fail
  go_loopw [6, 7, 8] (fun v6 v7 v8 wr => ∃ (k a n c : Nat) (Ao : Option Addr) (C : List (Nat × Nat)), v6 = .int .i64 (a : Int) ∧ v7 = .slice Ao n c ∧ v8 = .int .i64 (k : Int) ∧ k ≤ h ∧ a ≤ N ∧ n ≤ N + 1 ∧ Hid (R = growB (h - k) (bs.drop a) C) ∧ Hid (C.length = n) ∧ Hid (∀ x ∈ C, x.1 < 2 ^ k ∧ x.2 < 2 ^ k) ∧ Hid (wr.ownsRow w.heap.size 71 2 (.slice Ao n c) n (pc C)) ∧ Hid (Kp [] w wr)) (fun _ _ v8 _ => h - (intOf v8).toNat)
  case atStart => exact ⟨0, 0, 1, 1, _, [(0, 0)], rfl, rfl, rfl, by omega, by omega, by omega, HR0, Lib.hid rfl, Lib.hid (by simp), HO, HK⟩
  case round =>
    clear HO HK
    obtain ⟨k, a, n, c, Ao, C, rfl, rfl, rfl, hk, ha, hn, HR, HC, HB, HO, HK⟩ := hrel
    by_cases hkh : k < h
    · have hp17 : 2 ^ k ≤ 2 ^ 17 := Nat.pow_le_pow_right (by omega) (by omega)
      have HB17 := Lib.hid (show ∀ x ∈ C, x.1 < 131072 ∧ x.2 < 131072 from fun x hx => by have := HB.out x hx; omega)
      have HR1 := Lib.hid (show ∃ e, h - k = e + 1 ∧ h - (k + 1) = e from ⟨h - k - 1, by omega, by omega⟩)
      have hdl : (bs.drop a).length = N - a := by rw [List.length_drop, HN.out]
      have HDL := Lib.hid hdl
      obtain ⟨wk, hwk⟩ : ∃ wk, wk = wr := ⟨_, rfl⟩
      subst hwk
      obtain ⟨d, hd⟩ : ∃ d, d = bs.drop a := ⟨_, rfl⟩
      rw [← hd] at HR HDL
      have HD := Lib.hid hd
      have HWK := Lib.hid HK.out.size
      clear hdl hp17 hd
      go_wp2_with fail
      go_loopw [6, 9, 10] (fun v6 v9 v10 wq => ∃ (i y m cm : Nat) (Am : Option Addr), v6 = .int .i64 (y : Int) ∧ v9 = .slice Am m cm ∧ v10 = .int .i64 (i : Int) ∧ i ≤ n ∧ y = a + 4 * i ∧ y ≤ N ∧ m ≤ 4 * i ∧ Hid ((kidsC (C.take i) d).length = m) ∧ Hid (wq.ownsRow wk.heap.size 71 2 (.slice Am m cm) m (pc (kidsC (C.take i) d))) ∧ Hid (Kp [] wk wq)) (fun _ _ v10 _ => n - (intOf v10).toNat)
      case atStart => exact ⟨0, a, 0, 0, none, rfl, rfl, rfl, by omega, by omega, ha, by omega, Lib.hid rfl, Lib.hid (World.ownsRow_nil _ _ _ 2), Lib.hid (Kp.refl _ _)⟩
      case round =>
        obtain ⟨i, y, m, cm, Am, rfl, rfl, rfl, hin, hy, hyN, hm, HM, HOM, HKM⟩ := hrel
        have hyl : y ≤ a + 4 * i := by omega
        have hyg : a + 4 * i ≤ y := by omega
        clear hy
        by_cases hi : i < n
        · obtain ⟨wj, hwj⟩ : ∃ wj, wj = wr := ⟨_, rfl⟩
          subst hwj
          obtain ⟨r, cc, ad, hCi, hAd, _, _, _⟩ := (own_rd HO.out).ixN (k := i) (by rw [HC.out]; exact hi)
          subst hAd
          obtain ⟨hr17, hc17⟩ := HB17.out (r, cc) (List.mem_of_getElem? hCi)
          simp only at hr17 hc17
          have HCI := Lib.hid hCi
          have hi0 : (0 : Int) ≤ (i : Int) := by omega
          have hi1 : (i : Int) < (n : Int) := by omega
          clear hCi
          go_wp2_with fail
          go_loopw [6, 9, 11] (fun v6 v9 v11 wq => ∃ (q y m cm : Nat) (Am : Option Addr), v6 = .int .i64 (y : Int) ∧ v9 = .slice Am m cm ∧ v11 = .int .i64 (q : Int) ∧ q ≤ 4 ∧ y = a + 4 * i + q ∧ y ≤ N ∧ m ≤ 4 * i + q ∧ Hid ((kidsC (C.take i) d ++ kidsQ (r, cc) (d.drop (4 * i)) q).length = m) ∧ Hid (wq.ownsRow wk.heap.size 71 2 (.slice Am m cm) m (pc (kidsC (C.take i) d ++ kidsQ (r, cc) (d.drop (4 * i)) q))) ∧ Hid (Kp [] wk wq)) (fun _ _ v11 _ => 4 - (intOf v11).toNat)
          case atStart => exact ⟨0, y, m, cm, Am, rfl, rfl, rfl, by omega, by omega, hyN, by omega, Lib.hid (by rw [show kidsQ (r, cc) (d.drop (4 * i)) 0 = [] from rfl, List.append_nil]; exact HM.out), Lib.hid (by rw [show kidsQ (r, cc) (d.drop (4 * i)) 0 = [] from rfl, List.append_nil]; exact HOM.out), HKM⟩
          case round =>
            clear HM HOM HKM hyl hyg hyN hm
            obtain ⟨q, y, m, cm, Am, rfl, rfl, rfl, hq, hy, hyN, hm, HM, HOM, HKM⟩ := hrel
            have hyl : y ≤ a + 4 * i + q := by omega
            have hyg : a + 4 * i + q ≤ y := by omega
            clear hy
            by_cases hq4 : q < 4
            · have hq4I : (q : Int) < 4 := by omega
              by_cases hyE : y = N
              · have HRN := Lib.hid (show R = none by
                  obtain ⟨e, he, _⟩ := HR1.out
                  rw [HR.out, he]
                  exact growB_len (by rw [HDL.out, HC.out]; omega))
                have hyE2 : ((y : Int) == (N : Int)) = true := by simp [hyE]
                have HRR2 := Lib.hid (show growB h bs [(0, 0)] = none by rw [HRR.out, HRN.out])
                clear hyE
                go_wp2_with fail
                go_ret2
                exact ⟨HK.out.trans HKM.out, .inl ⟨HRR2.out, rfl⟩⟩
              · have hyE2 : ((y : Int) == (N : Int)) = false := by simp; omega
                have hyN2 : y < N := by omega
                obtain ⟨b, hb⟩ : ∃ b, bs[y]? = some b := ⟨_, List.getElem?_eq_getElem (by rw [HN.out]; exact hyN2)⟩
                obtain ⟨adb, rfl, _, hcb⟩ := (HX.out.kp0 (HK.out.trans HKM.out)) y (.bool b) (by rw [List.getElem?_map, hb]; rfl)
                have HBQ := Lib.hid (show (d.drop (4 * i)).getD q false = b by
                  rw [HD.out, List.drop_drop, List.getD_eq_getElem?_getD, List.getElem?_drop, show a + 4 * i + q = y by omega, hb]
                  rfl)
                have hy0 : (0 : Int) ≤ (y : Int) := by omega
                have hy1 : (y : Int) < (N : Int) := by omega
                clear hyE hb
                cases b with
                | false =>
                  have HKQ := Lib.hid (kidsQ_off (c := (r, cc)) hq4 HBQ.out)
                  go_wp2_with fail
                  exact ⟨⟨q + 1, y + 1, m, cm, Am, by go_num, rfl, by go_num, by omega, by omega, by omega, by omega, Lib.hid (by rw [HKQ.out]; exact HM.out), Lib.hid (by rw [HKQ.out]; exact HOM.out), HKM⟩, by simp [intOf]; omega⟩
                | true =>
                  have HKQ := Lib.hid (show pc (kidsC (C.take i) d ++ kidsQ (r, cc) (d.drop (4 * i)) (q + 1)) = pc (kidsC (C.take i) d ++ kidsQ (r, cc) (d.drop (4 * i)) q) ++ [.int .i64 ((2 * r + q / 2 : Nat) : Int), .int .i64 ((2 * cc + q % 2 : Nat) : Int)] by
                    rw [kidsQ_on (c := (r, cc)) hq4 HBQ.out, ← List.append_assoc, pc_snoc]
                    rfl)
                  have HKL := Lib.hid (show (kidsC (C.take i) d ++ kidsQ (r, cc) (d.drop (4 * i)) (q + 1)).length = m + 1 by
                    rw [kidsQ_on (c := (r, cc)) hq4 HBQ.out, ← List.append_assoc, List.length_append, HM.out]; rfl)
                  obtain ⟨_, _, ad2, hCi2, hAd2, _, hcr, hcc⟩ := ((own_rd HO.out).kp0 HKM.out).ixN (k := i) (by rw [HC.out]; exact hi)
                  injection hAd2 with hAd2
                  subst hAd2
                  rw [HCI.out] at hCi2
                  injection hCi2 with hCi2
                  injection hCi2 with e1 e2
                  subst e1 e2
                  have HZM := Lib.hid HKM.out.size
                  obtain ⟨u, hu⟩ : ∃ u : Nat, u = 2 * r + q / 2 := ⟨_, rfl⟩
                  obtain ⟨v, hv⟩ : ∃ v : Nat, v = 2 * cc + q % 2 := ⟨_, rfl⟩
                  have t1 : Int.tdiv (q : Int) 2 = ((q / 2 : Nat) : Int) := rfl
                  have t2 : Int.tmod (q : Int) 2 = ((q % 2 : Nat) : Int) := rfl
                  rw [← hu, ← hv] at HKQ
                  have s1 : (2 : Int) * (r : Int) + ((q / 2 : Nat) : Int) = (u : Int) := by omega
                  have s2 : (2 : Int) * (cc : Int) + ((q % 2 : Nat) : Int) = (v : Int) := by omega
                  obtain ⟨qa, hqa⟩ : ∃ qa : Nat, qa = q / 2 := ⟨_, rfl⟩
                  obtain ⟨qb, hqb⟩ : ∃ qb : Nat, qb = q % 2 := ⟨_, rfl⟩
                  rw [← hqa] at t1 s1
                  rw [← hqb] at t2 s2
                  have hqa1 : qa ≤ 1 := by omega
                  have hqb1 : qb ≤ 1 := by omega
                  have w1' : IntKind.wrap .i64 ((2 : Int) * (r : Int)) = 2 * (r : Int) := by rw [IntKind.wrap_i64]; omega
                  have w2' : IntKind.wrap .i64 ((2 : Int) * (cc : Int)) = 2 * (cc : Int) := by rw [IntKind.wrap_i64]; omega
                  have w3' : IntKind.wrap .i64 ((2 : Int) * (r : Int) + (qa : Int)) = (u : Int) := by rw [IntKind.wrap_i64]; omega
                  have w4' : IntKind.wrap .i64 ((2 : Int) * (cc : Int) + (qb : Int)) = (v : Int) := by rw [IntKind.wrap_i64]; omega
                  have w5' : IntKind.wrap .i64 (qa : Int) = (qa : Int) := by rw [IntKind.wrap_i64]; omega
                  have w6' : IntKind.wrap .i64 (qb : Int) = (qb : Int) := by rw [IntKind.wrap_i64]; omega
                  have w7' : IntKind.wrap .i64 (u : Int) = (u : Int) := by rw [IntKind.wrap_i64]; omega
                  have w8' : IntKind.wrap .i64 (v : Int) = (v : Int) := by rw [IntKind.wrap_i64]; omega
                  have hmb : m ≤ 400000 := by omega
                  clear hu hv hqa hqb HBQ
                  go_wp2_with fail
                  refine wp_region_tail (by kernel_rfl) 22 66 21 61 [40, 41, 42, 43, 44, 45, 46, 47, 48, 49, 50, 51, 52, 53, 54, 55, 56, 57, 58, 59, 60, 61] [[], [], [], [41, 42], [41, 42, 43], [41, 42, 43, 44], [41, 42, 43, 44, 45], [], [47], [41, 42, 43, 44, 45, 46, 47, 48], [], [], [50, 51], [50, 51, 52], [50, 51, 52, 53], [50, 51, 52, 53, 54], [], [56], [50, 51, 52, 53, 54, 55, 56, 57], [41, 42, 43, 44, 45, 46, 47, 48, 49, 50, 51, 52, 53, 54, 55, 56, 57, 58], [41, 42, 43, 44, 45, 46, 47, 48, 49, 50, 51, 52, 53, 54, 55, 56, 57, 58, 59], [40, 41, 42, 43, 44, 45, 46, 47, 48, 49, 50, 51, 52, 53, 54, 55, 56, 57, 58, 59, 60]] [40, 41, 42, 43, 44, 45, 46, 47, 48, 49, 50, 51, 52, 53, 54, 55, 56, 57, 58, 59] [61] [.slice Am m cm, .slice (some ad) n c, .int .i64 (i : Int), .pointer (some (ad.add (i * 2))), .pointer (some (ad.add (i * 2))), .int .i64 (r : Int), .int .i64 (2 * (r : Int)), .int .i64 (q : Int), .int .i64 (qa : Int), .int .i64 (u : Int), .slice (some ad) n c, .int .i64 (i : Int), .pointer (some (ad.add (i * 2))), .pointer (some ⟨(ad.add (i * 2)).block, (ad.add (i * 2)).off + 1, none⟩), .int .i64 (cc : Int), .int .i64 (2 * (cc : Int)), .int .i64 (q : Int), .int .i64 (qb : Int), .int .i64 (v : Int), .agg #[.int .i64 (u : Int), .int .i64 (v : Int)]] [(40, .eq (.slice Am m cm)), (41, .eq (.slice (some ad) n c)), (42, .eq (.int .i64 (i : Int))), (43, .eq (.pointer (some (ad.add (i * 2))))), (44, .eq (.pointer (some (ad.add (i * 2))))), (45, .eq (.int .i64 (r : Int))), (46, .eq (.int .i64 (2 * (r : Int)))), (47, .eq (.int .i64 (q : Int))), (48, .eq (.int .i64 (qa : Int))), (49, .eq (.int .i64 (u : Int))), (50, .eq (.slice (some ad) n c)), (51, .eq (.int .i64 (i : Int))), (52, .eq (.pointer (some (ad.add (i * 2))))), (53, .eq (.pointer (some ⟨(ad.add (i * 2)).block, (ad.add (i * 2)).off + 1, none⟩))), (54, .eq (.int .i64 (cc : Int))), (55, .eq (.int .i64 (2 * (cc : Int)))), (56, .eq (.int .i64 (q : Int))), (57, .eq (.int .i64 (qb : Int))), (58, .eq (.int .i64 (v : Int))), (59, .eq (.agg #[.int .i64 (u : Int), .int .i64 (v : Int)])), (60, SFact.vals 1 ([.int .i64 (u : Int), .int .i64 (v : Int)])), (61, (⟨AppP wr wk.heap.size 71 2 (m + 1) (.slice Am m cm) (pc (kidsC (C.take i) d ++ kidsQ (r, cc) (d.drop (4 * i)) q) ++ [.int .i64 (u : Int), .int .i64 (v : Int)]), AppP.st⟩ : SFact))] rfl (by kernel_rfl) (by kernel_rfl) (by kernel_rfl) rfl rfl _ (fun x => by simp only [fillL, Nat.reduceAdd, Nat.reduceEqDiff, ↓reduceIte]; rfl) ?_ ?_ ?_
                  · refine ⟨?_, ?_, ?_, ?_, ?_, ?_, ?_, ?_, ?_, ?_, ?_, ?_, ?_, ?_, ?_, ?_, ?_, ?_, ?_, ?_, ?_, ?_, trivial⟩
                    · intro fx w' fa hk hd ev  -- 40 = Op.move (Operand.tmp 9)
                      have e9 : fa.tmps[9]?.getD undef = .slice Am m cm := ev.old 9 rfl
                      refine stepF_un rfl (fun K hK => ?_)
                      exact stepF_val _ hK (run_move rfl e9 _) rfl
                    · intro fx w' fa hk hd ev  -- 41 = Op.move (Operand.tmp 7)
                      have e7 : fa.tmps[7]?.getD undef = .slice (some ad) n c := ev.old 7 rfl
                      refine stepF_un rfl (fun K hK => ?_)
                      exact stepF_val _ hK (run_move rfl e7 _) rfl
                    · intro fx w' fa hk hd ev  -- 42 = Op.move (Operand.tmp 10)
                      have e10 : fa.tmps[10]?.getD undef = .int .i64 (i : Int) := ev.old 10 rfl
                      refine stepF_un rfl (fun K hK => ?_)
                      exact stepF_val _ hK (run_move rfl e10 _) rfl
                    · intro fx w' fa hk hd ev  -- 43 = Op.indexAddr 34 (Operand.tmp 41) (Operand.tmp 42)
                      have h41 : fx 41 = .slice (some ad) n c := hd.1
                      have e41 : fa.tmps[41]?.getD undef = .slice (some ad) n c := (ev.new 41 rfl).trans h41
                      have h42 : fx 42 = .int .i64 (i : Int) := hd.2.1
                      have e42 : fa.tmps[42]?.getD undef = .int .i64 (i : Int) := (ev.new 42 rfl).trans h42
                      refine stepF_un rfl (fun K hK => ?_)
                      go_simp
                      exact hK _ _ rfl (Kp.refl _ _)
                    · intro fx w' fa hk hd ev  -- 44 = Op.fieldAddr 71 (Operand.tmp 43) 0
                      have h43 : fx 43 = .pointer (some (ad.add (i * 2))) := hd.2.2.1
                      have e43 : fa.tmps[43]?.getD undef = .pointer (some (ad.add (i * 2))) := (ev.new 43 rfl).trans h43
                      refine stepF_un rfl (fun K hK => ?_)
                      go_simp
                      exact hK _ _ rfl (Kp.refl _ _)
                    · intro fx w' fa hk hd ev  -- 45 = Op.load 3 (Operand.tmp 44)
                      have h44 : fx 44 = .pointer (some (ad.add (i * 2))) := hd.2.2.2.1
                      have e44 : fa.tmps[44]?.getD undef = .pointer (some (ad.add (i * 2))) := (ev.new 44 rfl).trans h44
                      refine stepF_un rfl (fun K hK => ?_)
                      have c1 := hk.cell hcr (by simp)
                      go_simp
                      exact hK _ _ rfl (Kp.refl _ _)
                    · intro fx w' fa hk hd ev  -- 46 = Op.binOp BinOp.mul 3 (Operand.const (Value.int IntKind.i64 2
                      have h45 : fx 45 = .int .i64 (r : Int) := hd.2.2.2.2.1
                      have e45 : fa.tmps[45]?.getD undef = .int .i64 (r : Int) := (ev.new 45 rfl).trans h45
                      refine stepF_un rfl (fun K hK => ?_)
                      go_simp
                      exact hK _ _ rfl (Kp.refl _ _)
                    · intro fx w' fa hk hd ev  -- 47 = Op.move (Operand.tmp 11)
                      have e11 : fa.tmps[11]?.getD undef = .int .i64 (q : Int) := ev.old 11 rfl
                      refine stepF_un rfl (fun K hK => ?_)
                      exact stepF_val _ hK (run_move rfl e11 _) rfl
                    · intro fx w' fa hk hd ev  -- 48 = Op.binOp BinOp.quo 3 (Operand.tmp 47) (Operand.const (Value.
                      have h47 : fx 47 = .int .i64 (q : Int) := hd.1
                      have e47 : fa.tmps[47]?.getD undef = .int .i64 (q : Int) := (ev.new 47 rfl).trans h47
                      refine stepF_un rfl (fun K hK => ?_)
                      go_simp
                      exact hK _ _ rfl (Kp.refl _ _)
                    · intro fx w' fa hk hd ev  -- 49 = Op.binOp BinOp.add 3 (Operand.tmp 46) (Operand.tmp 48) 3
                      have h46 : fx 46 = .int .i64 (2 * (r : Int)) := hd.2.2.2.2.2.1
                      have e46 : fa.tmps[46]?.getD undef = .int .i64 (2 * (r : Int)) := (ev.new 46 rfl).trans h46
                      have h48 : fx 48 = .int .i64 (qa : Int) := hd.2.2.2.2.2.2.2.1
                      have e48 : fa.tmps[48]?.getD undef = .int .i64 (qa : Int) := (ev.new 48 rfl).trans h48
                      refine stepF_un rfl (fun K hK => ?_)
                      go_simp
                      exact hK _ _ rfl (Kp.refl _ _)
                    · intro fx w' fa hk hd ev  -- 50 = Op.move (Operand.tmp 7)
                      have e7 : fa.tmps[7]?.getD undef = .slice (some ad) n c := ev.old 7 rfl
                      refine stepF_un rfl (fun K hK => ?_)
                      exact stepF_val _ hK (run_move rfl e7 _) rfl
                    · intro fx w' fa hk hd ev  -- 51 = Op.move (Operand.tmp 10)
                      have e10 : fa.tmps[10]?.getD undef = .int .i64 (i : Int) := ev.old 10 rfl
                      refine stepF_un rfl (fun K hK => ?_)
                      exact stepF_val _ hK (run_move rfl e10 _) rfl
                    · intro fx w' fa hk hd ev  -- 52 = Op.indexAddr 34 (Operand.tmp 50) (Operand.tmp 51)
                      have h50 : fx 50 = .slice (some ad) n c := hd.1
                      have e50 : fa.tmps[50]?.getD undef = .slice (some ad) n c := (ev.new 50 rfl).trans h50
                      have h51 : fx 51 = .int .i64 (i : Int) := hd.2.1
                      have e51 : fa.tmps[51]?.getD undef = .int .i64 (i : Int) := (ev.new 51 rfl).trans h51
                      refine stepF_un rfl (fun K hK => ?_)
                      go_simp
                      exact hK _ _ rfl (Kp.refl _ _)
                    · intro fx w' fa hk hd ev  -- 53 = Op.fieldAddr 71 (Operand.tmp 52) 1
                      have h52 : fx 52 = .pointer (some (ad.add (i * 2))) := hd.2.2.1
                      have e52 : fa.tmps[52]?.getD undef = .pointer (some (ad.add (i * 2))) := (ev.new 52 rfl).trans h52
                      refine stepF_un rfl (fun K hK => ?_)
                      go_simp
                      exact hK _ _ rfl (Kp.refl _ _)
                    · intro fx w' fa hk hd ev  -- 54 = Op.load 3 (Operand.tmp 53)
                      have h53 : fx 53 = .pointer (some ⟨(ad.add (i * 2)).block, (ad.add (i * 2)).off + 1, none⟩) := hd.2.2.2.1
                      have e53 : fa.tmps[53]?.getD undef = .pointer (some ⟨(ad.add (i * 2)).block, (ad.add (i * 2)).off + 1, none⟩) := (ev.new 53 rfl).trans h53
                      refine stepF_un rfl (fun K hK => ?_)
                      have c1 := hk.cell hcc (by simp)
                      go_simp
                      exact hK _ _ rfl (Kp.refl _ _)
                    · intro fx w' fa hk hd ev  -- 55 = Op.binOp BinOp.mul 3 (Operand.const (Value.int IntKind.i64 2
                      have h54 : fx 54 = .int .i64 (cc : Int) := hd.2.2.2.2.1
                      have e54 : fa.tmps[54]?.getD undef = .int .i64 (cc : Int) := (ev.new 54 rfl).trans h54
                      refine stepF_un rfl (fun K hK => ?_)
                      go_simp
                      exact hK _ _ rfl (Kp.refl _ _)
                    · intro fx w' fa hk hd ev  -- 56 = Op.move (Operand.tmp 11)
                      have e11 : fa.tmps[11]?.getD undef = .int .i64 (q : Int) := ev.old 11 rfl
                      refine stepF_un rfl (fun K hK => ?_)
                      exact stepF_val _ hK (run_move rfl e11 _) rfl
                    · intro fx w' fa hk hd ev  -- 57 = Op.binOp BinOp.rem 3 (Operand.tmp 56) (Operand.const (Value.
                      have h56 : fx 56 = .int .i64 (q : Int) := hd.1
                      have e56 : fa.tmps[56]?.getD undef = .int .i64 (q : Int) := (ev.new 56 rfl).trans h56
                      refine stepF_un rfl (fun K hK => ?_)
                      go_simp
                      exact hK _ _ rfl (Kp.refl _ _)
                    · intro fx w' fa hk hd ev  -- 58 = Op.binOp BinOp.add 3 (Operand.tmp 55) (Operand.tmp 57) 3
                      have h55 : fx 55 = .int .i64 (2 * (cc : Int)) := hd.2.2.2.2.2.1
                      have e55 : fa.tmps[55]?.getD undef = .int .i64 (2 * (cc : Int)) := (ev.new 55 rfl).trans h55
                      have h57 : fx 57 = .int .i64 (qb : Int) := hd.2.2.2.2.2.2.2.1
                      have e57 : fa.tmps[57]?.getD undef = .int .i64 (qb : Int) := (ev.new 57 rfl).trans h57
                      refine stepF_un rfl (fun K hK => ?_)
                      go_simp
                      exact hK _ _ rfl (Kp.refl _ _)
                    · intro fx w' fa hk hd ev  -- 59 = Op.build 71 #[(0, Operand.tmp 49), (1, Operand.tmp 58)]
                      have h49 : fx 49 = .int .i64 (u : Int) := hd.2.2.2.2.2.2.2.2.1
                      have e49 : fa.tmps[49]?.getD undef = .int .i64 (u : Int) := (ev.new 49 rfl).trans h49
                      have h58 : fx 58 = .int .i64 (v : Int) := hd.2.2.2.2.2.2.2.2.2.2.2.2.2.2.2.2.2.1
                      have e58 : fa.tmps[58]?.getD undef = .int .i64 (v : Int) := (ev.new 58 rfl).trans h58
                      refine stepF_un rfl (fun K hK => ?_)
                      go_simp
                      exact hK _ _ rfl (Kp.refl _ _)
                    · intro fx w' fa hk hd ev  -- 60 = Op.buildSlice 34 1 #[(0, Operand.tmp 59)]
                      have h59 : fx 59 = .agg #[.int .i64 (u : Int), .int .i64 (v : Int)] := hd.2.2.2.2.2.2.2.2.2.2.2.2.2.2.2.2.2.2.1
                      have e59 : fa.tmps[59]?.getD undef = .agg #[.int .i64 (u : Int), .int .i64 (v : Int)] := (ev.new 59 rfl).trans h59
                      refine stepF_un rfl (fun K hK => ?_)
                      go_simp
                      exact hK _ _ (vals_new w' ([.int .i64 (u : Int), .int .i64 (v : Int)]) 71 1) ((Kp.refl _ _).alloc _)
                    · exact trivial
                  · intro o1 ho1 fx w' fa hk hd ev K hK  -- 61 = Op.call { callee := Callee.builtin Builtin.append, args := #
                    obtain rfl := Option.some.inj ho1
                    have h40 : fx 40 = .slice Am m cm := hd.1
                    have e40 : fa.tmps[40]?.getD undef = .slice Am m cm := (ev.new 40 rfl).trans h40
                    have h60 : (SFact.vals 1 ([.int .i64 (u : Int), .int .i64 (v : Int)]) : SFact).p (fx 60) w' := hd.2.2.2.2.2.2.2.2.2.2.2.2.2.2.2.2.2.2.2.2.1
                    obtain ⟨A60, c60, v60, hc60, hr60⟩ := h60
                    have e60 : fa.tmps[60]?.getD undef = .slice A60 1 c60 := (ev.new 60 rfl).trans v60
                    exact wp_append_app 40 60 34 rfl wk.heap.size 71 i0 (.agg #[.int .i64 0, .int .i64 0]) 2 16 Try.underlying34 hi' hz0 hz1 hz2 rfl (by decide) (.slice Am m cm) m _ e40 HOM.out hk _ A60 1 c60 _ e60 rfl hr60 (by intro u hu; simp at hu; rcases hu with rfl | rfl <;> rfl) (by unfold maxLen; omega) (by omega) HZM.out hK
                  · intro fx w' hd
                    have hP : (AppP wr wk.heap.size 71 2 (m + 1) (.slice Am m cm) (pc (kidsC (C.take i) d ++ kidsQ (r, cc) (d.drop (4 * i)) q) ++ [.int .i64 (u : Int), .int .i64 (v : Int)])) (fx 61) w' := hd.2.2.2.2.2.2.2.2.2.2.2.2.2.2.2.2.2.2.2.2.1
                    change Oper.wp _ _ _ _ _ _
                    obtain ⟨A7, c7, e61, hown7, hk7, _⟩ := hP
                    rw [← HKQ.out] at hown7
                    have HO7 := Lib.hid hown7
                    have HK7 := Lib.hid (HKM.out.trans' hk7 (fun x hx => .inr (own_ge HOM.out (mem_ownL.1 hx)).1))
                    rw [e61]
                    clear hd hown7 hk7 t1 t2 s1 s2 w1' w2' w3' w4' w5' w6' w7' w8'
                    go_simp
                    go_wp2_with fail
                    exact ⟨⟨q + 1, y + 1, m + 1, c7, A7, by go_num, rfl, by go_num, by omega, by omega, by omega, by omega, HKL, HO7, HK7⟩, by simp [intOf]; omega⟩
            · obtain rfl : q = 4 := by omega
              have HKS := Lib.hid (kidsC_snoc (bs := d) HCI.out)
              go_wp2_with fail
              exact ⟨⟨i + 1, y, m, cm, Am, rfl, rfl, by go_num, by omega, by omega, hyN, by omega, Lib.hid (by rw [HKS.out]; exact HM.out), Lib.hid (by rw [HKS.out]; exact HOM.out), HKM⟩, by simp [intOf]; omega⟩
        · obtain rfl : i = n := by omega
          rw [List.take_of_length_le (Nat.le_of_eq HC.out)] at HM HOM
          have HRN := Lib.hid (show R = growB (h - (k + 1)) (bs.drop y) (kidsC C d) by
            obtain ⟨e, he, he2⟩ := HR1.out
            rw [HR.out, he, he2, growB_next (by rw [HC.out, HDL.out]; omega), HC.out]
            congr 1
            rw [HD.out, List.drop_drop, show a + 4 * i = y by omega])
          have HBN := Lib.hid (kids_lt (bs := d) HB.out)
          go_wp2_with fail
          exact ⟨⟨k + 1, y, m, cm, Am, kidsC C d, rfl, rfl, by go_num, by omega, hyN, by omega, HRN, HM, HBN, Lib.hid (own_base HOM.out HWK.out), Lib.hid (HK.out.trans HKM.out)⟩, by simp [intOf]; omega⟩
    · obtain rfl : k = h := by omega
      have HRN := Lib.hid (show growB k bs [(0, 0)] = some C by rw [HRR.out, HR.out, Nat.sub_self]; rfl)
      go_wp2_with fail
      go_ret2
      exact ⟨HK.out, .inr ⟨C, Ao, n, c, HRN.out, HC.out, hn, rfl, own_rd HO.out, HB.out⟩⟩

/-- What the document's Read gives. -/
def RReadP (b : List Nat) (w : World) (e : Ending) (w' : World) : Prop := Kp [] w w' ∧ ((readT b = none ∧ e = .returned (.tuple #[.pointer none, .int .i64 0, .int .i64 4])) ∨
  ∃ (h : Nat) (C : List (Nat × Nat)) (n pr : Nat) (L : List (Nat × Nat)), readT b = some (h, C, n) ∧ e = .returned (.tuple #[.pointer (some ⟨pr, 0, none⟩), .int .i64 (n : Int), .int .i64 0]) ∧ RTree w' w.heap.size pr h L (levL h [L]) ∧ L.Nodup ∧ ∀ x, x ∈ L ↔ x ∈ C)
theorem many_sum (b1 b2 b3 b4 : Nat) : (b1 : Int) * 16777216 + (b2 : Int) * 65536 + (b3 : Int) * 256 + (b4 : Int) = ((manyB b1 b2 b3 b4 : Nat) : Int) := by
  unfold manyB
  omega
theorem manyB_lt {b1 b2 b3 b4 : Nat} (h1 : b1 < 256) (h2 : b2 < 256) (h3 : b3 < 256) (h4 : b4 < 256) : manyB b1 b2 b3 b4 < 4294967296 := by
  unfold manyB
  omega
theorem readT_short {b : List Nat} (h : b.length < 5) : readT b = none := by
  match b, h with
  | b0 :: b1 :: b2 :: b3 :: b4 :: rest, h => simp at h; omega
  | [_, _, _, _], _ => rfl
  | [_, _, _], _ => rfl
  | [_, _], _ => rfl
  | [_], _ => rfl
  | [], _ => rfl
theorem five_of {b : List Nat} (h : ¬ b.length < 5) : ∃ b0 b1 b2 b3 b4 rest, b = b0 :: b1 :: b2 :: b3 :: b4 :: rest := by
  match b, h with
  | b0 :: b1 :: b2 :: b3 :: b4 :: rest, _ => exact ⟨b0, b1, b2, b3, b4, rest, rfl⟩
  | [_, _, _, _], h => simp at h
  | [_, _, _], h => simp at h
  | [_, _], h => simp at h
  | [_], h => simp at h
  | [], h => simp at h
theorem rpairs_none (A : Option Addr) (N c B h : Nat) (bs : List Bool) (w : World) (hx : Rd w B A (bs.map .bool)) (hN : bs.length = N) (hNb : N ≤ 100000) (h1 : 1 ≤ h) (h17 : h ≤ 17) (hg : growB h bs [(0, 0)] = none) :
    Calls Try.prog 52 #[.int .i64 (h : Int), .slice A N c] w fun e w' => e = .returned (.tuple #[.slice none 0 0, .bool false]) ∧ Kp [] w w' := by
  refine (rpairs_any A N c B h bs w hx hN hNb h1 h17).mono ?_
  rintro e w' ⟨hk, ⟨_, he⟩ | ⟨C, _, _, _, hC, _⟩⟩
  · exact ⟨he, hk⟩
  · rw [hg] at hC; cases hC
theorem rpairs_some (A : Option Addr) (N c B h : Nat) (bs : List Bool) (C : List (Nat × Nat)) (w : World) (hx : Rd w B A (bs.map .bool)) (hN : bs.length = N) (hNb : N ≤ 100000) (h1 : 1 ≤ h) (h17 : h ≤ 17) (hg : growB h bs [(0, 0)] = some C) :
    Calls Try.prog 52 #[.int .i64 (h : Int), .slice A N c] w fun e w' => ∃ (A : Option Addr) (n c : Nat), C.length = n ∧ n ≤ N + 1 ∧ e = .returned (.tuple #[.slice A n c, .bool true]) ∧ Rd w' w'.heap.size A (pc C) ∧ (∀ p ∈ C, p.1 < 2 ^ h ∧ p.2 < 2 ^ h) ∧ Kp [] w w' := by
  refine (rpairs_any A N c B h bs w hx hN hNb h1 h17).mono ?_
  rintro e w' ⟨hk, ⟨hn, _⟩ | ⟨C', A', n, c', hC, h2, h3, h4, h5, h6⟩⟩
  · rw [hg] at hn; cases hn
  · rw [hg] at hC; injection hC with hC; subst hC
    exact ⟨A', n, c', h2, h3, h4, h5, h6, hk⟩
set_option maxRecDepth 100000 in
set_option maxHeartbeats 4000000 in
theorem rread_any (A : Option Addr) (L c B : Nat) (b : List Nat) (w : World) (hx : Rd w B A ((intsN b).map (.int .u8))) (hn : b.length = L) (hb : L ≤ 150) (hc : L ≤ c) (hs : ∀ y ∈ b, y < 256) :
    Calls Try.prog 24 #[.slice A L c] w (RReadP b w) := by
  have HX := Lib.hid hx; clear hx
  have HN := Lib.hid hn; clear hn
  have HS := Lib.hid hs; clear hs
  go_enter Try.func24, Try.ntmps24
  by_cases h5 : L < 5
  · have HR := Lib.hid (readT_short (b := b) (by rw [HN.out]; exact h5))
    have hd5 : (L : Int) < 5 := by omega
    go_wp2_with fail
    go_ret3
    exact ⟨Kp.refl [] w, .inl ⟨HR.out, rfl⟩⟩
  have hd5 : ¬ (L : Int) < 5 := by omega
  obtain ⟨b0, b1, b2, b3, b4, rest, rfl⟩ := five_of (b := b) (by rw [HN.out]; exact h5)
  obtain ⟨ad, rfl, hadB, hq0⟩ := HX.out 0 (.int .u8 (b0 : Int)) rfl
  have hadd : ad.add 0 = ad := by rcases ad with ⟨a1, a2, a3⟩; rfl
  rw [hadd] at hq0
  have hy0 : b0 < 256 := HS.out b0 (by simp)
  have hI0 : (0 : Int) < (L : Int) := by omega
  by_cases hlo : b0 < 1
  · have HR := Lib.hid (show readT (b0 :: b1 :: b2 :: b3 :: b4 :: rest) = none by unfold readT readC; exact if_pos (by omega))
    have hloI : (b0 : Int) < 1 := by omega
    go_wp2_with fail
    go_ret3
    exact ⟨Kp.refl [] w, .inl ⟨HR.out, rfl⟩⟩
  have hloI : ¬ (b0 : Int) < 1 := by omega
  by_cases hhi : 17 < b0
  · have HR := Lib.hid (show readT (b0 :: b1 :: b2 :: b3 :: b4 :: rest) = none by unfold readT readC; exact if_pos (by omega))
    have hhiI : 17 < (b0 : Int) := by omega
    go_wp2_with fail
    go_ret3
    exact ⟨Kp.refl [] w, .inl ⟨HR.out, rfl⟩⟩
  have hhiI : ¬ 17 < (b0 : Int) := by omega
  have hok : 1 ≤ b0 ∧ b0 ≤ 17 := ⟨by omega, by omega⟩
  have hy1 : b1 < 256 := HS.out b1 (by simp)
  have hy2 : b2 < 256 := HS.out b2 (by simp)
  have hy3 : b3 < 256 := HS.out b3 (by simp)
  have hy4 : b4 < 256 := HS.out b4 (by simp)
  obtain ⟨m, hm⟩ : ∃ m, m = manyB b1 b2 b3 b4 := ⟨_, rfl⟩
  have hmb : m < 4294967296 := by rw [hm]; exact manyB_lt hy1 hy2 hy3 hy4
  have hms := many_sum b1 b2 b3 b4
  rw [← hm] at hms
  obtain ⟨k, hk⟩ : ∃ k, k = (m + 7) / 8 := ⟨_, rfl⟩
  have htd : Int.tdiv ((m : Int) + 7) 8 = (k : Int) := by rw [hk]; rfl
  have hkb : k ≤ 536870913 := k_bound hk hmb
  obtain ⟨x, hx⟩ : ∃ x, x = rest.take k := ⟨_, rfl⟩
  have HRT := Lib.hid (show readT (b0 :: b1 :: b2 :: b3 :: b4 :: rest) = if L < 5 + k then none else if readE (m : Int) x ≠ 0 then none else match growB b0 (bitsOf m (packN 8 x)) [(0, 0)] with
      | none => none
      | some C => if treeB b0 (levL b0 [C]) = intsN ((b0 :: b1 :: b2 :: b3 :: b4 :: rest).take (5 + k)) then some (b0, C, 5 + k) else none by
    show readC b0 (manyB b1 b2 b3 b4) (rest.length + 5) (b0 :: b1 :: b2 :: b3 :: b4 :: rest) rest = _
    rw [← hm, show rest.length + 5 = L from HN.out]
    unfold readC
    rw [if_neg (not_not_intro hok), ← hk, ← hx]
    rfl)
  obtain ⟨ad1, e1, _, hq1⟩ := HX.out 1 (.int .u8 (b1 : Int)) rfl
  injection e1 with e1; subst e1
  obtain ⟨ad1, e1, _, hq2⟩ := HX.out 2 (.int .u8 (b2 : Int)) rfl
  injection e1 with e1; subst e1
  obtain ⟨ad1, e1, _, hq3⟩ := HX.out 3 (.int .u8 (b3 : Int)) rfl
  injection e1 with e1; subst e1
  obtain ⟨ad1, e1, _, hq4⟩ := HX.out 4 (.int .u8 (b4 : Int)) rfl
  injection e1 with e1; subst e1
  rw [addr_fld ad (n := 1) (by omega)] at hq1
  rw [addr_fld ad (n := 2) (by omega)] at hq2
  rw [addr_fld ad (n := 3) (by omega)] at hq3
  rw [addr_fld ad (n := 4) (by omega)] at hq4
  have HMM := Lib.hid hm
  have HKM := Lib.hid hk
  have HXX := Lib.hid hx
  have hL0 : 0 < L := by omega
  have hI1 : (1 : Int) < (L : Int) := by omega
  have hI2 : (2 : Int) < (L : Int) := by omega
  have hI3 : (3 : Int) < (L : Int) := by omega
  have hI4 : (4 : Int) < (L : Int) := by omega
  have v0 : IntKind.wrap .i64 (b0 : Int) = (b0 : Int) := by rw [IntKind.wrap_i64]; omega
  have v1 : IntKind.wrap .i64 (b1 : Int) = (b1 : Int) := by rw [IntKind.wrap_i64]; omega
  have v2 : IntKind.wrap .i64 (b2 : Int) = (b2 : Int) := by rw [IntKind.wrap_i64]; omega
  have v3 : IntKind.wrap .i64 (b3 : Int) = (b3 : Int) := by rw [IntKind.wrap_i64]; omega
  have v4 : IntKind.wrap .i64 (b4 : Int) = (b4 : Int) := by rw [IntKind.wrap_i64]; omega
  have s1 : IntKind.wrap .i64 ((b1 : Int) * 16777216) = (b1 : Int) * 16777216 := by rw [IntKind.wrap_i64]; omega
  have s2 : IntKind.wrap .i64 ((b2 : Int) * 65536) = (b2 : Int) * 65536 := by rw [IntKind.wrap_i64]; omega
  have s3 : IntKind.wrap .i64 ((b3 : Int) * 256) = (b3 : Int) * 256 := by rw [IntKind.wrap_i64]; omega
  have s4 : IntKind.wrap .i64 ((b1 : Int) * 16777216 + (b2 : Int) * 65536) = (b1 : Int) * 16777216 + (b2 : Int) * 65536 := by rw [IntKind.wrap_i64]; omega
  have s5 : IntKind.wrap .i64 ((b1 : Int) * 16777216 + (b2 : Int) * 65536 + (b3 : Int) * 256) = (b1 : Int) * 16777216 + (b2 : Int) * 65536 + (b3 : Int) * 256 := by rw [IntKind.wrap_i64]; omega
  have s6 : IntKind.wrap .i64 ((b1 : Int) * 16777216 + (b2 : Int) * 65536 + (b3 : Int) * 256 + (b4 : Int)) = (m : Int) := by rw [hms, IntKind.wrap_i64]; omega
  clear hm hk hx hlo hhi hms
  go_wp2_with fail
  refine wp_region_facts (by kernel_rfl) 137 [5, 28, 29, 30, 31, 32, 33, 34, 35, 36, 37, 38, 39, 40, 41, 42, 43, 44, 45, 46, 47, 48, 49] [[], [28], [29], [30], [31], [], [33], [34], [35], [36], [32, 37], [], [39], [40], [41], [42], [38, 43], [], [45], [46], [47], [44, 48], [49]] (by kernel_rfl) (by kernel_rfl) rfl (factOf [(28, .eq (.slice (some ad) L c)), (29, .eq (.pointer (some ⟨ad.block, ad.off + 1, none⟩))), (30, .eq (.int .u8 (b1 : Int))), (31, .eq (.int .i64 (b1 : Int))), (32, .eq (.int .i64 ((b1 : Int) * 16777216))), (33, .eq (.slice (some ad) L c)), (34, .eq (.pointer (some ⟨ad.block, ad.off + 2, none⟩))), (35, .eq (.int .u8 (b2 : Int))), (36, .eq (.int .i64 (b2 : Int))), (37, .eq (.int .i64 ((b2 : Int) * 65536))), (38, .eq (.int .i64 ((b1 : Int) * 16777216 + (b2 : Int) * 65536))), (39, .eq (.slice (some ad) L c)), (40, .eq (.pointer (some ⟨ad.block, ad.off + 3, none⟩))), (41, .eq (.int .u8 (b3 : Int))), (42, .eq (.int .i64 (b3 : Int))), (43, .eq (.int .i64 ((b3 : Int) * 256))), (44, .eq (.int .i64 ((b1 : Int) * 16777216 + (b2 : Int) * 65536 + (b3 : Int) * 256))), (45, .eq (.slice (some ad) L c)), (46, .eq (.pointer (some ⟨ad.block, ad.off + 4, none⟩))), (47, .eq (.int .u8 (b4 : Int))), (48, .eq (.int .i64 (b4 : Int))), (49, .eq (.int .i64 (m : Int))), (5, .eq (.int .i64 (m : Int)))]) (factOf_stable _) _ (fun x => by simp only [fillL, Nat.reduceAdd, Nat.reduceEqDiff, ↓reduceIte]; rfl) ?_ ?_
  · refine ⟨?_, ?_, ?_, ?_, ?_, ?_, ?_, ?_, ?_, ?_, ?_, ?_, ?_, ?_, ?_, ?_, ?_, ?_, ?_, ?_, ?_, ?_, ?_, trivial⟩
    · intro fx w' fa hk hd ev  -- 28 = Op.move (Operand.tmp 0)
      have e0 : fa.tmps[0]?.getD undef = .slice (some ad) L c := ev.old 0 rfl
      refine stepF_un rfl (fun K hK => ?_)
      exact stepF_val _ hK (run_move rfl e0 _) rfl
    · intro fx w' fa hk hd ev  -- 29 = Op.indexAddr 38 (Operand.tmp 28) (Operand.const (Value.int I
      have h28 : fx 28 = .slice (some ad) L c := hd.1
      have e28 : fa.tmps[28]?.getD undef = .slice (some ad) L c := (ev.new 28 rfl).trans h28
      refine stepF_un rfl (fun K hK => ?_)
      go_simp
      exact hK _ _ rfl (Kp.refl _ _)
    · intro fx w' fa hk hd ev  -- 30 = Op.load 5 (Operand.tmp 29)
      have h29 : fx 29 = .pointer (some ⟨ad.block, ad.off + 1, none⟩) := hd.1
      have e29 : fa.tmps[29]?.getD undef = .pointer (some ⟨ad.block, ad.off + 1, none⟩) := (ev.new 29 rfl).trans h29
      refine stepF_un rfl (fun K hK => ?_)
      have c1 := hk.cell hq1 (by simp)
      go_simp
      exact hK _ _ rfl (Kp.refl _ _)
    · intro fx w' fa hk hd ev  -- 31 = Op.convert 5 3 (Operand.tmp 30)
      have h30 : fx 30 = .int .u8 (b1 : Int) := hd.1
      have e30 : fa.tmps[30]?.getD undef = .int .u8 (b1 : Int) := (ev.new 30 rfl).trans h30
      refine stepF_un rfl (fun K hK => ?_)
      go_simp
      exact hK _ _ rfl (Kp.refl _ _)
    · intro fx w' fa hk hd ev  -- 32 = Op.binOp BinOp.shl 3 (Operand.tmp 31) (Operand.const (Value.
      have h31 : fx 31 = .int .i64 (b1 : Int) := hd.1
      have e31 : fa.tmps[31]?.getD undef = .int .i64 (b1 : Int) := (ev.new 31 rfl).trans h31
      refine stepF_un rfl (fun K hK => ?_)
      go_simp
      exact hK _ _ rfl (Kp.refl _ _)
    · intro fx w' fa hk hd ev  -- 33 = Op.move (Operand.tmp 0)
      have e0 : fa.tmps[0]?.getD undef = .slice (some ad) L c := ev.old 0 rfl
      refine stepF_un rfl (fun K hK => ?_)
      exact stepF_val _ hK (run_move rfl e0 _) rfl
    · intro fx w' fa hk hd ev  -- 34 = Op.indexAddr 38 (Operand.tmp 33) (Operand.const (Value.int I
      have h33 : fx 33 = .slice (some ad) L c := hd.1
      have e33 : fa.tmps[33]?.getD undef = .slice (some ad) L c := (ev.new 33 rfl).trans h33
      refine stepF_un rfl (fun K hK => ?_)
      go_simp
      exact hK _ _ rfl (Kp.refl _ _)
    · intro fx w' fa hk hd ev  -- 35 = Op.load 5 (Operand.tmp 34)
      have h34 : fx 34 = .pointer (some ⟨ad.block, ad.off + 2, none⟩) := hd.1
      have e34 : fa.tmps[34]?.getD undef = .pointer (some ⟨ad.block, ad.off + 2, none⟩) := (ev.new 34 rfl).trans h34
      refine stepF_un rfl (fun K hK => ?_)
      have c1 := hk.cell hq2 (by simp)
      go_simp
      exact hK _ _ rfl (Kp.refl _ _)
    · intro fx w' fa hk hd ev  -- 36 = Op.convert 5 3 (Operand.tmp 35)
      have h35 : fx 35 = .int .u8 (b2 : Int) := hd.1
      have e35 : fa.tmps[35]?.getD undef = .int .u8 (b2 : Int) := (ev.new 35 rfl).trans h35
      refine stepF_un rfl (fun K hK => ?_)
      go_simp
      exact hK _ _ rfl (Kp.refl _ _)
    · intro fx w' fa hk hd ev  -- 37 = Op.binOp BinOp.shl 3 (Operand.tmp 36) (Operand.const (Value.
      have h36 : fx 36 = .int .i64 (b2 : Int) := hd.1
      have e36 : fa.tmps[36]?.getD undef = .int .i64 (b2 : Int) := (ev.new 36 rfl).trans h36
      refine stepF_un rfl (fun K hK => ?_)
      go_simp
      exact hK _ _ rfl (Kp.refl _ _)
    · intro fx w' fa hk hd ev  -- 38 = Op.binOp BinOp.add 3 (Operand.tmp 32) (Operand.tmp 37) 3
      have h32 : fx 32 = .int .i64 ((b1 : Int) * 16777216) := hd.1
      have e32 : fa.tmps[32]?.getD undef = .int .i64 ((b1 : Int) * 16777216) := (ev.new 32 rfl).trans h32
      have h37 : fx 37 = .int .i64 ((b2 : Int) * 65536) := hd.2.1
      have e37 : fa.tmps[37]?.getD undef = .int .i64 ((b2 : Int) * 65536) := (ev.new 37 rfl).trans h37
      refine stepF_un rfl (fun K hK => ?_)
      go_simp
      exact hK _ _ rfl (Kp.refl _ _)
    · intro fx w' fa hk hd ev  -- 39 = Op.move (Operand.tmp 0)
      have e0 : fa.tmps[0]?.getD undef = .slice (some ad) L c := ev.old 0 rfl
      refine stepF_un rfl (fun K hK => ?_)
      exact stepF_val _ hK (run_move rfl e0 _) rfl
    · intro fx w' fa hk hd ev  -- 40 = Op.indexAddr 38 (Operand.tmp 39) (Operand.const (Value.int I
      have h39 : fx 39 = .slice (some ad) L c := hd.1
      have e39 : fa.tmps[39]?.getD undef = .slice (some ad) L c := (ev.new 39 rfl).trans h39
      refine stepF_un rfl (fun K hK => ?_)
      go_simp
      exact hK _ _ rfl (Kp.refl _ _)
    · intro fx w' fa hk hd ev  -- 41 = Op.load 5 (Operand.tmp 40)
      have h40 : fx 40 = .pointer (some ⟨ad.block, ad.off + 3, none⟩) := hd.1
      have e40 : fa.tmps[40]?.getD undef = .pointer (some ⟨ad.block, ad.off + 3, none⟩) := (ev.new 40 rfl).trans h40
      refine stepF_un rfl (fun K hK => ?_)
      have c1 := hk.cell hq3 (by simp)
      go_simp
      exact hK _ _ rfl (Kp.refl _ _)
    · intro fx w' fa hk hd ev  -- 42 = Op.convert 5 3 (Operand.tmp 41)
      have h41 : fx 41 = .int .u8 (b3 : Int) := hd.1
      have e41 : fa.tmps[41]?.getD undef = .int .u8 (b3 : Int) := (ev.new 41 rfl).trans h41
      refine stepF_un rfl (fun K hK => ?_)
      go_simp
      exact hK _ _ rfl (Kp.refl _ _)
    · intro fx w' fa hk hd ev  -- 43 = Op.binOp BinOp.shl 3 (Operand.tmp 42) (Operand.const (Value.
      have h42 : fx 42 = .int .i64 (b3 : Int) := hd.1
      have e42 : fa.tmps[42]?.getD undef = .int .i64 (b3 : Int) := (ev.new 42 rfl).trans h42
      refine stepF_un rfl (fun K hK => ?_)
      go_simp
      exact hK _ _ rfl (Kp.refl _ _)
    · intro fx w' fa hk hd ev  -- 44 = Op.binOp BinOp.add 3 (Operand.tmp 38) (Operand.tmp 43) 3
      have h38 : fx 38 = .int .i64 ((b1 : Int) * 16777216 + (b2 : Int) * 65536) := hd.1
      have e38 : fa.tmps[38]?.getD undef = .int .i64 ((b1 : Int) * 16777216 + (b2 : Int) * 65536) := (ev.new 38 rfl).trans h38
      have h43 : fx 43 = .int .i64 ((b3 : Int) * 256) := hd.2.1
      have e43 : fa.tmps[43]?.getD undef = .int .i64 ((b3 : Int) * 256) := (ev.new 43 rfl).trans h43
      refine stepF_un rfl (fun K hK => ?_)
      go_simp
      exact hK _ _ rfl (Kp.refl _ _)
    · intro fx w' fa hk hd ev  -- 45 = Op.move (Operand.tmp 0)
      have e0 : fa.tmps[0]?.getD undef = .slice (some ad) L c := ev.old 0 rfl
      refine stepF_un rfl (fun K hK => ?_)
      exact stepF_val _ hK (run_move rfl e0 _) rfl
    · intro fx w' fa hk hd ev  -- 46 = Op.indexAddr 38 (Operand.tmp 45) (Operand.const (Value.int I
      have h45 : fx 45 = .slice (some ad) L c := hd.1
      have e45 : fa.tmps[45]?.getD undef = .slice (some ad) L c := (ev.new 45 rfl).trans h45
      refine stepF_un rfl (fun K hK => ?_)
      go_simp
      exact hK _ _ rfl (Kp.refl _ _)
    · intro fx w' fa hk hd ev  -- 47 = Op.load 5 (Operand.tmp 46)
      have h46 : fx 46 = .pointer (some ⟨ad.block, ad.off + 4, none⟩) := hd.1
      have e46 : fa.tmps[46]?.getD undef = .pointer (some ⟨ad.block, ad.off + 4, none⟩) := (ev.new 46 rfl).trans h46
      refine stepF_un rfl (fun K hK => ?_)
      have c1 := hk.cell hq4 (by simp)
      go_simp
      exact hK _ _ rfl (Kp.refl _ _)
    · intro fx w' fa hk hd ev  -- 48 = Op.convert 5 3 (Operand.tmp 47)
      have h47 : fx 47 = .int .u8 (b4 : Int) := hd.1
      have e47 : fa.tmps[47]?.getD undef = .int .u8 (b4 : Int) := (ev.new 47 rfl).trans h47
      refine stepF_un rfl (fun K hK => ?_)
      go_simp
      exact hK _ _ rfl (Kp.refl _ _)
    · intro fx w' fa hk hd ev  -- 49 = Op.binOp BinOp.add 3 (Operand.tmp 44) (Operand.tmp 48) 3
      have h44 : fx 44 = .int .i64 ((b1 : Int) * 16777216 + (b2 : Int) * 65536 + (b3 : Int) * 256) := hd.1
      have e44 : fa.tmps[44]?.getD undef = .int .i64 ((b1 : Int) * 16777216 + (b2 : Int) * 65536 + (b3 : Int) * 256) := (ev.new 44 rfl).trans h44
      have h48 : fx 48 = .int .i64 (b4 : Int) := hd.2.1
      have e48 : fa.tmps[48]?.getD undef = .int .i64 (b4 : Int) := (ev.new 48 rfl).trans h48
      refine stepF_un rfl (fun K hK => ?_)
      go_simp
      exact hK _ _ rfl (Kp.refl _ _)
    · intro fx w' fa hk hd ev  -- 5 = Op.assign (Operand.tmp 49)
      have h49 : fx 49 = .int .i64 (m : Int) := hd.1
      have e49 : fa.tmps[49]?.getD undef = .int .i64 (m : Int) := (ev.new 49 rfl).trans h49
      refine stepF_un rfl (fun K hK => ?_)
      exact stepF_val _ hK (run_assign rfl e49 _) rfl
  · intro fx w' hk hd
    have h5 : fx 5 = .int .i64 (m : Int) := hd.1
    rw [h5]
    clear v1 v2 v3 v4 s1 s2 s3 s4 s5 s6 hq1 hq2 hq3 hq4
    have HK1 := Lib.hid hk
    have hr1 := hk.cell hq0 (by simp)
    have HX1 := Lib.hid (HX.out.kp0 hk)
    obtain ⟨w1, hw1⟩ : ∃ w1, w1 = w' := ⟨_, rfl⟩
    rw [← hw1] at HK1 hr1 HX1 ⊢
    clear hd hk hw1 hq0 HX hy1 hy2 hy3 hy4
    by_cases hbig : L < 5 + k
    · have HR2 := Lib.hid (show readT (b0 :: b1 :: b2 :: b3 :: b4 :: rest) = none by rw [HRT.out, if_pos hbig])
      have hbig' : (L : Int) < 5 + (k : Int) := by omega
      by_cases hm24 : (16777216 : Int) < (m : Int)
      · go_wp2_with fail
        go_ret3
        exact ⟨HK1.out, .inl ⟨HR2.out, rfl⟩⟩
      · go_wp2_with fail
        go_ret3
        exact ⟨HK1.out, .inl ⟨HR2.out, rfl⟩⟩
    have hbig' : ¬ ((L : Int) < 5 + (k : Int)) := by omega
    have HR2 := Lib.hid (show readT (b0 :: b1 :: b2 :: b3 :: b4 :: rest) = if readE (m : Int) x ≠ 0 then none else match growB b0 (bitsOf m (packN 8 x)) [(0, 0)] with
        | none => none
        | some C => if treeB b0 (levL b0 [C]) = intsN ((b0 :: b1 :: b2 :: b3 :: b4 :: rest).take (5 + k)) then some (b0, C, 5 + k) else none by rw [HRT.out, if_neg hbig])
    have hm16 : m ≤ 1160 := by have := HKM.out; omega
    have hm24 : ¬ (16777216 : Int) < (m : Int) := by omega
    have hbb : (b0 :: b1 :: b2 :: b3 :: b4 :: rest).length = rest.length + 5 := rfl
    have hxl : x.length = k := by
      have := HN.out
      rw [HXX.out, List.length_take]
      rw [hbb] at this
      omega
    have HXR := Lib.hid (show Rd w1 B (some ⟨ad.block, ad.off + 5, none⟩) ((intsN x).map (.int .u8)) by
      have h1 := (HX1.out.drop 5).take k
      rw [addr_fld ad (by omega)] at h1
      have e : (((intsN (b0 :: b1 :: b2 :: b3 :: b4 :: rest)).map (Value.int .u8)).drop 5).take k = (intsN x).map (.int .u8) := by
        rw [HXX.out]
        unfold intsN
        simp [List.map_take]
      rw [e] at h1
      exact h1)
    have HXS := Lib.hid (show ∀ y ∈ x, y < 2 ^ 8 from fun y hy => by
      rw [HXX.out] at hy
      exact HS.out y (by
        have := List.mem_of_mem_take hy
        simp [this]))
    have HXL := Lib.hid hxl
    have hk5 : 5 + k ≤ L := by omega
    have hk5c : 5 + k ≤ c := by omega
    have h5c : 5 ≤ c := by omega
    obtain ⟨z, hz5⟩ : ∃ z, z = 5 + k := ⟨_, rfl⟩
    have HZ := Lib.hid hz5
    have hzI : 5 + (k : Int) = (z : Int) := by omega
    have hzk : z - 5 = k := by omega
    have hzL : z ≤ L := by omega
    have hzc : z ≤ c := by omega
    have hz5' : 5 ≤ z := by omega
    have hzc' : (z : Int) ≤ (c : Int) := by omega
    have hz0 : (0 : Int) ≤ (z : Int) := by omega
    have hz5I : (5 : Int) ≤ (z : Int) := by omega
    have hbig2 : ¬ ((L : Int) < (z : Int)) := by omega
    clear hz5 HRT hbig hbb hxl
    by_cases hc5 : c = 5
    · have hk0 : k = 0 := by omega
      have hm0 : m = 0 := by have := HKM.out; omega
      have HR3 := Lib.hid (show readT (b0 :: b1 :: b2 :: b3 :: b4 :: rest) = none by
        rw [HR2.out, hm0, HXX.out, hk0, List.take_zero]
        rw [if_neg (by decide)]
        obtain ⟨a, ha⟩ : ∃ a, b0 = a + 1 := ⟨b0 - 1, by omega⟩
        rw [ha]
        rfl)
      subst hc5
      subst hk0
      subst hm0
      have hL5 : L = 5 := by omega
      clear HR2 HXX HKM HMM hzI htd
      go_wp2_with fail
      refine (rbread_any ((0 : Nat) : Int) _ 0 _ B [] _ (Rd.nil _ _ _) rfl (by omega) (by simp)).mono ?_
      rintro e w2 ⟨hk2, hcase⟩
      have hr0 := hk2.cell hr1 (by simp)
      have HK2 := Lib.hid (HK1.out.trans hk2)
      rw [show readE ((0 : Nat) : Int) [] = 0 from rfl] at hcase
      clear hk2 hr1
      rcases hcase with ⟨hEn, _⟩ | ⟨_, S, q, rfl, hv, hS⟩
      · exact absurd rfl hEn
      · obtain ⟨Av, cv, hv1, hv2, _⟩ := hv
        have hc0 : w2.cell? ⟨q, 0, none⟩ = some (.slice Av 0 cv) := by rw [hv1.cell]; rfl
        have HRV := Lib.hid (own_rd hv2)
        obtain ⟨a, ha⟩ : ∃ a, b0 = a + 1 := ⟨b0 - 1, by omega⟩
        have HGN := Lib.hid (show growB b0 [] [(0, 0)] = none by rw [ha]; rfl)
        have HBL := Lib.hid (show ([] : List Bool).length = 0 from rfl)
        have HRZ := HR3
        clear hv1 hv2 hS ha
        go_wp2_with fail
        go_region_held3 (fun w' => w'.cell? ad = some (.int .u8 (b0 : Int)) ∧ w'.cell? ⟨q, 0, none⟩ = some (.slice Av 0 cv)) (go_keep)
          ((go_at_call 52
            refine (rpairs_none Av 0 cv _ b0 ([] : List Bool) _ (HRV.out.kp0 ((Kp.refl [] w2).drew)) HBL.out (by omega) hok.1 hok.2 HGN.out).mono ?_
            rintro e w3 ⟨rfl, hk3'⟩
            have hk3 : Kp [] w2 w3 := ((Kp.refl [] w2).drew).trans hk3'
            have hr3 := hk3.cell hr0 (by simp)
            have hc3 := hk3.cell hc0 (by simp)
            have HK3 := Lib.hid (HK2.out.trans hk3)
            clear hk3' hk3))
        go_wp2_with fail
        go_ret3
        exact ⟨HK3.out, .inl ⟨HRZ.out, rfl⟩⟩
    have h5lt : 5 < c := by omega
    have h5I : (5 : Int) < (c : Int) := by omega
    go_wp2_with fail
    refine (rbread_any (m : Int) (some ⟨ad.block, ad.off + 5, none⟩) k (c - 5) B x _ HXR.out HXL.out (by omega) HXS.out).mono ?_
    rintro e w2 ⟨hk2, hcase⟩
    have hr0 := hk2.cell hr1 (by simp)
    have HK2 := Lib.hid (HK1.out.trans hk2)
    have HX2 := Lib.hid (HX1.out.kp0 hk2)
    obtain ⟨E, hE⟩ : ∃ E, E = readE (m : Int) x := ⟨_, rfl⟩
    rw [← hE] at hcase HR2
    clear hk2 hr1 hE HX1
    rcases hcase with ⟨hEn, rfl⟩ | ⟨hE0, S, q, rfl, hv, hS⟩
    · have hEb : (E != 0) = true := by simpa using hEn
      have HR3 := Lib.hid (show readT (b0 :: b1 :: b2 :: b3 :: b4 :: rest) = none by rw [HR2.out, if_pos hEn])
      clear hEn
      go_wp2_with fail
      go_ret3
      exact ⟨HK2.out, .inl ⟨HR3.out, rfl⟩⟩
    · subst hE0
      obtain ⟨bs, hbs⟩ : ∃ bs, bs = bitsOf m (packN 8 x) := ⟨_, rfl⟩
      rw [Int.toNat_natCast, ← hbs] at hv
      have hbl : bs.length = m := by rw [hbs, bitsOf_len]
      have HR3 := Lib.hid (show readT (b0 :: b1 :: b2 :: b3 :: b4 :: rest) = match growB b0 bs [(0, 0)] with
        | none => none
        | some C => if treeB b0 (levL b0 [C]) = intsN ((b0 :: b1 :: b2 :: b3 :: b4 :: rest).take (5 + k)) then some (b0, C, 5 + k) else none by rw [HR2.out, if_neg (by simp), hbs])
      obtain ⟨Av, cv, hv1, hv2, _⟩ := hv
      rw [hbl] at hv1 hv2
      have hc0 : w2.cell? ⟨q, 0, none⟩ = some (.slice Av m cv) := by rw [hv1.cell]; rfl
      have HRV := Lib.hid (own_rd hv2)
      have HBL := Lib.hid hbl
      clear hv1 hv2 hS hbs hbl HR2
      rcases hg : growB b0 bs [(0, 0)] with _ | C
      · have HGN := Lib.hid hg
        have HR4 := Lib.hid (show readT (b0 :: b1 :: b2 :: b3 :: b4 :: rest) = none by rw [HR3.out, hg])
        have HRZ := HR4
        clear hg
        go_wp2_with fail
        go_region_held3 (fun w' => w'.cell? ad = some (.int .u8 (b0 : Int)) ∧ w'.cell? ⟨q, 0, none⟩ = some (.slice Av m cv)) (go_keep)
          ((go_at_call 52
            refine (rpairs_none Av m cv _ b0 bs _ (HRV.out.kp0 ((Kp.refl [] w2).drew)) HBL.out (by omega) hok.1 hok.2 HGN.out).mono ?_
            rintro e w3 ⟨rfl, hk3'⟩
            have hk3 : Kp [] w2 w3 := ((Kp.refl [] w2).drew).trans hk3'
            have hr3 := hk3.cell hr0 (by simp)
            have hc3 := hk3.cell hc0 (by simp)
            have HK3 := Lib.hid (HK2.out.trans hk3)
            clear hk3' hk3))
        go_wp2_with fail
        go_ret3
        exact ⟨HK3.out, .inl ⟨HRZ.out, rfl⟩⟩
      · have HGN := Lib.hid hg
        have HR4 := Lib.hid (show readT (b0 :: b1 :: b2 :: b3 :: b4 :: rest) = if treeB b0 (levL b0 [C]) = intsN ((b0 :: b1 :: b2 :: b3 :: b4 :: rest).take (5 + k)) then some (b0, C, 5 + k) else none by rw [HR3.out, hg])
        have hs4 : IntKind.wrap .i64 ((2 : Int) ^ min b0 64) = ((2 ^ b0 : Nat) : Int) := by rw [shl_min]; exact g_pow hok.2
        clear hg HR3
        go_wp2_with fail
        go_region_held3 (fun w' => w'.cell? ad = some (.int .u8 (b0 : Int)) ∧ w'.cell? ⟨q, 0, none⟩ = some (.slice Av m cv)) (go_keep)
          ((go_at_call 52
            refine (rpairs_some Av m cv _ b0 bs C _ (HRV.out.kp0 ((Kp.refl [] w2).drew)) HBL.out (by omega) hok.1 hok.2 HGN.out).mono ?_
            rintro e w3 ⟨AC, nC, cC, hCl, hCn, rfl, hRC, hCB, hk3'⟩
            have hk3 : Kp [] w2 w3 := ((Kp.refl [] w2).drew).trans hk3'
            have hr3 := hk3.cell hr0 (by simp)
            have hc3 := hk3.cell hc0 (by simp)
            have HK3 := Lib.hid (HK2.out.trans hk3)
            have HX3 := Lib.hid (HX2.out.kp0 hk3)
            have HOF := Lib.hid (rof_ok b0 nC cC _ AC C w3 hok.1 hok.2 hRC (Nat.le_refl _) hCl (by omega) hCB)
            have HCL := Lib.hid hCl
            clear hk3' hk3 hRC hCB hCl))
        clear hr0 HX2 hc0 hc3 HRV HK2 HBL
        go_wp2_with fail
        rw [show wrap64 ((2 : Int) ^ b0) = ((2 ^ b0 : Nat) : Int) from g_pow hok.2]
        refine HOF.out.mono ?_
        rintro e w4 ⟨pr, l, rfl, ht4, hln, hlm, hk4⟩
        have hr4 := hk4.cell hr3 (by simp)
        have HK4 := Lib.hid (HK3.out.trans hk4)
        have HX4 := Lib.hid (HX3.out.kp0 hk4)
        have hlev : levL b0 [C] = levL b0 [l] := lev_same b0 (same_one (fun p => (hlm p).symm))
        have hll : (levL b0 [l]).length ≤ 68 * 1200 := by
          rw [← hlev]
          exact Nat.le_trans (levL_len 1199 b0 [C] (by simp) (by simp [HCL.out]; omega)) (by omega)
        have HT4 := Lib.hid (show RTree w4 w.heap.size pr b0 l (levL b0 [l]) from by
          obtain ⟨AL, Ab, Ak, nL, cL, nb, cb, nk, ck, g1, g2, g3, g4, g5, g6, g7, g8, g9, g10, l0, l1, l2, l3⟩ := ht4
          have hsz := HK3.out.size
          exact ⟨AL, Ab, Ak, nL, cL, nb, cb, nk, ck, g1, g2, g3, g4, g5, g6, g7, g8, g9, g10, Nat.le_trans hsz l0, fun ad h => Nat.le_trans hsz (l1 ad h), fun ad h => Nat.le_trans hsz (l2 ad h), fun ad h => Nat.le_trans hsz (l3 ad h)⟩)
        obtain ⟨bl, hbl9⟩ : ∃ bl, bl = levL b0 [l] := ⟨_, rfl⟩
        rw [hlev] at HR4
        rw [← hbl9] at HT4 HR4 hll
        have HBL9 := Lib.hid hbl9
        have HLN := Lib.hid hln
        have HLM := Lib.hid hlm
        obtain ⟨tb, htb⟩ : ∃ tb, tb = treeB b0 bl := ⟨_, rfl⟩
        obtain ⟨ib, hib⟩ : ∃ ib, ib = intsN ((b0 :: b1 :: b2 :: b3 :: b4 :: rest).take (5 + k)) := ⟨_, rfl⟩
        have HR5 := Lib.hid (show readT (b0 :: b1 :: b2 :: b3 :: b4 :: rest) = if tb = ib then some (b0, C, z) else none by rw [HR4.out, htb, hib, HZ.out])
        have HIL := Lib.hid (show ib.length = z by
          rw [hib]
          unfold intsN
          rw [List.length_map, List.length_take, HN.out, HZ.out]
          omega)
        have HIX := Lib.hid (show Rd w4 B (some ad) (ib.map (.int .u8)) by
          have h1 := HX4.out.take (5 + k)
          rw [hib]
          unfold intsN at h1 ⊢
          simpa [List.map_take] using h1)
        have HBY := Lib.hid (rtbytes_any w.heap.size pr b0 l bl w4 HT4.out hok.2 (by omega))
        rw [← htb] at HBY
        clear hk4 hr3 ht4 hln hlm hlev hbl9 htb hib HR4 HX4 HX3 HK3 HOF hr4
        go_wp2_with fail
        refine HBY.out.mono ?_
        rintro e w5 ⟨A5, mt, c5, hmt, rfl, ho5, hk5'⟩
        have HK5 := Lib.hid (HK4.out.trans hk5')
        have HT5 := Lib.hid (HT4.out.kp0 hk5')
        have HIX5 := Lib.hid (HIX.out.kp0 hk5')
        have HTX5 := Lib.hid (own_rd ho5)
        have hmt5 : 5 ≤ mt := by omega
        have HTL := Lib.hid (show tb.length = mt by
          have := ho5.1
          rw [List.length_map] at this
          omega)
        have hmtM : mt ≤ 20000 := by omega
        clear hk5' ho5 hmt HK4 HT4 HIX HBY hll
        have hmt0 : 0 < mt := by omega
        have s7 : IntKind.wrap .i64 ((m : Int) + 7) = (m : Int) + 7 := by rw [IntKind.wrap_i64]; omega
        have s8 : IntKind.wrap .i64 (k : Int) = (k : Int) := by rw [IntKind.wrap_i64]; omega
        have s9 : IntKind.wrap .i64 (z : Int) = (z : Int) := by rw [IntKind.wrap_i64]; omega
        by_cases hmz : mt = z
        · subst hmz
          have hzz : ((mt : Int) != (mt : Int)) = false := by simp
          have hzI0 : (mt : Int) ≤ (L : Int) := by omega
          go_wp2_with fail
          go_loopw [12] (fun v wr => ∃ i : Nat, v = .int .i64 (i : Int) ∧ i ≤ mt ∧ Hid (tb.take i = ib.take i) ∧ Hid (Kp [] w5 wr)) (fun v _ => mt - (intOf v).toNat)
          case atStart => exact ⟨0, rfl, by omega, Lib.hid rfl, Lib.hid (Kp.refl _ _)⟩
          case round =>
            obtain ⟨i, rfl, hi, HTI, HKR⟩ := hrel
            by_cases hlt : i < mt
            · obtain ⟨u, hu⟩ : ∃ u, tb[i]? = some u := ⟨_, List.getElem?_eq_getElem (by rw [HTL.out]; exact hlt)⟩
              obtain ⟨v, hv⟩ : ∃ v, ib[i]? = some v := ⟨_, List.getElem?_eq_getElem (by rw [HIL.out]; exact hlt)⟩
              obtain ⟨a5, rfl, _, hc1⟩ := (HTX5.out.kp0 HKR.out) i (.int .u8 u) (by rw [List.getElem?_map, hu]; rfl)
              obtain ⟨a6, e6, _, hc2⟩ := (HIX5.out.kp0 HKR.out) i (.int .u8 v) (by rw [List.getElem?_map, hv]; rfl)
              injection e6 with e6; subst e6
              have HU := Lib.hid hu
              have HV := Lib.hid hv
              obtain ⟨D, hD⟩ : ∃ D, (u != v) = D := ⟨_, rfl⟩
              have hi0 : (0 : Int) ≤ (i : Int) := by omega
              have hi1 : (i : Int) < (mt : Int) := by omega
              have hi2 : (i : Int) < (L : Int) := by omega
              have hi3 : i < L := by omega
              clear hu hv
              go_wp2_with fail
              refine wp_region_facts (by kernel_rfl) 137 [116, 117, 118, 119, 120, 121, 122, 123, 124, 125, 126, 127, 128, 129, 130, 131, 132, 133] [[], [116], [], [118], [119], [120], [117, 121], [122], [123], [123], [124, 125, 123], [126, 123], [123], [123], [128, 129, 123], [130, 123], [127, 131, 123], [123, 132]] (by kernel_rfl) (by kernel_rfl) rfl (factOf [(116, .eq (.slice (some a5) mt c5)), (117, .eq (.int .i64 (mt : Int))), (118, .eq (.int .i64 (m : Int))), (119, .eq (.int .i64 ((m : Int) + 7))), (120, .eq (.int .i64 (k : Int))), (121, .eq (.int .i64 (mt : Int))), (122, .eq (.bool false)), (123, .eq (.bool false)), (124, .eq (.slice (some a5) mt c5)), (125, .eq (.int .i64 (i : Int))), (126, .eq (.pointer (some (a5.add i)))), (127, .eq (.int .u8 u)), (128, .eq (.slice (some ad) L c)), (129, .eq (.int .i64 (i : Int))), (130, .eq (.pointer (some (ad.add i)))), (131, .eq (.int .u8 v)), (132, .eq (.bool D)), (133, .eq (.bool D))]) (factOf_stable _) _ (fun x => by simp only [fillL, Nat.reduceAdd, Nat.reduceEqDiff, ↓reduceIte]; rfl) ?_ ?_
              · refine ⟨?_, ?_, ?_, ?_, ?_, ?_, ?_, ?_, ?_, ?_, ?_, ?_, ?_, ?_, ?_, ?_, ?_, ?_, trivial⟩
                · intro fx w' fa hk hd ev  -- 116 = Op.move (Operand.tmp 11)
                  have e11 : fa.tmps[11]?.getD undef = .slice (some a5) mt c5 := ev.old 11 rfl
                  refine stepF_un rfl (fun K hK => ?_)
                  exact stepF_val _ hK (run_move rfl e11 _) rfl
                · intro fx w' fa hk hd ev  -- 117 = Op.call { callee := Callee.builtin Builtin.len, args := #[Op
                  have h116 : fx 116 = .slice (some a5) mt c5 := hd.1
                  have e116 : fa.tmps[116]?.getD undef = .slice (some a5) mt c5 := (ev.new 116 rfl).trans h116
                  refine stepF_un rfl (fun K hK => ?_)
                  go_simp
                  exact hK _ _ rfl (Kp.refl _ _)
                · intro fx w' fa hk hd ev  -- 118 = Op.move (Operand.tmp 5)
                  have e5 : fa.tmps[5]?.getD undef = .int .i64 (m : Int) := ev.old 5 rfl
                  refine stepF_un rfl (fun K hK => ?_)
                  exact stepF_val _ hK (run_move rfl e5 _) rfl
                · intro fx w' fa hk hd ev  -- 119 = Op.binOp BinOp.add 3 (Operand.tmp 118) (Operand.const (Value
                  have h118 : fx 118 = .int .i64 (m : Int) := hd.1
                  have e118 : fa.tmps[118]?.getD undef = .int .i64 (m : Int) := (ev.new 118 rfl).trans h118
                  refine stepF_un rfl (fun K hK => ?_)
                  go_simp
                  exact hK _ _ rfl (Kp.refl _ _)
                · intro fx w' fa hk hd ev  -- 120 = Op.binOp BinOp.quo 3 (Operand.tmp 119) (Operand.const (Value
                  have h119 : fx 119 = .int .i64 ((m : Int) + 7) := hd.1
                  have e119 : fa.tmps[119]?.getD undef = .int .i64 ((m : Int) + 7) := (ev.new 119 rfl).trans h119
                  refine stepF_un rfl (fun K hK => ?_)
                  go_simp
                  exact hK _ _ rfl (Kp.refl _ _)
                · intro fx w' fa hk hd ev  -- 121 = Op.binOp BinOp.add 3 (Operand.const (Value.int IntKind.i64 5
                  have h120 : fx 120 = .int .i64 (k : Int) := hd.1
                  have e120 : fa.tmps[120]?.getD undef = .int .i64 (k : Int) := (ev.new 120 rfl).trans h120
                  refine stepF_un rfl (fun K hK => ?_)
                  go_simp
                  exact hK _ _ rfl (Kp.refl _ _)
                · intro fx w' fa hk hd ev  -- 122 = Op.binOp BinOp.neq 3 (Operand.tmp 117) (Operand.tmp 121) 3
                  have h117 : fx 117 = .int .i64 (mt : Int) := hd.1
                  have e117 : fa.tmps[117]?.getD undef = .int .i64 (mt : Int) := (ev.new 117 rfl).trans h117
                  have h121 : fx 121 = .int .i64 (mt : Int) := hd.2.1
                  have e121 : fa.tmps[121]?.getD undef = .int .i64 (mt : Int) := (ev.new 121 rfl).trans h121
                  refine stepF_un rfl (fun K hK => ?_)
                  go_simp
                  exact hK _ _ rfl (Kp.refl _ _)
                · intro fx w' fa hk hd ev  -- 123 = Op.move (Operand.tmp 122)
                  have h122 : fx 122 = .bool false := hd.1
                  have e122 : fa.tmps[122]?.getD undef = .bool false := (ev.new 122 rfl).trans h122
                  refine stepF_un rfl (fun K hK => ?_)
                  exact stepF_val _ hK (run_move rfl e122 _) rfl
                · intro fx w' fa hk hd ev  -- 124 = Op.move (Operand.tmp 11)
                  have h123 : fx 123 = .bool false := hd.1
                  have e123 : fa.tmps[123]?.getD undef = .bool false := (ev.new 123 rfl).trans h123
                  have e11 : fa.tmps[11]?.getD undef = .slice (some a5) mt c5 := ev.old 11 rfl
                  refine stepF_yes (i := 7) (g := 123) (b := false) rfl rfl rfl e123 (fun K hK => ?_)
                  exact stepF_val _ hK (run_move rfl e11 _) rfl
                · intro fx w' fa hk hd ev  -- 125 = Op.move (Operand.tmp 12)
                  have h123 : fx 123 = .bool false := hd.1
                  have e123 : fa.tmps[123]?.getD undef = .bool false := (ev.new 123 rfl).trans h123
                  have e12 : fa.tmps[12]?.getD undef = .int .i64 (i : Int) := ev.old 12 rfl
                  refine stepF_yes (i := 7) (g := 123) (b := false) rfl rfl rfl e123 (fun K hK => ?_)
                  exact stepF_val _ hK (run_move rfl e12 _) rfl
                · intro fx w' fa hk hd ev  -- 126 = Op.indexAddr 38 (Operand.tmp 124) (Operand.tmp 125)
                  have h124 : fx 124 = .slice (some a5) mt c5 := hd.1
                  have e124 : fa.tmps[124]?.getD undef = .slice (some a5) mt c5 := (ev.new 124 rfl).trans h124
                  have h125 : fx 125 = .int .i64 (i : Int) := hd.2.1
                  have e125 : fa.tmps[125]?.getD undef = .int .i64 (i : Int) := (ev.new 125 rfl).trans h125
                  have h123 : fx 123 = .bool false := hd.2.2.1
                  have e123 : fa.tmps[123]?.getD undef = .bool false := (ev.new 123 rfl).trans h123
                  refine stepF_yes (i := 7) (g := 123) (b := false) rfl rfl rfl e123 (fun K hK => ?_)
                  go_simp
                  exact hK _ _ rfl (Kp.refl _ _)
                · intro fx w' fa hk hd ev  -- 127 = Op.load 5 (Operand.tmp 126)
                  have h126 : fx 126 = .pointer (some (a5.add i)) := hd.1
                  have e126 : fa.tmps[126]?.getD undef = .pointer (some (a5.add i)) := (ev.new 126 rfl).trans h126
                  have h123 : fx 123 = .bool false := hd.2.1
                  have e123 : fa.tmps[123]?.getD undef = .bool false := (ev.new 123 rfl).trans h123
                  refine stepF_yes (i := 7) (g := 123) (b := false) rfl rfl rfl e123 (fun K hK => ?_)
                  have c1 := hk.cell hc1 (by simp)
                  go_simp
                  exact hK _ _ rfl (Kp.refl _ _)
                · intro fx w' fa hk hd ev  -- 128 = Op.move (Operand.tmp 0)
                  have h123 : fx 123 = .bool false := hd.1
                  have e123 : fa.tmps[123]?.getD undef = .bool false := (ev.new 123 rfl).trans h123
                  have e0 : fa.tmps[0]?.getD undef = .slice (some ad) L c := ev.old 0 rfl
                  refine stepF_yes (i := 7) (g := 123) (b := false) rfl rfl rfl e123 (fun K hK => ?_)
                  exact stepF_val _ hK (run_move rfl e0 _) rfl
                · intro fx w' fa hk hd ev  -- 129 = Op.move (Operand.tmp 12)
                  have h123 : fx 123 = .bool false := hd.1
                  have e123 : fa.tmps[123]?.getD undef = .bool false := (ev.new 123 rfl).trans h123
                  have e12 : fa.tmps[12]?.getD undef = .int .i64 (i : Int) := ev.old 12 rfl
                  refine stepF_yes (i := 7) (g := 123) (b := false) rfl rfl rfl e123 (fun K hK => ?_)
                  exact stepF_val _ hK (run_move rfl e12 _) rfl
                · intro fx w' fa hk hd ev  -- 130 = Op.indexAddr 38 (Operand.tmp 128) (Operand.tmp 129)
                  have h128 : fx 128 = .slice (some ad) L c := hd.1
                  have e128 : fa.tmps[128]?.getD undef = .slice (some ad) L c := (ev.new 128 rfl).trans h128
                  have h129 : fx 129 = .int .i64 (i : Int) := hd.2.1
                  have e129 : fa.tmps[129]?.getD undef = .int .i64 (i : Int) := (ev.new 129 rfl).trans h129
                  have h123 : fx 123 = .bool false := hd.2.2.1
                  have e123 : fa.tmps[123]?.getD undef = .bool false := (ev.new 123 rfl).trans h123
                  refine stepF_yes (i := 7) (g := 123) (b := false) rfl rfl rfl e123 (fun K hK => ?_)
                  go_simp
                  exact hK _ _ rfl (Kp.refl _ _)
                · intro fx w' fa hk hd ev  -- 131 = Op.load 5 (Operand.tmp 130)
                  have h130 : fx 130 = .pointer (some (ad.add i)) := hd.1
                  have e130 : fa.tmps[130]?.getD undef = .pointer (some (ad.add i)) := (ev.new 130 rfl).trans h130
                  have h123 : fx 123 = .bool false := hd.2.1
                  have e123 : fa.tmps[123]?.getD undef = .bool false := (ev.new 123 rfl).trans h123
                  refine stepF_yes (i := 7) (g := 123) (b := false) rfl rfl rfl e123 (fun K hK => ?_)
                  have c1 := hk.cell hc2 (by simp)
                  go_simp
                  exact hK _ _ rfl (Kp.refl _ _)
                · intro fx w' fa hk hd ev  -- 132 = Op.binOp BinOp.neq 5 (Operand.tmp 127) (Operand.tmp 131) 5
                  have h127 : fx 127 = .int .u8 u := hd.1
                  have e127 : fa.tmps[127]?.getD undef = .int .u8 u := (ev.new 127 rfl).trans h127
                  have h131 : fx 131 = .int .u8 v := hd.2.1
                  have e131 : fa.tmps[131]?.getD undef = .int .u8 v := (ev.new 131 rfl).trans h131
                  have h123 : fx 123 = .bool false := hd.2.2.1
                  have e123 : fa.tmps[123]?.getD undef = .bool false := (ev.new 123 rfl).trans h123
                  refine stepF_yes (i := 7) (g := 123) (b := false) rfl rfl rfl e123 (fun K hK => ?_)
                  go_simp
                  exact hK _ _ rfl (Kp.refl _ _)
                · intro fx w' fa hk hd ev  -- 133 = Op.pick (Operand.tmp 123) (Operand.const (Value.bool true)) 
                  have h123 : fx 123 = .bool false := hd.1
                  have e123 : fa.tmps[123]?.getD undef = .bool false := (ev.new 123 rfl).trans h123
                  have h132 : fx 132 = .bool D := hd.2.1
                  have e132 : fa.tmps[132]?.getD undef = .bool D := (ev.new 132 rfl).trans h132
                  refine stepF_un rfl (fun K hK => ?_)
                  go_simp
                  exact hK _ _ rfl (Kp.refl _ _)
              · intro fx w' hk hd
                have h133 : fx 133 = .bool D := hd.2.2.2.2.2.2.2.2.2.2.2.2.2.2.2.2.2.1
                rw [h133]
                have HKN := Lib.hid (HKR.out.trans hk)
                clear hk hd hc1 hc2
                cases D with
                | true =>
                  have HR6 := Lib.hid (show readT (b0 :: b1 :: b2 :: b3 :: b4 :: rest) = none by
                    rw [HR5.out, if_neg]
                    intro he
                    rw [he, HV.out] at HU
                    have := HU.out
                    injection this with this
                    subst this
                    simp at hD)
                  clear hD
                  go_wp2_with fail
                  go_ret3
                  exact ⟨HK5.out.trans HKN.out, .inl ⟨HR6.out, rfl⟩⟩
                | false =>
                  have HTN := Lib.hid (show tb.take (i + 1) = ib.take (i + 1) by
                    rw [List.take_add_one, List.take_add_one, HTI.out, HU.out, HV.out]
                    have : u = v := by simpa using hD
                    rw [this])
                  clear hD
                  go_wp2_with fail
                  exact ⟨⟨i + 1, by go_num, by omega, HTN, HKN⟩, by simp [intOf]; omega⟩
            · obtain rfl : i = mt := by omega
              have HR6 := Lib.hid (show readT (b0 :: b1 :: b2 :: b3 :: b4 :: rest) = some (b0, C, i) by
                rw [HR5.out, if_pos]
                have := HTI.out
                rwa [List.take_of_length_le (Nat.le_of_eq HTL.out), List.take_of_length_le (Nat.le_of_eq HIL.out)] at this)
              have HT6 := Lib.hid (HT5.out.kp0 HKR.out)
              go_wp2_with fail
              go_ret3
              exact ⟨HK5.out.trans HKR.out, .inr ⟨b0, C, i, pr, l, HR6.out, rfl, by rw [← HBL9.out]; exact HT6.out, HLN.out, HLM.out⟩⟩
        · have HR6 := Lib.hid (show readT (b0 :: b1 :: b2 :: b3 :: b4 :: rest) = none by rw [HR5.out, if_neg (fun h => hmz (by rw [← HTL.out, h, HIL.out]))])
          have hnz : ((mt : Int) != (z : Int)) = true := by simp; omega
          clear HR5
          go_wp2_with fail
          go_loopw [12] (fun v wr => v = .int .i64 0 ∧ w5 = wr) (fun _ _ => 0)
          case atStart => exact ⟨rfl, rfl⟩
          case round =>
            obtain ⟨rfl, rfl⟩ := hrel
            go_wp2_with fail
            refine wp_region_facts (by kernel_rfl) 137 [116, 117, 118, 119, 120, 121, 122, 123, 124, 125, 126, 127, 128, 129, 130, 131, 132, 133] [[], [116], [], [118], [119], [120], [117, 121], [122], [123], [123], [124, 125, 123], [126, 123], [123], [123], [128, 129, 123], [130, 123], [127, 131, 123], [123, 132]] (by kernel_rfl) (by kernel_rfl) rfl (factOf [(116, .eq (.slice A5 mt c5)), (117, .eq (.int .i64 (mt : Int))), (118, .eq (.int .i64 (m : Int))), (119, .eq (.int .i64 ((m : Int) + 7))), (120, .eq (.int .i64 (k : Int))), (121, .eq (.int .i64 (z : Int))), (122, .eq (.bool true)), (123, .eq (.bool true)), (124, .eq (undef)), (125, .eq (undef)), (126, .eq (undef)), (127, .eq (undef)), (128, .eq (undef)), (129, .eq (undef)), (130, .eq (undef)), (131, .eq (undef)), (132, .eq (undef)), (133, .eq (.bool true))]) (factOf_stable _) _ (fun x => by simp only [fillL, Nat.reduceAdd, Nat.reduceEqDiff, ↓reduceIte]; rfl) ?_ ?_
            · refine ⟨?_, ?_, ?_, ?_, ?_, ?_, ?_, ?_, ?_, ?_, ?_, ?_, ?_, ?_, ?_, ?_, ?_, ?_, trivial⟩
              · intro fx w' fa hk hd ev  -- 116 = Op.move (Operand.tmp 11)
                have e11 : fa.tmps[11]?.getD undef = .slice A5 mt c5 := ev.old 11 rfl
                refine stepF_un rfl (fun K hK => ?_)
                exact stepF_val _ hK (run_move rfl e11 _) rfl
              · intro fx w' fa hk hd ev  -- 117 = Op.call { callee := Callee.builtin Builtin.len, args := #[Op
                have h116 : fx 116 = .slice A5 mt c5 := hd.1
                have e116 : fa.tmps[116]?.getD undef = .slice A5 mt c5 := (ev.new 116 rfl).trans h116
                refine stepF_un rfl (fun K hK => ?_)
                go_simp
                exact hK _ _ rfl (Kp.refl _ _)
              · intro fx w' fa hk hd ev  -- 118 = Op.move (Operand.tmp 5)
                have e5 : fa.tmps[5]?.getD undef = .int .i64 (m : Int) := ev.old 5 rfl
                refine stepF_un rfl (fun K hK => ?_)
                exact stepF_val _ hK (run_move rfl e5 _) rfl
              · intro fx w' fa hk hd ev  -- 119 = Op.binOp BinOp.add 3 (Operand.tmp 118) (Operand.const (Value
                have h118 : fx 118 = .int .i64 (m : Int) := hd.1
                have e118 : fa.tmps[118]?.getD undef = .int .i64 (m : Int) := (ev.new 118 rfl).trans h118
                refine stepF_un rfl (fun K hK => ?_)
                go_simp
                exact hK _ _ rfl (Kp.refl _ _)
              · intro fx w' fa hk hd ev  -- 120 = Op.binOp BinOp.quo 3 (Operand.tmp 119) (Operand.const (Value
                have h119 : fx 119 = .int .i64 ((m : Int) + 7) := hd.1
                have e119 : fa.tmps[119]?.getD undef = .int .i64 ((m : Int) + 7) := (ev.new 119 rfl).trans h119
                refine stepF_un rfl (fun K hK => ?_)
                go_simp
                exact hK _ _ rfl (Kp.refl _ _)
              · intro fx w' fa hk hd ev  -- 121 = Op.binOp BinOp.add 3 (Operand.const (Value.int IntKind.i64 5
                have h120 : fx 120 = .int .i64 (k : Int) := hd.1
                have e120 : fa.tmps[120]?.getD undef = .int .i64 (k : Int) := (ev.new 120 rfl).trans h120
                refine stepF_un rfl (fun K hK => ?_)
                go_simp
                exact hK _ _ rfl (Kp.refl _ _)
              · intro fx w' fa hk hd ev  -- 122 = Op.binOp BinOp.neq 3 (Operand.tmp 117) (Operand.tmp 121) 3
                have h117 : fx 117 = .int .i64 (mt : Int) := hd.1
                have e117 : fa.tmps[117]?.getD undef = .int .i64 (mt : Int) := (ev.new 117 rfl).trans h117
                have h121 : fx 121 = .int .i64 (z : Int) := hd.2.1
                have e121 : fa.tmps[121]?.getD undef = .int .i64 (z : Int) := (ev.new 121 rfl).trans h121
                refine stepF_un rfl (fun K hK => ?_)
                go_simp
                exact hK _ _ rfl (Kp.refl _ _)
              · intro fx w' fa hk hd ev  -- 123 = Op.move (Operand.tmp 122)
                have h122 : fx 122 = .bool true := hd.1
                have e122 : fa.tmps[122]?.getD undef = .bool true := (ev.new 122 rfl).trans h122
                refine stepF_un rfl (fun K hK => ?_)
                exact stepF_val _ hK (run_move rfl e122 _) rfl
              · intro fx w' fa hk hd ev  -- 124 = Op.move (Operand.tmp 11)
                have h123 : fx 123 = .bool true := hd.1
                have e123 : fa.tmps[123]?.getD undef = .bool true := (ev.new 123 rfl).trans h123
                refine stepF_no (i := 7) (g := 123) (b := false) rfl rfl rfl e123 rfl
              · intro fx w' fa hk hd ev  -- 125 = Op.move (Operand.tmp 12)
                have h123 : fx 123 = .bool true := hd.1
                have e123 : fa.tmps[123]?.getD undef = .bool true := (ev.new 123 rfl).trans h123
                refine stepF_no (i := 7) (g := 123) (b := false) rfl rfl rfl e123 rfl
              · intro fx w' fa hk hd ev  -- 126 = Op.indexAddr 38 (Operand.tmp 124) (Operand.tmp 125)
                have h123 : fx 123 = .bool true := hd.2.2.1
                have e123 : fa.tmps[123]?.getD undef = .bool true := (ev.new 123 rfl).trans h123
                refine stepF_no (i := 7) (g := 123) (b := false) rfl rfl rfl e123 rfl
              · intro fx w' fa hk hd ev  -- 127 = Op.load 5 (Operand.tmp 126)
                have h123 : fx 123 = .bool true := hd.2.1
                have e123 : fa.tmps[123]?.getD undef = .bool true := (ev.new 123 rfl).trans h123
                refine stepF_no (i := 7) (g := 123) (b := false) rfl rfl rfl e123 rfl
              · intro fx w' fa hk hd ev  -- 128 = Op.move (Operand.tmp 0)
                have h123 : fx 123 = .bool true := hd.1
                have e123 : fa.tmps[123]?.getD undef = .bool true := (ev.new 123 rfl).trans h123
                refine stepF_no (i := 7) (g := 123) (b := false) rfl rfl rfl e123 rfl
              · intro fx w' fa hk hd ev  -- 129 = Op.move (Operand.tmp 12)
                have h123 : fx 123 = .bool true := hd.1
                have e123 : fa.tmps[123]?.getD undef = .bool true := (ev.new 123 rfl).trans h123
                refine stepF_no (i := 7) (g := 123) (b := false) rfl rfl rfl e123 rfl
              · intro fx w' fa hk hd ev  -- 130 = Op.indexAddr 38 (Operand.tmp 128) (Operand.tmp 129)
                have h123 : fx 123 = .bool true := hd.2.2.1
                have e123 : fa.tmps[123]?.getD undef = .bool true := (ev.new 123 rfl).trans h123
                refine stepF_no (i := 7) (g := 123) (b := false) rfl rfl rfl e123 rfl
              · intro fx w' fa hk hd ev  -- 131 = Op.load 5 (Operand.tmp 130)
                have h123 : fx 123 = .bool true := hd.2.1
                have e123 : fa.tmps[123]?.getD undef = .bool true := (ev.new 123 rfl).trans h123
                refine stepF_no (i := 7) (g := 123) (b := false) rfl rfl rfl e123 rfl
              · intro fx w' fa hk hd ev  -- 132 = Op.binOp BinOp.neq 5 (Operand.tmp 127) (Operand.tmp 131) 5
                have h123 : fx 123 = .bool true := hd.2.2.1
                have e123 : fa.tmps[123]?.getD undef = .bool true := (ev.new 123 rfl).trans h123
                refine stepF_no (i := 7) (g := 123) (b := false) rfl rfl rfl e123 rfl
              · intro fx w' fa hk hd ev  -- 133 = Op.pick (Operand.tmp 123) (Operand.const (Value.bool true)) 
                have h123 : fx 123 = .bool true := hd.1
                have e123 : fa.tmps[123]?.getD undef = .bool true := (ev.new 123 rfl).trans h123
                have h132 : fx 132 = undef := hd.2.1
                have e132 : fa.tmps[132]?.getD undef = undef := (ev.new 132 rfl).trans h132
                refine stepF_un rfl (fun K hK => ?_)
                go_simp
                exact hK _ _ rfl (Kp.refl _ _)
            · intro fx w' hk hd
              have h133 : fx 133 = .bool true := hd.2.2.2.2.2.2.2.2.2.2.2.2.2.2.2.2.2.1
              rw [h133]
              have HKN := Lib.hid hk
              clear hk hd
              go_wp2_with fail
              go_ret3
              exact ⟨HK5.out.trans HKN.out, .inl ⟨HR6.out, rfl⟩⟩
end Go.Proofs.Ytldmabkilgpgcaa
namespace Go.Proofs.Ytldmabkilgpgcaa
open Go.RowKit

theorem Rd.lentB {w : World} {g : Nat} {l more : List Int} (h : Blk w g 5 ((l ++ more).map (.int .u8))) : Rd w w.heap.size (some ⟨g, 0, none⟩) (l.map (.int .u8)) := by
  have := (h.rd h.lt).take (l.map (Value.int .u8)).length
  rwa [List.map_append, List.take_left'] at this
  rfl
theorem readT_len {b : List Nat} {h n : Nat} {C : List (Nat × Nat)} (hr : readT b = some (h, C, n)) : (levL h [C]).length ≤ 8 * b.length := by
  match b, hr with
  | [], hr => cases hr
  | [_], hr => cases hr
  | [_, _], hr => cases hr
  | [_, _, _], hr => cases hr
  | [_, _, _, _], hr => cases hr
  | b0 :: b1 :: b2 :: b3 :: b4 :: rest, hr =>
    change readC b0 (manyB b1 b2 b3 b4) (rest.length + 5) (b0 :: b1 :: b2 :: b3 :: b4 :: rest) rest = _ at hr
    unfold readC at hr
    by_cases c1 : ¬ (1 ≤ b0 ∧ b0 ≤ 17)
    · rw [if_pos c1] at hr; exact absurd hr (by simp)
    rw [if_neg c1] at hr
    obtain ⟨m, hm⟩ : ∃ m, m = manyB b1 b2 b3 b4 := ⟨_, rfl⟩
    rw [← hm] at hr
    by_cases c2 : rest.length + 5 < 5 + (m + 7) / 8
    · rw [if_pos c2] at hr; exact absurd hr (by simp)
    rw [if_neg c2] at hr
    by_cases c3 : readE (m : Int) (rest.take ((m + 7) / 8)) ≠ 0
    · rw [if_pos c3] at hr; exact absurd hr (by simp)
    rw [if_neg c3] at hr
    cases hg : growB b0 (bitsOf m (packN 8 (rest.take ((m + 7) / 8)))) [(0, 0)] with
    | none => rw [hg] at hr; exact absurd hr (by simp)
    | some D =>
      rw [hg] at hr
      simp only at hr
      by_cases c4 : treeB b0 (levL b0 [D]) = intsN ((b0 :: b1 :: b2 :: b3 :: b4 :: rest).take (5 + (m + 7) / 8))
      · rw [if_pos c4] at hr
        injection hr with hr
        injection hr with h1 h2
        injection h2 with h2 h3
        subst h1 h2
        have := congrArg List.length c4
        unfold treeB headB intsN bytesN at this
        simp at this
        simp
        omega
      · rw [if_neg c4] at hr; exact absurd hr (by simp)
set_option maxRecDepth 100000 in
set_option maxHeartbeats 4000000 in
theorem treads_any (A : Option Addr) (L c : Nat) (b : List Nat) (r cc node : Int) (w : World) (hx : Rd w w.heap.size A ((intsN b).map (.int .u8))) (hn : b.length = L) (hc : L ≤ c) (hs : ∀ y ∈ b, y < 256)
    (hr0 : -9223372036854775808 ≤ r) (hr1 : r ≤ 9223372036854775807) (hc0 : -9223372036854775808 ≤ cc) (hc1 : cc ≤ 9223372036854775807) (hn0 : -9223372036854775808 ≤ node) (hn1 : node ≤ 9223372036854775807) :
    Calls Try.prog 5 #[.slice A L c, .agg #[.int .i64 r, .int .i64 cc], .int .i64 node] w fun e w' => e = .returned (.bool true) ∧ Kp [] w w' := by
  have hk0 := (Kp.refl [] w).alloc (.cells #[.int .i64 r, .int .i64 cc] 24)
  have hb0 := Blk.new w 24 [.int .i64 r, .int .i64 cc]
  obtain ⟨w0, hw0⟩ : ∃ w0, w0 = w.alloc (.cells #[.int .i64 r, .int .i64 cc] 24) := ⟨_, rfl⟩
  obtain ⟨g, hg⟩ : ∃ g, g = w.heap.size := ⟨_, rfl⟩
  replace hk0 : Kp [] w w0 := by rw [hw0]; exact hk0
  replace hb0 : Blk w0 g 24 [.int .i64 r, .int .i64 cc] := by rw [hw0, hg]; exact hb0
  have HX := Lib.hid (hx.kp0 hk0)
  have HB := Lib.hid hb0
  have HK := Lib.hid hk0
  have HW0 := Lib.hid hw0
  have HG := Lib.hid hg
  have HN := Lib.hid hn; clear hn
  have HS := Lib.hid hs; clear hs
  clear hx hk0 hb0 hw0 hg
  go_enter Try.func5, Try.ntmps5
  by_cases hbig : 150 < L
  · go_wp2_with fail
    rw [← HW0.out]
    refine (tawake_any w0).mono ?_
    rintro e w1 ⟨rfl, hk1⟩
    have HK1 := Lib.hid (HK.out.trans hk1)
    clear hk1
    go_wp2_with fail
    go_ret
    exact ⟨rfl, HK1.out⟩
  have hL150 : L ≤ 150 := by omega
  have HN2 := Lib.hid (show (intsN b).length = L by rw [← HN.out]; simp [intsN])
  go_wp2_with fail
  rw [← HW0.out, ← HG.out]
  clear HW0
  refine (lentB A L c _ (intsN b) w0 HX.out HN2.out (by omega)).mono ?_
  rintro e w1 ⟨rfl, hk1, hb1⟩
  obtain ⟨gi, hgi⟩ : ∃ gi, gi = w0.heap.size := ⟨_, rfl⟩
  rw [← hgi] at hb1 ⊢
  have HX1 := Lib.hid (HX.out.kp0 hk1)
  have HB1 := Lib.hid (HB.out.kp0 hk1)
  have HK1 := Lib.hid (HK.out.trans hk1)
  have HI1 := Lib.hid hb1
  have HGI := Lib.hid (show g ≠ gi ∧ w.heap.size ≤ gi ∧ gi < w1.heap.size from ⟨by have := HB.out.lt; omega, by rw [hgi]; exact HK.out.size, hb1.lt⟩)
  clear hk1 hb1 hgi HX HB HK
  go_wp2_with fail
  refine (tread_any _ L (L + 12) _ b w1 (Rd.lentB HI1.out) HN.out (by omega) (by omega) HS.out).mono ?_
  rintro e w2 ⟨hk2, hcase⟩
  have HX2 := Lib.hid (HX1.out.kp0 hk2)
  have HB2 := Lib.hid (HB1.out.kp0 hk2)
  have HK2 := Lib.hid (HK1.out.trans hk2)
  have HI2 := Lib.hid (HI1.out.kp0 hk2)
  have HRR := Lib.hid (rread_any A L c _ b w2 HX2.out HN.out (by omega) hc HS.out)
  clear hk2 HX1 HB1 HK1 HI1
  rcases hcase with ⟨hno, rfl⟩ | ⟨h, C, n, S, p, q, hyes, rfl, ht, hS, hp, h1, h17, hCB⟩
  · have HNO := Lib.hid hno
    clear hno
    go_wp2_with fail
    refine HRR.out.mono ?_
    rintro e w3 ⟨hk3, ⟨_, rfl⟩ | ⟨h, C, n, pr, l, hyes, _⟩⟩
    rotate_left
    · rw [HNO.out] at hyes; cases hyes
    have HX3 := Lib.hid (HX2.out.kp0 hk3)
    have HI3 := Lib.hid (HI2.out.kp0 hk3)
    have HK3 := Lib.hid (HK2.out.trans hk3)
    clear hk3
    go_wp2_with fail
    refine (keptB _ A L (L + 12) c _ _ (intsN b) w3 (HI3.out.rd (B := w3.heap.size) HI3.out.lt) HX3.out HN2.out (by omega) (Nat.le_refl _)).mono ?_
    rintro e w4 ⟨rfl, hd4⟩
    have HI4 := Lib.hid (HI3.out.kp0 (hd4.kp []))
    have HK4 := Lib.hid (HK3.out.trans (hd4.kp []))
    clear hd4
    go_wp2_with fail
    refine (overB_some gi L (L + 12) _ w4 HI4.out (by rw [List.length_map, List.length_append, HN2.out, marksB_len]) (by omega) (by omega) (by omega)).mono ?_
    rintro e w5 ⟨rfl, hk5⟩
    have HK5 := Lib.hid (HK4.out.trans' hk5 (fun x hx => .inr (by simp only [List.mem_singleton] at hx; have := HGI.out.2.1; omega)))
    clear hk5
    go_wp2_with fail
    refine (tawake_any w5).mono ?_
    rintro e w6 ⟨rfl, hk6⟩
    have HK6 := Lib.hid (HK5.out.trans hk6)
    clear hk6
    go_wp2_with fail
    go_ret
    exact ⟨rfl, HK6.out⟩
  · have HYES := Lib.hid hyes
    have HT2 := Lib.hid ht
    have HS2 := Lib.hid hS
    have HCB := Lib.hid hCB
    have HPS := Lib.hid hp
    have hnI : (n : Int) ≤ 9223372036854775807 ∨ True := .inr trivial
    clear hyes ht hS hCB hp hnI
    go_wp2_with fail
    refine HRR.out.mono ?_
    rintro e w3 ⟨hk3, ⟨hno, _⟩ | ⟨h', C', n', pr, l, hyes', rfl, hrt, hln, hlm⟩⟩
    · rw [HYES.out] at hno; cases hno
    rw [HYES.out] at hyes'
    injection hyes' with hyes'
    injection hyes' with e1 e2
    injection e2 with e2 e3
    subst e1 e2 e3
    have HX3 := Lib.hid (HX2.out.kp0 hk3)
    have HB3 := Lib.hid (HB2.out.kp0 hk3)
    have HI3 := Lib.hid (HI2.out.kp0 hk3)
    have HK3 := Lib.hid (HK2.out.trans hk3)
    have HT3 := Lib.hid (HT2.out.kp0 hk3)
    have HRT := Lib.hid hrt
    have HLN := Lib.hid hln
    have HLM := Lib.hid hlm
    have HGW := Lib.hid (show gi < w2.heap.size from HI2.out.lt)
    clear hk3 hrt hln hlm HX2 HB2 HI2 HK2 HT2 HRR
    go_wp2_with fail
    refine (keptB _ A L (L + 12) c _ _ (intsN b) w3 (HI3.out.rd (B := w3.heap.size) HI3.out.lt) HX3.out HN2.out (by omega) (Nat.le_refl _)).mono ?_
    rintro e w4 ⟨rfl, hd4⟩
    have hd4' := hd4.kp []
    have HB4 := Lib.hid (HB3.out.kp0 hd4')
    have HI4 := Lib.hid (HI3.out.kp0 hd4')
    have HK4 := Lib.hid (HK3.out.trans hd4')
    have HT4 := Lib.hid (HT3.out.kp0 hd4')
    have HRT4 := Lib.hid (HRT.out.kp0 hd4')
    clear hd4 hd4' HX3 HB3 HI3 HK3 HT3 HRT
    go_wp2_with fail
    refine (overB_some gi L (L + 12) _ w4 HI4.out (by rw [List.length_map, List.length_append, HN2.out, marksB_len]) (by omega) (by omega) (by omega)).mono ?_
    rintro e w5 ⟨rfl, hk5⟩
    have HK5 := Lib.hid (HK4.out.trans' hk5 (fun x hx => .inr (by simp only [List.mem_singleton] at hx; have := HGI.out.2.1; omega)))
    have HRT5 := Lib.hid (HRT4.out.kp hk5 (fun x hx => by simp only [List.mem_singleton] at hx; have := HGW.out; omega))
    have HT5 := Lib.hid (HT4.out.kp hk5 (fun x hx hm => by simp only [List.mem_singleton] at hm; have := HS2.out x hx; have := HGI.out.2.2; omega) (fun hm => by simp only [List.mem_singleton] at hm; have := HPS.out; have := HGI.out.2.2; omega))
    have HB5 := Lib.hid (HB4.out.kp hk5 (fun hm => by simp only [List.mem_singleton] at hm; exact HGI.out.1 hm))
    clear hk5 HK4 HRT4 HT4 HB4 HI4
    have c0 : w5.cell? ⟨g, 0, none⟩ = some (.int .i64 r) := by rw [HB5.out.cell]; rfl
    have c1 : w5.cell? ⟨g, 1, none⟩ = some (.int .i64 cc) := by rw [HB5.out.cell]; rfl
    have hlev : levL h [l] = levL h [C] := lev_same h (same_one (fun p => HLM.out p))
    have hbl : (levL h [C]).length ≤ 20000 := by
      have := readT_len HYES.out
      rw [HN.out] at this
      omega
    obtain ⟨bs, hbs⟩ : ∃ bs, bs = levL h [C] := ⟨_, rfl⟩
    have HSM := Lib.hid (show Calls Try.prog 17 #[.pointer (some ⟨p, 0, none⟩), .pointer (some ⟨pr, 0, none⟩), .agg #[.int .i64 r, .int .i64 cc], .int .i64 node] w5 fun e w' => e = .returned (.bool true) ∧ Kp [] w5 w' from by
      have h5 := HT5.out
      have h6 := HRT5.out
      rw [hlev] at h6
      rw [← hbs] at h5 h6 hbl
      exact same_any S p q h w2.heap.size pr l C bs r cc node w5 h5 h6 hbs h1 h17 HCB.out HLN.out HLM.out hbl hr0 hr1 hc0 hc1 hn0 hn1)
    clear hlev hbl hbs HT5 HRT5 HB5
    go_wp2_with fail
    refine HSM.out.mono ?_
    rintro e w6 ⟨rfl, hk6⟩
    have HK6 := Lib.hid (HK5.out.trans hk6)
    clear hk6 HSM
    go_wp2_with fail
    refine (tawake_any w6).mono ?_
    rintro e w7 ⟨rfl, hk7⟩
    have HK7 := Lib.hid (HK6.out.trans hk7)
    clear hk7
    go_wp2_with fail
    go_ret
    exact ⟨rfl, HK7.out⟩
theorem treadsI_any (A : Option Addr) (L c : Nat) (b : List Int) (r cc node : Int) (w : World) (hx : Rd w w.heap.size A (b.map (.int .u8))) (hn : b.length = L) (hc : L ≤ c) (hb : ∀ x ∈ b, 0 ≤ x ∧ x ≤ 255)
    (hr0 : -9223372036854775808 ≤ r) (hr1 : r ≤ 9223372036854775807) (hc0 : -9223372036854775808 ≤ cc) (hc1 : cc ≤ 9223372036854775807) (hn0 : -9223372036854775808 ≤ node) (hn1 : node ≤ 9223372036854775807) :
    Calls Try.prog 5 #[.slice A L c, .agg #[.int .i64 r, .int .i64 cc], .int .i64 node] w fun e w' => e = .returned (.bool true) ∧ Kp [] w w' := by
  refine treads_any A L c (b.map Int.toNat) r cc node w (by rw [intsN_bytes hb]; exact hx) (by rw [List.length_map]; exact hn) hc (fun y hy => ?_) hr0 hr1 hc0 hc1 hn0 hn1
  obtain ⟨x, hx, rfl⟩ := List.mem_map.1 hy
  have := hb x hx
  omega
end Go.Proofs.Ytldmabkilgpgcaa
