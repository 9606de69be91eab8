/-
  TreeOf: the walk.
  CONDITIONS: the bounds that a row's reach gives.
-/
import Derived.Test.YtldmabkilgpgcaaRt8
namespace Go.Proofs.Ytldmabkilgpgcaa
open Go.RowKit

/-- The lent pairs, the first k of them struck out. -/
def inC (l : List (Int × Int)) (k : Nat) (rest : List Value) : List Value := List.replicate (k * 2) (.int .i64 0) ++ ((pcI l).drop (k * 2) ++ rest)
theorem pcI_drop {l : List (Int × Int)} {k : Nat} {p : Int × Int} (h : l[k]? = some p) : (pcI l).drop (k * 2) = .int .i64 p.1 :: .int .i64 p.2 :: (pcI l).drop ((k + 1) * 2) := by
  obtain ⟨h1, h2⟩ := pcI_get h
  obtain ⟨l1, e1⟩ := List.getElem?_eq_some_iff.1 h1
  obtain ⟨l2, e2⟩ := List.getElem?_eq_some_iff.1 h2
  rw [List.drop_eq_getElem_cons l1, e1, List.drop_eq_getElem_cons l2, e2]
  rw [show k * 2 + 1 + 1 = (k + 1) * 2 by omega]
theorem inC_get {l : List (Int × Int)} {k : Nat} {p : Int × Int} (h : l[k]? = some p) (rest : List Value) : (inC l k rest)[k * 2]? = some (.int .i64 p.1) ∧ (inC l k rest)[k * 2 + 1]? = some (.int .i64 p.2) := by
  unfold inC
  rw [pcI_drop h]
  constructor
  · rw [List.getElem?_append_right (by simp)]
    simp
  · rw [List.getElem?_append_right (by simp)]
    simp
theorem inC_set {l : List (Int × Int)} {k : Nat} {p : Int × Int} (h : l[k]? = some p) (rest : List Value) : ((inC l k rest).set (k * 2) (.int .i64 0)).set (k * 2 + 1) (.int .i64 0) = inC l (k + 1) rest := by
  unfold inC
  rw [pcI_drop h, List.set_append_right _ _ (by simp), List.set_append_right _ _ (by simp)]
  simp only [List.length_replicate, Nat.sub_self, Nat.add_sub_cancel_left, List.cons_append, List.set_cons_zero, List.set_cons_succ]
  rw [show (k + 1) * 2 = k * 2 + 1 + 1 by omega, List.replicate_succ', List.replicate_succ', List.append_assoc, List.append_assoc]
  rfl
theorem inC_end {l : List (Int × Int)} {n : Nat} (hn : l.length = n) (rest : List Value) : inC l n rest = List.replicate (n * 2) (.int .i64 0) ++ rest := by
  unfold inC
  rw [List.drop_of_length_le (by rw [pcI_len, hn]; exact Nat.le_refl _), List.nil_append]
/-- Pairs inside are those of naturals. -/
theorem inside_nats {h : Nat} : ∀ {l : List (Int × Int)}, (l.any fun p => outI ((2 ^ h : Nat) : Int) p.1 p.2) = false → ∃ m : List (Nat × Nat), l = m.map upI ∧ ∀ p ∈ m, p.1 < 2 ^ h ∧ p.2 < 2 ^ h
  | [], _ => ⟨[], rfl, by simp⟩
  | p :: l, hh => by
    rw [List.any_cons, Bool.or_eq_false_iff] at hh
    obtain ⟨m, rfl, hm⟩ := inside_nats hh.2
    have h1 := hh.1
    unfold outI at h1
    simp only [Bool.not_eq_false', decide_eq_true_iff] at h1
    obtain ⟨a, b, c, d⟩ := h1
    refine ⟨(p.1.toNat, p.2.toNat) :: m, ?_, fun x hx => ?_⟩
    · rw [List.map_cons]
      unfold upI
      simp only [Int.toNat_of_nonneg a, Int.toNat_of_nonneg c]
    · rcases List.mem_cons.1 hx with rfl | hx
      · exact ⟨by simp only; omega, by simp only; omega⟩
      · exact hm x hx
/-- What both ways to make a tree answer where there is none. -/
theorem of_none (s : Int) (n : Nat) (l : List (Int × Int)) (hs0 : -9223372036854775808 ≤ s) (hs1 : s ≤ 9223372036854775807) (hn : l.length = n) (hb : n ≤ 150) (hl : ∀ p ∈ l, Pok p) (hno : hgt s = 0 ∨ (l.any fun p => outI s p.1 p.2) = true) :
    ∃ er : Int, er ≠ 0 ∧ (∀ w B A c, Rd w B A (pcI l) → Calls Try.prog 10 #[.int .i64 s, .slice A n c] w fun e w' => e = .returned (.tuple #[.pointer none, .int .i64 er]) ∧ Kp [] w w') ∧
      (∀ w B A c, Rd w B A (pcI l) → Calls Try.prog 11 #[.int .i64 s, .slice A n c] w fun e w' => e = .returned (.tuple #[.pointer none, .int .i64 er]) ∧ Kp [] w w') := by
  by_cases h0 : hgt s = 0
  · exact ⟨2, by decide, fun w _ _ _ _ => tof_arg s _ w h0 hs0 hs1, fun w _ _ _ _ => rof_arg s _ w h0 hs0 hs1⟩
  · have ho : (l.any fun p => outI s p.1 p.2) = true := by
      rcases hno with h | h
      · exact absurd h h0
      · exact h
    exact ⟨6, by decide, fun w B A c hx => tof_out s _ n c B A l w rfl h0 hx hn (by omega) ho (fun p hp => hl p hp), fun w B A c hx => rof_out s _ n c B A l w rfl h0 hx hn (by omega) ho⟩
set_option maxRecDepth 100000 in
set_option maxHeartbeats 4000000 in
theorem treeof_any (s : Int) (A : Option Addr) (n c : Nat) (l : List (Int × Int)) (r cc node : Int) (w : World) (hx : Rd w w.heap.size A (pcI l)) (hn : l.length = n) (hnb : n ≤ 140737488351232) (hl : ∀ p ∈ l, Pok p)
    (hs0 : -9223372036854775808 ≤ s) (hs1 : s ≤ 9223372036854775807) (hr0 : -9223372036854775808 ≤ r) (hr1 : r ≤ 9223372036854775807) (hc0 : -9223372036854775808 ≤ cc) (hc1 : cc ≤ 9223372036854775807) (hn0 : -9223372036854775808 ≤ node) (hn1 : node ≤ 9223372036854775807) :
    Calls Try.prog 3 #[.int .i64 s, .slice A n c, .agg #[.int .i64 r, .int .i64 cc], .int .i64 node] w fun e w' => e = .returned (.bool true) ∧ Kp [] w w' := by
  have hk0 := (Kp.refl [] w).alloc (.cells #[.int .i64 r, .int .i64 cc] 24)
  have hb0 := Blk.new w 24 [.int .i64 r, .int .i64 cc]
  obtain ⟨w0, hw0⟩ : ∃ w0, w0 = w.alloc (.cells #[.int .i64 r, .int .i64 cc] 24) := ⟨_, rfl⟩
  obtain ⟨g, hg⟩ : ∃ g, g = w.heap.size := ⟨_, rfl⟩
  replace hk0 : Kp [] w w0 := by rw [hw0]; exact hk0
  replace hb0 : Blk w0 g 24 [.int .i64 r, .int .i64 cc] := by rw [hw0, hg]; exact hb0
  have HX := Lib.hid (hx.kp0 hk0)
  have HB := Lib.hid hb0
  have HK := Lib.hid hk0
  have HW0 := Lib.hid hw0
  have HG := Lib.hid hg
  have HN := Lib.hid hn; clear hn
  have HL := Lib.hid hl; clear hl
  clear hx hk0 hb0 hw0 hg
  go_enter Try.func3, Try.ntmps3
  by_cases hbig : 150 < n
  · go_wp2_with fail
    rw [← HW0.out]
    refine (tawake_any w0).mono ?_
    rintro e w1 ⟨rfl, hk1⟩
    have HK1 := Lib.hid (HK.out.trans hk1)
    clear hk1
    go_wp2_with fail
    go_ret
    exact ⟨rfl, HK1.out⟩
  have hn150 : n ≤ 150 := by omega
  go_wp2_with fail
  rw [← HW0.out, ← HG.out]
  clear HW0
  refine (lentP_any A n c _ l w0 HX.out HN.out (by omega)).mono ?_
  rintro e w1 ⟨rfl, ho1, hk1⟩
  obtain ⟨gi, hgi⟩ : ∃ gi, gi = w0.heap.size := ⟨_, rfl⟩
  rw [← hgi] at ho1 ⊢
  have HX1 := Lib.hid (HX.out.kp0 hk1)
  have HB1 := Lib.hid (HB.out.kp0 hk1)
  have HK1 := Lib.hid (HK.out.trans hk1)
  have HRI := Lib.hid (show Rd w1 w1.heap.size (some ⟨gi, 0, none⟩) (pcI l) from by
    have h9 := (own_rd ho1).take (n * 2)
    rwa [List.take_append_of_le_length (by rw [pcI_len, HN.out]; omega), List.take_of_length_le (by rw [pcI_len, HN.out]; omega)] at h9)
  obtain ⟨rest, hbi⟩ : ∃ rest, Blk w1 gi 24 (inC l 0 ([.int .i64 7, .int .i64 7] ++ rest)) := by
    rcases own_blk ho1 with ⟨h, _⟩ | ⟨g', cap, rest, hv, _, hb, _⟩
    · cases h
    · injection hv with hv
      injection hv with hv
      injection hv with hv
      subst hv
      refine ⟨rest, ?_⟩
      rw [List.append_assoc] at hb
      exact hb
  have HBI := Lib.hid hbi
  have HGI := Lib.hid (show g ≠ gi ∧ w.heap.size ≤ gi ∧ gi < w1.heap.size from ⟨by have := HB.out.lt; omega, by rw [hgi]; exact HK.out.size, hbi.lt⟩)
  clear ho1 hk1 hgi hbi HX HB HK
  have HPR := Lib.hid (fun w' (hk : Kp [] w1 w') => pairs_any A n c w.heap.size l w' (HX1.out.kp0 hk) (Nat.le_trans HK1.out.size hk.size) HN.out (by omega))
  have q0 : w1.cell? ⟨g, 0, none⟩ = some (.int .i64 r) := by rw [HB1.out.cell]; rfl
  obtain ⟨D, hD⟩ : ∃ D, D = sideI (max s r) := ⟨_, rfl⟩
  have HSD := Lib.hid (show ∀ w', Calls Try.prog 13 #[.int .i64 s, .int .i64 r] w' fun e w'' => e = .returned (.int .i64 D) ∧ Kp [] w' w'' from fun w' => by
    rw [hD]; exact (tside_any s r _ w' rfl).mono fun e w'' ⟨a, b⟩ => ⟨a, by rw [b]; exact Kp.refl _ _⟩)
  have HRD := Lib.hid (show ∀ w', Calls Try.prog 14 #[.int .i64 s, .int .i64 r] w' fun e w'' => e = .returned (.int .i64 D) ∧ Kp [] w' w'' from fun w' => by
    rw [hD]; exact (rside_any s r _ w' rfl).mono fun e w'' ⟨a, b⟩ => ⟨a, by rw [b]; exact Kp.refl _ _⟩)
  clear hD
  by_cases hno : hgt s = 0 ∨ (l.any fun p => outI s p.1 p.2) = true
  · go_wp2_with fail
    obtain ⟨er, hev, hof, hrf⟩ := of_none s n l hs0 hs1 HN.out hn150 (fun p hp => HL.out p hp) hno
    have HEV := Lib.hid hev
    have HRF := Lib.hid hrf
    refine (hof w1 _ _ _ HRI.out).mono ?_
    rintro e w2 ⟨rfl, hk2⟩
    have hpr := HPR.out w2 hk2
    have q02 := hk2.cell q0 (by simp)
    have HK2 := Lib.hid (HK1.out.trans hk2)
    have HX2 := Lib.hid (HX1.out.kp0 hk2)
    have HB2 := Lib.hid (HB1.out.kp0 hk2)
    have HI2 := Lib.hid (HBI.out.kp0 hk2)
    clear hof hk2 q0 hev hrf HK1 HX1 HB1 HBI HPR HRI
    go_wp2_with fail
    refine hpr.mono ?_
    rintro e w3 ⟨Ao, co, rfl, hop, hk3⟩
    have q03 := hk3.cell q02 (by simp)
    have HOP := Lib.hid (own_rd hop)
    have HK3' := Lib.hid (HK2.out.trans hk3)
    have HX3' := Lib.hid (HX2.out.kp0 hk3)
    have HI3' := Lib.hid (HI2.out.kp0 hk3)
    clear hop hk3 q02 HK2 HX2 HB2 HI2 hpr
    go_wp2_with fail
    refine (HRF.out w3 _ _ _ HOP.out).mono ?_
    rintro e wq ⟨rfl, hkq⟩
    have q0w := hkq.cell q03 (by simp)
    have HK3 := Lib.hid (HK3'.out.trans hkq)
    have HX3 := Lib.hid (HX3'.out.kp0 hkq)
    have HI3 := Lib.hid (HI3'.out.kp0 hkq)
    have hev1 : (er == 0) = false := by simp [HEV.out]
    have hev2 : (er != 0) = true := by simp [HEV.out]
    clear hkq q03 HK3' HX3' HI3' HOP HRF
    go_wp2_with fail
    have HQ0 := Lib.hid q0w
    clear q0w
    refine wp_region_facts (by kernel_rfl) 98 [34, 35, 36, 37, 38, 39, 40, 41, 42, 43, 44, 45, 46, 47] [[], [], [34, 35], [36], [37], [37], [39, 37], [38, 40, 37], [37], [37], [43, 37], [42, 44, 37], [41, 45, 37], [37, 46]] (by kernel_rfl) (by kernel_rfl) rfl (factOf [(34, .eq (.int .i64 er)), (35, .eq (.int .i64 er)), (36, .eq (.bool false)), (37, .eq (.bool false)), (38, .eq (.int .i64 s)), (39, .eq (.pointer (some ⟨g, 0, none⟩))), (40, .eq (.int .i64 r)), (41, .eq (.int .i64 D)), (42, .eq (.int .i64 s)), (43, .eq (.pointer (some ⟨g, 0, none⟩))), (44, .eq (.int .i64 r)), (45, .eq (.int .i64 D)), (46, .eq (.bool false)), (47, .eq (.bool false))]) (factOf_stable _) _ (fun x => by simp only [fillL, Nat.reduceAdd, Nat.reduceEqDiff, ↓reduceIte]; rfl) ?_ ?_
    · refine ⟨?_, ?_, ?_, ?_, ?_, ?_, ?_, ?_, ?_, ?_, ?_, ?_, ?_, ?_, trivial⟩
      · intro fx w' fa hk hd ev  -- 34 = Op.move (Operand.tmp 11)
        have e11 : fa.tmps[11]?.getD undef = .int .i64 er := ev.old 11 rfl
        refine stepF_un rfl (fun K hK => ?_)
        exact stepF_val _ hK (run_move rfl e11 _) rfl
      · intro fx w' fa hk hd ev  -- 35 = Op.move (Operand.tmp 13)
        have e13 : fa.tmps[13]?.getD undef = .int .i64 er := ev.old 13 rfl
        refine stepF_un rfl (fun K hK => ?_)
        exact stepF_val _ hK (run_move rfl e13 _) rfl
      · intro fx w' fa hk hd ev  -- 36 = Op.binOp BinOp.neq 28 (Operand.tmp 34) (Operand.tmp 35) 28
        have h34 : fx 34 = .int .i64 er := hd.1
        have e34 : fa.tmps[34]?.getD undef = .int .i64 er := (ev.new 34 rfl).trans h34
        have h35 : fx 35 = .int .i64 er := hd.2.1
        have e35 : fa.tmps[35]?.getD undef = .int .i64 er := (ev.new 35 rfl).trans h35
        refine stepF_un rfl (fun K hK => ?_)
        go_simp
        exact hK _ _ rfl (Kp.refl _ _)
      · intro fx w' fa hk hd ev  -- 37 = Op.move (Operand.tmp 36)
        have h36 : fx 36 = .bool false := hd.1
        have e36 : fa.tmps[36]?.getD undef = .bool false := (ev.new 36 rfl).trans h36
        refine stepF_un rfl (fun K hK => ?_)
        exact stepF_val _ hK (run_move rfl e36 _) rfl
      · intro fx w' fa hk hd ev  -- 38 = Op.move (Operand.tmp 0)
        have h37 : fx 37 = .bool false := hd.1
        have e37 : fa.tmps[37]?.getD undef = .bool false := (ev.new 37 rfl).trans h37
        have e0 : fa.tmps[0]?.getD undef = .int .i64 s := ev.old 0 rfl
        refine stepF_yes (i := 3) (g := 37) (b := false) rfl rfl rfl e37 (fun K hK => ?_)
        exact stepF_val _ hK (run_move rfl e0 _) rfl
      · intro fx w' fa hk hd ev  -- 39 = Op.fieldAddr 24 (Operand.tmp 6) 0
        have h37 : fx 37 = .bool false := hd.1
        have e37 : fa.tmps[37]?.getD undef = .bool false := (ev.new 37 rfl).trans h37
        have e6 : fa.tmps[6]?.getD undef = .pointer (some ⟨g, 0, none⟩) := ev.old 6 rfl
        refine stepF_yes (i := 3) (g := 37) (b := false) rfl rfl rfl e37 (fun K hK => ?_)
        go_simp
        exact hK _ _ rfl (Kp.refl _ _)
      · intro fx w' fa hk hd ev  -- 40 = Op.load 3 (Operand.tmp 39)
        have h39 : fx 39 = .pointer (some ⟨g, 0, none⟩) := hd.1
        have e39 : fa.tmps[39]?.getD undef = .pointer (some ⟨g, 0, none⟩) := (ev.new 39 rfl).trans h39
        have h37 : fx 37 = .bool false := hd.2.1
        have e37 : fa.tmps[37]?.getD undef = .bool false := (ev.new 37 rfl).trans h37
        refine stepF_yes (i := 3) (g := 37) (b := false) rfl rfl rfl e37 (fun K hK => ?_)
        have q9 := hk.cell HQ0.out (by simp)
        go_simp
        exact hK _ _ rfl (Kp.refl _ _)
      · intro fx w' fa hk hd ev  -- 41 = Op.call { callee := Callee.value (Operand.func 13), args := 
        have h38 : fx 38 = .int .i64 s := hd.1
        have e38 : fa.tmps[38]?.getD undef = .int .i64 s := (ev.new 38 rfl).trans h38
        have h40 : fx 40 = .int .i64 r := hd.2.1
        have e40 : fa.tmps[40]?.getD undef = .int .i64 r := (ev.new 40 rfl).trans h40
        have h37 : fx 37 = .bool false := hd.2.2.1
        have e37 : fa.tmps[37]?.getD undef = .bool false := (ev.new 37 rfl).trans h37
        refine stepF_yes (i := 3) (g := 37) (b := false) rfl rfl rfl e37 (fun K hK => ?_)
        go_simp
        refine (HSD.out w').mono ?_
        rintro e w1 ⟨rfl, hk1⟩
        exact hK _ _ rfl hk1
      · intro fx w' fa hk hd ev  -- 42 = Op.move (Operand.tmp 0)
        have h37 : fx 37 = .bool false := hd.1
        have e37 : fa.tmps[37]?.getD undef = .bool false := (ev.new 37 rfl).trans h37
        have e0 : fa.tmps[0]?.getD undef = .int .i64 s := ev.old 0 rfl
        refine stepF_yes (i := 3) (g := 37) (b := false) rfl rfl rfl e37 (fun K hK => ?_)
        exact stepF_val _ hK (run_move rfl e0 _) rfl
      · intro fx w' fa hk hd ev  -- 43 = Op.fieldAddr 24 (Operand.tmp 6) 0
        have h37 : fx 37 = .bool false := hd.1
        have e37 : fa.tmps[37]?.getD undef = .bool false := (ev.new 37 rfl).trans h37
        have e6 : fa.tmps[6]?.getD undef = .pointer (some ⟨g, 0, none⟩) := ev.old 6 rfl
        refine stepF_yes (i := 3) (g := 37) (b := false) rfl rfl rfl e37 (fun K hK => ?_)
        go_simp
        exact hK _ _ rfl (Kp.refl _ _)
      · intro fx w' fa hk hd ev  -- 44 = Op.load 3 (Operand.tmp 43)
        have h43 : fx 43 = .pointer (some ⟨g, 0, none⟩) := hd.1
        have e43 : fa.tmps[43]?.getD undef = .pointer (some ⟨g, 0, none⟩) := (ev.new 43 rfl).trans h43
        have h37 : fx 37 = .bool false := hd.2.1
        have e37 : fa.tmps[37]?.getD undef = .bool false := (ev.new 37 rfl).trans h37
        refine stepF_yes (i := 3) (g := 37) (b := false) rfl rfl rfl e37 (fun K hK => ?_)
        have q9 := hk.cell HQ0.out (by simp)
        go_simp
        exact hK _ _ rfl (Kp.refl _ _)
      · intro fx w' fa hk hd ev  -- 45 = Op.call { callee := Callee.value (Operand.func 14), args := 
        have h42 : fx 42 = .int .i64 s := hd.1
        have e42 : fa.tmps[42]?.getD undef = .int .i64 s := (ev.new 42 rfl).trans h42
        have h44 : fx 44 = .int .i64 r := hd.2.1
        have e44 : fa.tmps[44]?.getD undef = .int .i64 r := (ev.new 44 rfl).trans h44
        have h37 : fx 37 = .bool false := hd.2.2.1
        have e37 : fa.tmps[37]?.getD undef = .bool false := (ev.new 37 rfl).trans h37
        refine stepF_yes (i := 3) (g := 37) (b := false) rfl rfl rfl e37 (fun K hK => ?_)
        go_simp
        refine (HRD.out w').mono ?_
        rintro e w1 ⟨rfl, hk1⟩
        exact hK _ _ rfl hk1
      · intro fx w' fa hk hd ev  -- 46 = Op.binOp BinOp.neq 3 (Operand.tmp 41) (Operand.tmp 45) 3
        have h41 : fx 41 = .int .i64 D := hd.1
        have e41 : fa.tmps[41]?.getD undef = .int .i64 D := (ev.new 41 rfl).trans h41
        have h45 : fx 45 = .int .i64 D := hd.2.1
        have e45 : fa.tmps[45]?.getD undef = .int .i64 D := (ev.new 45 rfl).trans h45
        have h37 : fx 37 = .bool false := hd.2.2.1
        have e37 : fa.tmps[37]?.getD undef = .bool false := (ev.new 37 rfl).trans h37
        refine stepF_yes (i := 3) (g := 37) (b := false) rfl rfl rfl e37 (fun K hK => ?_)
        go_simp
        exact hK _ _ rfl (Kp.refl _ _)
      · intro fx w' fa hk hd ev  -- 47 = Op.pick (Operand.tmp 37) (Operand.const (Value.bool true)) (
        have h37 : fx 37 = .bool false := hd.1
        have e37 : fa.tmps[37]?.getD undef = .bool false := (ev.new 37 rfl).trans h37
        have h46 : fx 46 = .bool false := hd.2.1
        have e46 : fa.tmps[46]?.getD undef = .bool false := (ev.new 46 rfl).trans h46
        refine stepF_un rfl (fun K hK => ?_)
        go_simp
        exact hK _ _ rfl (Kp.refl _ _)
    · intro fx w' hk hd
      have h47 : fx 47 = .bool false := hd.2.2.2.2.2.2.2.2.2.2.2.2.2.1
      rw [h47]
      have HK4 := Lib.hid (HK3.out.trans hk)
      have HX4 := Lib.hid (HX3.out.kp0 hk)
      have HI4 := Lib.hid (HI3.out.kp0 hk)
      have HKF := Lib.hid hk
      obtain ⟨w4, hw4⟩ : ∃ w4, w4 = w' := ⟨_, rfl⟩
      rw [← hw4] at HK4 HX4 HI4 HKF ⊢
      clear hk hd hw4 HX3 HI3
      go_wp2_with fail
      go_loopw [14] (fun x wr => ∃ k : Nat, x = .int .i64 (k : Int) ∧ k ≤ n ∧ Hid (Blk wr gi 24 (inC l k ([.int .i64 7, .int .i64 7] ++ rest))) ∧ Hid (Kp [gi] w4 wr)) (fun x _ => n - (intOf x).toNat)
      case atStart => exact ⟨0, rfl, by omega, HI4, Lib.hid (Kp.refl _ _)⟩
      case round =>
        clear HI4
        obtain ⟨k, rfl, hk, HBI, HKR⟩ := hrel
        by_cases hlt : k < n
        · have hxr := HX4.out.kp HKR.out (fun x hx => by simp only [List.mem_singleton] at hx; have := HGI.out.2.1; omega)
          obtain ⟨a, b, ad, hxk, had, _, hcx, hcy⟩ := hxr.ixI (k := k) (by rw [HN.out]; exact hlt)
          subst had
          obtain ⟨i0', i1'⟩ := inC_get hxk ([.int .i64 7, .int .i64 7] ++ rest)
          have d0 : wr.cell? ⟨gi, k * 2, none⟩ = some (.int .i64 a) := by rw [HBI.out.cell]; exact i0'
          have d1 : wr.cell? ⟨gi, k * 2 + 1, none⟩ = some (.int .i64 b) := by rw [HBI.out.cell]; exact i1'
          have HIS := Lib.hid (inC_set hxk ([.int .i64 7, .int .i64 7] ++ rest))
          have hpe := pair_eq a b a b
          rw [decide_eq_true ⟨rfl, rfl⟩] at hpe
          have hj0 : (0 : Int) ≤ (k : Int) := by omega
          have hj1 : (k : Int) < (n : Int) := by omega
          clear hxr hxk i0' i1'
          go_wp2_with fail
          refine wp_region_facts (by kernel_rfl) 98 [54, 55, 56, 57, 58, 59, 60, 61, 62] [[], [], [54, 55], [56], [], [], [58, 59], [60], [57, 61]] (by kernel_rfl) (by kernel_rfl) rfl (factOf [(54, .eq (.slice (some ⟨gi, 0, none⟩) n (n + 2))), (55, .eq (.int .i64 (k : Int))), (56, .eq (.pointer (some ⟨gi, k * 2, none⟩))), (57, .eq (.agg #[.int .i64 a, .int .i64 b])), (58, .eq (.slice (some ad) n c)), (59, .eq (.int .i64 (k : Int))), (60, .eq (.pointer (some (ad.add (k * 2))))), (61, .eq (.agg #[.int .i64 a, .int .i64 b])), (62, .eq (.bool false))]) (factOf_stable _) _ (fun x => by simp only [fillL, Nat.reduceAdd, Nat.reduceEqDiff, ↓reduceIte]; rfl) ?_ ?_
          · refine ⟨?_, ?_, ?_, ?_, ?_, ?_, ?_, ?_, ?_, trivial⟩
            · intro fx w' fa hk hd ev  -- 54 = Op.move (Operand.tmp 9)
              have e9 : fa.tmps[9]?.getD undef = .slice (some ⟨gi, 0, none⟩) n (n + 2) := ev.old 9 rfl
              refine stepF_un rfl (fun K hK => ?_)
              exact stepF_val _ hK (run_move rfl e9 _) rfl
            · intro fx w' fa hk hd ev  -- 55 = Op.move (Operand.tmp 14)
              have e14 : fa.tmps[14]?.getD undef = .int .i64 (k : Int) := ev.old 14 rfl
              refine stepF_un rfl (fun K hK => ?_)
              exact stepF_val _ hK (run_move rfl e14 _) rfl
            · intro fx w' fa hk hd ev  -- 56 = Op.indexAddr 22 (Operand.tmp 54) (Operand.tmp 55)
              have h54 : fx 54 = .slice (some ⟨gi, 0, none⟩) n (n + 2) := hd.1
              have e54 : fa.tmps[54]?.getD undef = .slice (some ⟨gi, 0, none⟩) n (n + 2) := (ev.new 54 rfl).trans h54
              have h55 : fx 55 = .int .i64 (k : Int) := hd.2.1
              have e55 : fa.tmps[55]?.getD undef = .int .i64 (k : Int) := (ev.new 55 rfl).trans h55
              refine stepF_un rfl (fun K hK => ?_)
              go_simp
              exact hK _ _ rfl (Kp.refl _ _)
            · intro fx w' fa hk hd ev  -- 57 = Op.load 24 (Operand.tmp 56)
              have h56 : fx 56 = .pointer (some ⟨gi, k * 2, none⟩) := hd.1
              have e56 : fa.tmps[56]?.getD undef = .pointer (some ⟨gi, k * 2, none⟩) := (ev.new 56 rfl).trans h56
              refine stepF_un rfl (fun K hK => ?_)
              have d01 := hk.cell d0 (by simp)
              have d11 := hk.cell d1 (by simp)
              go_simp
              exact hK _ _ rfl (Kp.refl _ _)
            · intro fx w' fa hk hd ev  -- 58 = Op.move (Operand.tmp 1)
              have e1 : fa.tmps[1]?.getD undef = .slice (some ad) n c := ev.old 1 rfl
              refine stepF_un rfl (fun K hK => ?_)
              exact stepF_val _ hK (run_move rfl e1 _) rfl
            · intro fx w' fa hk hd ev  -- 59 = Op.move (Operand.tmp 14)
              have e14 : fa.tmps[14]?.getD undef = .int .i64 (k : Int) := ev.old 14 rfl
              refine stepF_un rfl (fun K hK => ?_)
              exact stepF_val _ hK (run_move rfl e14 _) rfl
            · intro fx w' fa hk hd ev  -- 60 = Op.indexAddr 22 (Operand.tmp 58) (Operand.tmp 59)
              have h58 : fx 58 = .slice (some ad) n c := hd.1
              have e58 : fa.tmps[58]?.getD undef = .slice (some ad) n c := (ev.new 58 rfl).trans h58
              have h59 : fx 59 = .int .i64 (k : Int) := hd.2.1
              have e59 : fa.tmps[59]?.getD undef = .int .i64 (k : Int) := (ev.new 59 rfl).trans h59
              refine stepF_un rfl (fun K hK => ?_)
              go_simp
              exact hK _ _ rfl (Kp.refl _ _)
            · intro fx w' fa hk hd ev  -- 61 = Op.load 24 (Operand.tmp 60)
              have h60 : fx 60 = .pointer (some (ad.add (k * 2))) := hd.1
              have e60 : fa.tmps[60]?.getD undef = .pointer (some (ad.add (k * 2))) := (ev.new 60 rfl).trans h60
              refine stepF_un rfl (fun K hK => ?_)
              have d01 := hk.cell hcx (by simp)
              have d11 := hk.cell hcy (by simp)
              go_simp
              exact hK _ _ rfl (Kp.refl _ _)
            · intro fx w' fa hk hd ev  -- 62 = Op.binOp BinOp.neq 24 (Operand.tmp 57) (Operand.tmp 61) 24
              have h57 : fx 57 = .agg #[.int .i64 a, .int .i64 b] := hd.1
              have e57 : fa.tmps[57]?.getD undef = .agg #[.int .i64 a, .int .i64 b] := (ev.new 57 rfl).trans h57
              have h61 : fx 61 = .agg #[.int .i64 a, .int .i64 b] := hd.2.1
              have e61 : fa.tmps[61]?.getD undef = .agg #[.int .i64 a, .int .i64 b] := (ev.new 61 rfl).trans h61
              refine stepF_un rfl (fun K hK => ?_)
              go_simp
              exact hK _ _ rfl (Kp.refl _ _)
          · intro fx w' hk hd
            have h62 : fx 62 = .bool false := hd.2.2.2.2.2.2.2.2.1
            rw [h62]
            have d01 := hk.cell d0 (by simp)
            have d11 := hk.cell d1 (by simp)
            have bi := HBI.out.kp0 hk
            have f0 := bi.free (k * 2)
            have f1 := bi.free (k * 2 + 1)
            have bs9 := (bi.set_ (k * 2) (.int .i64 0)).set_ (k * 2 + 1) (.int .i64 0)
            rw [HIS.out] at bs9
            have HB9 := Lib.hid bs9
            have HK9 := Lib.hid (((HKR.out.trans (hk.nil)).setCell (p := ⟨gi, k * 2, none⟩) (.inl (by simp)) (.int .i64 0)).setCell (p := ⟨gi, k * 2 + 1, none⟩) (.inl (by simp)) (.int .i64 0))
            clear hk hd bi bs9 d0 d1 hcx hcy hpe
            go_wp2_with fail
            exact ⟨⟨k + 1, by go_num, by omega, HB9, HK9⟩, by simp [intOf]; omega⟩
        · obtain rfl : n = k := by omega
          have HKW := Lib.hid (HK4.out.trans' HKR.out (fun x hx => .inr (by simp only [List.mem_singleton] at hx; have := HGI.out.2.1; omega)))
          go_wp2_with fail
          refine (tawake_any wr).mono ?_
          rintro e w5 ⟨rfl, hk5⟩
          have HK5 := Lib.hid (HKW.out.trans hk5)
          clear hk5
          go_wp2_with fail
          go_ret
          exact ⟨rfl, HK5.out⟩
  · obtain ⟨h0, hout⟩ : hgt s ≠ 0 ∧ (l.any fun p => outI s p.1 p.2) = false := by
      refine ⟨fun h => hno (.inl h), ?_⟩
      cases h : (l.any fun p => outI s p.1 p.2) with
      | false => rfl
      | true => exact absurd (.inr h) hno
    obtain ⟨h, hh⟩ : ∃ h, h = hgt s := ⟨_, rfl⟩
    obtain ⟨h1, h17, hsp⟩ : 1 ≤ h ∧ h ≤ 17 ∧ s = ((2 ^ h : Nat) : Int) := by
      rw [hh]
      rcases hgt_spec s with h' | h'
      · exact absurd h'.1 h0
      · exact h'
    rw [hsp] at hout
    obtain ⟨m, rfl, hm⟩ := inside_nats hout
    rw [← pc_I] at HX1 HRI
    have hml : m.length = n := by have := HN.out; rwa [List.length_map] at this
    have hof := tof_ok h n (n + 2) _ (some ⟨gi, 0, none⟩) m w1 h1 h17 HRI.out hml (by omega) hm (k_all h1 m).1
    rw [← hsp] at hof
    obtain ⟨bs, hbs⟩ : ∃ bs, bs = levL h [m] := ⟨_, rfl⟩
    rw [← hbs] at hof
    have HML := Lib.hid hml
    have HM := Lib.hid hm
    have HSS := Lib.hid hsp
    have HBS := Lib.hid hbs
    have hbl : bs.length ≤ 10268 := by
      rw [hbs]
      exact Nat.le_trans (levL_len 150 h [m] (by simp) (by simp [hml]; omega)) (by omega)
    clear hno h0 hout hh hml hm hsp hbs
    go_wp2_with fail
    refine hof.mono ?_
    rintro e w2 ⟨S, p, q, rfl, ht, hS, hp, hk2⟩
    have hpr := HPR.out w2 hk2
    have q02 := hk2.cell q0 (by simp)
    have HT := Lib.hid ht
    have HSG := Lib.hid (show (∀ x ∈ S, gi < x) ∧ gi < p from ⟨fun x hx => Nat.lt_of_lt_of_le HGI.out.2.2 (hS x hx), Nat.lt_of_lt_of_le HGI.out.2.2 hp⟩)
    have HK2 := Lib.hid (HK1.out.trans hk2)
    have HX2 := Lib.hid (show Rd w2 w.heap.size A (pcI (m.map upI)) from by rw [← pc_I]; exact HX1.out.kp0 hk2)
    have HI2 := Lib.hid (HBI.out.kp0 hk2)
    have HB2 := Lib.hid (HB1.out.kp0 hk2)
    clear hof ht hS hp hk2 q0 HK1 HX1 HB1 HBI HPR HRI
    go_wp2_with fail
    refine hpr.mono ?_
    rintro e w3 ⟨Ao, co, rfl, hop, hk3⟩
    have q03 := hk3.cell q02 (by simp)
    have hof2 := rof_ok h n co _ Ao m w3 h1 h17 (by rw [pc_I]; exact own_rd hop) (Nat.le_refl _) HML.out hn150 HM.out
    rw [← HSS.out] at hof2
    have HT3 := Lib.hid (HT.out.kp0 hk3)
    have HK3' := Lib.hid (HK2.out.trans hk3)
    have HX3' := Lib.hid (HX2.out.kp0 hk3)
    have HI3' := Lib.hid (HI2.out.kp0 hk3)
    have HB3' := Lib.hid (HB2.out.kp0 hk3)
    clear hop hk3 q02 HK2 HX2 HI2 HB2 HT hpr
    go_wp2_with fail
    refine hof2.mono ?_
    rintro e wq ⟨pr, L, rfl, hrt, hLn, hLm, hkq⟩
    have q0w := hkq.cell q03 (by simp)
    have HT4 := Lib.hid (HT3.out.kp0 hkq)
    have HRT := Lib.hid hrt
    have HLN := Lib.hid hLn
    have HLM := Lib.hid hLm
    have HLV := Lib.hid (show levL h [L] = bs from by rw [HBS.out]; exact lev_same h ((.cons hLm .nil : Tog SameS [L] [m])))
    have HPG := Lib.hid (show gi < wq.heap.size from (HI3'.out.kp0 hkq).lt)
    have HPG3 := Lib.hid (show gi < w3.heap.size from HI3'.out.lt)
    have HK3 := Lib.hid (HK3'.out.trans hkq)
    have HX3 := Lib.hid (HX3'.out.kp0 hkq)
    have HI3 := Lib.hid (HI3'.out.kp0 hkq)
    have HB3 := Lib.hid (HB3'.out.kp0 hkq)
    rw [HLV.out] at HRT
    clear hkq q03 HK3' HX3' HI3' HB3' HT3 hrt hLn hLm hof2
    go_wp2_with fail
    have HQ0 := Lib.hid q0w
    clear q0w
    refine wp_region_facts (by kernel_rfl) 98 [34, 35, 36, 37, 38, 39, 40, 41, 42, 43, 44, 45, 46, 47] [[], [], [34, 35], [36], [37], [37], [39, 37], [38, 40, 37], [37], [37], [43, 37], [42, 44, 37], [41, 45, 37], [37, 46]] (by kernel_rfl) (by kernel_rfl) rfl (factOf [(34, .eq (.int .i64 0)), (35, .eq (.int .i64 0)), (36, .eq (.bool false)), (37, .eq (.bool false)), (38, .eq (.int .i64 s)), (39, .eq (.pointer (some ⟨g, 0, none⟩))), (40, .eq (.int .i64 r)), (41, .eq (.int .i64 D)), (42, .eq (.int .i64 s)), (43, .eq (.pointer (some ⟨g, 0, none⟩))), (44, .eq (.int .i64 r)), (45, .eq (.int .i64 D)), (46, .eq (.bool false)), (47, .eq (.bool false))]) (factOf_stable _) _ (fun x => by simp only [fillL, Nat.reduceAdd, Nat.reduceEqDiff, ↓reduceIte]; rfl) ?_ ?_
    · refine ⟨?_, ?_, ?_, ?_, ?_, ?_, ?_, ?_, ?_, ?_, ?_, ?_, ?_, ?_, trivial⟩
      · intro fx w' fa hk hd ev  -- 34 = Op.move (Operand.tmp 11)
        have e11 : fa.tmps[11]?.getD undef = .int .i64 0 := ev.old 11 rfl
        refine stepF_un rfl (fun K hK => ?_)
        exact stepF_val _ hK (run_move rfl e11 _) rfl
      · intro fx w' fa hk hd ev  -- 35 = Op.move (Operand.tmp 13)
        have e13 : fa.tmps[13]?.getD undef = .int .i64 0 := ev.old 13 rfl
        refine stepF_un rfl (fun K hK => ?_)
        exact stepF_val _ hK (run_move rfl e13 _) rfl
      · intro fx w' fa hk hd ev  -- 36 = Op.binOp BinOp.neq 28 (Operand.tmp 34) (Operand.tmp 35) 28
        have h34 : fx 34 = .int .i64 0 := hd.1
        have e34 : fa.tmps[34]?.getD undef = .int .i64 0 := (ev.new 34 rfl).trans h34
        have h35 : fx 35 = .int .i64 0 := hd.2.1
        have e35 : fa.tmps[35]?.getD undef = .int .i64 0 := (ev.new 35 rfl).trans h35
        refine stepF_un rfl (fun K hK => ?_)
        go_simp
        exact hK _ _ rfl (Kp.refl _ _)
      · intro fx w' fa hk hd ev  -- 37 = Op.move (Operand.tmp 36)
        have h36 : fx 36 = .bool false := hd.1
        have e36 : fa.tmps[36]?.getD undef = .bool false := (ev.new 36 rfl).trans h36
        refine stepF_un rfl (fun K hK => ?_)
        exact stepF_val _ hK (run_move rfl e36 _) rfl
      · intro fx w' fa hk hd ev  -- 38 = Op.move (Operand.tmp 0)
        have h37 : fx 37 = .bool false := hd.1
        have e37 : fa.tmps[37]?.getD undef = .bool false := (ev.new 37 rfl).trans h37
        have e0 : fa.tmps[0]?.getD undef = .int .i64 s := ev.old 0 rfl
        refine stepF_yes (i := 3) (g := 37) (b := false) rfl rfl rfl e37 (fun K hK => ?_)
        exact stepF_val _ hK (run_move rfl e0 _) rfl
      · intro fx w' fa hk hd ev  -- 39 = Op.fieldAddr 24 (Operand.tmp 6) 0
        have h37 : fx 37 = .bool false := hd.1
        have e37 : fa.tmps[37]?.getD undef = .bool false := (ev.new 37 rfl).trans h37
        have e6 : fa.tmps[6]?.getD undef = .pointer (some ⟨g, 0, none⟩) := ev.old 6 rfl
        refine stepF_yes (i := 3) (g := 37) (b := false) rfl rfl rfl e37 (fun K hK => ?_)
        go_simp
        exact hK _ _ rfl (Kp.refl _ _)
      · intro fx w' fa hk hd ev  -- 40 = Op.load 3 (Operand.tmp 39)
        have h39 : fx 39 = .pointer (some ⟨g, 0, none⟩) := hd.1
        have e39 : fa.tmps[39]?.getD undef = .pointer (some ⟨g, 0, none⟩) := (ev.new 39 rfl).trans h39
        have h37 : fx 37 = .bool false := hd.2.1
        have e37 : fa.tmps[37]?.getD undef = .bool false := (ev.new 37 rfl).trans h37
        refine stepF_yes (i := 3) (g := 37) (b := false) rfl rfl rfl e37 (fun K hK => ?_)
        have q9 := hk.cell HQ0.out (by simp)
        go_simp
        exact hK _ _ rfl (Kp.refl _ _)
      · intro fx w' fa hk hd ev  -- 41 = Op.call { callee := Callee.value (Operand.func 13), args := 
        have h38 : fx 38 = .int .i64 s := hd.1
        have e38 : fa.tmps[38]?.getD undef = .int .i64 s := (ev.new 38 rfl).trans h38
        have h40 : fx 40 = .int .i64 r := hd.2.1
        have e40 : fa.tmps[40]?.getD undef = .int .i64 r := (ev.new 40 rfl).trans h40
        have h37 : fx 37 = .bool false := hd.2.2.1
        have e37 : fa.tmps[37]?.getD undef = .bool false := (ev.new 37 rfl).trans h37
        refine stepF_yes (i := 3) (g := 37) (b := false) rfl rfl rfl e37 (fun K hK => ?_)
        go_simp
        refine (HSD.out w').mono ?_
        rintro e w1 ⟨rfl, hk1⟩
        exact hK _ _ rfl hk1
      · intro fx w' fa hk hd ev  -- 42 = Op.move (Operand.tmp 0)
        have h37 : fx 37 = .bool false := hd.1
        have e37 : fa.tmps[37]?.getD undef = .bool false := (ev.new 37 rfl).trans h37
        have e0 : fa.tmps[0]?.getD undef = .int .i64 s := ev.old 0 rfl
        refine stepF_yes (i := 3) (g := 37) (b := false) rfl rfl rfl e37 (fun K hK => ?_)
        exact stepF_val _ hK (run_move rfl e0 _) rfl
      · intro fx w' fa hk hd ev  -- 43 = Op.fieldAddr 24 (Operand.tmp 6) 0
        have h37 : fx 37 = .bool false := hd.1
        have e37 : fa.tmps[37]?.getD undef = .bool false := (ev.new 37 rfl).trans h37
        have e6 : fa.tmps[6]?.getD undef = .pointer (some ⟨g, 0, none⟩) := ev.old 6 rfl
        refine stepF_yes (i := 3) (g := 37) (b := false) rfl rfl rfl e37 (fun K hK => ?_)
        go_simp
        exact hK _ _ rfl (Kp.refl _ _)
      · intro fx w' fa hk hd ev  -- 44 = Op.load 3 (Operand.tmp 43)
        have h43 : fx 43 = .pointer (some ⟨g, 0, none⟩) := hd.1
        have e43 : fa.tmps[43]?.getD undef = .pointer (some ⟨g, 0, none⟩) := (ev.new 43 rfl).trans h43
        have h37 : fx 37 = .bool false := hd.2.1
        have e37 : fa.tmps[37]?.getD undef = .bool false := (ev.new 37 rfl).trans h37
        refine stepF_yes (i := 3) (g := 37) (b := false) rfl rfl rfl e37 (fun K hK => ?_)
        have q9 := hk.cell HQ0.out (by simp)
        go_simp
        exact hK _ _ rfl (Kp.refl _ _)
      · intro fx w' fa hk hd ev  -- 45 = Op.call { callee := Callee.value (Operand.func 14), args := 
        have h42 : fx 42 = .int .i64 s := hd.1
        have e42 : fa.tmps[42]?.getD undef = .int .i64 s := (ev.new 42 rfl).trans h42
        have h44 : fx 44 = .int .i64 r := hd.2.1
        have e44 : fa.tmps[44]?.getD undef = .int .i64 r := (ev.new 44 rfl).trans h44
        have h37 : fx 37 = .bool false := hd.2.2.1
        have e37 : fa.tmps[37]?.getD undef = .bool false := (ev.new 37 rfl).trans h37
        refine stepF_yes (i := 3) (g := 37) (b := false) rfl rfl rfl e37 (fun K hK => ?_)
        go_simp
        refine (HRD.out w').mono ?_
        rintro e w1 ⟨rfl, hk1⟩
        exact hK _ _ rfl hk1
      · intro fx w' fa hk hd ev  -- 46 = Op.binOp BinOp.neq 3 (Operand.tmp 41) (Operand.tmp 45) 3
        have h41 : fx 41 = .int .i64 D := hd.1
        have e41 : fa.tmps[41]?.getD undef = .int .i64 D := (ev.new 41 rfl).trans h41
        have h45 : fx 45 = .int .i64 D := hd.2.1
        have e45 : fa.tmps[45]?.getD undef = .int .i64 D := (ev.new 45 rfl).trans h45
        have h37 : fx 37 = .bool false := hd.2.2.1
        have e37 : fa.tmps[37]?.getD undef = .bool false := (ev.new 37 rfl).trans h37
        refine stepF_yes (i := 3) (g := 37) (b := false) rfl rfl rfl e37 (fun K hK => ?_)
        go_simp
        exact hK _ _ rfl (Kp.refl _ _)
      · intro fx w' fa hk hd ev  -- 47 = Op.pick (Operand.tmp 37) (Operand.const (Value.bool true)) (
        have h37 : fx 37 = .bool false := hd.1
        have e37 : fa.tmps[37]?.getD undef = .bool false := (ev.new 37 rfl).trans h37
        have h46 : fx 46 = .bool false := hd.2.1
        have e46 : fa.tmps[46]?.getD undef = .bool false := (ev.new 46 rfl).trans h46
        refine stepF_un rfl (fun K hK => ?_)
        go_simp
        exact hK _ _ rfl (Kp.refl _ _)
    · intro fx w' hk hd
      have h47 : fx 47 = .bool false := hd.2.2.2.2.2.2.2.2.2.2.2.2.2.1
      rw [h47]
      have HK4 := Lib.hid (HK3.out.trans hk)
      have HX4 := Lib.hid (HX3.out.kp0 hk)
      have HI4 := Lib.hid (HI3.out.kp0 hk)
      have HKF := Lib.hid hk
      obtain ⟨w4, hw4⟩ : ∃ w4, w4 = w' := ⟨_, rfl⟩
      rw [← hw4] at HK4 HX4 HI4 HKF ⊢
      clear hk hd hw4 HX3 HI3
      go_wp2_with fail
      go_loopw [14] (fun x wr => ∃ k : Nat, x = .int .i64 (k : Int) ∧ k ≤ n ∧ Hid (Blk wr gi 24 (inC (m.map upI) k ([.int .i64 7, .int .i64 7] ++ rest))) ∧ Hid (Kp [gi] w4 wr)) (fun x _ => n - (intOf x).toNat)
      case atStart => exact ⟨0, rfl, by omega, HI4, Lib.hid (Kp.refl _ _)⟩
      case round =>
        clear HI4
        obtain ⟨k, rfl, hk, HBI, HKR⟩ := hrel
        by_cases hlt : k < n
        · have hxr := HX4.out.kp HKR.out (fun x hx => by simp only [List.mem_singleton] at hx; have := HGI.out.2.1; omega)
          obtain ⟨a, b, ad, hxk, had, _, hcx, hcy⟩ := hxr.ixI (k := k) (by rw [HN.out]; exact hlt)
          subst had
          obtain ⟨i0', i1'⟩ := inC_get hxk ([.int .i64 7, .int .i64 7] ++ rest)
          have d0 : wr.cell? ⟨gi, k * 2, none⟩ = some (.int .i64 a) := by rw [HBI.out.cell]; exact i0'
          have d1 : wr.cell? ⟨gi, k * 2 + 1, none⟩ = some (.int .i64 b) := by rw [HBI.out.cell]; exact i1'
          have HIS := Lib.hid (inC_set hxk ([.int .i64 7, .int .i64 7] ++ rest))
          have hpe := pair_eq a b a b
          rw [decide_eq_true ⟨rfl, rfl⟩] at hpe
          have hj0 : (0 : Int) ≤ (k : Int) := by omega
          have hj1 : (k : Int) < (n : Int) := by omega
          clear hxr hxk i0' i1'
          go_wp2_with fail
          refine wp_region_facts (by kernel_rfl) 98 [54, 55, 56, 57, 58, 59, 60, 61, 62] [[], [], [54, 55], [56], [], [], [58, 59], [60], [57, 61]] (by kernel_rfl) (by kernel_rfl) rfl (factOf [(54, .eq (.slice (some ⟨gi, 0, none⟩) n (n + 2))), (55, .eq (.int .i64 (k : Int))), (56, .eq (.pointer (some ⟨gi, k * 2, none⟩))), (57, .eq (.agg #[.int .i64 a, .int .i64 b])), (58, .eq (.slice (some ad) n c)), (59, .eq (.int .i64 (k : Int))), (60, .eq (.pointer (some (ad.add (k * 2))))), (61, .eq (.agg #[.int .i64 a, .int .i64 b])), (62, .eq (.bool false))]) (factOf_stable _) _ (fun x => by simp only [fillL, Nat.reduceAdd, Nat.reduceEqDiff, ↓reduceIte]; rfl) ?_ ?_
          · refine ⟨?_, ?_, ?_, ?_, ?_, ?_, ?_, ?_, ?_, trivial⟩
            · intro fx w' fa hk hd ev  -- 54 = Op.move (Operand.tmp 9)
              have e9 : fa.tmps[9]?.getD undef = .slice (some ⟨gi, 0, none⟩) n (n + 2) := ev.old 9 rfl
              refine stepF_un rfl (fun K hK => ?_)
              exact stepF_val _ hK (run_move rfl e9 _) rfl
            · intro fx w' fa hk hd ev  -- 55 = Op.move (Operand.tmp 14)
              have e14 : fa.tmps[14]?.getD undef = .int .i64 (k : Int) := ev.old 14 rfl
              refine stepF_un rfl (fun K hK => ?_)
              exact stepF_val _ hK (run_move rfl e14 _) rfl
            · intro fx w' fa hk hd ev  -- 56 = Op.indexAddr 22 (Operand.tmp 54) (Operand.tmp 55)
              have h54 : fx 54 = .slice (some ⟨gi, 0, none⟩) n (n + 2) := hd.1
              have e54 : fa.tmps[54]?.getD undef = .slice (some ⟨gi, 0, none⟩) n (n + 2) := (ev.new 54 rfl).trans h54
              have h55 : fx 55 = .int .i64 (k : Int) := hd.2.1
              have e55 : fa.tmps[55]?.getD undef = .int .i64 (k : Int) := (ev.new 55 rfl).trans h55
              refine stepF_un rfl (fun K hK => ?_)
              go_simp
              exact hK _ _ rfl (Kp.refl _ _)
            · intro fx w' fa hk hd ev  -- 57 = Op.load 24 (Operand.tmp 56)
              have h56 : fx 56 = .pointer (some ⟨gi, k * 2, none⟩) := hd.1
              have e56 : fa.tmps[56]?.getD undef = .pointer (some ⟨gi, k * 2, none⟩) := (ev.new 56 rfl).trans h56
              refine stepF_un rfl (fun K hK => ?_)
              have d01 := hk.cell d0 (by simp)
              have d11 := hk.cell d1 (by simp)
              go_simp
              exact hK _ _ rfl (Kp.refl _ _)
            · intro fx w' fa hk hd ev  -- 58 = Op.move (Operand.tmp 1)
              have e1 : fa.tmps[1]?.getD undef = .slice (some ad) n c := ev.old 1 rfl
              refine stepF_un rfl (fun K hK => ?_)
              exact stepF_val _ hK (run_move rfl e1 _) rfl
            · intro fx w' fa hk hd ev  -- 59 = Op.move (Operand.tmp 14)
              have e14 : fa.tmps[14]?.getD undef = .int .i64 (k : Int) := ev.old 14 rfl
              refine stepF_un rfl (fun K hK => ?_)
              exact stepF_val _ hK (run_move rfl e14 _) rfl
            · intro fx w' fa hk hd ev  -- 60 = Op.indexAddr 22 (Operand.tmp 58) (Operand.tmp 59)
              have h58 : fx 58 = .slice (some ad) n c := hd.1
              have e58 : fa.tmps[58]?.getD undef = .slice (some ad) n c := (ev.new 58 rfl).trans h58
              have h59 : fx 59 = .int .i64 (k : Int) := hd.2.1
              have e59 : fa.tmps[59]?.getD undef = .int .i64 (k : Int) := (ev.new 59 rfl).trans h59
              refine stepF_un rfl (fun K hK => ?_)
              go_simp
              exact hK _ _ rfl (Kp.refl _ _)
            · intro fx w' fa hk hd ev  -- 61 = Op.load 24 (Operand.tmp 60)
              have h60 : fx 60 = .pointer (some (ad.add (k * 2))) := hd.1
              have e60 : fa.tmps[60]?.getD undef = .pointer (some (ad.add (k * 2))) := (ev.new 60 rfl).trans h60
              refine stepF_un rfl (fun K hK => ?_)
              have d01 := hk.cell hcx (by simp)
              have d11 := hk.cell hcy (by simp)
              go_simp
              exact hK _ _ rfl (Kp.refl _ _)
            · intro fx w' fa hk hd ev  -- 62 = Op.binOp BinOp.neq 24 (Operand.tmp 57) (Operand.tmp 61) 24
              have h57 : fx 57 = .agg #[.int .i64 a, .int .i64 b] := hd.1
              have e57 : fa.tmps[57]?.getD undef = .agg #[.int .i64 a, .int .i64 b] := (ev.new 57 rfl).trans h57
              have h61 : fx 61 = .agg #[.int .i64 a, .int .i64 b] := hd.2.1
              have e61 : fa.tmps[61]?.getD undef = .agg #[.int .i64 a, .int .i64 b] := (ev.new 61 rfl).trans h61
              refine stepF_un rfl (fun K hK => ?_)
              go_simp
              exact hK _ _ rfl (Kp.refl _ _)
          · intro fx w' hk hd
            have h62 : fx 62 = .bool false := hd.2.2.2.2.2.2.2.2.1
            rw [h62]
            have d01 := hk.cell d0 (by simp)
            have d11 := hk.cell d1 (by simp)
            have bi := HBI.out.kp0 hk
            have f0 := bi.free (k * 2)
            have f1 := bi.free (k * 2 + 1)
            have bs9 := (bi.set_ (k * 2) (.int .i64 0)).set_ (k * 2 + 1) (.int .i64 0)
            rw [HIS.out] at bs9
            have HB9 := Lib.hid bs9
            have HK9 := Lib.hid (((HKR.out.trans (hk.nil)).setCell (p := ⟨gi, k * 2, none⟩) (.inl (by simp)) (.int .i64 0)).setCell (p := ⟨gi, k * 2 + 1, none⟩) (.inl (by simp)) (.int .i64 0))
            clear hk hd bi bs9 d0 d1 hcx hcy hpe
            go_wp2_with fail
            exact ⟨⟨k + 1, by go_num, by omega, HB9, HK9⟩, by simp [intOf]; omega⟩
        · obtain rfl : n = k := by omega
          have HKW := Lib.hid (HK4.out.trans' HKR.out (fun x hx => .inr (by simp only [List.mem_singleton] at hx; have := HGI.out.2.1; omega)))
          have HRT5 := Lib.hid ((HRT.out.kp0 HKF.out).kp HKR.out (fun x hx => by simp only [List.mem_singleton] at hx; have := HPG3.out; omega))
          have HT5 := Lib.hid ((HT4.out.kp0 HKF.out).kp HKR.out (fun x hx hm => by simp only [List.mem_singleton] at hm; have := HSG.out.1 x hx; omega) (fun hm => by simp only [List.mem_singleton] at hm; have := HSG.out.2; omega))
          have HB5 := Lib.hid ((HB3.out.kp0 HKF.out).kp HKR.out (fun hm => by simp only [List.mem_singleton] at hm; exact HGI.out.1 hm))
          rw [inC_end HN.out] at HBI
          have HLT := Lib.hid (show g < wr.heap.size ∧ gi < wr.heap.size ∧ p < wr.heap.size ∧ (∀ x ∈ S, x < wr.heap.size) from ⟨HB5.out.lt, HBI.out.lt, HT5.out.1.lt, HT5.out.2.1.lt⟩)
          clear HRT HT4 HB3 HK4 HX4 HKF HKR HPG HK3
          go_wp2_with fail
          refine (tbytes_any S p q h _ bs wr HT5.out h17).mono ?_
          rintro e w5 ⟨Ab, mb, cb, hmb, rfl, hob, hk5⟩
          obtain ⟨gB, lB, rfl, hgB, hbB, hlB, hmcB, hcB⟩ : ∃ gB lB, Ab = some ⟨gB, 0, none⟩ ∧ wr.heap.size ≤ gB ∧ Blk w5 gB 5 lB ∧ lB.length = cb ∧ mb ≤ cb ∧ cb ≤ 9223372036854775807 := by
            rcases own_blk hob with ⟨h9, _⟩ | ⟨gB, cap, rb, hv, hg9, hb9, hm9, hc9, _, hl9⟩
            · injection h9 with _ h9
              omega
            · injection hv with hv1 _ hv3
              subst hv1 hv3
              exact ⟨gB, _, rfl, hg9, hb9, by rw [hl9]; omega, hm9, by unfold maxLen at hc9; omega⟩
          have hmb9 : mb ≤ 1000000000 := by omega
          have HK5 := Lib.hid hk5
          have HBB := Lib.hid hbB
          have HGB := Lib.hid hgB
          clear hob hk5 hmb hbB hgB
          go_wp2_with fail
          refine (overB_some gB mb cb lB w5 HBB.out hlB hmcB hcB hmb9).mono ?_
          rintro e w6 ⟨rfl, hk6⟩
          have hk56 : Kp [] wr w6 := HK5.out.trans' hk6 (fun x hx => .inr (by simp only [List.mem_singleton] at hx; have := HGB.out; omega))
          have HT7 := Lib.hid (HT5.out.kp0 hk56)
          have HB7 := Lib.hid (HB5.out.kp0 hk56)
          have HI7 := Lib.hid (HBI.out.kp0 hk56)
          have HRT7 := Lib.hid (HRT5.out.kp0 hk56)
          have HK7 := Lib.hid (HKW.out.trans hk56)
          have hsame := same_any S p q h w3.heap.size pr L m bs r cc node w6 HT7.out HRT7.out HBS.out h1 h17 HM.out HLN.out HLM.out (by omega) hr0 hr1 hc0 hc1 hn0 hn1
          have HSA := Lib.hid hsame
          have s0 : w6.cell? ⟨gi, n * 2, none⟩ = some (.int .i64 7) := by
            rw [HI7.out.cell, List.getElem?_append_right (by simp)]
            simp
          have s1 : w6.cell? ⟨gi, n * 2 + 1, none⟩ = some (.int .i64 7) := by
            rw [HI7.out.cell, List.getElem?_append_right (by simp)]
            simp
          have t0 : w6.cell? ⟨g, 0, none⟩ = some (.int .i64 r) := by rw [HB7.out.cell]; rfl
          have t1 : w6.cell? ⟨g, 1, none⟩ = some (.int .i64 cc) := by rw [HB7.out.cell]; rfl
          have hpe := pair_eq 7 7 7 7
          rw [decide_eq_true ⟨rfl, rfl⟩] at hpe
          have u0 : (0 : Int) ≤ (n : Int) := by omega
          have u1 : (n : Int) < (n : Int) + 1 := by omega
          have u2 : (n : Int) + 1 ≤ (n : Int) + 2 := by omega
          have u3 : n + 1 ≤ n + 2 := by omega
          have u4 : n < n + 1 := by omega
          clear hsame hk6 hk56 HBB HT5 HRT5 HB5 HBI HKW HT7 HRT7 HB7 HI7 HLT
          go_wp2_with fail
          refine HSA.out.mono ?_
          rintro e w7 ⟨rfl, hk7⟩
          have HK8 := Lib.hid (HK7.out.trans hk7)
          clear hk7 s0 s1 t0 t1 hpe HSA
          go_wp2_with fail
          refine (tawake_any w7).mono ?_
          rintro e w8 ⟨rfl, hk8⟩
          have HK9 := Lib.hid (HK8.out.trans hk8)
          clear hk8
          go_wp2_with fail
          go_ret
          exact ⟨rfl, HK9.out⟩
end Go.Proofs.Ytldmabkilgpgcaa
