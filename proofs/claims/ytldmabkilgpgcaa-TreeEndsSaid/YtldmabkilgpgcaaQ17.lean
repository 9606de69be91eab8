/-
  LAYER 15 (tree), the document's: Side, less, sorted.
  LAYER 15 (tree), the document's: its tree while it grows, in memory.
  CONDITIONS: as each lemma says.
-/
import Derived.Test.YtldmabkilgpgcaaQ12
import Derived.Test.YtldmabkilgpgcaaQ04
import Derived.Test.YtldmabkilgpgcaaQ01
import Derived.Test.YtldmabkilgpgcaaQ16
import Derived.Laws.StructEq
import Derived.Deep.RegionLaw
import Derived.Deep.DeepCutAuto
import Derived.Deep.CutBlock
namespace Go.Proofs.Ytldmabkilgpgcaa
open Go.RowKit

theorem Try.info_rpair : (Try.prog.info? 71).map (fun i => (i.zero, i.size, i.bytes)) = some (some (.agg #[.int .i64 0, .int .i64 0]), 2, 16) := by kernel_rfl
set_option maxRecDepth 100000 in
set_option maxHeartbeats 4000000 in
theorem rside_any (r c m : Int) (w : World) (hm : m = max r c) :
    Calls Try.prog 14 #[.int .i64 r, .int .i64 c] w fun e w' => e = .returned (.int .i64 (sideI m)) ∧ w = w' := by
  obtain ⟨R, hR⟩ : ∃ R, R = sideI m := ⟨_, rfl⟩
  rw [← hR]
  have HR := Lib.hid hR; clear hR
  have HM := Lib.hid hm; clear hm
  go_enter Try.func14, Try.ntmps14
  go_wp2_with fail
  go_loopw [5] (fun v wr => ∃ k s : Nat, v = .int .i64 (s : Int) ∧ k ≤ 17 ∧ Hid (s = 2 ^ (k + 1)) ∧ Hid (R = sideF (17 - k) (s : Int) m) ∧ w = wr) (fun v _ => 300000 - (intOf v).toNat)
  case atStart => exact ⟨0, 2, rfl, by omega, Lib.hid rfl, HR, rfl⟩
  case round =>
    obtain ⟨k, s, rfl, hk, HS, HF, rfl⟩ := hrel
    have hs1 : 1 ≤ s := by rw [HS.out]; exact Nat.pow_pos (by omega)
    by_cases h17 : k < 17
    · have hs : s ≤ 131072 := by rw [HS.out]; exact Nat.pow_le_pow_right (n := 2) (by omega) (show k + 1 ≤ 17 by omega)
      have HF2 := Lib.hid (show R = if m ≤ (s : Int) then (s : Int) else sideF (17 - (k + 1)) (2 * (s : Int)) m by rw [HF.out, show 17 - k = (17 - (k + 1)) + 1 by omega]; rfl)
      by_cases hms : m ≤ (s : Int)
      · have HR2 := Lib.hid (show R = (s : Int) by rw [HF2.out, if_pos hms])
        have h1 : r ≤ (s : Int) := by have := HM.out; omega
        have h2 : c ≤ (s : Int) := by have := HM.out; omega
        go_wp2_with fail
        go_ret
        exact ⟨by rw [HR2.out]; rfl, rfl⟩
      · have HR2 := Lib.hid (show R = sideF (17 - (k + 1)) ((s * 2 : Nat) : Int) m by rw [HF2.out, if_neg hms, Int.natCast_mul, Int.mul_comm]; rfl)
        have HS2 := Lib.hid (show s * 2 = 2 ^ (k + 1 + 1) by rw [HS.out, Nat.pow_succ 2 (k + 1)])
        by_cases h1 : r ≤ (s : Int)
        · have h2 : ¬ c ≤ (s : Int) := by have := HM.out; omega
          go_wp2_with fail
          exact ⟨⟨k + 1, s * 2, by go_num, by omega, HS2, HR2, trivial⟩, by simp [intOf]; omega⟩
        · go_wp2_with fail
          exact ⟨⟨k + 1, s * 2, by go_num, by omega, HS2, HR2, trivial⟩, by simp [intOf]; omega⟩
    · obtain rfl : k = 17 := by omega
      have hs : s = 262144 := HS.out
      subst hs
      have HR2 := Lib.hid (show R = 0 from HF.out)
      go_wp2_with fail
      go_ret
      exact ⟨by rw [HR2.out]; rfl, rfl⟩
set_option maxRecDepth 100000 in
set_option maxHeartbeats 4000000 in
theorem rless_any (a b a' b' : Nat) (R : Bool) (w : World) (hR : R = lessB (a, b) (a', b')) :
    Calls Try.prog 63 #[.agg #[.int .i64 (a : Int), .int .i64 (b : Int)], .agg #[.int .i64 (a' : Int), .int .i64 (b' : Int)]] w fun e w' => e = .returned (.bool R) ∧ Kp [] w w' := by
  have HR := Lib.hid hR
  clear hR
  go_enter Try.func63, Try.ntmps63
  by_cases h1 : a < a'
  · obtain rfl : R = true := by rw [HR.out, lessB_iff]; exact .inl h1
    go_wp2_with fail
    go_ret
    exact ⟨rfl, ((Kp.refl [] w).alloc _).alloc _⟩
  · by_cases h2 : a = a'
    · subst h2
      by_cases h3 : b < b'
      · obtain rfl : R = true := by rw [HR.out, lessB_iff]; exact .inr ⟨rfl, h3⟩
        go_wp2_with fail
        go_ret
        exact ⟨rfl, ((Kp.refl [] w).alloc _).alloc _⟩
      · obtain rfl : R = false := by rw [HR.out, lessB_not]; unfold lessN; simp only; omega
        go_wp2_with fail
        go_ret
        exact ⟨rfl, ((Kp.refl [] w).alloc _).alloc _⟩
    · obtain rfl : R = false := by rw [HR.out, lessB_not]; unfold lessN; simp only; omega
      have h2' : ((a : Int) == (a' : Int)) = false := by simp; omega
      clear h2
      go_wp2_with fail
      go_ret
      exact ⟨rfl, ((Kp.refl [] w).alloc _).alloc _⟩
theorem rpair_eq (r c r' c' : Int) (w : World) : (Op.equalIn 10000 71 (.agg #[.int .i64 r, .int .i64 c]) (.agg #[.int .i64 r', .int .i64 c'])).run Try.prog w = .ok (decide (r = r' ∧ c = c')) w := by
  rw [run_equalIn_struct w 9999 _ _ _ (by kernel_rfl) (by kernel_rfl)]
  have hf : (Try.prog.fieldsOf 71).toList = [(Try.prog.fieldsOf 71)[0]!, (Try.prog.fieldsOf 71)[1]!] := by kernel_rfl
  have n1 : decide (((Try.prog.fieldsOf 71)[0]!).name ≠ "_") = true := by kernel_rfl
  have n2 : decide (((Try.prog.fieldsOf 71)[1]!).name ≠ "_") = true := by kernel_rfl
  have t1 : ((Try.prog.fieldsOf 71)[0]!).type = 3 := by kernel_rfl
  have t2 : ((Try.prog.fieldsOf 71)[1]!).type = 3 := by kernel_rfl
  have o1 : ((Try.prog.fieldsOf 71)[0]!).offset = 0 := by kernel_rfl
  have o2 : ((Try.prog.fieldsOf 71)[1]!).offset = 1 := by kernel_rfl
  have p1 : ∀ (x y : Int) (w : World), (Go.part 3 #[.int .i64 x, .int .i64 y] 0).run Try.prog w = .ok (.int .i64 x) w := fun _ _ _ => by kernel_rfl
  have p2 : ∀ (x y : Int) (w : World), (Go.part 3 #[.int .i64 x, .int .i64 y] 1).run Try.prog w = .ok (.int .i64 y) w := fun _ _ _ => by kernel_rfl
  have e1 : ∀ (x y : Int) (w : World), (Op.equalIn 9999 3 (.int .i64 x) (.int .i64 y)).run Try.prog w = .ok (x == y) w := fun x y w => run_equalIn_int w 9998 3 .i64 .i64 x y Try.underlying3
  rw [hf]
  simp only [Op.eqFields, if_pos (of_decide_eq_true n1), if_pos (of_decide_eq_true n2), t1, t2, o1, o2, Sem.run_bind, p1, p2, Result.andThen_ok, e1, Sem.run_ite, Sem.run_pure]
  by_cases h1 : r = r' <;> by_cases h2 : c = c' <;> simp [h1, h2]
theorem own_one2 (w : World) (base : Nat) (e : TypeId) (u v : Value) (hb : base ≤ w.heap.size) : (w.alloc (.cells #[u, v] e)).ownsRow base e 2 (.slice (some ⟨w.heap.size, 0, none⟩) 1 1) 1 [u, v] :=
  ⟨by simp, .inr ⟨_, 1, #[u, v], rfl, hb, Blk.new w e [u, v], Nat.le_refl _, by decide, by simp, by simp⟩⟩
theorem rd_take2 {w : World} {B : Nat} {A : Option Addr} {l : List (Nat × Nat)} (h : Rd w B A (pc l)) (j : Nat) : Rd w B A (pc (l.take j)) := by
  rcases Nat.lt_or_ge l.length j with hj | hj
  · rw [List.take_of_length_le (by omega)]; exact h
  · have h9 := h.take (j * 2)
    have e9 : (pc l).take (j * 2) = pc (l.take j) := by
      have h8 := pc_append (l.take j) (l.drop j)
      rw [List.take_append_drop] at h8
      rw [h8, List.take_append_of_le_length (by rw [pc_len, List.length_take]; omega), List.take_of_length_le (by rw [pc_len, List.length_take]; omega)]
    rwa [e9] at h9
set_option maxRecDepth 100000 in
set_option maxHeartbeats 4000000 in
theorem rsorted_any (A : Option Addr) (n c B : Nat) (l : List (Nat × Nat)) (w : World) (hx : Rd w B A (pc l)) (hB : B ≤ w.heap.size) (hn : l.length = n) (hb : n ≤ 2000) :
    Calls Try.prog 41 #[.slice A n c] w fun e w' => ∃ (Ao : Option Addr) (no co : Nat) (L : List (Nat × Nat)), e = .returned (.slice Ao no co) ∧ w'.ownsRow w.heap.size 71 2 (.slice Ao no co) no (pc L) ∧ L.length = no ∧ L.Pairwise lessN ∧ (∀ x, x ∈ L ↔ x ∈ l) ∧ no ≤ n ∧ Kp [] w w' := by
  obtain ⟨i0, hi, hz0, hz1, hz2⟩ := info_parts Try.info_rpair
  have HX := Lib.hid hx
  have HB := Lib.hid hB
  have HN := Lib.hid hn; clear hn
  clear hx hB
  go_enter Try.func41, Try.ntmps41
  go_wp2_with fail
  go_loopw [3, 4] (fun v x wr => ∃ (k no co : Nat) (Ao : Option Addr) (L : List (Nat × Nat)), x = .int .i64 (k : Int) ∧ v = .slice Ao no co ∧ k ≤ n ∧ no ≤ k ∧ Hid (wr.ownsRow w.heap.size 71 2 (.slice Ao no co) no (pc L)) ∧ Hid (L.length = no) ∧ Hid (L.Pairwise lessN) ∧ Hid (∀ x, x ∈ L ↔ x ∈ l.take k) ∧ Hid (Kp [] w wr)) (fun _ x _ => n - (intOf x).toNat)
  case atStart => exact ⟨0, 0, 0, none, [], rfl, rfl, by omega, by omega, Lib.hid (World.ownsRow_nil _ _ _ 2), Lib.hid rfl, Lib.hid .nil, Lib.hid (by simp), Lib.hid (Kp.refl _ _)⟩
  case round =>
    obtain ⟨k, no, co, Ao, L, rfl, rfl, hk, hno, HO, HL, HS, HM, HK⟩ := hrel
    by_cases hlt : k < n
    · obtain ⟨a, b, ad, hxk, had, hab, hcx, hcy⟩ := ((HX.out.kp0 HK.out)).ixN (k := k) (by rw [HN.out]; exact hlt)
      subst had
      have HXK := Lib.hid hxk
      obtain ⟨_, _, hfo, hoc, hocm, _⟩ := own_form HO.out
      injection hfo with f1 f2 f3
      subst f3
      have hi0 : (0 : Int) ≤ (k : Int) := by omega
      have hi1 : (k : Int) < (n : Int) := by omega
      clear hxk hab f1 f2
      go_upto_block 2 with (fail)
      go_cut [5] (fun s5 wx => ∃ j : Nat, s5 = .int .i64 (j : Int) ∧ j ≤ no ∧ Hid (∀ y ∈ L.take j, lessN y (a, b)) ∧ Hid (∀ y, L[j]? = some y → ¬ lessN y (a, b)) ∧ Hid (Kp [] wr wx))
      case first =>
        go_wp2_with fail
        go_loopw [5] (fun x wq => ∃ j : Nat, x = .int .i64 (j : Int) ∧ j ≤ no ∧ Hid (∀ y ∈ L.take j, lessN y (a, b)) ∧ Hid (Kp [] wr wq)) (fun x _ => no - (intOf x).toNat)
        case atStart => exact ⟨0, rfl, by omega, Lib.hid (by simp), Lib.hid (Kp.refl _ _)⟩
        case round =>
          obtain ⟨j, rfl, hj, HLE, HKQ⟩ := hrel
          by_cases hjn : j < no
          · obtain ⟨a', b', ao, hyk, hao, _, hcx2, hcy2⟩ := ((own_rd HO.out).kp0 HKQ.out).ixN (k := j) (by rw [HL.out]; exact hjn)
            subst hao
            have hcx1 := HKQ.out.cell hcx (by simp)
            have hcy1 := HKQ.out.cell hcy (by simp)
            obtain ⟨R, hR⟩ : ∃ R, R = lessB (a', b') (a, b) := ⟨_, rfl⟩
            have HYK := Lib.hid hyk
            have HLS := Lib.hid (fun w' => rless_any a' b' a b R w' hR)
            have HR := Lib.hid hR
            have hj0 : (0 : Int) ≤ (j : Int) := by omega
            have hj1 : (j : Int) < (no : Int) := by omega
            clear hyk hR hcx hcy
            go_wp2_with fail
            refine wp_region_facts (by kernel_rfl) 62 [13, 14, 15, 16, 17, 18, 19, 20, 21, 22, 23, 24, 25, 26, 27] [[], [], [14], [13, 15], [16], [17], [17], [18, 19, 17], [20, 17], [17], [17], [22, 23, 17], [24, 17], [21, 25, 17], [17, 26]] (by kernel_rfl) (by kernel_rfl) rfl (factOf [(13, .eq (.int .i64 (j : Int))), (14, .eq (.slice (some ao) no co)), (15, .eq (.int .i64 (no : Int))), (16, .eq (.bool true)), (17, .eq (.bool true)), (18, .eq (.slice (some ao) no co)), (19, .eq (.int .i64 (j : Int))), (20, .eq (.pointer (some (ao.add (j * 2))))), (21, .eq (.agg #[.int .i64 (a' : Int), .int .i64 (b' : Int)])), (22, .eq (.slice (some ad) n c)), (23, .eq (.int .i64 (k : Int))), (24, .eq (.pointer (some (ad.add (k * 2))))), (25, .eq (.agg #[.int .i64 (a : Int), .int .i64 (b : Int)])), (26, .eq (.bool R)), (27, .eq (.bool R))]) (factOf_stable _) _ (fun x => by simp only [fillL, Nat.reduceAdd, Nat.reduceEqDiff, ↓reduceIte]; rfl) ?_ ?_
            · refine ⟨?_, ?_, ?_, ?_, ?_, ?_, ?_, ?_, ?_, ?_, ?_, ?_, ?_, ?_, ?_, trivial⟩
              · intro fx w' fa hk hd ev  -- 13 = Op.move (Operand.tmp 5)
                have e5 : fa.tmps[5]?.getD undef = .int .i64 (j : Int) := ev.old 5 rfl
                refine stepF_un rfl (fun K hK => ?_)
                exact stepF_val _ hK (run_move rfl e5 _) rfl
              · intro fx w' fa hk hd ev  -- 14 = Op.move (Operand.tmp 3)
                have e3 : fa.tmps[3]?.getD undef = .slice (some ao) no co := ev.old 3 rfl
                refine stepF_un rfl (fun K hK => ?_)
                exact stepF_val _ hK (run_move rfl e3 _) rfl
              · intro fx w' fa hk hd ev  -- 15 = Op.call { callee := Callee.builtin Builtin.len, args := #[Op
                have h14 : fx 14 = .slice (some ao) no co := hd.1
                have e14 : fa.tmps[14]?.getD undef = .slice (some ao) no co := (ev.new 14 rfl).trans h14
                refine stepF_un rfl (fun K hK => ?_)
                go_simp
                exact hK _ _ rfl (Kp.refl _ _)
              · intro fx w' fa hk hd ev  -- 16 = Op.binOp BinOp.lss 3 (Operand.tmp 13) (Operand.tmp 15) 3
                have h13 : fx 13 = .int .i64 (j : Int) := hd.1
                have e13 : fa.tmps[13]?.getD undef = .int .i64 (j : Int) := (ev.new 13 rfl).trans h13
                have h15 : fx 15 = .int .i64 (no : Int) := hd.2.1
                have e15 : fa.tmps[15]?.getD undef = .int .i64 (no : Int) := (ev.new 15 rfl).trans h15
                refine stepF_un rfl (fun K hK => ?_)
                go_simp
                exact hK _ _ rfl (Kp.refl _ _)
              · intro fx w' fa hk hd ev  -- 17 = Op.move (Operand.tmp 16)
                have h16 : fx 16 = .bool true := hd.1
                have e16 : fa.tmps[16]?.getD undef = .bool true := (ev.new 16 rfl).trans h16
                refine stepF_un rfl (fun K hK => ?_)
                exact stepF_val _ hK (run_move rfl e16 _) rfl
              · intro fx w' fa hk hd ev  -- 18 = Op.move (Operand.tmp 3)
                have h17 : fx 17 = .bool true := hd.1
                have e17 : fa.tmps[17]?.getD undef = .bool true := (ev.new 17 rfl).trans h17
                have e3 : fa.tmps[3]?.getD undef = .slice (some ao) no co := ev.old 3 rfl
                refine stepF_yes (i := 4) (g := 17) (b := true) rfl rfl rfl e17 (fun K hK => ?_)
                exact stepF_val _ hK (run_move rfl e3 _) rfl
              · intro fx w' fa hk hd ev  -- 19 = Op.move (Operand.tmp 5)
                have h17 : fx 17 = .bool true := hd.1
                have e17 : fa.tmps[17]?.getD undef = .bool true := (ev.new 17 rfl).trans h17
                have e5 : fa.tmps[5]?.getD undef = .int .i64 (j : Int) := ev.old 5 rfl
                refine stepF_yes (i := 4) (g := 17) (b := true) rfl rfl rfl e17 (fun K hK => ?_)
                exact stepF_val _ hK (run_move rfl e5 _) rfl
              · intro fx w' fa hk hd ev  -- 20 = Op.indexAddr 34 (Operand.tmp 18) (Operand.tmp 19)
                have h18 : fx 18 = .slice (some ao) no co := hd.1
                have e18 : fa.tmps[18]?.getD undef = .slice (some ao) no co := (ev.new 18 rfl).trans h18
                have h19 : fx 19 = .int .i64 (j : Int) := hd.2.1
                have e19 : fa.tmps[19]?.getD undef = .int .i64 (j : Int) := (ev.new 19 rfl).trans h19
                have h17 : fx 17 = .bool true := hd.2.2.1
                have e17 : fa.tmps[17]?.getD undef = .bool true := (ev.new 17 rfl).trans h17
                refine stepF_yes (i := 4) (g := 17) (b := true) rfl rfl rfl e17 (fun K hK => ?_)
                go_simp
                exact hK _ _ rfl (Kp.refl _ _)
              · intro fx w' fa hk hd ev  -- 21 = Op.load 71 (Operand.tmp 20)
                have h20 : fx 20 = .pointer (some (ao.add (j * 2))) := hd.1
                have e20 : fa.tmps[20]?.getD undef = .pointer (some (ao.add (j * 2))) := (ev.new 20 rfl).trans h20
                have h17 : fx 17 = .bool true := hd.2.1
                have e17 : fa.tmps[17]?.getD undef = .bool true := (ev.new 17 rfl).trans h17
                refine stepF_yes (i := 4) (g := 17) (b := true) rfl rfl rfl e17 (fun K hK => ?_)
                have hx1 := hk.cell hcx2 (by simp)
                have hy1 := hk.cell hcy2 (by simp)
                go_simp
                exact hK _ _ rfl (Kp.refl _ _)
              · intro fx w' fa hk hd ev  -- 22 = Op.move (Operand.tmp 0)
                have h17 : fx 17 = .bool true := hd.1
                have e17 : fa.tmps[17]?.getD undef = .bool true := (ev.new 17 rfl).trans h17
                have e0 : fa.tmps[0]?.getD undef = .slice (some ad) n c := ev.old 0 rfl
                refine stepF_yes (i := 4) (g := 17) (b := true) rfl rfl rfl e17 (fun K hK => ?_)
                exact stepF_val _ hK (run_move rfl e0 _) rfl
              · intro fx w' fa hk hd ev  -- 23 = Op.move (Operand.tmp 4)
                have h17 : fx 17 = .bool true := hd.1
                have e17 : fa.tmps[17]?.getD undef = .bool true := (ev.new 17 rfl).trans h17
                have e4 : fa.tmps[4]?.getD undef = .int .i64 (k : Int) := ev.old 4 rfl
                refine stepF_yes (i := 4) (g := 17) (b := true) rfl rfl rfl e17 (fun K hK => ?_)
                exact stepF_val _ hK (run_move rfl e4 _) rfl
              · intro fx w' fa hk hd ev  -- 24 = Op.indexAddr 34 (Operand.tmp 22) (Operand.tmp 23)
                have h22 : fx 22 = .slice (some ad) n c := hd.1
                have e22 : fa.tmps[22]?.getD undef = .slice (some ad) n c := (ev.new 22 rfl).trans h22
                have h23 : fx 23 = .int .i64 (k : Int) := hd.2.1
                have e23 : fa.tmps[23]?.getD undef = .int .i64 (k : Int) := (ev.new 23 rfl).trans h23
                have h17 : fx 17 = .bool true := hd.2.2.1
                have e17 : fa.tmps[17]?.getD undef = .bool true := (ev.new 17 rfl).trans h17
                refine stepF_yes (i := 4) (g := 17) (b := true) rfl rfl rfl e17 (fun K hK => ?_)
                go_simp
                exact hK _ _ rfl (Kp.refl _ _)
              · intro fx w' fa hk hd ev  -- 25 = Op.load 71 (Operand.tmp 24)
                have h24 : fx 24 = .pointer (some (ad.add (k * 2))) := hd.1
                have e24 : fa.tmps[24]?.getD undef = .pointer (some (ad.add (k * 2))) := (ev.new 24 rfl).trans h24
                have h17 : fx 17 = .bool true := hd.2.1
                have e17 : fa.tmps[17]?.getD undef = .bool true := (ev.new 17 rfl).trans h17
                refine stepF_yes (i := 4) (g := 17) (b := true) rfl rfl rfl e17 (fun K hK => ?_)
                have hx1 := hk.cell hcx1 (by simp)
                have hy1 := hk.cell hcy1 (by simp)
                go_simp
                exact hK _ _ rfl (Kp.refl _ _)
              · intro fx w' fa hk hd ev  -- 26 = Op.call { callee := Callee.value (Operand.func 63), args := 
                have h21 : fx 21 = .agg #[.int .i64 (a' : Int), .int .i64 (b' : Int)] := hd.1
                have e21 : fa.tmps[21]?.getD undef = .agg #[.int .i64 (a' : Int), .int .i64 (b' : Int)] := (ev.new 21 rfl).trans h21
                have h25 : fx 25 = .agg #[.int .i64 (a : Int), .int .i64 (b : Int)] := hd.2.1
                have e25 : fa.tmps[25]?.getD undef = .agg #[.int .i64 (a : Int), .int .i64 (b : Int)] := (ev.new 25 rfl).trans h25
                have h17 : fx 17 = .bool true := hd.2.2.1
                have e17 : fa.tmps[17]?.getD undef = .bool true := (ev.new 17 rfl).trans h17
                refine stepF_yes (i := 4) (g := 17) (b := true) rfl rfl rfl e17 (fun K hK => ?_)
                go_simp
                refine (HLS.out w').mono ?_
                rintro e w1 ⟨rfl, hk1⟩
                exact hK _ _ rfl hk1
              · intro fx w' fa hk hd ev  -- 27 = Op.pick (Operand.tmp 17) (Operand.tmp 26) (Operand.const (Va
                have h17 : fx 17 = .bool true := hd.1
                have e17 : fa.tmps[17]?.getD undef = .bool true := (ev.new 17 rfl).trans h17
                have h26 : fx 26 = .bool R := hd.2.1
                have e26 : fa.tmps[26]?.getD undef = .bool R := (ev.new 26 rfl).trans h26
                refine stepF_un rfl (fun K hK => ?_)
                go_simp
                exact hK _ _ rfl (Kp.refl _ _)
            · intro fx w' hk hd
              have h13 : fx 13 = .int .i64 (j : Int) := hd.1
              have h14 : fx 14 = .slice (some ao) no co := hd.2.1
              have h15 : fx 15 = .int .i64 (no : Int) := hd.2.2.1
              have h16 : fx 16 = .bool true := hd.2.2.2.1
              have h17 : fx 17 = .bool true := hd.2.2.2.2.1
              have h18 : fx 18 = .slice (some ao) no co := hd.2.2.2.2.2.1
              have h19 : fx 19 = .int .i64 (j : Int) := hd.2.2.2.2.2.2.1
              have h20 : fx 20 = .pointer (some (ao.add (j * 2))) := hd.2.2.2.2.2.2.2.1
              have h21 : fx 21 = .agg #[.int .i64 (a' : Int), .int .i64 (b' : Int)] := hd.2.2.2.2.2.2.2.2.1
              have h22 : fx 22 = .slice (some ad) n c := hd.2.2.2.2.2.2.2.2.2.1
              have h23 : fx 23 = .int .i64 (k : Int) := hd.2.2.2.2.2.2.2.2.2.2.1
              have h24 : fx 24 = .pointer (some (ad.add (k * 2))) := hd.2.2.2.2.2.2.2.2.2.2.2.1
              have h25 : fx 25 = .agg #[.int .i64 (a : Int), .int .i64 (b : Int)] := hd.2.2.2.2.2.2.2.2.2.2.2.2.1
              have h26 : fx 26 = .bool R := hd.2.2.2.2.2.2.2.2.2.2.2.2.2.1
              have h27 : fx 27 = .bool R := hd.2.2.2.2.2.2.2.2.2.2.2.2.2.2.1
              rw [h27]
              have HKQ2 := Lib.hid (HKQ.out.trans hk)
              clear hk hd hcx1 hcy1 hcx2 hcy2
              cases R
              · go_wp2_with fail
                go_meet
                exact ⟨j, rfl, hj, HLE, Lib.hid (fun y hy => by rw [HYK.out] at hy; injection hy with hy; subst hy; exact lessB_not.1 HR.out.symm), HKQ2⟩
              · have HLE2 := Lib.hid (show ∀ y ∈ L.take (j + 1), lessN y (a, b) from fun y hy => by
                  rw [g_take HYK.out] at hy
                  rcases List.mem_append.1 hy with h | h
                  · exact HLE.out y h
                  · simp only [List.mem_singleton] at h
                    subst h
                    exact lessB_iff.1 HR.out.symm)
                go_wp2_with fail
                exact ⟨⟨j + 1, by go_num, by omega, HLE2, HKQ2⟩, by simp [intOf]; omega⟩
          · obtain rfl : no = j := by omega
            clear hjn hcx hcy
            go_wp2_with fail
            refine wp_region_facts (by kernel_rfl) 62 [13, 14, 15, 16, 17, 18, 19, 20, 21, 22, 23, 24, 25, 26, 27] [[], [], [14], [13, 15], [16], [17], [17], [18, 19, 17], [20, 17], [17], [17], [22, 23, 17], [24, 17], [21, 25, 17], [17, 26]] (by kernel_rfl) (by kernel_rfl) rfl (factOf [(13, .eq (.int .i64 (no : Int))), (14, .eq (.slice Ao no co)), (15, .eq (.int .i64 (no : Int))), (16, .eq (.bool false)), (17, .eq (.bool false)), (18, .eq (undef)), (19, .eq (undef)), (20, .eq (undef)), (21, .eq (undef)), (22, .eq (undef)), (23, .eq (undef)), (24, .eq (undef)), (25, .eq (undef)), (26, .eq (undef)), (27, .eq (.bool false))]) (factOf_stable _) _ (fun x => by simp only [fillL, Nat.reduceAdd, Nat.reduceEqDiff, ↓reduceIte]; rfl) ?_ ?_
            · refine ⟨?_, ?_, ?_, ?_, ?_, ?_, ?_, ?_, ?_, ?_, ?_, ?_, ?_, ?_, ?_, trivial⟩
              · intro fx w' fa hk hd ev  -- 13 = Op.move (Operand.tmp 5)
                have e5 : fa.tmps[5]?.getD undef = .int .i64 (no : Int) := ev.old 5 rfl
                refine stepF_un rfl (fun K hK => ?_)
                exact stepF_val _ hK (run_move rfl e5 _) rfl
              · intro fx w' fa hk hd ev  -- 14 = Op.move (Operand.tmp 3)
                have e3 : fa.tmps[3]?.getD undef = .slice Ao no co := ev.old 3 rfl
                refine stepF_un rfl (fun K hK => ?_)
                exact stepF_val _ hK (run_move rfl e3 _) rfl
              · intro fx w' fa hk hd ev  -- 15 = Op.call { callee := Callee.builtin Builtin.len, args := #[Op
                have h14 : fx 14 = .slice Ao no co := hd.1
                have e14 : fa.tmps[14]?.getD undef = .slice Ao no co := (ev.new 14 rfl).trans h14
                refine stepF_un rfl (fun K hK => ?_)
                go_simp
                exact hK _ _ rfl (Kp.refl _ _)
              · intro fx w' fa hk hd ev  -- 16 = Op.binOp BinOp.lss 3 (Operand.tmp 13) (Operand.tmp 15) 3
                have h13 : fx 13 = .int .i64 (no : Int) := hd.1
                have e13 : fa.tmps[13]?.getD undef = .int .i64 (no : Int) := (ev.new 13 rfl).trans h13
                have h15 : fx 15 = .int .i64 (no : Int) := hd.2.1
                have e15 : fa.tmps[15]?.getD undef = .int .i64 (no : Int) := (ev.new 15 rfl).trans h15
                refine stepF_un rfl (fun K hK => ?_)
                go_simp
                exact hK _ _ rfl (Kp.refl _ _)
              · intro fx w' fa hk hd ev  -- 17 = Op.move (Operand.tmp 16)
                have h16 : fx 16 = .bool false := hd.1
                have e16 : fa.tmps[16]?.getD undef = .bool false := (ev.new 16 rfl).trans h16
                refine stepF_un rfl (fun K hK => ?_)
                exact stepF_val _ hK (run_move rfl e16 _) rfl
              · intro fx w' fa hk hd ev  -- 18 = Op.move (Operand.tmp 3)
                have h17 : fx 17 = .bool false := hd.1
                have e17 : fa.tmps[17]?.getD undef = .bool false := (ev.new 17 rfl).trans h17
                refine stepF_no (i := 4) (g := 17) (b := true) rfl rfl rfl e17 rfl
              · intro fx w' fa hk hd ev  -- 19 = Op.move (Operand.tmp 5)
                have h17 : fx 17 = .bool false := hd.1
                have e17 : fa.tmps[17]?.getD undef = .bool false := (ev.new 17 rfl).trans h17
                refine stepF_no (i := 4) (g := 17) (b := true) rfl rfl rfl e17 rfl
              · intro fx w' fa hk hd ev  -- 20 = Op.indexAddr 34 (Operand.tmp 18) (Operand.tmp 19)
                have h17 : fx 17 = .bool false := hd.2.2.1
                have e17 : fa.tmps[17]?.getD undef = .bool false := (ev.new 17 rfl).trans h17
                refine stepF_no (i := 4) (g := 17) (b := true) rfl rfl rfl e17 rfl
              · intro fx w' fa hk hd ev  -- 21 = Op.load 71 (Operand.tmp 20)
                have h17 : fx 17 = .bool false := hd.2.1
                have e17 : fa.tmps[17]?.getD undef = .bool false := (ev.new 17 rfl).trans h17
                refine stepF_no (i := 4) (g := 17) (b := true) rfl rfl rfl e17 rfl
              · intro fx w' fa hk hd ev  -- 22 = Op.move (Operand.tmp 0)
                have h17 : fx 17 = .bool false := hd.1
                have e17 : fa.tmps[17]?.getD undef = .bool false := (ev.new 17 rfl).trans h17
                refine stepF_no (i := 4) (g := 17) (b := true) rfl rfl rfl e17 rfl
              · intro fx w' fa hk hd ev  -- 23 = Op.move (Operand.tmp 4)
                have h17 : fx 17 = .bool false := hd.1
                have e17 : fa.tmps[17]?.getD undef = .bool false := (ev.new 17 rfl).trans h17
                refine stepF_no (i := 4) (g := 17) (b := true) rfl rfl rfl e17 rfl
              · intro fx w' fa hk hd ev  -- 24 = Op.indexAddr 34 (Operand.tmp 22) (Operand.tmp 23)
                have h17 : fx 17 = .bool false := hd.2.2.1
                have e17 : fa.tmps[17]?.getD undef = .bool false := (ev.new 17 rfl).trans h17
                refine stepF_no (i := 4) (g := 17) (b := true) rfl rfl rfl e17 rfl
              · intro fx w' fa hk hd ev  -- 25 = Op.load 71 (Operand.tmp 24)
                have h17 : fx 17 = .bool false := hd.2.1
                have e17 : fa.tmps[17]?.getD undef = .bool false := (ev.new 17 rfl).trans h17
                refine stepF_no (i := 4) (g := 17) (b := true) rfl rfl rfl e17 rfl
              · intro fx w' fa hk hd ev  -- 26 = Op.call { callee := Callee.value (Operand.func 63), args := 
                have h17 : fx 17 = .bool false := hd.2.2.1
                have e17 : fa.tmps[17]?.getD undef = .bool false := (ev.new 17 rfl).trans h17
                refine stepF_no (i := 4) (g := 17) (b := true) rfl rfl rfl e17 rfl
              · intro fx w' fa hk hd ev  -- 27 = Op.pick (Operand.tmp 17) (Operand.tmp 26) (Operand.const (Va
                have h17 : fx 17 = .bool false := hd.1
                have e17 : fa.tmps[17]?.getD undef = .bool false := (ev.new 17 rfl).trans h17
                have h26 : fx 26 = undef := hd.2.1
                have e26 : fa.tmps[26]?.getD undef = undef := (ev.new 26 rfl).trans h26
                refine stepF_un rfl (fun K hK => ?_)
                go_simp
                exact hK _ _ rfl (Kp.refl _ _)
            · intro fx w' hk hd
              have h13 : fx 13 = .int .i64 (no : Int) := hd.1
              have h14 : fx 14 = .slice Ao no co := hd.2.1
              have h15 : fx 15 = .int .i64 (no : Int) := hd.2.2.1
              have h16 : fx 16 = .bool false := hd.2.2.2.1
              have h17 : fx 17 = .bool false := hd.2.2.2.2.1
              have h18 : fx 18 = undef := hd.2.2.2.2.2.1
              have h19 : fx 19 = undef := hd.2.2.2.2.2.2.1
              have h20 : fx 20 = undef := hd.2.2.2.2.2.2.2.1
              have h21 : fx 21 = undef := hd.2.2.2.2.2.2.2.2.1
              have h22 : fx 22 = undef := hd.2.2.2.2.2.2.2.2.2.1
              have h23 : fx 23 = undef := hd.2.2.2.2.2.2.2.2.2.2.1
              have h24 : fx 24 = undef := hd.2.2.2.2.2.2.2.2.2.2.2.1
              have h25 : fx 25 = undef := hd.2.2.2.2.2.2.2.2.2.2.2.2.1
              have h26 : fx 26 = undef := hd.2.2.2.2.2.2.2.2.2.2.2.2.2.1
              have h27 : fx 27 = .bool false := hd.2.2.2.2.2.2.2.2.2.2.2.2.2.2.1
              rw [h27]
              have HKQ2 := Lib.hid (HKQ.out.trans hk)
              clear hk hd
              go_wp2_with fail
              go_meet
              exact ⟨no, rfl, Nat.le_refl _, HLE, Lib.hid (fun y hy => by rw [List.getElem?_eq_none (by rw [HL.out]; exact Nat.le_refl _)] at hy; cases hy), HKQ2⟩
      case rest =>
        obtain ⟨j, rfl, hj, HLE, HNL, HKQ⟩ := hcut
        have HKC := Lib.hid (HK.out.trans HKQ.out)
        have hcx1 := HKQ.out.cell hcx (by simp)
        have hcy1 := HKQ.out.cell hcy (by simp)
        replace HO := Lib.hid (own_kp0 HO.out HKQ.out)
        replace HX := Lib.hid ((HX.out.kp0 HK.out).kp0 HKQ.out)
        clear hcx hcy HKQ HK
        have hj0 : (0 : Int) ≤ (j : Int) := by omega
        have hjn0 : (j : Int) ≤ (no : Int) := by omega
        have hjc : j ≤ co := by omega
        have hjc0 : (j : Int) ≤ (co : Int) := by omega
        by_cases hfound : L[j]? = some (a, b)
        · have hjn : j < no := by rw [← HL.out]; exact (List.getElem?_eq_some_iff.1 hfound).1
          obtain ⟨a', b', ao, hyk, hao, _, hcx2, hcy2⟩ := (own_rd HO.out).ixN (k := j) (by rw [HL.out]; exact hjn)
          subst hao
          rw [hfound] at hyk
          injection hyk with hyk
          injection hyk with e1 e2
          subst e1 e2
          have hj1 : (j : Int) < (no : Int) := by omega
          have HM2 := Lib.hid (show ∀ x, x ∈ L ↔ x ∈ l.take (k + 1) from fun x => by
            rw [g_take HXK.out, List.mem_append, ← HM.out x, List.mem_singleton]
            exact ⟨fun h => .inl h, fun h => h.elim id (fun h => by rw [h]; exact List.mem_of_getElem? hfound)⟩)
          have hpe := rpair_eq a b a b
          rw [decide_eq_true ⟨rfl, rfl⟩] at hpe
          clear hfound
          go_wp2_with fail
          refine wp_region_facts (by kernel_rfl) 62 [30, 31, 32, 33, 34, 35, 36, 37, 38, 39, 40, 41, 42, 43, 44] [[], [], [31], [30, 32], [33], [34], [34], [35, 36, 34], [37, 34], [34], [34], [39, 40, 34], [41, 34], [38, 42, 34], [34, 43]] (by kernel_rfl) (by kernel_rfl) rfl (factOf [(30, .eq (.int .i64 (j : Int))), (31, .eq (.slice (some ao) no co)), (32, .eq (.int .i64 (no : Int))), (33, .eq (.bool true)), (34, .eq (.bool true)), (35, .eq (.slice (some ao) no co)), (36, .eq (.int .i64 (j : Int))), (37, .eq (.pointer (some (ao.add (j * 2))))), (38, .eq (.agg #[.int .i64 (a : Int), .int .i64 (b : Int)])), (39, .eq (.slice (some ad) n c)), (40, .eq (.int .i64 (k : Int))), (41, .eq (.pointer (some (ad.add (k * 2))))), (42, .eq (.agg #[.int .i64 (a : Int), .int .i64 (b : Int)])), (43, .eq (.bool true)), (44, .eq (.bool true))]) (factOf_stable _) _ (fun x => by simp only [fillL, Nat.reduceAdd, Nat.reduceEqDiff, ↓reduceIte]; rfl) ?_ ?_
          · refine ⟨?_, ?_, ?_, ?_, ?_, ?_, ?_, ?_, ?_, ?_, ?_, ?_, ?_, ?_, ?_, trivial⟩
            · intro fx w' fa hk hd ev  -- 30 = Op.move (Operand.tmp 5)
              have e5 : fa.tmps[5]?.getD undef = .int .i64 (j : Int) := ev.old 5 rfl
              refine stepF_un rfl (fun K hK => ?_)
              exact stepF_val _ hK (run_move rfl e5 _) rfl
            · intro fx w' fa hk hd ev  -- 31 = Op.move (Operand.tmp 3)
              have e3 : fa.tmps[3]?.getD undef = .slice (some ao) no co := ev.old 3 rfl
              refine stepF_un rfl (fun K hK => ?_)
              exact stepF_val _ hK (run_move rfl e3 _) rfl
            · intro fx w' fa hk hd ev  -- 32 = Op.call { callee := Callee.builtin Builtin.len, args := #[Op
              have h31 : fx 31 = .slice (some ao) no co := hd.1
              have e31 : fa.tmps[31]?.getD undef = .slice (some ao) no co := (ev.new 31 rfl).trans h31
              refine stepF_un rfl (fun K hK => ?_)
              go_simp
              exact hK _ _ rfl (Kp.refl _ _)
            · intro fx w' fa hk hd ev  -- 33 = Op.binOp BinOp.lss 3 (Operand.tmp 30) (Operand.tmp 32) 3
              have h30 : fx 30 = .int .i64 (j : Int) := hd.1
              have e30 : fa.tmps[30]?.getD undef = .int .i64 (j : Int) := (ev.new 30 rfl).trans h30
              have h32 : fx 32 = .int .i64 (no : Int) := hd.2.1
              have e32 : fa.tmps[32]?.getD undef = .int .i64 (no : Int) := (ev.new 32 rfl).trans h32
              refine stepF_un rfl (fun K hK => ?_)
              go_simp
              exact hK _ _ rfl (Kp.refl _ _)
            · intro fx w' fa hk hd ev  -- 34 = Op.move (Operand.tmp 33)
              have h33 : fx 33 = .bool true := hd.1
              have e33 : fa.tmps[33]?.getD undef = .bool true := (ev.new 33 rfl).trans h33
              refine stepF_un rfl (fun K hK => ?_)
              exact stepF_val _ hK (run_move rfl e33 _) rfl
            · intro fx w' fa hk hd ev  -- 35 = Op.move (Operand.tmp 3)
              have h34 : fx 34 = .bool true := hd.1
              have e34 : fa.tmps[34]?.getD undef = .bool true := (ev.new 34 rfl).trans h34
              have e3 : fa.tmps[3]?.getD undef = .slice (some ao) no co := ev.old 3 rfl
              refine stepF_yes (i := 4) (g := 34) (b := true) rfl rfl rfl e34 (fun K hK => ?_)
              exact stepF_val _ hK (run_move rfl e3 _) rfl
            · intro fx w' fa hk hd ev  -- 36 = Op.move (Operand.tmp 5)
              have h34 : fx 34 = .bool true := hd.1
              have e34 : fa.tmps[34]?.getD undef = .bool true := (ev.new 34 rfl).trans h34
              have e5 : fa.tmps[5]?.getD undef = .int .i64 (j : Int) := ev.old 5 rfl
              refine stepF_yes (i := 4) (g := 34) (b := true) rfl rfl rfl e34 (fun K hK => ?_)
              exact stepF_val _ hK (run_move rfl e5 _) rfl
            · intro fx w' fa hk hd ev  -- 37 = Op.indexAddr 34 (Operand.tmp 35) (Operand.tmp 36)
              have h35 : fx 35 = .slice (some ao) no co := hd.1
              have e35 : fa.tmps[35]?.getD undef = .slice (some ao) no co := (ev.new 35 rfl).trans h35
              have h36 : fx 36 = .int .i64 (j : Int) := hd.2.1
              have e36 : fa.tmps[36]?.getD undef = .int .i64 (j : Int) := (ev.new 36 rfl).trans h36
              have h34 : fx 34 = .bool true := hd.2.2.1
              have e34 : fa.tmps[34]?.getD undef = .bool true := (ev.new 34 rfl).trans h34
              refine stepF_yes (i := 4) (g := 34) (b := true) rfl rfl rfl e34 (fun K hK => ?_)
              go_simp
              exact hK _ _ rfl (Kp.refl _ _)
            · intro fx w' fa hk hd ev  -- 38 = Op.load 71 (Operand.tmp 37)
              have h37 : fx 37 = .pointer (some (ao.add (j * 2))) := hd.1
              have e37 : fa.tmps[37]?.getD undef = .pointer (some (ao.add (j * 2))) := (ev.new 37 rfl).trans h37
              have h34 : fx 34 = .bool true := hd.2.1
              have e34 : fa.tmps[34]?.getD undef = .bool true := (ev.new 34 rfl).trans h34
              refine stepF_yes (i := 4) (g := 34) (b := true) rfl rfl rfl e34 (fun K hK => ?_)
              have hx1 := hk.cell hcx2 (by simp)
              have hy1 := hk.cell hcy2 (by simp)
              go_simp
              exact hK _ _ rfl (Kp.refl _ _)
            · intro fx w' fa hk hd ev  -- 39 = Op.move (Operand.tmp 0)
              have h34 : fx 34 = .bool true := hd.1
              have e34 : fa.tmps[34]?.getD undef = .bool true := (ev.new 34 rfl).trans h34
              have e0 : fa.tmps[0]?.getD undef = .slice (some ad) n c := ev.old 0 rfl
              refine stepF_yes (i := 4) (g := 34) (b := true) rfl rfl rfl e34 (fun K hK => ?_)
              exact stepF_val _ hK (run_move rfl e0 _) rfl
            · intro fx w' fa hk hd ev  -- 40 = Op.move (Operand.tmp 4)
              have h34 : fx 34 = .bool true := hd.1
              have e34 : fa.tmps[34]?.getD undef = .bool true := (ev.new 34 rfl).trans h34
              have e4 : fa.tmps[4]?.getD undef = .int .i64 (k : Int) := ev.old 4 rfl
              refine stepF_yes (i := 4) (g := 34) (b := true) rfl rfl rfl e34 (fun K hK => ?_)
              exact stepF_val _ hK (run_move rfl e4 _) rfl
            · intro fx w' fa hk hd ev  -- 41 = Op.indexAddr 34 (Operand.tmp 39) (Operand.tmp 40)
              have h39 : fx 39 = .slice (some ad) n c := hd.1
              have e39 : fa.tmps[39]?.getD undef = .slice (some ad) n c := (ev.new 39 rfl).trans h39
              have h40 : fx 40 = .int .i64 (k : Int) := hd.2.1
              have e40 : fa.tmps[40]?.getD undef = .int .i64 (k : Int) := (ev.new 40 rfl).trans h40
              have h34 : fx 34 = .bool true := hd.2.2.1
              have e34 : fa.tmps[34]?.getD undef = .bool true := (ev.new 34 rfl).trans h34
              refine stepF_yes (i := 4) (g := 34) (b := true) rfl rfl rfl e34 (fun K hK => ?_)
              go_simp
              exact hK _ _ rfl (Kp.refl _ _)
            · intro fx w' fa hk hd ev  -- 42 = Op.load 71 (Operand.tmp 41)
              have h41 : fx 41 = .pointer (some (ad.add (k * 2))) := hd.1
              have e41 : fa.tmps[41]?.getD undef = .pointer (some (ad.add (k * 2))) := (ev.new 41 rfl).trans h41
              have h34 : fx 34 = .bool true := hd.2.1
              have e34 : fa.tmps[34]?.getD undef = .bool true := (ev.new 34 rfl).trans h34
              refine stepF_yes (i := 4) (g := 34) (b := true) rfl rfl rfl e34 (fun K hK => ?_)
              have hx1 := hk.cell hcx1 (by simp)
              have hy1 := hk.cell hcy1 (by simp)
              go_simp
              exact hK _ _ rfl (Kp.refl _ _)
            · intro fx w' fa hk hd ev  -- 43 = Op.binOp BinOp.eql 71 (Operand.tmp 38) (Operand.tmp 42) 71
              have h38 : fx 38 = .agg #[.int .i64 (a : Int), .int .i64 (b : Int)] := hd.1
              have e38 : fa.tmps[38]?.getD undef = .agg #[.int .i64 (a : Int), .int .i64 (b : Int)] := (ev.new 38 rfl).trans h38
              have h42 : fx 42 = .agg #[.int .i64 (a : Int), .int .i64 (b : Int)] := hd.2.1
              have e42 : fa.tmps[42]?.getD undef = .agg #[.int .i64 (a : Int), .int .i64 (b : Int)] := (ev.new 42 rfl).trans h42
              have h34 : fx 34 = .bool true := hd.2.2.1
              have e34 : fa.tmps[34]?.getD undef = .bool true := (ev.new 34 rfl).trans h34
              refine stepF_yes (i := 4) (g := 34) (b := true) rfl rfl rfl e34 (fun K hK => ?_)
              go_simp
              exact hK _ _ rfl (Kp.refl _ _)
            · intro fx w' fa hk hd ev  -- 44 = Op.pick (Operand.tmp 34) (Operand.tmp 43) (Operand.const (Va
              have h34 : fx 34 = .bool true := hd.1
              have e34 : fa.tmps[34]?.getD undef = .bool true := (ev.new 34 rfl).trans h34
              have h43 : fx 43 = .bool true := hd.2.1
              have e43 : fa.tmps[43]?.getD undef = .bool true := (ev.new 43 rfl).trans h43
              refine stepF_un rfl (fun K hK => ?_)
              go_simp
              exact hK _ _ rfl (Kp.refl _ _)
          · intro fx w' hk hd
            have h30 : fx 30 = .int .i64 (j : Int) := hd.1
            have h31 : fx 31 = .slice (some ao) no co := hd.2.1
            have h32 : fx 32 = .int .i64 (no : Int) := hd.2.2.1
            have h33 : fx 33 = .bool true := hd.2.2.2.1
            have h34 : fx 34 = .bool true := hd.2.2.2.2.1
            have h35 : fx 35 = .slice (some ao) no co := hd.2.2.2.2.2.1
            have h36 : fx 36 = .int .i64 (j : Int) := hd.2.2.2.2.2.2.1
            have h37 : fx 37 = .pointer (some (ao.add (j * 2))) := hd.2.2.2.2.2.2.2.1
            have h38 : fx 38 = .agg #[.int .i64 (a : Int), .int .i64 (b : Int)] := hd.2.2.2.2.2.2.2.2.1
            have h39 : fx 39 = .slice (some ad) n c := hd.2.2.2.2.2.2.2.2.2.1
            have h40 : fx 40 = .int .i64 (k : Int) := hd.2.2.2.2.2.2.2.2.2.2.1
            have h41 : fx 41 = .pointer (some (ad.add (k * 2))) := hd.2.2.2.2.2.2.2.2.2.2.2.1
            have h42 : fx 42 = .agg #[.int .i64 (a : Int), .int .i64 (b : Int)] := hd.2.2.2.2.2.2.2.2.2.2.2.2.1
            have h43 : fx 43 = .bool true := hd.2.2.2.2.2.2.2.2.2.2.2.2.2.1
            have h44 : fx 44 = .bool true := hd.2.2.2.2.2.2.2.2.2.2.2.2.2.2.1
            rw [h44]
            have HK2 := Lib.hid (HKC.out.trans hk)
            have HO2 := Lib.hid (own_kp0 HO.out hk)
            clear hk hd hcx1 hcy1 hcx2 hcy2 hpe
            go_wp2_with fail
            exact ⟨⟨k + 1, no, co, some ao, L, by go_num, rfl, by omega, by omega, HO2, HL, HS, HM2, HK2⟩, by simp [intOf]; omega⟩
        · have HNE := Lib.hid (show ∀ y, L[j]? = some y → ¬ lessN y (a, b) ∧ y ≠ (a, b) from fun y hy => ⟨HNL.out y hy, fun e => hfound (by rw [hy, e])⟩)
          clear hfound
          by_cases hjn : j < no
          · obtain ⟨a', b', ao, hyk, hao, _, hcx2, hcy2⟩ := (own_rd HO.out).ixN (k := j) (by rw [HL.out]; exact hjn)
            subst hao
            have hj1 : (j : Int) < (no : Int) := by omega
            have hpe := rpair_eq a' b' a b
            rw [decide_eq_false (show ¬ ((a' : Int) = (a : Int) ∧ (b' : Int) = (b : Int)) from fun e => (HNE.out _ hyk).2 (Prod.ext (by simp only; omega) (by simp only; omega)))] at hpe
            clear hyk
            go_wp2_with fail
            refine wp_region_facts (by kernel_rfl) 62 [30, 31, 32, 33, 34, 35, 36, 37, 38, 39, 40, 41, 42, 43, 44] [[], [], [31], [30, 32], [33], [34], [34], [35, 36, 34], [37, 34], [34], [34], [39, 40, 34], [41, 34], [38, 42, 34], [34, 43]] (by kernel_rfl) (by kernel_rfl) rfl (factOf [(30, .eq (.int .i64 (j : Int))), (31, .eq (.slice (some ao) no co)), (32, .eq (.int .i64 (no : Int))), (33, .eq (.bool true)), (34, .eq (.bool true)), (35, .eq (.slice (some ao) no co)), (36, .eq (.int .i64 (j : Int))), (37, .eq (.pointer (some (ao.add (j * 2))))), (38, .eq (.agg #[.int .i64 (a' : Int), .int .i64 (b' : Int)])), (39, .eq (.slice (some ad) n c)), (40, .eq (.int .i64 (k : Int))), (41, .eq (.pointer (some (ad.add (k * 2))))), (42, .eq (.agg #[.int .i64 (a : Int), .int .i64 (b : Int)])), (43, .eq (.bool false)), (44, .eq (.bool false))]) (factOf_stable _) _ (fun x => by simp only [fillL, Nat.reduceAdd, Nat.reduceEqDiff, ↓reduceIte]; rfl) ?_ ?_
            · refine ⟨?_, ?_, ?_, ?_, ?_, ?_, ?_, ?_, ?_, ?_, ?_, ?_, ?_, ?_, ?_, trivial⟩
              · intro fx w' fa hk hd ev  -- 30 = Op.move (Operand.tmp 5)
                have e5 : fa.tmps[5]?.getD undef = .int .i64 (j : Int) := ev.old 5 rfl
                refine stepF_un rfl (fun K hK => ?_)
                exact stepF_val _ hK (run_move rfl e5 _) rfl
              · intro fx w' fa hk hd ev  -- 31 = Op.move (Operand.tmp 3)
                have e3 : fa.tmps[3]?.getD undef = .slice (some ao) no co := ev.old 3 rfl
                refine stepF_un rfl (fun K hK => ?_)
                exact stepF_val _ hK (run_move rfl e3 _) rfl
              · intro fx w' fa hk hd ev  -- 32 = Op.call { callee := Callee.builtin Builtin.len, args := #[Op
                have h31 : fx 31 = .slice (some ao) no co := hd.1
                have e31 : fa.tmps[31]?.getD undef = .slice (some ao) no co := (ev.new 31 rfl).trans h31
                refine stepF_un rfl (fun K hK => ?_)
                go_simp
                exact hK _ _ rfl (Kp.refl _ _)
              · intro fx w' fa hk hd ev  -- 33 = Op.binOp BinOp.lss 3 (Operand.tmp 30) (Operand.tmp 32) 3
                have h30 : fx 30 = .int .i64 (j : Int) := hd.1
                have e30 : fa.tmps[30]?.getD undef = .int .i64 (j : Int) := (ev.new 30 rfl).trans h30
                have h32 : fx 32 = .int .i64 (no : Int) := hd.2.1
                have e32 : fa.tmps[32]?.getD undef = .int .i64 (no : Int) := (ev.new 32 rfl).trans h32
                refine stepF_un rfl (fun K hK => ?_)
                go_simp
                exact hK _ _ rfl (Kp.refl _ _)
              · intro fx w' fa hk hd ev  -- 34 = Op.move (Operand.tmp 33)
                have h33 : fx 33 = .bool true := hd.1
                have e33 : fa.tmps[33]?.getD undef = .bool true := (ev.new 33 rfl).trans h33
                refine stepF_un rfl (fun K hK => ?_)
                exact stepF_val _ hK (run_move rfl e33 _) rfl
              · intro fx w' fa hk hd ev  -- 35 = Op.move (Operand.tmp 3)
                have h34 : fx 34 = .bool true := hd.1
                have e34 : fa.tmps[34]?.getD undef = .bool true := (ev.new 34 rfl).trans h34
                have e3 : fa.tmps[3]?.getD undef = .slice (some ao) no co := ev.old 3 rfl
                refine stepF_yes (i := 4) (g := 34) (b := true) rfl rfl rfl e34 (fun K hK => ?_)
                exact stepF_val _ hK (run_move rfl e3 _) rfl
              · intro fx w' fa hk hd ev  -- 36 = Op.move (Operand.tmp 5)
                have h34 : fx 34 = .bool true := hd.1
                have e34 : fa.tmps[34]?.getD undef = .bool true := (ev.new 34 rfl).trans h34
                have e5 : fa.tmps[5]?.getD undef = .int .i64 (j : Int) := ev.old 5 rfl
                refine stepF_yes (i := 4) (g := 34) (b := true) rfl rfl rfl e34 (fun K hK => ?_)
                exact stepF_val _ hK (run_move rfl e5 _) rfl
              · intro fx w' fa hk hd ev  -- 37 = Op.indexAddr 34 (Operand.tmp 35) (Operand.tmp 36)
                have h35 : fx 35 = .slice (some ao) no co := hd.1
                have e35 : fa.tmps[35]?.getD undef = .slice (some ao) no co := (ev.new 35 rfl).trans h35
                have h36 : fx 36 = .int .i64 (j : Int) := hd.2.1
                have e36 : fa.tmps[36]?.getD undef = .int .i64 (j : Int) := (ev.new 36 rfl).trans h36
                have h34 : fx 34 = .bool true := hd.2.2.1
                have e34 : fa.tmps[34]?.getD undef = .bool true := (ev.new 34 rfl).trans h34
                refine stepF_yes (i := 4) (g := 34) (b := true) rfl rfl rfl e34 (fun K hK => ?_)
                go_simp
                exact hK _ _ rfl (Kp.refl _ _)
              · intro fx w' fa hk hd ev  -- 38 = Op.load 71 (Operand.tmp 37)
                have h37 : fx 37 = .pointer (some (ao.add (j * 2))) := hd.1
                have e37 : fa.tmps[37]?.getD undef = .pointer (some (ao.add (j * 2))) := (ev.new 37 rfl).trans h37
                have h34 : fx 34 = .bool true := hd.2.1
                have e34 : fa.tmps[34]?.getD undef = .bool true := (ev.new 34 rfl).trans h34
                refine stepF_yes (i := 4) (g := 34) (b := true) rfl rfl rfl e34 (fun K hK => ?_)
                have hx1 := hk.cell hcx2 (by simp)
                have hy1 := hk.cell hcy2 (by simp)
                go_simp
                exact hK _ _ rfl (Kp.refl _ _)
              · intro fx w' fa hk hd ev  -- 39 = Op.move (Operand.tmp 0)
                have h34 : fx 34 = .bool true := hd.1
                have e34 : fa.tmps[34]?.getD undef = .bool true := (ev.new 34 rfl).trans h34
                have e0 : fa.tmps[0]?.getD undef = .slice (some ad) n c := ev.old 0 rfl
                refine stepF_yes (i := 4) (g := 34) (b := true) rfl rfl rfl e34 (fun K hK => ?_)
                exact stepF_val _ hK (run_move rfl e0 _) rfl
              · intro fx w' fa hk hd ev  -- 40 = Op.move (Operand.tmp 4)
                have h34 : fx 34 = .bool true := hd.1
                have e34 : fa.tmps[34]?.getD undef = .bool true := (ev.new 34 rfl).trans h34
                have e4 : fa.tmps[4]?.getD undef = .int .i64 (k : Int) := ev.old 4 rfl
                refine stepF_yes (i := 4) (g := 34) (b := true) rfl rfl rfl e34 (fun K hK => ?_)
                exact stepF_val _ hK (run_move rfl e4 _) rfl
              · intro fx w' fa hk hd ev  -- 41 = Op.indexAddr 34 (Operand.tmp 39) (Operand.tmp 40)
                have h39 : fx 39 = .slice (some ad) n c := hd.1
                have e39 : fa.tmps[39]?.getD undef = .slice (some ad) n c := (ev.new 39 rfl).trans h39
                have h40 : fx 40 = .int .i64 (k : Int) := hd.2.1
                have e40 : fa.tmps[40]?.getD undef = .int .i64 (k : Int) := (ev.new 40 rfl).trans h40
                have h34 : fx 34 = .bool true := hd.2.2.1
                have e34 : fa.tmps[34]?.getD undef = .bool true := (ev.new 34 rfl).trans h34
                refine stepF_yes (i := 4) (g := 34) (b := true) rfl rfl rfl e34 (fun K hK => ?_)
                go_simp
                exact hK _ _ rfl (Kp.refl _ _)
              · intro fx w' fa hk hd ev  -- 42 = Op.load 71 (Operand.tmp 41)
                have h41 : fx 41 = .pointer (some (ad.add (k * 2))) := hd.1
                have e41 : fa.tmps[41]?.getD undef = .pointer (some (ad.add (k * 2))) := (ev.new 41 rfl).trans h41
                have h34 : fx 34 = .bool true := hd.2.1
                have e34 : fa.tmps[34]?.getD undef = .bool true := (ev.new 34 rfl).trans h34
                refine stepF_yes (i := 4) (g := 34) (b := true) rfl rfl rfl e34 (fun K hK => ?_)
                have hx1 := hk.cell hcx1 (by simp)
                have hy1 := hk.cell hcy1 (by simp)
                go_simp
                exact hK _ _ rfl (Kp.refl _ _)
              · intro fx w' fa hk hd ev  -- 43 = Op.binOp BinOp.eql 71 (Operand.tmp 38) (Operand.tmp 42) 71
                have h38 : fx 38 = .agg #[.int .i64 (a' : Int), .int .i64 (b' : Int)] := hd.1
                have e38 : fa.tmps[38]?.getD undef = .agg #[.int .i64 (a' : Int), .int .i64 (b' : Int)] := (ev.new 38 rfl).trans h38
                have h42 : fx 42 = .agg #[.int .i64 (a : Int), .int .i64 (b : Int)] := hd.2.1
                have e42 : fa.tmps[42]?.getD undef = .agg #[.int .i64 (a : Int), .int .i64 (b : Int)] := (ev.new 42 rfl).trans h42
                have h34 : fx 34 = .bool true := hd.2.2.1
                have e34 : fa.tmps[34]?.getD undef = .bool true := (ev.new 34 rfl).trans h34
                refine stepF_yes (i := 4) (g := 34) (b := true) rfl rfl rfl e34 (fun K hK => ?_)
                go_simp
                exact hK _ _ rfl (Kp.refl _ _)
              · intro fx w' fa hk hd ev  -- 44 = Op.pick (Operand.tmp 34) (Operand.tmp 43) (Operand.const (Va
                have h34 : fx 34 = .bool true := hd.1
                have e34 : fa.tmps[34]?.getD undef = .bool true := (ev.new 34 rfl).trans h34
                have h43 : fx 43 = .bool false := hd.2.1
                have e43 : fa.tmps[43]?.getD undef = .bool false := (ev.new 43 rfl).trans h43
                refine stepF_un rfl (fun K hK => ?_)
                go_simp
                exact hK _ _ rfl (Kp.refl _ _)
            · intro fx w' hk hd
              have h30 : fx 30 = .int .i64 (j : Int) := hd.1
              have h31 : fx 31 = .slice (some ao) no co := hd.2.1
              have h32 : fx 32 = .int .i64 (no : Int) := hd.2.2.1
              have h33 : fx 33 = .bool true := hd.2.2.2.1
              have h34 : fx 34 = .bool true := hd.2.2.2.2.1
              have h35 : fx 35 = .slice (some ao) no co := hd.2.2.2.2.2.1
              have h36 : fx 36 = .int .i64 (j : Int) := hd.2.2.2.2.2.2.1
              have h37 : fx 37 = .pointer (some (ao.add (j * 2))) := hd.2.2.2.2.2.2.2.1
              have h38 : fx 38 = .agg #[.int .i64 (a' : Int), .int .i64 (b' : Int)] := hd.2.2.2.2.2.2.2.2.1
              have h39 : fx 39 = .slice (some ad) n c := hd.2.2.2.2.2.2.2.2.2.1
              have h40 : fx 40 = .int .i64 (k : Int) := hd.2.2.2.2.2.2.2.2.2.2.1
              have h41 : fx 41 = .pointer (some (ad.add (k * 2))) := hd.2.2.2.2.2.2.2.2.2.2.2.1
              have h42 : fx 42 = .agg #[.int .i64 (a : Int), .int .i64 (b : Int)] := hd.2.2.2.2.2.2.2.2.2.2.2.2.1
              have h43 : fx 43 = .bool false := hd.2.2.2.2.2.2.2.2.2.2.2.2.2.1
              have h44 : fx 44 = .bool false := hd.2.2.2.2.2.2.2.2.2.2.2.2.2.2.1
              rw [h44]
              have HK2 := Lib.hid (HKC.out.trans hk)
              replace HO := Lib.hid (own_kp0 HO.out hk)
              replace HX := Lib.hid (HX.out.kp0 hk)
              have hcx3 := hk.cell hcx1 (by simp)
              have hcy3 := hk.cell hcy1 (by simp)
              clear hk hd hcx1 hcy1 hcx2 hcy2 hpe HKC hjn hj1
              go_wp2_with fail
              generalize (some ao : Option Addr) = Ao at HO ⊢
              have HCUT := Lib.hid (cut2 (own_rd HO.out) HL.out hj hoc)
              have HTK := Lib.hid (rd_take2 (own_rd HO.out) j)
              obtain ⟨nj, hnj⟩ : ∃ nj, no - j = nj := ⟨_, rfl⟩
              have HDL := Lib.hid (show (L.drop j).length = nj by rw [List.length_drop, HL.out, hnj])
              have HTL := Lib.hid (show (L.take j).length = j by rw [List.length_take, HL.out]; omega)
              have HSZ := Lib.hid HK2.out.size
              have hnjb : nj ≤ 2000 := by omega
              go_region_law
                ((refine step_append_rd rfl (.tmp 49) (.tmp 52) 34 rfl w.heap.size 71 i0 (.agg #[.int .i64 0, .int .i64 0]) 2 16 Try.underlying34 hi hz0 hz1 hz2 rfl (by decide) (.slice (some ⟨_, 0, none⟩) 1 1) 1 [.int .i64 (a : Int), .int .i64 (b : Int)] (by rfl) (own_one2 _ _ _ _ _ HSZ.out) _ _ nj (co - j) (pc (L.drop j)) (by rfl) (by rw [pc_len, HDL.out]) (HCUT.out.kp0 (show Kp [] w' _ from by first | exact ((Kp.refl _ _).alloc _) | exact ((Kp.refl _ _).drew.alloc _))) (oc_pc _) (by unfold maxLen; omega) (by omega) (Nat.le_trans HSZ.out (by simp)) ?_; intro v3 w3 hown3 hgrow3 hat3; generalize (if co = j then Ao else Option.map (fun x => x.add (j * 2)) Ao) = Ac; obtain ⟨A3, c3, rfl, _⟩ := own_form hown3; have hk3 : Kp [] w' w3 := (show Kp [] w' _ from by first | exact ((Kp.refl _ _).alloc _) | exact ((Kp.refl _ _).drew.alloc _)).grown hgrow3 (fun x hx => .inr (by simp [Value.ownBlock] at hx; omega)); have HO3 := Lib.hid hown3; have HK3 := Lib.hid hk3; clear hown3 hgrow3 hat3 hk3))
              have HTK3 := Lib.hid (HTK.out.kp0 HK3.out)
              have HSZ3 := Lib.hid (Nat.le_trans HSZ.out HK3.out.size)
              have HKW := Lib.hid (HK2.out.trans HK3.out)
              have HL5 := Lib.hid (show (L.take j ++ (a, b) :: L.drop j).length = j + (1 + nj) by rw [List.length_append, HTL.out, List.length_cons, HDL.out]; omega)
              have HS5 := Lib.hid (ins_sorted (x := (a, b)) HS.out HLE.out HNE.out)
              have HM5 := Lib.hid (show ∀ x, x ∈ L.take j ++ (a, b) :: L.drop j ↔ x ∈ l.take (k + 1) from fun x => by rw [ins_mem, HM.out x, g_take HXK.out, List.mem_append, List.mem_singleton])
              have HE5 := Lib.hid (show pc (L.take j) ++ ([.int .i64 (a : Int), .int .i64 (b : Int)] ++ pc (L.drop j)) = pc (L.take j ++ (a, b) :: L.drop j) by rw [pc_append]; rfl)
              have hj1k : j + (1 + nj) ≤ k + 1 := by omega
              have HLN := Lib.hid (show ([.int .i64 (a : Int), .int .i64 (b : Int)] ++ pc (L.drop j) : List Value).length = (1 + nj) * 2 by rw [List.length_append, pc_len, HDL.out]; simp; omega)
              clear HCUT HTK HK2 HS HM HLE HNE HSZ HO HX HDL hnj hcx3 hcy3
              go_wp2_with first
                | (at_builtin; refine wpList_append_rd rfl (.tmp 54) (.tmp 57) 34 rfl w.heap.size 71 i0 (.agg #[.int .i64 0, .int .i64 0]) 2 16 Try.underlying34 hi hz0 hz1 hz2 rfl (by decide) (.slice (some ⟨w3.heap.size, 0, none⟩) 0 0) 0 [] rfl (own_nil2 w3 w.heap.size _ 2 HSZ3.out) _ _ j co (pc (L.take j)) rfl (by rw [pc_len, HTL.out]) (HTK3.out.kp0 ((Kp.refl [] _).alloc _)) (oc_pc _) (by unfold maxLen; omega) (by omega) (Nat.le_trans HSZ3.out (by simp)) ?_; intro v4 w4 hown4 hgrow4 hat4
                   rw [Nat.zero_add, List.nil_append] at hown4
                   obtain ⟨A4, c4, rfl, _⟩ := own_form hown4
                   have hk4 : Kp [] w3 w4 := ((Kp.refl [] w3).alloc _).grown hgrow4 (fun x hx => .inr (by simp [Value.ownBlock] at hx; omega))
                   have HO4 := Lib.hid hown4
                   have HR4 := Lib.hid ((own_rd HO3.out).kp0 hk4)
                   have HK4 := Lib.hid (HKW.out.trans hk4)
                   have HSZ4 := Lib.hid (Nat.le_trans HSZ3.out hk4.size)
                   clear hown4 hgrow4 hat4 hk4)
                | (at_builtin; refine wpList_append_rd rfl (.tmp 58) (.tmp 59) 34 rfl w.heap.size 71 i0 (.agg #[.int .i64 0, .int .i64 0]) 2 16 Try.underlying34 hi hz0 hz1 hz2 rfl (by decide) (.slice A4 j c4) j _ rfl HO4.out _ _ (1 + nj) c3 _ rfl HLN.out HR4.out (by intro u hu; rcases List.mem_append.1 hu with hu | hu; simp at hu; rcases hu with rfl | rfl <;> rfl; exact oc_pc _ u hu) (by unfold maxLen; omega) (by omega) HSZ4.out ?_; intro v5 w5 hown5 hgrow5 hat5
                   obtain ⟨A5, c5, rfl, _⟩ := own_form hown5
                   have hk5 : Kp [] w w5 := HK4.out.grown hgrow5 (fun x hx => .inr (own_ge HO4.out hx).1)
                   rw [HE5.out] at hown5
                   have HO5 := Lib.hid hown5
                   have HK5 := Lib.hid hk5
                   clear hown5 hgrow5 hat5 hk5)
              exact ⟨⟨k + 1, j + (1 + nj), c5, A5, _, by go_num, rfl, by omega, hj1k, HO5, HL5, HS5, HM5, HK5⟩, by simp [intOf]; omega⟩
          · have hcx3 := hcx1
            have hcy3 := hcy1
            clear hcx1 hcy1
            go_wp2_with fail
            refine wp_region_facts (by kernel_rfl) 62 [30, 31, 32, 33, 34, 35, 36, 37, 38, 39, 40, 41, 42, 43, 44] [[], [], [31], [30, 32], [33], [34], [34], [35, 36, 34], [37, 34], [34], [34], [39, 40, 34], [41, 34], [38, 42, 34], [34, 43]] (by kernel_rfl) (by kernel_rfl) rfl (factOf [(30, .eq (.int .i64 (j : Int))), (31, .eq (.slice Ao no co)), (32, .eq (.int .i64 (no : Int))), (33, .eq (.bool false)), (34, .eq (.bool false)), (35, .eq (undef)), (36, .eq (undef)), (37, .eq (undef)), (38, .eq (undef)), (39, .eq (undef)), (40, .eq (undef)), (41, .eq (undef)), (42, .eq (undef)), (43, .eq (undef)), (44, .eq (.bool false))]) (factOf_stable _) _ (fun x => by simp only [fillL, Nat.reduceAdd, Nat.reduceEqDiff, ↓reduceIte]; rfl) ?_ ?_
            · refine ⟨?_, ?_, ?_, ?_, ?_, ?_, ?_, ?_, ?_, ?_, ?_, ?_, ?_, ?_, ?_, trivial⟩
              · intro fx w' fa hk hd ev  -- 30 = Op.move (Operand.tmp 5)
                have e5 : fa.tmps[5]?.getD undef = .int .i64 (j : Int) := ev.old 5 rfl
                refine stepF_un rfl (fun K hK => ?_)
                exact stepF_val _ hK (run_move rfl e5 _) rfl
              · intro fx w' fa hk hd ev  -- 31 = Op.move (Operand.tmp 3)
                have e3 : fa.tmps[3]?.getD undef = .slice Ao no co := ev.old 3 rfl
                refine stepF_un rfl (fun K hK => ?_)
                exact stepF_val _ hK (run_move rfl e3 _) rfl
              · intro fx w' fa hk hd ev  -- 32 = Op.call { callee := Callee.builtin Builtin.len, args := #[Op
                have h31 : fx 31 = .slice Ao no co := hd.1
                have e31 : fa.tmps[31]?.getD undef = .slice Ao no co := (ev.new 31 rfl).trans h31
                refine stepF_un rfl (fun K hK => ?_)
                go_simp
                exact hK _ _ rfl (Kp.refl _ _)
              · intro fx w' fa hk hd ev  -- 33 = Op.binOp BinOp.lss 3 (Operand.tmp 30) (Operand.tmp 32) 3
                have h30 : fx 30 = .int .i64 (j : Int) := hd.1
                have e30 : fa.tmps[30]?.getD undef = .int .i64 (j : Int) := (ev.new 30 rfl).trans h30
                have h32 : fx 32 = .int .i64 (no : Int) := hd.2.1
                have e32 : fa.tmps[32]?.getD undef = .int .i64 (no : Int) := (ev.new 32 rfl).trans h32
                refine stepF_un rfl (fun K hK => ?_)
                go_simp
                exact hK _ _ rfl (Kp.refl _ _)
              · intro fx w' fa hk hd ev  -- 34 = Op.move (Operand.tmp 33)
                have h33 : fx 33 = .bool false := hd.1
                have e33 : fa.tmps[33]?.getD undef = .bool false := (ev.new 33 rfl).trans h33
                refine stepF_un rfl (fun K hK => ?_)
                exact stepF_val _ hK (run_move rfl e33 _) rfl
              · intro fx w' fa hk hd ev  -- 35 = Op.move (Operand.tmp 3)
                have h34 : fx 34 = .bool false := hd.1
                have e34 : fa.tmps[34]?.getD undef = .bool false := (ev.new 34 rfl).trans h34
                refine stepF_no (i := 4) (g := 34) (b := true) rfl rfl rfl e34 rfl
              · intro fx w' fa hk hd ev  -- 36 = Op.move (Operand.tmp 5)
                have h34 : fx 34 = .bool false := hd.1
                have e34 : fa.tmps[34]?.getD undef = .bool false := (ev.new 34 rfl).trans h34
                refine stepF_no (i := 4) (g := 34) (b := true) rfl rfl rfl e34 rfl
              · intro fx w' fa hk hd ev  -- 37 = Op.indexAddr 34 (Operand.tmp 35) (Operand.tmp 36)
                have h34 : fx 34 = .bool false := hd.2.2.1
                have e34 : fa.tmps[34]?.getD undef = .bool false := (ev.new 34 rfl).trans h34
                refine stepF_no (i := 4) (g := 34) (b := true) rfl rfl rfl e34 rfl
              · intro fx w' fa hk hd ev  -- 38 = Op.load 71 (Operand.tmp 37)
                have h34 : fx 34 = .bool false := hd.2.1
                have e34 : fa.tmps[34]?.getD undef = .bool false := (ev.new 34 rfl).trans h34
                refine stepF_no (i := 4) (g := 34) (b := true) rfl rfl rfl e34 rfl
              · intro fx w' fa hk hd ev  -- 39 = Op.move (Operand.tmp 0)
                have h34 : fx 34 = .bool false := hd.1
                have e34 : fa.tmps[34]?.getD undef = .bool false := (ev.new 34 rfl).trans h34
                refine stepF_no (i := 4) (g := 34) (b := true) rfl rfl rfl e34 rfl
              · intro fx w' fa hk hd ev  -- 40 = Op.move (Operand.tmp 4)
                have h34 : fx 34 = .bool false := hd.1
                have e34 : fa.tmps[34]?.getD undef = .bool false := (ev.new 34 rfl).trans h34
                refine stepF_no (i := 4) (g := 34) (b := true) rfl rfl rfl e34 rfl
              · intro fx w' fa hk hd ev  -- 41 = Op.indexAddr 34 (Operand.tmp 39) (Operand.tmp 40)
                have h34 : fx 34 = .bool false := hd.2.2.1
                have e34 : fa.tmps[34]?.getD undef = .bool false := (ev.new 34 rfl).trans h34
                refine stepF_no (i := 4) (g := 34) (b := true) rfl rfl rfl e34 rfl
              · intro fx w' fa hk hd ev  -- 42 = Op.load 71 (Operand.tmp 41)
                have h34 : fx 34 = .bool false := hd.2.1
                have e34 : fa.tmps[34]?.getD undef = .bool false := (ev.new 34 rfl).trans h34
                refine stepF_no (i := 4) (g := 34) (b := true) rfl rfl rfl e34 rfl
              · intro fx w' fa hk hd ev  -- 43 = Op.binOp BinOp.eql 71 (Operand.tmp 38) (Operand.tmp 42) 71
                have h34 : fx 34 = .bool false := hd.2.2.1
                have e34 : fa.tmps[34]?.getD undef = .bool false := (ev.new 34 rfl).trans h34
                refine stepF_no (i := 4) (g := 34) (b := true) rfl rfl rfl e34 rfl
              · intro fx w' fa hk hd ev  -- 44 = Op.pick (Operand.tmp 34) (Operand.tmp 43) (Operand.const (Va
                have h34 : fx 34 = .bool false := hd.1
                have e34 : fa.tmps[34]?.getD undef = .bool false := (ev.new 34 rfl).trans h34
                have h43 : fx 43 = undef := hd.2.1
                have e43 : fa.tmps[43]?.getD undef = undef := (ev.new 43 rfl).trans h43
                refine stepF_un rfl (fun K hK => ?_)
                go_simp
                exact hK _ _ rfl (Kp.refl _ _)
            · intro fx w' hk hd
              have h30 : fx 30 = .int .i64 (j : Int) := hd.1
              have h31 : fx 31 = .slice Ao no co := hd.2.1
              have h32 : fx 32 = .int .i64 (no : Int) := hd.2.2.1
              have h33 : fx 33 = .bool false := hd.2.2.2.1
              have h34 : fx 34 = .bool false := hd.2.2.2.2.1
              have h35 : fx 35 = undef := hd.2.2.2.2.2.1
              have h36 : fx 36 = undef := hd.2.2.2.2.2.2.1
              have h37 : fx 37 = undef := hd.2.2.2.2.2.2.2.1
              have h38 : fx 38 = undef := hd.2.2.2.2.2.2.2.2.1
              have h39 : fx 39 = undef := hd.2.2.2.2.2.2.2.2.2.1
              have h40 : fx 40 = undef := hd.2.2.2.2.2.2.2.2.2.2.1
              have h41 : fx 41 = undef := hd.2.2.2.2.2.2.2.2.2.2.2.1
              have h42 : fx 42 = undef := hd.2.2.2.2.2.2.2.2.2.2.2.2.1
              have h43 : fx 43 = undef := hd.2.2.2.2.2.2.2.2.2.2.2.2.2.1
              have h44 : fx 44 = .bool false := hd.2.2.2.2.2.2.2.2.2.2.2.2.2.2.1
              rw [h44]
              have HK2 := Lib.hid (HKC.out.trans hk)
              replace HO := Lib.hid (own_kp0 HO.out hk)
              replace HX := Lib.hid (HX.out.kp0 hk)
              replace hcx3 := hk.cell hcx3 (by simp)
              replace hcy3 := hk.cell hcy3 (by simp)
              clear hk hd HKC hjn
              go_wp2_with fail
              have HCUT := Lib.hid (cut2 (own_rd HO.out) HL.out hj hoc)
              have HTK := Lib.hid (rd_take2 (own_rd HO.out) j)
              obtain ⟨nj, hnj⟩ : ∃ nj, no - j = nj := ⟨_, rfl⟩
              have HDL := Lib.hid (show (L.drop j).length = nj by rw [List.length_drop, HL.out, hnj])
              have HTL := Lib.hid (show (L.take j).length = j by rw [List.length_take, HL.out]; omega)
              have HSZ := Lib.hid HK2.out.size
              have hnjb : nj ≤ 2000 := by omega
              go_region_law
                ((refine step_append_rd rfl (.tmp 49) (.tmp 52) 34 rfl w.heap.size 71 i0 (.agg #[.int .i64 0, .int .i64 0]) 2 16 Try.underlying34 hi hz0 hz1 hz2 rfl (by decide) (.slice (some ⟨_, 0, none⟩) 1 1) 1 [.int .i64 (a : Int), .int .i64 (b : Int)] (by rfl) (own_one2 _ _ _ _ _ HSZ.out) _ _ nj (co - j) (pc (L.drop j)) (by rfl) (by rw [pc_len, HDL.out]) (HCUT.out.kp0 (show Kp [] w' _ from by first | exact ((Kp.refl _ _).alloc _) | exact ((Kp.refl _ _).drew.alloc _))) (oc_pc _) (by unfold maxLen; omega) (by omega) (Nat.le_trans HSZ.out (by simp)) ?_; intro v3 w3 hown3 hgrow3 hat3; generalize (if co = j then Ao else Option.map (fun x => x.add (j * 2)) Ao) = Ac; obtain ⟨A3, c3, rfl, _⟩ := own_form hown3; have hk3 : Kp [] w' w3 := (show Kp [] w' _ from by first | exact ((Kp.refl _ _).alloc _) | exact ((Kp.refl _ _).drew.alloc _)).grown hgrow3 (fun x hx => .inr (by simp [Value.ownBlock] at hx; omega)); have HO3 := Lib.hid hown3; have HK3 := Lib.hid hk3; clear hown3 hgrow3 hat3 hk3))
              have HTK3 := Lib.hid (HTK.out.kp0 HK3.out)
              have HSZ3 := Lib.hid (Nat.le_trans HSZ.out HK3.out.size)
              have HKW := Lib.hid (HK2.out.trans HK3.out)
              have HL5 := Lib.hid (show (L.take j ++ (a, b) :: L.drop j).length = j + (1 + nj) by rw [List.length_append, HTL.out, List.length_cons, HDL.out]; omega)
              have HS5 := Lib.hid (ins_sorted (x := (a, b)) HS.out HLE.out HNE.out)
              have HM5 := Lib.hid (show ∀ x, x ∈ L.take j ++ (a, b) :: L.drop j ↔ x ∈ l.take (k + 1) from fun x => by rw [ins_mem, HM.out x, g_take HXK.out, List.mem_append, List.mem_singleton])
              have HE5 := Lib.hid (show pc (L.take j) ++ ([.int .i64 (a : Int), .int .i64 (b : Int)] ++ pc (L.drop j)) = pc (L.take j ++ (a, b) :: L.drop j) by rw [pc_append]; rfl)
              have hj1k : j + (1 + nj) ≤ k + 1 := by omega
              have HLN := Lib.hid (show ([.int .i64 (a : Int), .int .i64 (b : Int)] ++ pc (L.drop j) : List Value).length = (1 + nj) * 2 by rw [List.length_append, pc_len, HDL.out]; simp; omega)
              clear HCUT HTK HK2 HS HM HLE HNE HSZ HO HX HDL hnj hcx3 hcy3
              go_wp2_with first
                | (at_builtin; refine wpList_append_rd rfl (.tmp 54) (.tmp 57) 34 rfl w.heap.size 71 i0 (.agg #[.int .i64 0, .int .i64 0]) 2 16 Try.underlying34 hi hz0 hz1 hz2 rfl (by decide) (.slice (some ⟨w3.heap.size, 0, none⟩) 0 0) 0 [] rfl (own_nil2 w3 w.heap.size _ 2 HSZ3.out) _ _ j co (pc (L.take j)) rfl (by rw [pc_len, HTL.out]) (HTK3.out.kp0 ((Kp.refl [] _).alloc _)) (oc_pc _) (by unfold maxLen; omega) (by omega) (Nat.le_trans HSZ3.out (by simp)) ?_; intro v4 w4 hown4 hgrow4 hat4
                   rw [Nat.zero_add, List.nil_append] at hown4
                   obtain ⟨A4, c4, rfl, _⟩ := own_form hown4
                   have hk4 : Kp [] w3 w4 := ((Kp.refl [] w3).alloc _).grown hgrow4 (fun x hx => .inr (by simp [Value.ownBlock] at hx; omega))
                   have HO4 := Lib.hid hown4
                   have HR4 := Lib.hid ((own_rd HO3.out).kp0 hk4)
                   have HK4 := Lib.hid (HKW.out.trans hk4)
                   have HSZ4 := Lib.hid (Nat.le_trans HSZ3.out hk4.size)
                   clear hown4 hgrow4 hat4 hk4)
                | (at_builtin; refine wpList_append_rd rfl (.tmp 58) (.tmp 59) 34 rfl w.heap.size 71 i0 (.agg #[.int .i64 0, .int .i64 0]) 2 16 Try.underlying34 hi hz0 hz1 hz2 rfl (by decide) (.slice A4 j c4) j _ rfl HO4.out _ _ (1 + nj) c3 _ rfl HLN.out HR4.out (by intro u hu; rcases List.mem_append.1 hu with hu | hu; simp at hu; rcases hu with rfl | rfl <;> rfl; exact oc_pc _ u hu) (by unfold maxLen; omega) (by omega) HSZ4.out ?_; intro v5 w5 hown5 hgrow5 hat5
                   obtain ⟨A5, c5, rfl, _⟩ := own_form hown5
                   have hk5 : Kp [] w w5 := HK4.out.grown hgrow5 (fun x hx => .inr (own_ge HO4.out hx).1)
                   rw [HE5.out] at hown5
                   have HO5 := Lib.hid hown5
                   have HK5 := Lib.hid hk5
                   clear hown5 hgrow5 hat5 hk5)
              exact ⟨⟨k + 1, j + (1 + nj), c5, A5, _, by go_num, rfl, by omega, hj1k, HO5, HL5, HS5, HM5, HK5⟩, by simp [intOf]; omega⟩
    · obtain rfl : n = k := by omega
      rw [List.take_of_length_le (Nat.le_of_eq HN.out)] at HM
      go_wp2_with fail
      go_ret
      exact ⟨Ao, no, co, L, rfl, HO.out, HL.out, HS.out, HM.out, by omega, HK.out⟩

set_option maxRecDepth 100000 in
set_option maxHeartbeats 4000000 in
theorem rquarter_any (r0 c0 half q : Nat) (A : Option Addr) (n c B : Nat) (l : List (Nat × Nat)) (w : World) (hx : Rd w B A (pc l)) (hB : B ≤ w.heap.size) (hn : l.length = n) (hb : n ≤ 2000) (hq : q < 4) (h0 : 1 ≤ half) (h1 : half ≤ 65536) (hr : r0 ≤ 131072) (hc : c0 ≤ 131072) (hl : ∀ p ∈ l, p.1 < 131072 ∧ p.2 < 131072) (R C : Nat) (hR : R = r0 + q / 2 * half) (hC : C = c0 + q % 2 * half) :
    Calls Try.prog 42 #[.agg #[.int .i64 (r0 : Int), .int .i64 (c0 : Int), .int .i64 ((2 * half : Nat) : Int), .slice A n c], .int .i64 (q : Int)] w fun e w' => ∃ (Ao : Option Addr) (no co : Nat), e = .returned (.agg #[.int .i64 (R : Int), .int .i64 (C : Int), .int .i64 (half : Int), .slice Ao no co]) ∧
      w'.ownsRow w.heap.size 71 2 (.slice Ao no co) no (pc (l.filter (inSq R C half))) ∧ (l.filter (inSq R C half)).length = no ∧ Kp [] w w' := by
  obtain ⟨i0, hi, hz0, hz1, hz2⟩ := info_parts Try.info_rpair
  have HX := Lib.hid hx
  have HB := Lib.hid hB
  have HLB := Lib.hid hl
  have HRB := Lib.hid hR
  have HCB := Lib.hid hC
  have HN := Lib.hid hn; clear hn
  obtain ⟨S, hS⟩ : ∃ S, S = 2 * half := ⟨_, rfl⟩
  have hRb : R ≤ 262144 := by rw [hR]; have : q / 2 * half ≤ 1 * 65536 := Nat.mul_le_mul (by omega) h1; omega
  have hCb : C ≤ 262144 := by rw [hC]; have : q % 2 * half ≤ 1 * 65536 := Nat.mul_le_mul (by omega) h1; omega
  have e1 : Int.tdiv (S : Int) 2 = (half : Int) := by rw [hS]; show ((2 * half / 2 : Nat) : Int) = _; congr 1; omega
  have e2 : Int.tdiv (q : Int) 2 = ((q / 2 : Nat) : Int) := rfl
  have e3 : Int.tmod (q : Int) 2 = ((q % 2 : Nat) : Int) := rfl
  obtain ⟨qa, hqa⟩ : ∃ qa, qa = q / 2 := ⟨_, rfl⟩
  obtain ⟨qb, hqb⟩ : ∃ qb, qb = q % 2 := ⟨_, rfl⟩
  rw [← hqa] at e2 hR
  rw [← hqb] at e3 hC
  have hqa1 : qa ≤ 1 := by omega
  have hqb1 : qb ≤ 1 := by omega
  have hSb : S ≤ 131072 := by omega
  have eR : (r0 : Int) + (qa : Int) * (half : Int) = (R : Int) := by rw [hR]; simp
  have eC : (c0 : Int) + (qb : Int) * (half : Int) = (C : Int) := by rw [hC]; simp
  rw [← hS]
  clear hx hB hl hqa hqb hS hR hC
  obtain ⟨g, hg⟩ : ∃ g, g = w.heap.size := ⟨_, rfl⟩
  obtain ⟨w3, hw3⟩ : ∃ w3, w3 = (((w.alloc (.cells #[.int .i64 (r0 : Int), .int .i64 (c0 : Int), .int .i64 (S : Int), .slice A n c] 77)).alloc (.cells #[.int .i64 0, .int .i64 0, .int .i64 0, .slice none 0 0] 77)).alloc (.cells #[.int .i64 (R : Int), .int .i64 (C : Int), .int .i64 (half : Int), .slice none 0 0] 77)) := ⟨_, rfl⟩
  have hk3 : Kp [] w w3 := by rw [hw3]; exact (((Kp.refl [] w).alloc _).alloc _).alloc _
  have hz : w3.heap.size = g + 3 := by rw [hw3, hg]; simp
  have b1 : Blk w3 g 77 [.int .i64 (r0 : Int), .int .i64 (c0 : Int), .int .i64 (S : Int), .slice A n c] := by rw [hw3, hg]; exact ((Blk.new w _ _).alloc _).alloc _
  have b2 : Blk w3 (g + 1) 77 [.int .i64 0, .int .i64 0, .int .i64 0, .slice none 0 0] := by rw [hw3, hg]; have := (Blk.new (w.alloc (.cells #[.int .i64 (r0 : Int), .int .i64 (c0 : Int), .int .i64 (S : Int), .slice A n c] 77)) 77 [.int .i64 0, .int .i64 0, .int .i64 0, .slice none 0 0]).alloc (.cells #[.int .i64 (R : Int), .int .i64 (C : Int), .int .i64 (half : Int), .slice none 0 0] 77); simpa using this
  have b3 : Blk w3 (g + 2) 77 [.int .i64 (R : Int), .int .i64 (C : Int), .int .i64 (half : Int), .slice none 0 0] := by
    rw [hw3, hg]
    have := Blk.new ((w.alloc (.cells #[.int .i64 (r0 : Int), .int .i64 (c0 : Int), .int .i64 (S : Int), .slice A n c] 77)).alloc (.cells #[.int .i64 0, .int .i64 0, .int .i64 0, .slice none 0 0] 77)) 77 [.int .i64 (R : Int), .int .i64 (C : Int), .int .i64 (half : Int), .slice none 0 0]
    simpa using this
  have HX3 := Lib.hid (HX.out.kp0 hk3)
  have HK3 := Lib.hid hk3
  have HBG := Lib.hid (show B ≤ g from by rw [hg]; exact HB.out)
  have B1 := Lib.hid b1
  have B2 := Lib.hid b2
  have B3 := Lib.hid b3
  have HW3 := Lib.hid hw3; clear hw3
  have HG := Lib.hid hg; clear hg
  have HZ := Lib.hid hz; clear hz
  clear hk3 b1 b2 b3 HB
  go_enter Try.func42, Try.ntmps42
  go_wp2_with fail
  rw [← HW3.out, ← HG.out, show g + 1 + 1 = g + 2 from rfl]
  clear HW3 e2 e3
  go_loopw [7] (fun x wr => ∃ (k no co : Nat) (Ao : Option Addr), x = .int .i64 (k : Int) ∧ k ≤ n ∧ no ≤ k ∧ Hid (Blk wr g 77 [.int .i64 (r0 : Int), .int .i64 (c0 : Int), .int .i64 (S : Int), .slice A n c]) ∧ Hid (Blk wr (g + 1) 77 [.int .i64 0, .int .i64 0, .int .i64 0, .slice none 0 0]) ∧
    Hid (Blk wr (g + 2) 77 [.int .i64 (R : Int), .int .i64 (C : Int), .int .i64 (half : Int), .slice Ao no co]) ∧ Hid (wr.ownsRow (g + 3) 71 2 (.slice Ao no co) no (pc ((l.take k).filter (inSq R C half)))) ∧ Hid (((l.take k).filter (inSq R C half)).length = no) ∧ Hid (Kp [] w wr) ∧ Hid (g + 3 ≤ wr.heap.size)) (fun x _ => n - (intOf x).toNat)
  case atStart => exact ⟨0, 0, 0, none, rfl, by omega, by omega, B1, B2, B3, Lib.hid (World.ownsRow_nil _ _ _ 2), Lib.hid rfl, HK3, Lib.hid (by rw [HZ.out]; exact Nat.le_refl _)⟩
  case round =>
    clear B1 B2 B3 HX3 HK3 HZ
    obtain ⟨k, no, co, Ao, rfl, hk, hno, B1, B2, B3, HO, HL, HK, HZ⟩ := hrel
    by_cases hlt : k < n
    · obtain ⟨a, b, ad, hxk, had, hab, hcx, hcy⟩ := (HX.out.kp0 HK.out).ixN (k := k) (by rw [HN.out]; exact hlt)
      subst had
      have HXK := Lib.hid hxk
      have hi0 : (0 : Int) ≤ (k : Int) := by omega
      have hi1 : (k : Int) < (n : Int) := by omega
      have hq3 : wr.cell? ⟨g, 3, none⟩ = some (.slice (some ad) n c) := by rw [B1.out.cell]; rfl
      clear hxk hab
      go_upto_region 7 with (fail)
      obtain ⟨gp, hgp⟩ : ∃ gp, gp = wr.heap.size := ⟨_, rfl⟩
      obtain ⟨w4, hw4⟩ : ∃ w4, w4 = wr.alloc (.cells #[.int .i64 (a : Int), .int .i64 (b : Int)] 71) := ⟨_, rfl⟩
      rw [← hw4, ← hgp]
      have hk4 : Kp [] wr w4 := by rw [hw4]; exact (Kp.refl [] wr).alloc _
      have b4 : Blk w4 gp 71 [.int .i64 (a : Int), .int .i64 (b : Int)] := by rw [hw4, hgp]; exact Blk.new wr _ _
      have hp0 : w4.cell? ⟨gp, 0, none⟩ = some (.int .i64 (a : Int)) := by rw [b4.cell]; rfl
      have hp1 : w4.cell? ⟨gp, 1, none⟩ = some (.int .i64 (b : Int)) := by rw [b4.cell]; rfl
      replace B1 := Lib.hid (B1.out.kp0 hk4)
      replace B2 := Lib.hid (B2.out.kp0 hk4)
      replace B3 := Lib.hid (B3.out.kp0 hk4)
      replace HO := Lib.hid (own_kp0 HO.out hk4)
      replace HK := Lib.hid (HK.out.trans hk4)
      replace HZ := Lib.hid (Nat.le_trans HZ.out hk4.size)
      have hs0 : w4.cell? ⟨g + 2, 0, none⟩ = some (.int .i64 (R : Int)) := by rw [B3.out.cell]; rfl
      have hs1 : w4.cell? ⟨g + 2, 1, none⟩ = some (.int .i64 (C : Int)) := by rw [B3.out.cell]; rfl
      have hs3 : w4.cell? ⟨g + 2, 3, none⟩ = some (.slice Ao no co) := by rw [B3.out.cell]; rfl
      clear hk4 b4 hw4 hq3 hcx hcy hgp
      obtain ⟨ha, hb'⟩ := HLB.out (a, b) (List.mem_of_getElem? HXK.out)
      simp only at ha hb'
      cases hin : inSq R C half (a, b) with
      | true =>
        have HIN := Lib.hid hin
        unfold inSq at hin
        rw [decide_eq_true_iff] at hin
        obtain ⟨n1, n2, n3, n4⟩ := hin
        simp only at n1 n2 n3 n4
        have m1 : (R : Int) ≤ (a : Int) := by omega
        have m2 : (a : Int) < (R : Int) + (half : Int) := by omega
        have m3 : (C : Int) ≤ (b : Int) := by omega
        have m4 : (b : Int) < (C : Int) + (half : Int) := by omega
        have HTK := Lib.hid (show (l.take (k + 1)).filter (inSq R C half) = (l.take k).filter (inSq R C half) ++ [(a, b)] by rw [g_take HXK.out, List.filter_append]; congr 1; rw [List.filter_cons, if_pos HIN.out]; rfl)
        go_wp2_with (at_builtin; go_loud (refine wpList_append_rd rfl (.tmp 71) (.tmp 73) 34 rfl (g + 3) 71 i0 (.agg #[.int .i64 0, .int .i64 0]) 2 16 Try.underlying34 hi hz0 hz1 hz2 rfl (by decide) (.slice Ao no co) no _ rfl (own_kp0 HO.out ((Kp.refl [] _).alloc _)) _ _ 1 1 [.int .i64 (a : Int), .int .i64 (b : Int)] rfl rfl (rd_new' w4 #[.int .i64 (a : Int), .int .i64 (b : Int)] 71 rfl) (by intro u hu; simp at hu; rcases hu with rfl | rfl <;> rfl) (by unfold maxLen; omega) (by omega) (Nat.le_trans HZ.out (by simp)) ?_); intro v5 w5 hown5 hgrow5 hat5
                     obtain ⟨A5, c5, rfl, _⟩ := own_form hown5
                     have hge : ∀ x ∈ ownL (.slice Ao no co), g + 3 ≤ x := fun x hx => (own_ge HO.out (mem_ownL.1 hx)).1
                     have hk5 : Kp (ownL (.slice Ao no co)) w4 w5 := ((Kp.refl _ w4).alloc _).grown hgrow5 (fun x hx => .inl (mem_ownL.2 hx))
                     have n0 : g + 2 ∉ ownL (.slice Ao no co) := fun hm => by have := hge _ hm; omega
                     have B15 := Lib.hid (B1.out.kp hk5 (fun hm => by have := hge _ hm; omega))
                     have B25 := Lib.hid (B2.out.kp hk5 (fun hm => by have := hge _ hm; omega))
                     have b35 := B3.out.kp hk5 n0
                     have hs5 : w5.cell? ⟨g + 2, 3, none⟩ = some (.slice Ao no co) := by rw [b35.cell]; rfl
                     have hf5 : w5.frozen? ⟨g + 2, 3, none⟩ = false := b35.free 3
                     have B35 := Lib.hid b35
                     have HK5 := Lib.hid (HK.out.trans' hk5 (fun x hx => .inr (by have := hge x hx; have := HG.out; omega)))
                     have HZ5 := Lib.hid (Nat.le_trans HZ.out hk5.size)
                     have H5 := Lib.hid hown5
                     clear hown5 hgrow5 hat5 hge hk5 n0 b35)
        have HO6 := Lib.hid (show (w5.setCell ⟨g + 2, 3, none⟩ (.slice A5 (no + 1) c5)).ownsRow (g + 3) 71 2 (.slice A5 (no + 1) c5) (no + 1) (pc ((l.take (k + 1)).filter (inSq R C half))) from by
          rw [HTK.out, pc_append]
          exact own_kp H5.out ((Kp.refl [g + 2] w5).setCell (.inl (by simp)) _) (fun x hx hm => by have := (own_ge H5.out hx).1; simp at hm; omega))
        exact ⟨⟨k + 1, no + 1, c5, A5, by go_num, by omega, by omega, Lib.hid (B15.out.far (by simp) _), Lib.hid (B25.out.far (by simp) _), Lib.hid (B35.out.set_ 3 _), HO6, Lib.hid (by rw [HTK.out, List.length_append, HL.out]; rfl), Lib.hid (HK5.out.setCell (.inr (by have := HG.out; simp; omega)) _), Lib.hid (by simpa using HZ5.out)⟩, by simp [intOf]; omega⟩
      | false =>
        have HTK := Lib.hid (show (l.take (k + 1)).filter (inSq R C half) = (l.take k).filter (inSq R C half) by rw [g_take HXK.out, List.filter_append]; rw [List.filter_cons, if_neg (by rw [hin]; simp)]; simp)
        unfold inSq at hin
        rw [decide_eq_false_iff_not] at hin
        simp only at hin
        have fin : Hid (Blk w4 g 77 [.int .i64 (r0 : Int), .int .i64 (c0 : Int), .int .i64 (S : Int), .slice (some ad) n c]) := B1
        by_cases n1 : R ≤ a
        · have m1 : (R : Int) ≤ (a : Int) := by omega
          by_cases n2 : a < R + half
          · have m2 : (a : Int) < (R : Int) + (half : Int) := by omega
            by_cases n3 : C ≤ b
            · have m3 : (C : Int) ≤ (b : Int) := by omega
              have m4 : ¬ (b : Int) < (C : Int) + (half : Int) := by omega
              clear hin
              go_wp2_with fail
              exact ⟨⟨k + 1, no, co, Ao, by go_num, by omega, by omega, B1, B2, B3, Lib.hid (by rw [HTK.out]; exact HO.out), Lib.hid (by rw [HTK.out]; exact HL.out), HK, HZ⟩, by simp [intOf]; omega⟩
            · clear hin
              have m3 : ¬ (C : Int) ≤ (b : Int) := by omega
              go_wp2_with fail
              exact ⟨⟨k + 1, no, co, Ao, by go_num, by omega, by omega, B1, B2, B3, Lib.hid (by rw [HTK.out]; exact HO.out), Lib.hid (by rw [HTK.out]; exact HL.out), HK, HZ⟩, by simp [intOf]; omega⟩
          · clear hin
            have m2 : ¬ (a : Int) < (R : Int) + (half : Int) := by omega
            go_wp2_with fail
            exact ⟨⟨k + 1, no, co, Ao, by go_num, by omega, by omega, B1, B2, B3, Lib.hid (by rw [HTK.out]; exact HO.out), Lib.hid (by rw [HTK.out]; exact HL.out), HK, HZ⟩, by simp [intOf]; omega⟩
        · clear hin
          have m1 : ¬ (R : Int) ≤ (a : Int) := by omega
          go_wp2_with fail
          exact ⟨⟨k + 1, no, co, Ao, by go_num, by omega, by omega, B1, B2, B3, Lib.hid (by rw [HTK.out]; exact HO.out), Lib.hid (by rw [HTK.out]; exact HL.out), HK, HZ⟩, by simp [intOf]; omega⟩
    · obtain rfl : n = k := by omega
      rw [List.take_of_length_le (Nat.le_of_eq HN.out)] at HO HL
      have hr2 : ∀ i u, ([.int .i64 (R : Int), .int .i64 (C : Int), .int .i64 (half : Int), .slice Ao no co] : List Value)[i]? = some u → wr.cell? ⟨g + 2, i, none⟩ = some u := fun i u hu => by rw [B3.out.cell]; exact hu
      have hq3 : wr.cell? ⟨g, 3, none⟩ = some (.slice A n c) := by rw [B1.out.cell]; rfl
      have hs0 := hr2 0 _ rfl
      have hs1 := hr2 1 _ rfl
      have hs2 := hr2 2 _ rfl
      have hs3 := hr2 3 _ rfl
      have f0 := B2.out.free 0
      have f1 := B2.out.free 1
      have f2 := B2.out.free 2
      have f3 := B2.out.free 3
      have z0 : wr.cell? ⟨g + 1, 0, none⟩ = some (.int .i64 0) := by rw [B2.out.cell]; rfl
      have z1 : wr.cell? ⟨g + 1, 1, none⟩ = some (.int .i64 0) := by rw [B2.out.cell]; rfl
      have z2 : wr.cell? ⟨g + 1, 2, none⟩ = some (.int .i64 0) := by rw [B2.out.cell]; rfl
      have z3 : wr.cell? ⟨g + 1, 3, none⟩ = some (.slice none 0 0) := by rw [B2.out.cell]; rfl
      clear hr2
      go_wp2_with fail
      have hb9 := (((B2.out.set_ 0 (.int .i64 (R : Int))).set_ 1 (.int .i64 (C : Int))).set_ 2 (.int .i64 (half : Int))).set_ 3 (.slice Ao no co)
      have hk9 : Kp [g + 1] wr ((((wr.setCell ⟨g + 1, 0, none⟩ (.int .i64 (R : Int))).setCell ⟨g + 1, 1, none⟩ (.int .i64 (C : Int))).setCell ⟨g + 1, 2, none⟩ (.int .i64 (half : Int))).setCell ⟨g + 1, 3, none⟩ (.slice Ao no co)) :=
        ((((Kp.refl [g + 1] wr).setCell (.inl (by simp)) _).setCell (.inl (by simp)) _).setCell (.inl (by simp)) _).setCell (.inl (by simp)) _
      generalize (((wr.setCell ⟨g + 1, 0, none⟩ (.int .i64 (R : Int))).setCell ⟨g + 1, 1, none⟩ (.int .i64 (C : Int))).setCell ⟨g + 1, 2, none⟩ (.int .i64 (half : Int))).setCell ⟨g + 1, 3, none⟩ (.slice Ao no co) = w9 at hb9 hk9 ⊢
      simp only [List.set_cons_zero, List.set_cons_succ] at hb9
      have r0' : w9.cell? ⟨g + 1, 0, none⟩ = some (.int .i64 (R : Int)) := by rw [hb9.cell]; rfl
      have r1' : w9.cell? ⟨g + 1, 1, none⟩ = some (.int .i64 (C : Int)) := by rw [hb9.cell]; rfl
      have r2' : w9.cell? ⟨g + 1, 2, none⟩ = some (.int .i64 (half : Int)) := by rw [hb9.cell]; rfl
      have r3' : w9.cell? ⟨g + 1, 3, none⟩ = some (.slice Ao no co) := by rw [hb9.cell]; rfl
      refine bodyPost_ret (v := .agg #[.int .i64 (R : Int), .int .i64 (C : Int), .int .i64 (half : Int), .slice Ao no co]) (by simp [results, Try.results42, go_sem, r0', r1', r2', r3']) rfl ⟨Ao, no, co, rfl, ?_, HL.out, HK.out.trans' hk9 (fun x hx => .inr (by simp only [List.mem_singleton] at hx; subst hx; have := HG.out; omega))⟩
      refine own_base (own_kp HO.out hk9 (fun x hx hm => ?_)) (by have := HG.out; omega)
      have := (own_ge HO.out hx).1
      simp only [List.mem_singleton] at hm
      omega
end Go.Proofs.Ytldmabkilgpgcaa
namespace Go.Proofs.Ytldmabkilgpgcaa
open Go.RowKit

/-- A node's cells. -/
def EntV (w : World) (F : List Nat) (e : Ent) (v : List Value) : Prop :=
  ∃ (A : Option Addr) (c : Nat), v = [.int .i64 ((e.2.1.1 * 2 ^ e.1 : Nat) : Int), .int .i64 ((e.2.1.2 * 2 ^ e.1 : Nat) : Int), .int .i64 ((2 ^ e.1 : Nat) : Int), .slice A e.2.2.length c] ∧ RF w F A (pc e.2.2)
def EntsV (w : World) (F : List Nat) (Q : List Ent) (vs : List Value) : Prop := vs.length = Q.length * 4 ∧ ∀ (j : Nat) (e : Ent), Q[j]? = some e → EntV w F e ((vs.drop (j * 4)).take 4)
theorem EntsV.step {w w' : World} {S F F' : List Nat} {Q : List Ent} {vs : List Value} (h : EntsV w F Q vs) (hk : Kp S w w') (hS : ∀ x ∈ S, x ∈ F) (hF : ∀ x ∈ F', x ∈ F ∨ w.heap.size ≤ x) : EntsV w' F' Q vs :=
  ⟨h.1, fun j e hj => by obtain ⟨A, c, h1, h2⟩ := h.2 j e hj; exact ⟨A, c, h1, h2.step hk hS hF⟩⟩
theorem EntsV.snoc {w : World} {F : List Nat} {Q : List Ent} {vs v : List Value} {e : Ent} (h : EntsV w F Q vs) (he : EntV w F e v) : EntsV w F (Q ++ [e]) (vs ++ v) := by
  have hv : v.length = 4 := by obtain ⟨A, c, rfl, _⟩ := he; rfl
  refine ⟨by rw [List.length_append, List.length_append, h.1, hv]; simp; omega, fun j x hj => ?_⟩
  rcases Nat.lt_or_ge j Q.length with hlt | hge
  · rw [List.getElem?_append_left hlt] at hj
    have h1 := h.1
    rw [List.drop_append_of_le_length (by omega), List.take_append_of_le_length (by rw [List.length_drop]; omega)]
    exact h.2 j x hj
  · rw [List.getElem?_append_right hge] at hj
    rcases Nat.eq_zero_or_pos (j - Q.length) with h0 | h0
    · rw [h0] at hj
      simp only [List.getElem?_cons_zero, Option.some.injEq] at hj
      subst hj
      have e1 : j * 4 = vs.length := by rw [h.1]; omega
      rw [e1, List.drop_left, List.take_of_length_le (by omega)]
      exact he
    · rw [List.getElem?_eq_none (by simp; omega)] at hj
      cases hj
/-- The three rows that grow. -/
def rRows (An Ab Ak : Option Addr) (nq cn nb cb nk ck : Nat) (qs : List Value) (bs : List Bool) (ks : List Int) : List ORow :=
  [⟨77, 4, .slice An nq cn, nq, qs⟩, ⟨4, 1, .slice Ab nb cb, nb, bs.map .bool⟩, ⟨57, 4, .slice Ak nk ck, nk, ks.map (.int .i64)⟩]
/-- The tree while it grows; X: other blocks that are written. -/
def RSt (w : World) (X : List Nat) (p s h nL cL : Nat) (AL An Ab Ak : Option Addr) (nq cn nb cb nk ck : Nat) (Q : List Ent) (bs : List Bool) (ks : List Int) : Prop :=
  Blk w p 75 [.int .i64 (s : Int), .int .i64 (h : Int), .slice AL nL cL, .slice Ab nb cb, .slice Ak nk ck] ∧
  ∃ qs, OwnAll w (p + 1) (rRows An Ab Ak nq cn nb cb nk ck qs bs ks) ∧ EntsV w (X ++ p :: oBlocks (rRows An Ab Ak nq cn nb cb nk ck qs bs ks)) Q qs ∧ (∀ x ∈ X, x < w.heap.size ∧ x ∉ p :: oBlocks (rRows An Ab Ak nq cn nb cb nk ck qs bs ks))
section
variable {w w' : World} {X : List Nat} {p s h nL cL : Nat} {AL An Ab Ak : Option Addr} {nq cn nb cb nk ck : Nat} {Q : List Ent} {bs : List Bool} {ks : List Int}
theorem rBlocks_p {qs : List Value} (h : OwnAll w (p + 1) (rRows An Ab Ak nq cn nb cb nk ck qs bs ks)) : p ∉ oBlocks (rRows An Ab Ak nq cn nb cb nk ck qs bs ks) := fun hm => by have := (h.ge _ hm).1; omega
theorem RSt.kp (hr : RSt w X p s h nL cL AL An Ab Ak nq cn nb cb nk ck Q bs ks) {S : List Nat} (hk : Kp S w w') (hS : ∀ x ∈ S, x ∈ X) : RSt w' X p s h nL cL AL An Ab Ak nq cn nb cb nk ck Q bs ks := by
  obtain ⟨h1, qs, h2, h3, h4⟩ := hr
  refine ⟨h1.kp hk (fun hm => (h4 _ (hS _ hm)).2 (by simp)), qs, h2.kp hk (fun x hx hm => (h4 _ (hS _ hx)).2 (List.mem_cons_of_mem _ hm)), h3.step hk (fun x hx => List.mem_append.2 (.inl (hS x hx))) (fun x hx => .inl hx), fun x hx => ⟨Nat.lt_of_lt_of_le (h4 x hx).1 hk.size, (h4 x hx).2⟩⟩
theorem RSt.kp0 (hr : RSt w X p s h nL cL AL An Ab Ak nq cn nb cb nk ck Q bs ks) (hk : Kp [] w w') : RSt w' X p s h nL cL AL An Ab Ak nq cn nb cb nk ck Q bs ks := hr.kp hk (by simp)
theorem RSt.add (hr : RSt w X p s h nL cL AL An Ab Ak nq cn nb cb nk ck Q bs ks) (hk : Kp [] w w') {x : Nat} (h1 : w.heap.size ≤ x) (h2 : x < w'.heap.size) : RSt w' (x :: X) p s h nL cL AL An Ab Ak nq cn nb cb nk ck Q bs ks := by
  obtain ⟨g1, qs, g2, g3, g4⟩ := hr
  refine ⟨g1.kp0 hk, qs, g2.kp0 hk, g3.step hk (by simp) (fun y hy => ?_), fun y hy => ?_⟩
  · rw [List.cons_append, List.mem_cons] at hy
    rcases hy with rfl | hy
    · exact .inr h1
    · exact .inl hy
  · rcases List.mem_cons.1 hy with rfl | hy
    · refine ⟨h2, fun hm => ?_⟩
      rcases List.mem_cons.1 hm with rfl | hm
      · have := g1.lt; omega
      · have := (g2.ge _ hm).2; omega
    · exact ⟨Nat.lt_of_lt_of_le (g4 y hy).1 hk.size, (g4 y hy).2⟩
theorem RSt.drop {x : Nat} (hr : RSt w (x :: X) p s h nL cL AL An Ab Ak nq cn nb cb nk ck Q bs ks) : RSt w X p s h nL cL AL An Ab Ak nq cn nb cb nk ck Q bs ks := by
  obtain ⟨g1, qs, g2, g3, g4⟩ := hr
  exact ⟨g1, qs, g2, g3.step (Kp.refl [] w) (by simp) (fun y hy => .inl (by rw [List.cons_append]; exact List.mem_cons_of_mem _ hy)), fun y hy => g4 y (List.mem_cons_of_mem _ hy)⟩
theorem RSt.blk (hr : RSt w X p s h nL cL AL An Ab Ak nq cn nb cb nk ck Q bs ks) : Blk w p 75 [.int .i64 (s : Int), .int .i64 (h : Int), .slice AL nL cL, .slice Ab nb cb, .slice Ak nk ck] := hr.1
theorem RSt.nodes (hr : RSt w X p s h nL cL AL An Ab Ak nq cn nb cb nk ck Q bs ks) : ∃ qs, w.ownsRow (p + 1) 77 4 (.slice An nq cn) nq qs ∧ EntsV w (X ++ p :: oBlocks (rRows An Ab Ak nq cn nb cb nk ck qs bs ks)) Q qs := by
  obtain ⟨g1, qs, g2, g3, g4⟩ := hr
  exact ⟨qs, g2.at_ 0 rfl, g3⟩
theorem RSt.bits (hr : RSt w X p s h nL cL AL An Ab Ak nq cn nb cb nk ck Q bs ks) : w.ownsRow (p + 1) 4 1 (.slice Ab nb cb) nb (bs.map .bool) := by
  obtain ⟨g1, qs, g2, g3, g4⟩ := hr
  exact g2.at_ 1 rfl
theorem RSt.kids (hr : RSt w X p s h nL cL AL An Ab Ak nq cn nb cb nk ck Q bs ks) : w.ownsRow (p + 1) 57 4 (.slice Ak nk ck) nk (ks.map (.int .i64)) := by
  obtain ⟨g1, qs, g2, g3, g4⟩ := hr
  exact g2.at_ 2 rfl
/-- A node: its cells. -/
theorem RSt.at_ (hr : RSt w X p s h nL cL AL An Ab Ak nq cn nb cb nk ck Q bs ks) {i : Nat} {e : Ent} (hi : Q[i]? = some e) :
    ∃ (an : Addr) (A : Option Addr) (c : Nat), An = some an ∧ w.cell? (an.add (i * 4)) = some (.int .i64 ((e.2.1.1 * 2 ^ e.1 : Nat) : Int)) ∧ w.cell? ⟨(an.add (i * 4)).block, (an.add (i * 4)).off + 1, none⟩ = some (.int .i64 ((e.2.1.2 * 2 ^ e.1 : Nat) : Int)) ∧
      w.cell? ⟨(an.add (i * 4)).block, (an.add (i * 4)).off + 2, none⟩ = some (.int .i64 ((2 ^ e.1 : Nat) : Int)) ∧ w.cell? ⟨(an.add (i * 4)).block, (an.add (i * 4)).off + 3, none⟩ = some (.slice A e.2.2.length c) ∧ Rd w w.heap.size A (pc e.2.2) := by
  obtain ⟨g1, qs, g2, g3, g4⟩ := hr
  have ho := own_rd (g2.at_ 0 rfl)
  obtain ⟨A, c, hv, hrf⟩ := g3.2 i e hi
  have hget : ∀ j u, ([.int .i64 ((e.2.1.1 * 2 ^ e.1 : Nat) : Int), .int .i64 ((e.2.1.2 * 2 ^ e.1 : Nat) : Int), .int .i64 ((2 ^ e.1 : Nat) : Int), .slice A e.2.2.length c] : List Value)[j]? = some u → qs[i * 4 + j]? = some u := fun j u hu => by
    rw [← hv, List.getElem?_take] at hu
    split at hu
    · rwa [List.getElem?_drop] at hu
    · cases hu
  obtain ⟨an, e0, _, c0⟩ := ho _ _ (hget 0 _ rfl)
  have hA : An = some an := e0
  subst hA
  have step : ∀ j u, 0 < j → ([.int .i64 ((e.2.1.1 * 2 ^ e.1 : Nat) : Int), .int .i64 ((e.2.1.2 * 2 ^ e.1 : Nat) : Int), .int .i64 ((2 ^ e.1 : Nat) : Int), .slice A e.2.2.length c] : List Value)[j]? = some u → w.cell? ⟨(an.add (i * 4)).block, (an.add (i * 4)).off + j, none⟩ = some u := fun j u hj hu => by
    obtain ⟨an', e', _, c'⟩ := ho _ _ (hget j u hu)
    injection e' with e'
    subst e'
    rw [← addr_add_add, addr_fld _ hj] at c'
    exact c'
  exact ⟨an, A, c, rfl, c0, step 1 _ (by omega) rfl, step 2 _ (by omega) rfl, step 3 _ (by omega) rfl, hrf.1⟩
/-- A bit more. -/
theorem RSt.bit (hr : RSt w X p s h nL cL AL An Ab Ak nq cn nb cb nk ck Q bs ks) {Ab' : Option Addr} {cb' : Nat} {b : Bool} (ho : w'.ownsRow (p + 1) 4 1 (.slice Ab' (nb + 1) cb') (nb + 1) (bs.map .bool ++ [.bool b])) (hk : Kp (ownL (.slice Ab nb cb)) w w') (hn : ∀ x ∈ ownL (.slice Ab' (nb + 1) cb'), x ∈ ownL (.slice Ab nb cb) ∨ w.heap.size ≤ x) :
    RSt (w'.setCell ⟨p, 3, none⟩ (.slice Ab' (nb + 1) cb')) X p s h nL cL AL An Ab' Ak nq cn (nb + 1) cb' nk ck Q (bs ++ [b]) ks := by
  obtain ⟨g1, qs, g2, g3, g4⟩ := hr
  have hrow : (rRows An Ab Ak nq cn nb cb nk ck qs bs ks).set 1 ⟨4, 1, .slice Ab' (nb + 1) cb', nb + 1, bs.map .bool ++ [.bool b]⟩ = rRows An Ab' Ak nq cn (nb + 1) cb' nk ck qs (bs ++ [b]) ks := by unfold rRows; simp
  have h2 := g2.grow (i := 1) (s := ⟨4, 1, .slice Ab' (nb + 1) cb', nb + 1, bs.map .bool ++ [.bool b]⟩) rfl hk hn ho
  have hB := oBlocks_grow (L := rRows An Ab Ak nq cn nb cb nk ck qs bs ks) (i := 1) (s := ⟨4, 1, .slice Ab' (nb + 1) cb', nb + 1, bs.map .bool ++ [.bool b]⟩) (N := w.heap.size) rfl hn
  have hsub : ∀ x ∈ ownL (.slice Ab nb cb), x ∈ oBlocks (rRows An Ab Ak nq cn nb cb nk ck qs bs ks) := oBlocks_at (i := 1) (r := ⟨4, 1, .slice Ab nb cb, nb, bs.map .bool⟩) rfl
  rw [hrow] at h2 hB
  have hp := rBlocks_p g2
  have hp' := rBlocks_p h2
  have hks : Kp [p] w' (w'.setCell ⟨p, 3, none⟩ (.slice Ab' (nb + 1) cb')) := (Kp.refl [p] w').setCell (.inl (by simp)) _
  have hF : ∀ x ∈ X ++ p :: oBlocks (rRows An Ab' Ak nq cn (nb + 1) cb' nk ck qs (bs ++ [b]) ks), x ∈ X ++ p :: oBlocks (rRows An Ab Ak nq cn nb cb nk ck qs bs ks) ∨ w.heap.size ≤ x := fun x hx => by
    simp only [List.mem_append, List.mem_cons] at hx ⊢
    rcases hx with hx | hx | hx
    · exact .inl (.inl hx)
    · exact .inl (.inr (.inl hx))
    · rcases hB x hx with h | h
      · exact .inl (.inr (.inr h))
      · exact .inr h
  refine ⟨(g1.kp hk (fun hm => hp (hsub _ hm))).set_ 3 _, qs, h2.kp hks (fun x hx hm => by simp only [List.mem_singleton] at hx; subst hx; exact hp' hm), ?_, fun x hx => ⟨by simpa using Nat.lt_of_lt_of_le (g4 x hx).1 hk.size, fun hm => ?_⟩⟩
  · exact (g3.step hk (fun x hx => by simp only [List.mem_append, List.mem_cons]; exact .inr (.inr (hsub x hx))) hF).step hks (fun x hx => by simp only [List.mem_singleton] at hx; subst hx; simp) (fun x hx => .inl hx)
  · rcases List.mem_cons.1 hm with rfl | hm
    · exact (g4 _ hx).2 (by simp)
    · rcases hB x hm with h | h
      · exact (g4 _ hx).2 (List.mem_cons_of_mem _ h)
      · have := (g4 _ hx).1; omega
/-- A node's kids more. -/
theorem RSt.kid (hr : RSt w X p s h nL cL AL An Ab Ak nq cn nb cb nk ck Q bs ks) {Ak' : Option Addr} {ck' : Nat} {k4 : List Int} (ho : w'.ownsRow (p + 1) 57 4 (.slice Ak' (nk + 1) ck') (nk + 1) (ks.map (.int .i64) ++ k4.map (.int .i64))) (hk : Kp (ownL (.slice Ak nk ck)) w w') (hn : ∀ x ∈ ownL (.slice Ak' (nk + 1) ck'), x ∈ ownL (.slice Ak nk ck) ∨ w.heap.size ≤ x) :
    RSt (w'.setCell ⟨p, 4, none⟩ (.slice Ak' (nk + 1) ck')) X p s h nL cL AL An Ab Ak' nq cn nb cb (nk + 1) ck' Q bs (ks ++ k4) := by
  obtain ⟨g1, qs, g2, g3, g4⟩ := hr
  have hrow : (rRows An Ab Ak nq cn nb cb nk ck qs bs ks).set 2 ⟨57, 4, .slice Ak' (nk + 1) ck', nk + 1, ks.map (.int .i64) ++ k4.map (.int .i64)⟩ = rRows An Ab Ak' nq cn nb cb (nk + 1) ck' qs bs (ks ++ k4) := by unfold rRows; simp
  have h2 := g2.grow (i := 2) (s := ⟨57, 4, .slice Ak' (nk + 1) ck', nk + 1, ks.map (.int .i64) ++ k4.map (.int .i64)⟩) rfl hk hn ho
  have hB := oBlocks_grow (L := rRows An Ab Ak nq cn nb cb nk ck qs bs ks) (i := 2) (s := ⟨57, 4, .slice Ak' (nk + 1) ck', nk + 1, ks.map (.int .i64) ++ k4.map (.int .i64)⟩) (N := w.heap.size) rfl hn
  have hsub : ∀ x ∈ ownL (.slice Ak nk ck), x ∈ oBlocks (rRows An Ab Ak nq cn nb cb nk ck qs bs ks) := oBlocks_at (i := 2) (r := ⟨57, 4, .slice Ak nk ck, nk, ks.map (.int .i64)⟩) rfl
  rw [hrow] at h2 hB
  have hp := rBlocks_p g2
  have hp' := rBlocks_p h2
  have hks : Kp [p] w' (w'.setCell ⟨p, 4, none⟩ (.slice Ak' (nk + 1) ck')) := (Kp.refl [p] w').setCell (.inl (by simp)) _
  have hF : ∀ x ∈ X ++ p :: oBlocks (rRows An Ab Ak' nq cn nb cb (nk + 1) ck' qs bs (ks ++ k4)), x ∈ X ++ p :: oBlocks (rRows An Ab Ak nq cn nb cb nk ck qs bs ks) ∨ w.heap.size ≤ x := fun x hx => by
    simp only [List.mem_append, List.mem_cons] at hx ⊢
    rcases hx with hx | hx | hx
    · exact .inl (.inl hx)
    · exact .inl (.inr (.inl hx))
    · rcases hB x hx with h | h
      · exact .inl (.inr (.inr h))
      · exact .inr h
  refine ⟨(g1.kp hk (fun hm => hp (hsub _ hm))).set_ 4 _, qs, h2.kp hks (fun x hx hm => by simp only [List.mem_singleton] at hx; subst hx; exact hp' hm), ?_, fun x hx => ⟨by simpa using Nat.lt_of_lt_of_le (g4 x hx).1 hk.size, fun hm => ?_⟩⟩
  · exact (g3.step hk (fun x hx => by simp only [List.mem_append, List.mem_cons]; exact .inr (.inr (hsub x hx))) hF).step hks (fun x hx => by simp only [List.mem_singleton] at hx; subst hx; simp) (fun x hx => .inl hx)
  · rcases List.mem_cons.1 hm with rfl | hm
    · exact (g4 _ hx).2 (by simp)
    · rcases hB x hm with h | h
      · exact (g4 _ hx).2 (List.mem_cons_of_mem _ h)
      · have := (g4 _ hx).1; omega
/-- A node more. -/
theorem RSt.node (hr : RSt w X p s h nL cL AL An Ab Ak nq cn nb cb nk ck Q bs ks) {An' : Option Addr} {cn' : Nat} {e : Ent} {v qs : List Value} (hq : w.ownsRow (p + 1) 77 4 (.slice An nq cn) nq qs) (ho : w'.ownsRow (p + 1) 77 4 (.slice An' (nq + 1) cn') (nq + 1) (qs ++ v)) (hk : Kp (ownL (.slice An nq cn)) w w') (hn : ∀ x ∈ ownL (.slice An' (nq + 1) cn'), x ∈ ownL (.slice An nq cn) ∨ w.heap.size ≤ x)
    {A : Option Addr} {c : Nat} (hv : v = [.int .i64 ((e.2.1.1 * 2 ^ e.1 : Nat) : Int), .int .i64 ((e.2.1.2 * 2 ^ e.1 : Nat) : Int), .int .i64 ((2 ^ e.1 : Nat) : Int), .slice A e.2.2.length c]) (hrd : Rd w w.heap.size A (pc e.2.2)) (hap : ∀ ad, A = some ad → ∀ x ∈ X ++ p :: oBlocks (rRows An Ab Ak nq cn nb cb nk ck qs bs ks), ad.block ≠ x) :
    RSt w' X p s h nL cL AL An' Ab Ak (nq + 1) cn' nb cb nk ck (Q ++ [e]) bs ks := by
  obtain ⟨g1, qs', g2, g3, g4⟩ := hr
  obtain rfl : qs' = qs := own_inj (g2.at_ 0 rfl) hq
  have hrow : (rRows An Ab Ak nq cn nb cb nk ck qs' bs ks).set 0 ⟨77, 4, .slice An' (nq + 1) cn', nq + 1, qs' ++ v⟩ = rRows An' Ab Ak (nq + 1) cn' nb cb nk ck (qs' ++ v) bs ks := by unfold rRows; simp
  have h2 := g2.grow (i := 0) (s := ⟨77, 4, .slice An' (nq + 1) cn', nq + 1, qs' ++ v⟩) rfl hk hn ho
  have hB := oBlocks_grow (L := rRows An Ab Ak nq cn nb cb nk ck qs' bs ks) (i := 0) (s := ⟨77, 4, .slice An' (nq + 1) cn', nq + 1, qs' ++ v⟩) (N := w.heap.size) rfl hn
  have hsub : ∀ x ∈ ownL (.slice An nq cn), x ∈ oBlocks (rRows An Ab Ak nq cn nb cb nk ck qs' bs ks) := oBlocks_at (i := 0) (r := ⟨77, 4, .slice An nq cn, nq, qs'⟩) rfl
  rw [hrow] at h2 hB
  have hp := rBlocks_p g2
  have hF : ∀ x ∈ X ++ p :: oBlocks (rRows An' Ab Ak (nq + 1) cn' nb cb nk ck (qs' ++ v) bs ks), x ∈ X ++ p :: oBlocks (rRows An Ab Ak nq cn nb cb nk ck qs' bs ks) ∨ w.heap.size ≤ x := fun x hx => by
    simp only [List.mem_append, List.mem_cons] at hx ⊢
    rcases hx with hx | hx | hx
    · exact .inl (.inl hx)
    · exact .inl (.inr (.inl hx))
    · rcases hB x hx with h | h
      · exact .inl (.inr (.inr h))
      · exact .inr h
  have hsub' : ∀ x ∈ ownL (.slice An nq cn), x ∈ X ++ p :: oBlocks (rRows An Ab Ak nq cn nb cb nk ck qs' bs ks) := fun x hx => by simp only [List.mem_append, List.mem_cons]; exact .inr (.inr (hsub x hx))
  have hrf : RF w (X ++ p :: oBlocks (rRows An Ab Ak nq cn nb cb nk ck qs' bs ks)) A (pc e.2.2) := ⟨hrd, fun ad ha _ hm => hap ad ha _ hm rfl⟩
  refine ⟨g1.kp hk (fun hm => hp (hsub _ hm)), _, h2, (g3.step hk hsub' hF).snoc ⟨A, c, hv, hrf.step hk hsub' hF⟩, fun x hx => ⟨Nat.lt_of_lt_of_le (g4 x hx).1 hk.size, fun hm => ?_⟩⟩
  rcases List.mem_cons.1 hm with rfl | hm
  · exact (g4 _ hx).2 (by simp)
  · rcases hB x hm with h | h
    · exact (g4 _ hx).2 (List.mem_cons_of_mem _ h)
    · have := (g4 _ hx).1; omega
theorem rblocks_mem {qs : List Value} {x : Nat} : x ∈ X ++ p :: oBlocks (rRows An Ab Ak nq cn nb cb nk ck qs bs ks) ↔ x ∈ X ∨ x = p ∨ x ∈ ownL (.slice An nq cn) ∨ x ∈ ownL (.slice Ab nb cb) ∨ x ∈ ownL (.slice Ak nk ck) := by
  simp [oBlocks, rRows]
theorem RSt.lt (hr : RSt w X p s h nL cL AL An Ab Ak nq cn nb cb nk ck Q bs ks) {qs : List Value} (hq : w.ownsRow (p + 1) 77 4 (.slice An nq cn) nq qs) : ∀ x ∈ X ++ p :: oBlocks (rRows An Ab Ak nq cn nb cb nk ck qs bs ks), x < w.heap.size := fun x hx => by
  obtain ⟨g1, qs', g2, g3, g4⟩ := hr
  obtain rfl : qs' = qs := own_inj (g2.at_ 0 rfl) hq
  simp only [List.mem_append, List.mem_cons] at hx
  rcases hx with hx | rfl | hx
  · exact (g4 x hx).1
  · exact g1.lt
  · exact (g2.ge x hx).2
end

theorem out_not {s r c : Int} (h : outI s r c = true) : r < 0 ∨ (0 ≤ r ∧ s ≤ r) ∨ (0 ≤ r ∧ r < s ∧ c < 0) ∨ (0 ≤ r ∧ r < s ∧ 0 ≤ c ∧ s ≤ c) := by
  unfold outI at h
  simp only [Bool.not_eq_true', decide_eq_false_iff_not] at h
  omega
theorem out_in {s r c : Int} (h : outI s r c = false) : 0 ≤ r ∧ r < s ∧ 0 ≤ c ∧ c < s := by
  unfold outI at h
  simpa only [Bool.not_eq_false', decide_eq_true_iff] using h
set_option maxRecDepth 100000 in
set_option maxHeartbeats 4000000 in
theorem rof_arg (s : Int) (v : Value) (w : World) (h0 : hgt s = 0) (hs0 : -9223372036854775808 ≤ s) (hs1 : s ≤ 9223372036854775807) :
    Calls Try.prog 11 #[.int .i64 s, v] w fun e w' => e = .returned (.tuple #[.pointer none, .int .i64 2]) ∧ Kp [] w w' := by
  have hn : ¬ (2 ≤ s ∧ sideI s = s) := by
    rcases hgt_spec s with h | h
    · exact h.2
    · omega
  go_enter Try.func11, Try.ntmps11
  by_cases h2 : s < 2
  · clear hn
    go_wp2_with fail
    go_ret2
    exact ⟨rfl, Kp.refl _ _⟩
  · obtain ⟨S, hS⟩ : ∃ S, S = sideI s := ⟨_, rfl⟩
    have hne : (S == s) = false := by
      rw [beq_eq_false_iff_ne]
      intro e
      exact hn ⟨by omega, by rw [← hS]; exact e⟩
    have HS := Lib.hid hS
    clear hn hS
    go_wp2_with fail
    refine (rside_any s s s w (by omega)).mono ?_
    rw [← HS.out]
    rintro e w1 ⟨rfl, rfl⟩
    go_wp2_with fail
    go_ret2
    exact ⟨rfl, Kp.refl _ _⟩
set_option maxRecDepth 100000 in
set_option maxHeartbeats 4000000 in
theorem rof_out (s : Int) (h n c B : Nat) (A : Option Addr) (l : List (Int × Int)) (w : World) (hh : hgt s = h) (h0 : h ≠ 0) (hx : Rd w B A (pcI l)) (hn : l.length = n) (hb : n ≤ 1000000) (ho : (l.any fun p => outI s p.1 p.2) = true) :
    Calls Try.prog 11 #[.int .i64 s, .slice A n c] w fun e w' => e = .returned (.tuple #[.pointer none, .int .i64 6]) ∧ Kp [] w w' := by
  obtain ⟨h1, h17, hsp⟩ : 1 ≤ h ∧ h ≤ 17 ∧ s = ((2 ^ h : Nat) : Int) := by
    rw [← hh] at h0 ⊢
    rcases hgt_spec s with h | h
    · exact absurd h.1 h0
    · exact h
  have hp17 : 2 ^ h ≤ 2 ^ 17 := Nat.pow_le_pow_right (by omega) h17
  have hp1 : 2 ^ 1 ≤ 2 ^ h := Nat.pow_le_pow_right (by omega) h1
  have hs0 : 2 ≤ s := by rw [hsp]; exact Int.ofNat_le.2 hp1
  have hs1 : s ≤ 131072 := by rw [hsp]; exact Int.ofNat_le.2 hp17
  have hsi : sideI s = s := (side_is hs0).2 ⟨h, h1, h17, hsp⟩
  have HX := Lib.hid hx
  have HN := Lib.hid hn; clear hn
  have HO := Lib.hid ho; clear ho
  have HSI := Lib.hid hsi; clear hsi
  clear hx hsp hp17 hp1 hh
  go_enter Try.func11, Try.ntmps11
  go_wp2_with fail
  refine (rside_any s s s w (by omega)).mono ?_
  rw [HSI.out]
  rintro e w1 ⟨rfl, rfl⟩
  go_wp2_with fail
  go_loopw [6] (fun x wr => ∃ k : Nat, x = .int .i64 (k : Int) ∧ k ≤ n ∧ Hid (∀ y ∈ l.take k, outI s y.1 y.2 = false) ∧ w = wr) (fun x _ => n - (intOf x).toNat)
  case atStart => exact ⟨0, rfl, by omega, Lib.hid (by simp), rfl⟩
  case round =>
    obtain ⟨k, rfl, hk, HNO, rfl⟩ := hrel
    by_cases hlt : k < n
    · obtain ⟨r, c1, ad, hxk, had, _, hcx, hcy⟩ := HX.out.ixI (k := k) (by rw [HN.out]; exact hlt)
      subst had
      have hi0 : (0 : Int) ≤ (k : Int) := by omega
      have hi1 : (k : Int) < (n : Int) := by omega
      cases hp : outI s r c1 with
      | true =>
        clear hxk
        rcases out_not hp with q | ⟨q1, q2⟩ | ⟨q1, q2, q3⟩ | ⟨q1, q2, q3, q4⟩
        · clear hp
          go_wp2_with fail
          go_ret2
          exact ⟨rfl, Kp.refl _ _⟩
        · have q3 : ¬ r < 0 := by omega
          clear hp
          go_wp2_with fail
          go_ret2
          exact ⟨rfl, Kp.refl _ _⟩
        · have q4 : ¬ r < 0 := by omega
          have q5 : ¬ s ≤ r := by omega
          clear hp
          go_wp2_with fail
          go_ret2
          exact ⟨rfl, Kp.refl _ _⟩
        · have q5 : ¬ r < 0 := by omega
          have q6 : ¬ s ≤ r := by omega
          have q7 : ¬ c1 < 0 := by omega
          clear hp
          go_wp2_with fail
          go_ret2
          exact ⟨rfl, Kp.refl _ _⟩
      | false =>
        have HNO2 := Lib.hid (show ∀ y ∈ l.take (k + 1), outI s y.1 y.2 = false from fun y hy => by
          rw [g_take hxk] at hy
          rcases List.mem_append.1 hy with h | h
          · exact HNO.out y h
          · simp only [List.mem_singleton] at h
            subst h
            exact hp)
        obtain ⟨q1, q2, q3, q4⟩ := out_in hp
        have q5 : ¬ r < 0 := by omega
        have q6 : ¬ s ≤ r := by omega
        have q7 : ¬ c1 < 0 := by omega
        have q8 : ¬ s ≤ c1 := by omega
        clear hp hxk
        go_wp2_with fail
        exact ⟨⟨k + 1, by go_num, by omega, HNO2, trivial⟩, by simp [intOf]; omega⟩
    · obtain rfl : n = k := by omega
      exfalso
      have h9 := HO.out
      rw [List.any_eq_true] at h9
      obtain ⟨y, hy, he⟩ := h9
      have := HNO.out y (by rw [List.take_of_length_le (Nat.le_of_eq HN.out)]; exact hy)
      rw [this] at he
      cases he
end Go.Proofs.Ytldmabkilgpgcaa
