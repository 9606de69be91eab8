/-
  LAYER 15 (tree): are two pairs the same; is a pair one of some.
  CONDITIONS: as each says.
-/
import Derived.Test.YtldmabkilgpgcaaGread
import Derived.Laws.StructEq
namespace Go.Proofs.Ytldmabkilgpgcaa
open Go.RowKit

theorem pair_eq (r c r' c' : Int) (w : World) : (Op.equalIn 10000 24 (.agg #[.int .i64 r, .int .i64 c]) (.agg #[.int .i64 r', .int .i64 c'])).run Try.prog w = .ok (decide (r = r' ∧ c = c')) w := by
  rw [run_equalIn_struct w 9999 _ _ _ (by kernel_rfl) (by kernel_rfl)]
  have hf : (Try.prog.fieldsOf 24).toList = [(Try.prog.fieldsOf 24)[0]!, (Try.prog.fieldsOf 24)[1]!] := by kernel_rfl
  have n1 : decide (((Try.prog.fieldsOf 24)[0]!).name ≠ "_") = true := by kernel_rfl
  have n2 : decide (((Try.prog.fieldsOf 24)[1]!).name ≠ "_") = true := by kernel_rfl
  have t1 : ((Try.prog.fieldsOf 24)[0]!).type = 3 := by kernel_rfl
  have t2 : ((Try.prog.fieldsOf 24)[1]!).type = 3 := by kernel_rfl
  have o1 : ((Try.prog.fieldsOf 24)[0]!).offset = 0 := by kernel_rfl
  have o2 : ((Try.prog.fieldsOf 24)[1]!).offset = 1 := by kernel_rfl
  have p1 : ∀ (x y : Int) (w : World), (Go.part 3 #[.int .i64 x, .int .i64 y] 0).run Try.prog w = .ok (.int .i64 x) w := fun _ _ _ => by kernel_rfl
  have p2 : ∀ (x y : Int) (w : World), (Go.part 3 #[.int .i64 x, .int .i64 y] 1).run Try.prog w = .ok (.int .i64 y) w := fun _ _ _ => by kernel_rfl
  have e1 : ∀ (x y : Int) (w : World), (Op.equalIn 9999 3 (.int .i64 x) (.int .i64 y)).run Try.prog w = .ok (x == y) w := fun x y w => run_equalIn_int w 9998 3 .i64 .i64 x y Try.underlying3
  rw [hf]
  simp only [Op.eqFields, if_pos (of_decide_eq_true n1), if_pos (of_decide_eq_true n2), t1, t2, o1, o2, Sem.run_bind, p1, p2, Result.andThen_ok, e1, Sem.run_ite, Sem.run_pure]
  by_cases h1 : r = r' <;> by_cases h2 : c = c' <;> simp [h1, h2]
set_option maxRecDepth 100000 in
set_option maxHeartbeats 4000000 in
theorem in_any (A : Option Addr) (n c B : Nat) (l : List (Int × Int)) (r cc : Int) (w : World) (hx : Rd w B A (pcI l)) (hn : l.length = n) (hb : n ≤ 1000000) :
    Calls Try.prog 31 #[.slice A n c, .agg #[.int .i64 r, .int .i64 cc]] w fun e w' => e = .returned (.bool (decide ((r, cc) ∈ l))) ∧ Kp [] w w' := by
  obtain ⟨R, hR⟩ : ∃ R, R = decide ((r, cc) ∈ l) := ⟨_, rfl⟩
  rw [← hR]
  obtain ⟨w1, hw1⟩ : ∃ w1, w1 = w.alloc (.cells #[.int .i64 r, .int .i64 cc] 24) := ⟨_, rfl⟩
  obtain ⟨g, hg⟩ : ∃ g, g = w.heap.size := ⟨_, rfl⟩
  have hk1 : Kp [] w w1 := by rw [hw1]; exact (Kp.refl [] w).alloc _
  have hb1 : Blk w1 g 24 [.int .i64 r, .int .i64 cc] := by rw [hw1, hg]; exact Blk.new w _ _
  have HK := Lib.hid hk1
  have HX := Lib.hid (hx.kp0 hk1)
  have HB := Lib.hid hb1
  have HN := Lib.hid hn; clear hn
  have HR := Lib.hid hR; clear hR
  have HW1 := Lib.hid hw1; clear hw1
  have HG := Lib.hid hg; clear hg
  clear hx hk1 hb1
  go_enter Try.func31, Try.ntmps31
  go_wp2_with fail
  rw [← HW1.out, ← HG.out]
  go_loopw [5] (fun x wr => ∃ k : Nat, x = .int .i64 (k : Int) ∧ k ≤ n ∧ Hid (∀ y ∈ l.take k, y ≠ (r, cc)) ∧ Hid (Rd wr B A (pcI l)) ∧ Hid (Blk wr g 24 [.int .i64 r, .int .i64 cc]) ∧ Hid (Kp [] w wr)) (fun x _ => n - (intOf x).toNat)
  case atStart => exact ⟨0, rfl, by omega, Lib.hid (by simp), HX, HB, HK⟩
  case round =>
    clear HX HB HK
    obtain ⟨k, rfl, hk, HNO, HX, HB, HK⟩ := hrel
    by_cases hlt : k < n
    · obtain ⟨a, b, ad, hxk, rfl, _, hcx, hcy⟩ := HX.out.ixI (k := k) (by rw [HN.out]; exact hlt)
      have hi0 : (0 : Int) ≤ (k : Int) := by omega
      have hi1 : (k : Int) < (n : Int) := by omega
      have hq0 : wr.cell? ⟨g, 0, none⟩ = some (.int .i64 r) := by rw [HB.out.cell]; rfl
      have hq1 : wr.cell? ⟨g, 1, none⟩ = some (.int .i64 cc) := by rw [HB.out.cell]; rfl
      have hpe := pair_eq a b r cc
      by_cases he : a = r ∧ b = cc
      · have HR2 := Lib.hid (show R = true by rw [HR.out, decide_eq_true_iff, ← he.1, ← he.2]; exact List.mem_of_getElem? hxk)
        rw [decide_eq_true he] at hpe
        clear hxk HNO he
        go_wp2_with fail
        go_quiet (fail)
        go_wp2_with fail
        go_ret
        exact ⟨by rw [HR2.out]; rfl, HK.out.drewN _⟩
      · have HNO2 := Lib.hid (show ∀ y ∈ l.take (k + 1), y ≠ (r, cc) from fun y hy => by
          rw [g_take hxk] at hy
          rcases List.mem_append.1 hy with h | h
          · exact HNO.out y h
          · simp only [List.mem_singleton] at h
            subst h
            intro e
            injection e with e1 e2
            exact he ⟨e1, e2⟩)
        rw [decide_eq_false he] at hpe
        clear hxk HNO he
        go_wp2_with fail
        go_quiet (fail)
        go_wp2_with fail
        exact ⟨⟨k + 1, by go_num, by omega, HNO2, Lib.hid (HX.out.kp0 ((Kp.refl [] _).drewN _)), Lib.hid (HB.out.drewN _), Lib.hid (HK.out.drewN _)⟩, by simp [intOf]; omega⟩
    · obtain rfl : n = k := by omega
      have HR2 := Lib.hid (show R = false by
        rw [HR.out, decide_eq_false_iff_not]
        intro hm
        exact HNO.out _ (by rw [List.take_of_length_le (by rw [HN.out]; exact Nat.le_refl _)]; exact hm) rfl)
      go_wp2_with fail
      go_ret
      exact ⟨by rw [HR2.out]; rfl, HK.out⟩
end Go.Proofs.Ytldmabkilgpgcaa
