/-
  LAYER 15 (tree): are two pairs the same; is a pair one of some.
  CONDITIONS: as each says.
-/
import Derived.Test.YtldmabkilgpgcaaQ14
import Derived.Laws.StructEq
namespace Go.Proofs.Ytldmabkilgpgcaa
open Go.RowKit

theorem pc_drop : ∀ (k : Nat) (l : List (Nat × Nat)), (pc l).drop (k * 2) = pc (l.drop k)
  | 0, l => by simp
  | k + 1, [] => by simp [pc]
  | k + 1, p :: l => by
    show (.int .i64 (p.1 : Int) :: .int .i64 (p.2 : Int) :: pc l).drop ((k + 1) * 2) = _
    rw [show (k + 1) * 2 = k * 2 + 1 + 1 by omega, List.drop_succ_cons, List.drop_succ_cons, pc_drop k l, List.drop_succ_cons]
theorem cut2 {w : World} {B : Nat} {A : Option Addr} {m : List (Nat × Nat)} {k n c : Nat} (h : Rd w B A (pc m)) (hl : m.length = n) (hk : k ≤ n) (hc : n ≤ c) : Rd w B (if c = k then A else A.map fun x => x.add (k * 2)) (pc (m.drop k)) := by
  by_cases he : c = k
  · rw [List.drop_of_length_le (by omega)]
    exact Rd.nil _ _ _
  · rw [if_neg he]
    rcases A with _ | a
    · rcases m with _ | ⟨x, m⟩
      · rw [List.drop_nil]; exact Rd.nil _ _ _
      · obtain ⟨_, e, _⟩ := h 0 _ rfl
        cases e
    · rw [← pc_drop]
      exact h.drop (k * 2)
theorem own_nil2 (w : World) (base : Nat) (e : TypeId) (size : Nat) (hb : base ≤ w.heap.size) : (w.alloc (.cells #[] e)).ownsRow base e size (.slice (some ⟨w.heap.size, 0, none⟩) 0 0) 0 [] :=
  ⟨by simp, .inr ⟨_, 0, #[], rfl, hb, Blk.new w e [], Nat.le_refl _, Nat.zero_le _, by simp, by simp⟩⟩
theorem mem_up {a b : Nat} {l : List (Nat × Nat)} : (((a : Int), (b : Int)) ∈ l.map upI) ↔ (a, b) ∈ l := by
  rw [List.mem_map]
  constructor
  · rintro ⟨⟨x, y⟩, hm, he⟩
    unfold upI at he
    injection he with h1 h2
    simp only at h1 h2
    obtain rfl : x = a := by omega
    obtain rfl : y = b := by omega
    exact hm
  · intro h
    exact ⟨_, h, rfl⟩
theorem fresh_at {α : Type} {C : List α} {k : Nat} {x : α} (h : C.Nodup) (hx : C[k]? = some x) : x ∉ C.take k := by
  have hk := (List.getElem?_eq_some_iff.1 hx).1
  have e : C = C.take k ++ x :: C.drop (k + 1) := by
    have := List.take_append_drop k C
    rw [List.drop_eq_getElem_cons hk, (List.getElem?_eq_some_iff.1 hx).2] at this
    exact this.symm
  rw [e] at h
  intro hm
  exact (List.nodup_append.1 h).2.2 x hm x (by simp) rfl
theorem Rd.ixN {w : World} {B : Nat} {A : Option Addr} {l : List (Nat × Nat)} (h : Rd w B A (pc l)) {k : Nat} (hk : k < l.length) :
    ∃ (r c : Nat) (ad : Addr), l[k]? = some (r, c) ∧ A = some ad ∧ ad.block < B ∧ w.cell? (ad.add (k * 2)) = some (.int .i64 (r : Int)) ∧ w.cell? ⟨(ad.add (k * 2)).block, (ad.add (k * 2)).off + 1, none⟩ = some (.int .i64 (c : Int)) := by
  obtain ⟨p, hp⟩ : ∃ p, l[k]? = some p := ⟨_, List.getElem?_eq_getElem hk⟩
  rw [pc_I] at h
  obtain ⟨r, c, ad, h1, h2, h3, h4, h5⟩ := h.ixI (k := k) (by simpa using hk)
  rw [List.getElem?_map, hp] at h1
  injection h1 with h1
  unfold upI at h1
  injection h1 with e1 e2
  subst e1 e2
  exact ⟨p.1, p.2, ad, hp, h2, h3, h4, h5⟩
theorem pair_eq (r c r' c' : Int) (w : World) : (Op.equalIn 10000 24 (.agg #[.int .i64 r, .int .i64 c]) (.agg #[.int .i64 r', .int .i64 c'])).run Try.prog w = .ok (decide (r = r' ∧ c = c')) w := by
  rw [run_equalIn_struct w 9999 _ _ _ (by kernel_rfl) (by kernel_rfl)]
  have hf : (Try.prog.fieldsOf 24).toList = [(Try.prog.fieldsOf 24)[0]!, (Try.prog.fieldsOf 24)[1]!] := by kernel_rfl
  have n1 : decide (((Try.prog.fieldsOf 24)[0]!).name ≠ "_") = true := by kernel_rfl
  have n2 : decide (((Try.prog.fieldsOf 24)[1]!).name ≠ "_") = true := by kernel_rfl
  have t1 : ((Try.prog.fieldsOf 24)[0]!).type = 3 := by kernel_rfl
  have t2 : ((Try.prog.fieldsOf 24)[1]!).type = 3 := by kernel_rfl
  have o1 : ((Try.prog.fieldsOf 24)[0]!).offset = 0 := by kernel_rfl
  have o2 : ((Try.prog.fieldsOf 24)[1]!).offset = 1 := by kernel_rfl
  have p1 : ∀ (x y : Int) (w : World), (Go.part 3 #[.int .i64 x, .int .i64 y] 0).run Try.prog w = .ok (.int .i64 x) w := fun _ _ _ => by kernel_rfl
  have p2 : ∀ (x y : Int) (w : World), (Go.part 3 #[.int .i64 x, .int .i64 y] 1).run Try.prog w = .ok (.int .i64 y) w := fun _ _ _ => by kernel_rfl
  have e1 : ∀ (x y : Int) (w : World), (Op.equalIn 9999 3 (.int .i64 x) (.int .i64 y)).run Try.prog w = .ok (x == y) w := fun x y w => run_equalIn_int w 9998 3 .i64 .i64 x y Try.underlying3
  rw [hf]
  simp only [Op.eqFields, if_pos (of_decide_eq_true n1), if_pos (of_decide_eq_true n2), t1, t2, o1, o2, Sem.run_bind, p1, p2, Result.andThen_ok, e1, Sem.run_ite, Sem.run_pure]
  by_cases h1 : r = r' <;> by_cases h2 : c = c' <;> simp [h1, h2]
set_option maxRecDepth 100000 in
set_option maxHeartbeats 4000000 in
theorem in_any (A : Option Addr) (n c B : Nat) (l : List (Int × Int)) (r cc : Int) (w : World) (hx : Rd w B A (pcI l)) (hn : l.length = n) (hb : n ≤ 1000000) :
    Calls Try.prog 31 #[.slice A n c, .agg #[.int .i64 r, .int .i64 cc]] w fun e w' => e = .returned (.bool (decide ((r, cc) ∈ l))) ∧ Kp [] w w' := by
  obtain ⟨R, hR⟩ : ∃ R, R = decide ((r, cc) ∈ l) := ⟨_, rfl⟩
  rw [← hR]
  obtain ⟨w1, hw1⟩ : ∃ w1, w1 = w.alloc (.cells #[.int .i64 r, .int .i64 cc] 24) := ⟨_, rfl⟩
  obtain ⟨g, hg⟩ : ∃ g, g = w.heap.size := ⟨_, rfl⟩
  have hk1 : Kp [] w w1 := by rw [hw1]; exact (Kp.refl [] w).alloc _
  have hb1 : Blk w1 g 24 [.int .i64 r, .int .i64 cc] := by rw [hw1, hg]; exact Blk.new w _ _
  have HK := Lib.hid hk1
  have HX := Lib.hid (hx.kp0 hk1)
  have HB := Lib.hid hb1
  have HN := Lib.hid hn; clear hn
  have HR := Lib.hid hR; clear hR
  have HW1 := Lib.hid hw1; clear hw1
  have HG := Lib.hid hg; clear hg
  clear hx hk1 hb1
  go_enter Try.func31, Try.ntmps31
  go_wp2_with fail
  rw [← HW1.out, ← HG.out]
  go_loopw [5] (fun x wr => ∃ k : Nat, x = .int .i64 (k : Int) ∧ k ≤ n ∧ Hid (∀ y ∈ l.take k, y ≠ (r, cc)) ∧ Hid (Rd wr B A (pcI l)) ∧ Hid (Blk wr g 24 [.int .i64 r, .int .i64 cc]) ∧ Hid (Kp [] w wr)) (fun x _ => n - (intOf x).toNat)
  case atStart => exact ⟨0, rfl, by omega, Lib.hid (by simp), HX, HB, HK⟩
  case round =>
    clear HX HB HK
    obtain ⟨k, rfl, hk, HNO, HX, HB, HK⟩ := hrel
    by_cases hlt : k < n
    · obtain ⟨a, b, ad, hxk, rfl, _, hcx, hcy⟩ := HX.out.ixI (k := k) (by rw [HN.out]; exact hlt)
      have hi0 : (0 : Int) ≤ (k : Int) := by omega
      have hi1 : (k : Int) < (n : Int) := by omega
      have hq0 : wr.cell? ⟨g, 0, none⟩ = some (.int .i64 r) := by rw [HB.out.cell]; rfl
      have hq1 : wr.cell? ⟨g, 1, none⟩ = some (.int .i64 cc) := by rw [HB.out.cell]; rfl
      have hpe := pair_eq a b r cc
      by_cases he : a = r ∧ b = cc
      · have HR2 := Lib.hid (show R = true by rw [HR.out, decide_eq_true_iff, ← he.1, ← he.2]; exact List.mem_of_getElem? hxk)
        rw [decide_eq_true he] at hpe
        clear hxk HNO he
        go_wp2_with fail
        go_quiet (fail)
        go_wp2_with fail
        go_ret
        exact ⟨by rw [HR2.out]; rfl, HK.out.drewN _⟩
      · have HNO2 := Lib.hid (show ∀ y ∈ l.take (k + 1), y ≠ (r, cc) from fun y hy => by
          rw [g_take hxk] at hy
          rcases List.mem_append.1 hy with h | h
          · exact HNO.out y h
          · simp only [List.mem_singleton] at h
            subst h
            intro e
            injection e with e1 e2
            exact he ⟨e1, e2⟩)
        rw [decide_eq_false he] at hpe
        clear hxk HNO he
        go_wp2_with fail
        go_quiet (fail)
        go_wp2_with fail
        exact ⟨⟨k + 1, by go_num, by omega, HNO2, Lib.hid (HX.out.kp0 ((Kp.refl [] _).drewN _)), Lib.hid (HB.out.drewN _), Lib.hid (HK.out.drewN _)⟩, by simp [intOf]; omega⟩
    · obtain rfl : n = k := by omega
      have HR2 := Lib.hid (show R = false by
        rw [HR.out, decide_eq_false_iff_not]
        intro hm
        exact HNO.out _ (by rw [List.take_of_length_le (by rw [HN.out]; exact Nat.le_refl _)]; exact hm) rfl)
      go_wp2_with fail
      go_ret
      exact ⟨by rw [HR2.out]; rfl, HK.out⟩
end Go.Proofs.Ytldmabkilgpgcaa
