/-
  BitsEnds: the walk.
  CONDITIONS: the table that the row lists.
-/
import Derived.Test.YtifdphkocjjbiaaDoorBnone
import Derived.Test.YtifdphkocjjbiaaDoorRegA
import Derived.Deep.DeepCutAuto
namespace Go.Proofs.YtifdphkocjjbiaaDoor
open Go.RowKit

/-- Deeds laid flat. -/
def DeedCells (w : World) (B : Nat) : List Value → List (Bool × List Int) → Prop
  | [], [] => True
  | v0 :: v1 :: vs, d :: ds => (v0 = .bool d.1 ∧ ∃ Ai ci, v1 = .slice Ai d.2.length ci ∧ d.2.length ≤ ci ∧ Rd w B Ai (d.2.map (.int .i64))) ∧ DeedCells w B vs ds
  | _, _ => False
theorem DeedCells.get {w : World} {B : Nat} : ∀ {vs : List Value} {ds : List (Bool × List Int)}, DeedCells w B vs ds → ∀ (i : Nat) (d : Bool × List Int), ds[i]? = some d → vs[i * 2]? = some (.bool d.1) ∧ ∃ Ai ci, vs[i * 2 + 1]? = some (.slice Ai d.2.length ci) ∧ d.2.length ≤ ci ∧ Rd w B Ai (d.2.map (.int .i64))
  | [], [], _, i, d, h => by simp at h
  | v0 :: v1 :: vs, e :: ds, h, 0, d, hd => by
    simp at hd
    subst hd
    obtain ⟨⟨rfl, Ai, ci, rfl, h2, h3⟩, _⟩ := h
    exact ⟨rfl, Ai, ci, rfl, h2, h3⟩
  | v0 :: v1 :: vs, e :: ds, h, i + 1, d, hd => by
    have := DeedCells.get h.2 i d (by simpa using hd)
    rw [show (i + 1) * 2 = i * 2 + 1 + 1 by omega]
    simpa using this
  | [], _ :: _, h, _, _, _ => h.elim
  | [_], [], h, _, _, _ => h.elim
  | [_], _ :: _, h, _, _, _ => h.elim
  | _ :: _ :: _, [], h, _, _, _ => h.elim
theorem deedRd_of {w : World} {B g : Nat} {vs : List Value} {ds : List (Bool × List Int)} (hr : Rd w B (some ⟨g, 0, none⟩) vs) (h : DeedCells w B vs ds) : DeedRd w B (some ⟨g, 0, none⟩) ds := fun i d hd => by
  obtain ⟨h1, Ai, ci, h2, h3, h4⟩ := h.get i d hd
  obtain ⟨a1, e1, b1, c1⟩ := hr.at_ h1
  obtain ⟨a2, e2, b2, c2⟩ := hr.at_ h2
  injection e1 with e1
  injection e2 with e2
  subst e1 e2
  refine ⟨_, Ai, ci, rfl, b1, c1, ?_, h3, h4⟩
  rw [addr_lit_add] at c2 ⊢
  rw [show 0 + i * 2 + 1 = 0 + (i * 2 + 1) by omega]
  exact c2

theorem step_append_grow0 {P : Program} {w : World} {ops : Array Oper} {o : Oper} {a : Act} {K : Act → World → Prop} {Q : Exit → Act → World → Prop} {E : Prop} (hgd : Region.wanted o (yielded ops a.tmps) = true) (s x : Operand) (t : TypeId)
    (ho : o.op = .call { callee := .builtin .append, args := #[s, x], argTypes := #[t, t] })
    (k : IntKind) (e : TypeId) (i : TypeInfo) (z : Value) (bytes : Nat) (ht : P.underlying t = some (.slice e)) (hi : P.info? e = some i) (hz : i.zero = some z) (hsize : i.size = 1) (hby : i.bytes = bytes) (hzs : z.cells.size = 1)
    (A : Option Addr) (n cap B B' : Nat) (xs : List Int) (he1 : a.eval s = .slice A n cap) (hnone : A = none → n = 0 ∧ cap = 0) (hl : xs.length = n) (hr : Rd w B A (xs.map (.int k)))
    (ad : Addr) (m c : Nat) (ys : List Int) (he2 : a.eval x = .slice (some ad) m c) (hm : ys.length = m) (hr2 : Rd w B' (some ad) (ys.map (.int k)))
    (hfull : cap < n + m) (b1 : n + m ≤ maxLen) (b2 : (n + m) * bytes ≤ 140737488355328)
    (h : ∀ v' w', IsRd k (xs ++ ys) v' w' → Kp [] w w' → K (a.put o.dst v') w') : if Region.wanted o (yielded ops a.tmps) = true then Oper.wp P o a w K Q else E := by
  rw [if_pos hgd]
  exact wp_append_grow0 s x t ho k e i z bytes ht hi hz hsize hby hzs A n cap B B' xs he1 hnone hl hr ad m c ys he2 hm hr2 hfull b1 b2 h
theorem rd_new' (w : World) (C : Array Value) (e : TypeId) {g : Nat} (hg : g = w.heap.size) : Rd (w.alloc (.cells C e)) (w.alloc (.cells C e)).heap.size (some ⟨g, 0, none⟩) C.toList := by
  subst hg
  exact (Rd.new w C e (0, 0)).bound (by simp)
theorem Rd.alloc' {w : World} {A : Option Addr} {xs : List Value} (h : Rd w w.heap.size A xs) (o : Obj) : Rd (w.alloc o) (w.alloc o).heap.size A xs := (h.kp0 ((Kp.refl [] w).alloc o)).bound (by simp)
theorem deeds1 (w : World) (b : Bool) (x y : Int) (t s : TypeId) :
    DeedRd ((w.alloc (.cells #[.int .i64 x, .int .i64 y] t)).alloc (.cells #[.bool b, .slice (some ⟨w.heap.size, 0, none⟩) 2 2] s)) ((w.alloc (.cells #[.int .i64 x, .int .i64 y] t)).alloc (.cells #[.bool b, .slice (some ⟨w.heap.size, 0, none⟩) 2 2] s)).heap.size (some ⟨w.heap.size + 1, 0, none⟩) [(b, [x, y])] :=
  deedRd_of (rd_new' _ _ _ (by simp)) ⟨⟨rfl, _, _, rfl, Nat.le_refl _, (rd_new' w #[.int .i64 x, .int .i64 y] t rfl).alloc' _⟩, trivial⟩
theorem deeds2 (w : World) (b : Bool) (x y : Int) (t s : TypeId) :
    DeedRd ((w.alloc (.cells #[.int .i64 x, .int .i64 y] t)).alloc (.cells #[.bool b, .slice (some ⟨w.heap.size, 0, none⟩) 2 2, .bool false, .slice none 0 0] s)) ((w.alloc (.cells #[.int .i64 x, .int .i64 y] t)).alloc (.cells #[.bool b, .slice (some ⟨w.heap.size, 0, none⟩) 2 2, .bool false, .slice none 0 0] s)).heap.size (some ⟨w.heap.size + 1, 0, none⟩) [(b, [x, y]), (false, [])] :=
  deedRd_of (rd_new' _ _ _ (by simp)) ⟨⟨rfl, _, _, rfl, Nat.le_refl _, (rd_new' w #[.int .i64 x, .int .i64 y] t rfl).alloc' _⟩, ⟨rfl, none, 0, rfl, Nat.le_refl _, Rd.nil _ _ _⟩, trivial⟩
theorem deeds3 (w : World) (b : Bool) (x y z : Int) (t s : TypeId) :
    DeedRd ((((w.alloc (.cells #[.int .i64 x] t)).alloc (.cells #[.int .i64 y] t)).alloc (.cells #[.int .i64 z] t)).alloc (.cells #[.bool b, .slice (some ⟨w.heap.size, 0, none⟩) 1 1, .bool b, .slice (some ⟨w.heap.size + 1, 0, none⟩) 1 1, .bool b, .slice (some ⟨w.heap.size + 2, 0, none⟩) 1 1] s))
      ((((w.alloc (.cells #[.int .i64 x] t)).alloc (.cells #[.int .i64 y] t)).alloc (.cells #[.int .i64 z] t)).alloc (.cells #[.bool b, .slice (some ⟨w.heap.size, 0, none⟩) 1 1, .bool b, .slice (some ⟨w.heap.size + 1, 0, none⟩) 1 1, .bool b, .slice (some ⟨w.heap.size + 2, 0, none⟩) 1 1] s)).heap.size (some ⟨w.heap.size + 3, 0, none⟩) [(b, [x]), (b, [y]), (b, [z])] :=
  deedRd_of (rd_new' _ _ _ (by simp)) ⟨⟨rfl, _, _, rfl, Nat.le_refl _, (((rd_new' w #[.int .i64 x] t rfl).alloc' _).alloc' _).alloc' _⟩, ⟨rfl, _, _, rfl, Nat.le_refl _, ((rd_new' _ #[.int .i64 y] t (by simp)).alloc' _).alloc' _⟩, ⟨rfl, _, _, rfl, Nat.le_refl _, (rd_new' _ #[.int .i64 z] t (by simp)).alloc' _⟩, trivial⟩
theorem app_facts {w w2 : World} {o : Obj} {v v' : Value} (hg : (w.alloc o).grownBy w2 v.ownBlock) (hat : v'.ownBlock = v.ownBlock ∨ v'.ownBlock = some (w.alloc o).heap.size) : Kp (ownL v) w w2 ∧ ∀ x ∈ ownL v', x ∈ ownL v ∨ w.heap.size ≤ x := by
  refine ⟨((Kp.refl _ w).alloc o).grown hg (fun b hb => .inl (mem_ownL.2 hb)), fun x hx => ?_⟩
  rw [mem_ownL] at hx
  rcases hat with h | h
  · exact .inl (mem_ownL.2 (by rw [← h]; exact hx))
  · rw [h] at hx
    injection hx with hx
    rw [← hx]
    exact .inr (by simp)
/-- Two rows of one's own, apart. -/
def Apart (v u : Value) : Prop := ∀ x ∈ ownL v, x ∉ ownL u
theorem Apart.symm {v u : Value} (h : Apart v u) : Apart u v := fun x hx hm => h x hm hx
theorem Apart.app {w : World} {v v' u : Value} {base : Nat} {e : TypeId} {n : Nat} {xs : List Value} (h : Apart v u) (hv : ∀ x ∈ ownL v', x ∈ ownL v ∨ w.heap.size ≤ x) (hu : w.ownsRow base e 1 u n xs) : Apart v' u := fun x hx hm => by
  rcases hv x hx with h1 | h1
  · exact h x h1 hm
  · have := (own_ge hu (mem_ownL.1 hm)).2; omega

theorem last_set (m : Nat) : (List.replicate (m + 1) false).set m true = List.replicate m false ++ [true] := by
  rw [List.replicate_succ', List.set_append_right _ _ (by simp)]
  simp
theorem rk1 (m : Nat) : rankI ((List.replicate (m + 1) false).set m true) ((m + 1 : Nat) : Int) = 1 := by
  rw [last_set]
  unfold rankI
  rw [show (min (max ((m + 1 : Nat) : Int) 0) ((List.replicate m false ++ [true]).length : Int)).toNat = m + 1 by simp; omega, cntI_all (by simp), List.count_append, List.count_replicate]
  rfl
theorem rk0 (m : Nat) : rankI ((List.replicate (m + 1) false).set m true) (m : Int) = 0 := by
  rw [last_set]
  unfold rankI
  rw [show (min (max (m : Int) 0) ((List.replicate m false ++ [true]).length : Int)).toNat = m by simp; omega]
  unfold cntI
  rw [List.take_append_of_le_length (by simp), List.take_of_length_le (by simp), List.count_replicate]
  rfl

set_option maxRecDepth 100000 in
set_option maxHeartbeats 4000000 in
theorem bitsends_any (w : World) (ht : Tab64 w) : Calls Tryd.prog 6 #[] w fun e w' => e = .returned (.bool true) ∧ Kp [] w w' := by
  obtain ⟨i0, hi, hz0, hz1, hz2⟩ := info_parts Tryd.info_bool_
  obtain ⟨i1, hu, hu0, hu1, hu2⟩ := info_parts Tryd.info_u8
  have HT := Lib.hid ht; clear ht
  go_enter Tryd.func6, Tryd.ntmps6
  go_wp2_with fail
  go_loopw [1] (fun x wr => ∃ n : Nat, x = .int .i64 (n : Int) ∧ n ≤ 1100 ∧ Hid (Kp [] w wr)) (fun x _ => 1100 - (intOf x).toNat)
  case atStart => exact ⟨0, rfl, by omega, Lib.hid (Kp.refl _ _)⟩
  case round =>
    obtain ⟨n0, rfl, hn0, HK⟩ := hrel
    by_cases hlt : n0 < 1100
    · go_upto_if 20 with (fail)
      go_cut [1] (fun s wx => ∃ n1 : Nat, s = .int .i64 (n1 : Int) ∧ n0 ≤ n1 ∧ n1 < 1100 ∧ wr = wx)
      case first =>
        by_cases h71 : n0 = 71
        · subst h71
          go_wp2_with fail
          go_meet
          exact ⟨500, rfl, by omega, by omega, rfl⟩
        · go_wp2_with fail
          go_meet
          exact ⟨n0, rfl, by omega, by omega, rfl⟩
      case rest =>
        obtain ⟨n1, rfl, hn1, hn1b, rfl⟩ := hcut
        go_upto_if 22 with (fail)
        go_cut [1] (fun s wx => ∃ n : Nat, s = .int .i64 (n : Int) ∧ n0 ≤ n ∧ n < 1100 ∧ wr = wx)
        case first =>
          by_cases h71 : n1 = 530
          · subst h71
            go_wp2_with fail
            go_meet
            exact ⟨1015, rfl, by omega, by omega, rfl⟩
          · go_wp2_with fail
            go_meet
            exact ⟨n1, rfl, by omega, by omega, rfl⟩
        case rest =>
          obtain ⟨n, rfl, hn, hnb, rfl⟩ := hcut
          clear hn1 hn1b
          go_wp2_with fail
          go_loopw [2, 3, 4, 5] (fun va vb vc x wq => ∃ (i ca cb cc : Nat) (A2 A3 A4 : Option Addr) (la lb lc : List Bool), x = .int .i64 (i : Int) ∧ va = .slice A2 i ca ∧ vb = .slice A3 i cb ∧ vc = .slice A4 i cc ∧ i ≤ n ∧ Hid (la.length = i ∧ lb.length = i ∧ lc.length = i) ∧
            Hid (wq.ownsRow w.heap.size 4 1 (.slice A2 i ca) i (la.map .bool)) ∧ Hid (wq.ownsRow w.heap.size 4 1 (.slice A3 i cb) i (lb.map .bool)) ∧ Hid (wq.ownsRow w.heap.size 4 1 (.slice A4 i cc) i (lc.map .bool)) ∧
            Hid (Apart (.slice A2 i ca) (.slice A3 i cb)) ∧ Hid (Apart (.slice A2 i ca) (.slice A4 i cc)) ∧ Hid (Apart (.slice A3 i cb) (.slice A4 i cc)) ∧ Hid (Kp [] w wq)) (fun _ _ _ x _ => n - (intOf x).toNat)
          case atStart => exact ⟨0, 0, 0, 0, none, none, none, [], [], [], rfl, rfl, rfl, rfl, by omega, Lib.hid ⟨rfl, rfl, rfl⟩, Lib.hid (World.ownsRow_nil _ _ _ 1), Lib.hid (World.ownsRow_nil _ _ _ 1), Lib.hid (World.ownsRow_nil _ _ _ 1), Lib.hid (fun x hx => by cases hx), Lib.hid (fun x hx => by cases hx), Lib.hid (fun x hx => by cases hx), HK⟩
          case round =>
            clear HK
            obtain ⟨i, ca, cb, cc, A2, A3, A4, la, lb, lc, rfl, rfl, rfl, rfl, hin, HL, HA, HB, HC, HAB, HAC, HBC, HK⟩ := hrel
            by_cases hlt2 : i < n
            · have HSZ := Lib.hid HK.out.size
              go_upto_region 13 with (at_builtin; go_loud (refine wpList_append_rd rfl (.tmp 28) (.tmp 29) 22 rfl w.heap.size 4 i0 (.bool false) 1 1 Tryd.underlying22 hi hz0 hz1 hz2 rfl (by decide) (.slice A2 i ca) i _ rfl (own_kp0 HA.out ((Kp.refl [] _).alloc _)) _ _ 1 1 [.bool true] rfl rfl (Rd.new wr #[.bool true] 4 (0, 0)) (by intro u hu; simp at hu; subst hu; rfl) (by unfold maxLen; omega) (by omega) (by have := HSZ.out; simp; omega) ?_); intro v2 w2 hown2 hgrow2 hat2)
              obtain ⟨hka, hga⟩ := app_facts hgrow2 hat2
              obtain ⟨A2', ca', rfl, _⟩ := own_form hown2
              have HA2 := Lib.hid (show w2.ownsRow w.heap.size 4 1 (.slice A2' (i + 1) ca') (i + 1) ((la ++ [true]).map .bool) by rw [List.map_append]; exact hown2)
              have HB2 := Lib.hid (own_kp HB.out hka (fun x hx hm => HAB.out x hm (mem_ownL.2 hx)))
              have HC2 := Lib.hid (own_kp HC.out hka (fun x hx hm => HAC.out x hm (mem_ownL.2 hx)))
              have HAB2 := Lib.hid (HAB.out.app hga HB.out)
              have HAC2 := Lib.hid (HAC.out.app hga HC.out)
              have HK2 := Lib.hid (HK.out.trans' hka (fun x hx => .inr (own_ge HA.out (mem_ownL.1 hx)).1))
              clear hka hga hown2 hgrow2 hat2 HA HB HC HAB HAC HK HSZ
              have HSZ := Lib.hid HK2.out.size
              go_upto_region 14 with (at_builtin; go_loud (refine wpList_append_rd rfl (.tmp 31) (.tmp 32) 22 rfl w.heap.size 4 i0 (.bool false) 1 1 Tryd.underlying22 hi hz0 hz1 hz2 rfl (by decide) (.slice A3 i cb) i _ rfl (own_kp0 HB2.out ((Kp.refl [] _).alloc _)) _ _ 1 1 [.bool false] rfl rfl (Rd.new w2 #[.bool false] 4 (0, 0)) (by intro u hu; simp at hu; subst hu; rfl) (by unfold maxLen; omega) (by omega) (by have := HSZ.out; simp; omega) ?_); intro v3 w3 hown3 hgrow3 hat3)
              obtain ⟨hkb, hgb⟩ := app_facts hgrow3 hat3
              obtain ⟨A3', cb', rfl, _⟩ := own_form hown3
              have HB3 := Lib.hid (show w3.ownsRow w.heap.size 4 1 (.slice A3' (i + 1) cb') (i + 1) ((lb ++ [false]).map .bool) by rw [List.map_append]; exact hown3)
              have HA3 := Lib.hid (own_kp HA2.out hkb (fun x hx hm => HAB2.out x (mem_ownL.2 hx) hm))
              have HC3 := Lib.hid (own_kp HC2.out hkb (fun x hx hm => HBC.out x hm (mem_ownL.2 hx)))
              have HAB3 := Lib.hid (HAB2.out.symm.app hgb HA2.out).symm
              have HBC3 := Lib.hid (HBC.out.app hgb HC2.out)
              have HK3 := Lib.hid (HK2.out.trans' hkb (fun x hx => .inr (own_ge HB2.out (mem_ownL.1 hx)).1))
              clear hkb hgb hown3 hgrow3 hat3 HA2 HB2 HC2 HAB2 HBC HK2 HSZ
              have HSZ := Lib.hid HK3.out.size
              go_wp2_with (at_builtin; go_loud (refine wpList_append_rd rfl (.tmp 34) (.tmp 38) 22 rfl w.heap.size 4 i0 (.bool false) 1 1 Tryd.underlying22 hi hz0 hz1 hz2 rfl (by decide) (.slice A4 i cc) i _ rfl (own_kp0 HC3.out ((Kp.refl [] _).alloc _)) _ _ 1 1 [.bool _] rfl rfl (Rd.new w3 #[.bool _] 4 (0, 0)) (by intro u hu; simp at hu; subst hu; rfl) (by unfold maxLen; omega) (by omega) (by have := HSZ.out; simp; omega) ?_); intro v4 w4 hown4 hgrow4 hat4
                           obtain ⟨hkc, hgc⟩ := app_facts hgrow4 hat4
                           obtain ⟨A4', cc', rfl, _⟩ := own_form hown4
                           have HC4 := Lib.hid hown4
                           have HA4 := Lib.hid (own_kp HA3.out hkc (fun x hx hm => HAC2.out x (mem_ownL.2 hx) hm))
                           have HB4 := Lib.hid (own_kp HB3.out hkc (fun x hx hm => HBC3.out x (mem_ownL.2 hx) hm))
                           have HAC4 := Lib.hid (HAC2.out.symm.app hgc HA3.out).symm
                           have HBC4 := Lib.hid (HBC3.out.symm.app hgc HB3.out).symm
                           have HK4 := Lib.hid (HK3.out.trans' hkc (fun x hx => .inr (own_ge HC3.out (mem_ownL.1 hx)).1))
                           clear hkc hgc hown4 hgrow4 hat4 HA3 HB3 HC3 HAC2 HBC3 HK3 HSZ)
              exact ⟨⟨i + 1, ca', cb', cc', A2', A3', A4', la ++ [true], lb ++ [false], lc ++ [_], by go_num, rfl, rfl, rfl, by omega, Lib.hid (by simp [HL.out]), HA4, HB4, Lib.hid (by rw [List.map_append]; exact HC4.out), HAB3, HAC4, HBC4, HK4⟩, by simp [intOf]; omega⟩
            · obtain rfl : n = i := by omega
              clear HAB HAC HBC
              obtain ⟨q2, hq2⟩ : ∃ q2, q2 = n / 2 := ⟨_, rfl⟩
              obtain ⟨q3, hq3⟩ : ∃ q3, q3 = n / 3 := ⟨_, rfl⟩
              obtain ⟨r, hr⟩ : ∃ r, r = n % 130 := ⟨_, rfl⟩
              have hd2 : (n : Int).tdiv 2 = (q2 : Int) := by rw [Int.tdiv_eq_ediv_of_nonneg (by omega)]; omega
              have hd3 : (n : Int).tdiv 3 = (q3 : Int) := by rw [Int.tdiv_eq_ediv_of_nonneg (by omega)]; omega
              have hd130 : (n : Int).tmod 130 = (r : Int) := by rw [Int.tmod_eq_emod_of_nonneg (by omega)]; omega
              have hw2 : IntKind.i64.wrap (q2 : Int) = (q2 : Int) := by rw [IntKind.wrap_i64]; omega
              have hw3 : IntKind.i64.wrap (q3 : Int) = (q3 : Int) := by rw [IntKind.wrap_i64]; omega
              have hw130 : IntKind.i64.wrap (r : Int) = (r : Int) := by rw [IntKind.wrap_i64]; omega
              have hrb : r < 130 := by omega
              clear hq2 hq3 hr
              go_wp2_with fail
              refine (bitsdo_any A2 _ n ca 1 1 (q2 : Int) la [(false, [0, (n : Int) - 1])] _ (own_rd (own_kp0 HA.out (((Kp.refl [] wr).alloc _).alloc _))) HL.out.1 (by omega) (deeds1 wr false 0 ((n : Int) - 1) _ _) rfl (by omega) (by intro d hd; simp at hd; subst hd; simp) ((HT.out.kp0 HK.out).kp0 (((Kp.refl [] wr).alloc _).alloc _))).mono ?_
              rintro e w5 ⟨rfl, hk5'⟩
              have hk5 := (((Kp.refl [] wr).alloc _).alloc _).trans hk5'
              replace HB := Lib.hid (own_kp0 HB.out hk5)
              replace HC := Lib.hid (own_kp0 HC.out hk5)
              replace HK := Lib.hid (HK.out.kp0 hk5)
              clear hk5' hk5 HA
              go_wp2_with fail
              refine (bitsdo_any A3 _ n cb 3 3 (q3 : Int) lb [(true, [(q2 : Int)]), (true, [(n : Int)]), (true, [-1])] _ (own_rd (own_kp0 HB.out (((((Kp.refl [] w5).alloc _).alloc _).alloc _).alloc _))) HL.out.2.1 (by omega) (deeds3 w5 true (q2 : Int) (n : Int) (-1) _ _) rfl (by omega) (by intro d hd; simp at hd; rcases hd with rfl | rfl | rfl <;> simp) ((HT.out.kp0 HK.out).kp0 (((((Kp.refl [] w5).alloc _).alloc _).alloc _).alloc _))).mono ?_
              rintro e w6 ⟨rfl, hk6'⟩
              have hk6 := (((((Kp.refl [] w5).alloc _).alloc _).alloc _).alloc _).trans hk6'
              replace HC := Lib.hid (own_kp0 HC.out hk6)
              replace HK := Lib.hid (HK.out.kp0 hk6)
              clear hk6' hk6 HB
              go_wp2_with fail
              refine (bitsdo_any A4 _ n cc 2 2 (n : Int) lc [(false, [(q2 : Int), (q2 : Int)]), (false, [])] _ (own_rd (own_kp0 HC.out (((Kp.refl [] w6).alloc _).alloc _))) HL.out.2.2 (by omega) (deeds2 w6 false (q2 : Int) (q2 : Int) _ _) rfl (by omega) (by intro d hd; simp at hd; rcases hd with rfl | rfl <;> simp) ((HT.out.kp0 HK.out).kp0 (((Kp.refl [] w6).alloc _).alloc _))).mono ?_
              rintro e w7 ⟨rfl, hk7'⟩
              replace HK := Lib.hid (HK.out.kp0 ((((Kp.refl [] w6).alloc _).alloc _).trans hk7'))
              clear hk7' HC HL
              have hmk := run_make_list (P := Tryd.prog) 34 5 i1 (.int .u8 0) Tryd.underlying34 hu hu0 hu1 rfl .i64 .i64 r (by rw [hu2]; omega) (by omega)
              go_wp2_with fail
              clear hmk hd2 hd3 hw2 hw3 hd130 hw130
              obtain ⟨w8, hw8⟩ : ∃ w8, w8 = w7.alloc (.cells (Array.replicate r (.int .u8 0)) 5) := ⟨_, rfl⟩
              obtain ⟨g, hg⟩ : ∃ g, g = w7.heap.size := ⟨_, rfl⟩
              have HX := Lib.hid (show Blk w8 g 5 ((List.replicate r (0 : Int)).map (.int .u8)) by
                have h := Blk.new w7 5 (List.replicate r (.int .u8 0))
                rw [hw8, hg, List.map_replicate]
                simpa using h)
              replace HK := Lib.hid (show Kp [] w w8 by rw [hw8]; exact HK.out.alloc _)
              rw [← hw8, ← hg]
              clear hw8 hg
              have HR0 := Lib.hid (show ∀ x ∈ List.replicate r (0 : Int), 0 ≤ x ∧ x ≤ 255 from fun x hx => by rw [List.eq_of_mem_replicate hx]; omega)
              have HRL := Lib.hid (show (List.replicate r (0 : Int)).length = r from List.length_replicate)
              by_cases hr0 : r = 0
              · have hdz : decide (0 < r) = false := by rw [hr0]; rfl
                clear hr0
                refine wp_region_facts (by kernel_rfl) 206 [84, 85, 86, 87, 88, 89, 90, 91, 92, 93, 94, 95, 96, 97, 98, 99, 100, 101, 102, 103, 104, 105, 106, 107, 108, 109, 110, 111, 112, 113, 114, 115, 116] [[], [], [84, 85], [86], [87], [88], [89, 88], [90, 88], [91, 88], [92], [93, 92], [94, 92], [92], [96, 92], [95, 97, 92], [92], [92], [100, 92], [101, 92], [92], [103, 92], [104, 92], [99, 102, 105, 92], [92], [107, 92], [108, 92], [109, 92], [106, 110, 92], [92], [98, 111, 112, 92], [113, 92], [92, 114, 88], [88, 115]] (by kernel_rfl) (by kernel_rfl) rfl (factOf [(84, .eq (.int .i64 (n : Int))), (85, .eq (.slice (some ⟨g, 0, none⟩) r r)), (86, .eq (.bool true)), (87, .eq (.bool false)), (88, .eq (.bool false)), (89, .eq (.slice (some ⟨g, 0, none⟩) r r)), (90, .eq (.int .i64 (r : Int))), (91, .eq (.bool false)), (92, .eq (.bool false)), (93, .eq (undef)), (94, .eq (undef)), (95, .eq (undef)), (96, .eq (undef)), (97, .eq (undef)), (98, .eq (undef)), (99, .eq (undef)), (100, .eq (undef)), (101, .eq (undef)), (102, .eq (undef)), (103, .eq (undef)), (104, .eq (undef)), (105, .eq (undef)), (106, .eq (undef)), (107, .eq (undef)), (108, .eq (undef)), (109, .eq (undef)), (110, .eq (undef)), (111, .eq (undef)), (112, .eq (undef)), (113, .eq (undef)), (114, .eq (undef)), (115, .eq (.bool false)), (116, .eq (.bool false))]) (factOf_stable _) _ (fun x => by simp only [fillL, Nat.reduceAdd, Nat.reduceEqDiff, ↓reduceIte]; rfl) ?_ ?_
                · refine ⟨?_, ?_, ?_, ?_, ?_, ?_, ?_, ?_, ?_, ?_, ?_, ?_, ?_, ?_, ?_, ?_, ?_, ?_, ?_, ?_, ?_, ?_, ?_, ?_, ?_, ?_, ?_, ?_, ?_, ?_, ?_, ?_, ?_, trivial⟩
                  · intro fx w' fa hk hd ev  -- 84 = Op.move (Operand.tmp 1)
                    have e1 : fa.tmps[1]?.getD undef = .int .i64 (n : Int) := ev.old 1 rfl
                    refine stepF_un rfl (fun K hK => ?_)
                    exact stepF_val _ hK (run_move rfl e1 _) rfl
                  · intro fx w' fa hk hd ev  -- 85 = Op.move (Operand.tmp 6)
                    have e6 : fa.tmps[6]?.getD undef = .slice (some ⟨g, 0, none⟩) r r := ev.old 6 rfl
                    refine stepF_un rfl (fun K hK => ?_)
                    exact stepF_val _ hK (run_move rfl e6 _) rfl
                  · intro fx w' fa hk hd ev  -- 86 = Op.call { callee := Callee.value (Operand.func 4), args := #
                    have h84 : fx 84 = .int .i64 (n : Int) := hd.1
                    have e84 : fa.tmps[84]?.getD undef = .int .i64 (n : Int) := (ev.new 84 rfl).trans h84
                    have h85 : fx 85 = .slice (some ⟨g, 0, none⟩) r r := hd.2.1
                    have e85 : fa.tmps[85]?.getD undef = .slice (some ⟨g, 0, none⟩) r r := (ev.new 85 rfl).trans h85
                    refine stepF_un rfl (fun K hK => ?_)
                    go_simp
                    refine (bitsread_any (n : Int) (some ⟨g, 0, none⟩) r r 0 (List.replicate r (0 : Int)) w' ((HX.out.kp0 hk).rd (HX.out.kp0 hk).lt) HRL.out HR0.out (HT.out.kp0 (HK.out.kp0 hk))).mono ?_
                    rintro e w1 ⟨rfl, hk1⟩
                    exact hK _ _ rfl hk1
                  · intro fx w' fa hk hd ev  -- 87 = Op.unOp UnOp.not 4 (Operand.tmp 86)
                    have h86 : fx 86 = .bool true := hd.1
                    have e86 : fa.tmps[86]?.getD undef = .bool true := (ev.new 86 rfl).trans h86
                    refine stepF_un rfl (fun K hK => ?_)
                    go_simp
                    exact hK _ _ rfl (Kp.refl _ _)
                  · intro fx w' fa hk hd ev  -- 88 = Op.move (Operand.tmp 87)
                    have h87 : fx 87 = .bool false := hd.1
                    have e87 : fa.tmps[87]?.getD undef = .bool false := (ev.new 87 rfl).trans h87
                    refine stepF_un rfl (fun K hK => ?_)
                    exact stepF_val _ hK (run_move rfl e87 _) rfl
                  · intro fx w' fa hk hd ev  -- 89 = Op.move (Operand.tmp 6)
                    have h88 : fx 88 = .bool false := hd.1
                    have e88 : fa.tmps[88]?.getD undef = .bool false := (ev.new 88 rfl).trans h88
                    have e6 : fa.tmps[6]?.getD undef = .slice (some ⟨g, 0, none⟩) r r := ev.old 6 rfl
                    refine stepF_yes (i := 4) (g := 88) (b := false) rfl rfl rfl e88 (fun K hK => ?_)
                    exact stepF_val _ hK (run_move rfl e6 _) rfl
                  · intro fx w' fa hk hd ev  -- 90 = Op.call { callee := Callee.builtin Builtin.len, args := #[Op
                    have h89 : fx 89 = .slice (some ⟨g, 0, none⟩) r r := hd.1
                    have e89 : fa.tmps[89]?.getD undef = .slice (some ⟨g, 0, none⟩) r r := (ev.new 89 rfl).trans h89
                    have h88 : fx 88 = .bool false := hd.2.1
                    have e88 : fa.tmps[88]?.getD undef = .bool false := (ev.new 88 rfl).trans h88
                    refine stepF_yes (i := 4) (g := 88) (b := false) rfl rfl rfl e88 (fun K hK => ?_)
                    go_simp
                    exact hK _ _ rfl (Kp.refl _ _)
                  · intro fx w' fa hk hd ev  -- 91 = Op.binOp BinOp.gtr 3 (Operand.tmp 90) (Operand.const (Value.
                    have h90 : fx 90 = .int .i64 (r : Int) := hd.1
                    have e90 : fa.tmps[90]?.getD undef = .int .i64 (r : Int) := (ev.new 90 rfl).trans h90
                    have h88 : fx 88 = .bool false := hd.2.1
                    have e88 : fa.tmps[88]?.getD undef = .bool false := (ev.new 88 rfl).trans h88
                    refine stepF_yes (i := 4) (g := 88) (b := false) rfl rfl rfl e88 (fun K hK => ?_)
                    go_simp
                    exact hK _ _ rfl (Kp.refl _ _)
                  · intro fx w' fa hk hd ev  -- 92 = Op.move (Operand.tmp 91)
                    have h91 : fx 91 = .bool false := hd.1
                    have e91 : fa.tmps[91]?.getD undef = .bool false := (ev.new 91 rfl).trans h91
                    have h88 : fx 88 = .bool false := hd.2.1
                    have e88 : fa.tmps[88]?.getD undef = .bool false := (ev.new 88 rfl).trans h88
                    refine stepF_yes (i := 4) (g := 88) (b := false) rfl rfl rfl e88 (fun K hK => ?_)
                    exact stepF_val _ hK (run_move rfl e91 _) rfl
                  · intro fx w' fa hk hd ev  -- 93 = Op.move (Operand.tmp 6)
                    have h92 : fx 92 = .bool false := hd.1
                    have e92 : fa.tmps[92]?.getD undef = .bool false := (ev.new 92 rfl).trans h92
                    refine stepF_no (i := 8) (g := 92) (b := true) rfl rfl rfl e92 rfl
                  · intro fx w' fa hk hd ev  -- 94 = Op.call { callee := Callee.builtin Builtin.len, args := #[Op
                    have h92 : fx 92 = .bool false := hd.2.1
                    have e92 : fa.tmps[92]?.getD undef = .bool false := (ev.new 92 rfl).trans h92
                    refine stepF_no (i := 8) (g := 92) (b := true) rfl rfl rfl e92 rfl
                  · intro fx w' fa hk hd ev  -- 95 = Op.binOp BinOp.mul 3 (Operand.const (Value.int IntKind.i64 8
                    have h92 : fx 92 = .bool false := hd.2.1
                    have e92 : fa.tmps[92]?.getD undef = .bool false := (ev.new 92 rfl).trans h92
                    refine stepF_no (i := 8) (g := 92) (b := true) rfl rfl rfl e92 rfl
                  · intro fx w' fa hk hd ev  -- 96 = Op.move (Operand.tmp 1)
                    have h92 : fx 92 = .bool false := hd.1
                    have e92 : fa.tmps[92]?.getD undef = .bool false := (ev.new 92 rfl).trans h92
                    refine stepF_no (i := 8) (g := 92) (b := true) rfl rfl rfl e92 rfl
                  · intro fx w' fa hk hd ev  -- 97 = Op.binOp BinOp.rem 3 (Operand.tmp 96) (Operand.const (Value.
                    have h92 : fx 92 = .bool false := hd.2.1
                    have e92 : fa.tmps[92]?.getD undef = .bool false := (ev.new 92 rfl).trans h92
                    refine stepF_no (i := 8) (g := 92) (b := true) rfl rfl rfl e92 rfl
                  · intro fx w' fa hk hd ev  -- 98 = Op.binOp BinOp.sub 3 (Operand.tmp 95) (Operand.tmp 97) 3
                    have h92 : fx 92 = .bool false := hd.2.2.1
                    have e92 : fa.tmps[92]?.getD undef = .bool false := (ev.new 92 rfl).trans h92
                    refine stepF_no (i := 8) (g := 92) (b := true) rfl rfl rfl e92 rfl
                  · intro fx w' fa hk hd ev  -- 99 = Op.move (Operand.tmp 6)
                    have h92 : fx 92 = .bool false := hd.1
                    have e92 : fa.tmps[92]?.getD undef = .bool false := (ev.new 92 rfl).trans h92
                    refine stepF_no (i := 8) (g := 92) (b := true) rfl rfl rfl e92 rfl
                  · intro fx w' fa hk hd ev  -- 100 = Op.move (Operand.tmp 6)
                    have h92 : fx 92 = .bool false := hd.1
                    have e92 : fa.tmps[92]?.getD undef = .bool false := (ev.new 92 rfl).trans h92
                    refine stepF_no (i := 8) (g := 92) (b := true) rfl rfl rfl e92 rfl
                  · intro fx w' fa hk hd ev  -- 101 = Op.call { callee := Callee.builtin Builtin.len, args := #[Op
                    have h92 : fx 92 = .bool false := hd.2.1
                    have e92 : fa.tmps[92]?.getD undef = .bool false := (ev.new 92 rfl).trans h92
                    refine stepF_no (i := 8) (g := 92) (b := true) rfl rfl rfl e92 rfl
                  · intro fx w' fa hk hd ev  -- 102 = Op.binOp BinOp.sub 3 (Operand.tmp 101) (Operand.const (Value
                    have h92 : fx 92 = .bool false := hd.2.1
                    have e92 : fa.tmps[92]?.getD undef = .bool false := (ev.new 92 rfl).trans h92
                    refine stepF_no (i := 8) (g := 92) (b := true) rfl rfl rfl e92 rfl
                  · intro fx w' fa hk hd ev  -- 103 = Op.move (Operand.tmp 6)
                    have h92 : fx 92 = .bool false := hd.1
                    have e92 : fa.tmps[92]?.getD undef = .bool false := (ev.new 92 rfl).trans h92
                    refine stepF_no (i := 8) (g := 92) (b := true) rfl rfl rfl e92 rfl
                  · intro fx w' fa hk hd ev  -- 104 = Op.call { callee := Callee.builtin Builtin.len, args := #[Op
                    have h92 : fx 92 = .bool false := hd.2.1
                    have e92 : fa.tmps[92]?.getD undef = .bool false := (ev.new 92 rfl).trans h92
                    refine stepF_no (i := 8) (g := 92) (b := true) rfl rfl rfl e92 rfl
                  · intro fx w' fa hk hd ev  -- 105 = Op.binOp BinOp.sub 3 (Operand.tmp 104) (Operand.const (Value
                    have h92 : fx 92 = .bool false := hd.2.1
                    have e92 : fa.tmps[92]?.getD undef = .bool false := (ev.new 92 rfl).trans h92
                    refine stepF_no (i := 8) (g := 92) (b := true) rfl rfl rfl e92 rfl
                  · intro fx w' fa hk hd ev  -- 106 = Op.slice 34 (Operand.tmp 99) none (some (Operand.tmp 102)) (
                    have h92 : fx 92 = .bool false := hd.2.2.2.1
                    have e92 : fa.tmps[92]?.getD undef = .bool false := (ev.new 92 rfl).trans h92
                    refine stepF_no (i := 8) (g := 92) (b := true) rfl rfl rfl e92 rfl
                  · intro fx w' fa hk hd ev  -- 107 = Op.move (Operand.tmp 1)
                    have h92 : fx 92 = .bool false := hd.1
                    have e92 : fa.tmps[92]?.getD undef = .bool false := (ev.new 92 rfl).trans h92
                    refine stepF_no (i := 8) (g := 92) (b := true) rfl rfl rfl e92 rfl
                  · intro fx w' fa hk hd ev  -- 108 = Op.binOp BinOp.rem 3 (Operand.tmp 107) (Operand.const (Value
                    have h92 : fx 92 = .bool false := hd.2.1
                    have e92 : fa.tmps[92]?.getD undef = .bool false := (ev.new 92 rfl).trans h92
                    refine stepF_no (i := 8) (g := 92) (b := true) rfl rfl rfl e92 rfl
                  · intro fx w' fa hk hd ev  -- 109 = Op.binOp BinOp.shl 5 (Operand.const (Value.int IntKind.u8 1)
                    have h92 : fx 92 = .bool false := hd.2.1
                    have e92 : fa.tmps[92]?.getD undef = .bool false := (ev.new 92 rfl).trans h92
                    refine stepF_no (i := 8) (g := 92) (b := true) rfl rfl rfl e92 rfl
                  · intro fx w' fa hk hd ev  -- 110 = Op.buildSlice 34 1 #[(0, Operand.tmp 109)]
                    have h92 : fx 92 = .bool false := hd.2.1
                    have e92 : fa.tmps[92]?.getD undef = .bool false := (ev.new 92 rfl).trans h92
                    refine stepF_no (i := 8) (g := 92) (b := true) rfl rfl rfl e92 rfl
                  · intro fx w' fa hk hd ev  -- 111 = Op.call { callee := Callee.builtin Builtin.append, args := #
                    have h92 : fx 92 = .bool false := hd.2.2.1
                    have e92 : fa.tmps[92]?.getD undef = .bool false := (ev.new 92 rfl).trans h92
                    refine stepF_no (i := 8) (g := 92) (b := true) rfl rfl rfl e92 rfl
                  · intro fx w' fa hk hd ev  -- 112 = Op.move (Operand.tmp 1)
                    have h92 : fx 92 = .bool false := hd.1
                    have e92 : fa.tmps[92]?.getD undef = .bool false := (ev.new 92 rfl).trans h92
                    refine stepF_no (i := 8) (g := 92) (b := true) rfl rfl rfl e92 rfl
                  · intro fx w' fa hk hd ev  -- 113 = Op.call { callee := Callee.value (Operand.func 4), args := #
                    have h92 : fx 92 = .bool false := hd.2.2.2.1
                    have e92 : fa.tmps[92]?.getD undef = .bool false := (ev.new 92 rfl).trans h92
                    refine stepF_no (i := 8) (g := 92) (b := true) rfl rfl rfl e92 rfl
                  · intro fx w' fa hk hd ev  -- 114 = Op.unOp UnOp.not 4 (Operand.tmp 113)
                    have h92 : fx 92 = .bool false := hd.2.1
                    have e92 : fa.tmps[92]?.getD undef = .bool false := (ev.new 92 rfl).trans h92
                    refine stepF_no (i := 8) (g := 92) (b := true) rfl rfl rfl e92 rfl
                  · intro fx w' fa hk hd ev  -- 115 = Op.pick (Operand.tmp 92) (Operand.tmp 114) (Operand.const (V
                    have h92 : fx 92 = .bool false := hd.1
                    have e92 : fa.tmps[92]?.getD undef = .bool false := (ev.new 92 rfl).trans h92
                    have h114 : fx 114 = undef := hd.2.1
                    have e114 : fa.tmps[114]?.getD undef = undef := (ev.new 114 rfl).trans h114
                    have h88 : fx 88 = .bool false := hd.2.2.1
                    have e88 : fa.tmps[88]?.getD undef = .bool false := (ev.new 88 rfl).trans h88
                    refine stepF_yes (i := 4) (g := 88) (b := false) rfl rfl rfl e88 (fun K hK => ?_)
                    go_simp
                    exact hK _ _ rfl (Kp.refl _ _)
                  · intro fx w' fa hk hd ev  -- 116 = Op.pick (Operand.tmp 88) (Operand.const (Value.bool true)) (
                    have h88 : fx 88 = .bool false := hd.1
                    have e88 : fa.tmps[88]?.getD undef = .bool false := (ev.new 88 rfl).trans h88
                    have h115 : fx 115 = .bool false := hd.2.1
                    have e115 : fa.tmps[115]?.getD undef = .bool false := (ev.new 115 rfl).trans h115
                    refine stepF_un rfl (fun K hK => ?_)
                    go_simp
                    exact hK _ _ rfl (Kp.refl _ _)
                · intro fx w' hk hd
                  have h84 : fx 84 = .int .i64 (n : Int) := hd.1
                  have h85 : fx 85 = .slice (some ⟨g, 0, none⟩) r r := hd.2.1
                  have h86 : fx 86 = .bool true := hd.2.2.1
                  have h87 : fx 87 = .bool false := hd.2.2.2.1
                  have h88 : fx 88 = .bool false := hd.2.2.2.2.1
                  have h89 : fx 89 = .slice (some ⟨g, 0, none⟩) r r := hd.2.2.2.2.2.1
                  have h90 : fx 90 = .int .i64 (r : Int) := hd.2.2.2.2.2.2.1
                  have h91 : fx 91 = .bool false := hd.2.2.2.2.2.2.2.1
                  have h92 : fx 92 = .bool false := hd.2.2.2.2.2.2.2.2.1
                  have h93 : fx 93 = undef := hd.2.2.2.2.2.2.2.2.2.1
                  have h94 : fx 94 = undef := hd.2.2.2.2.2.2.2.2.2.2.1
                  have h95 : fx 95 = undef := hd.2.2.2.2.2.2.2.2.2.2.2.1
                  have h96 : fx 96 = undef := hd.2.2.2.2.2.2.2.2.2.2.2.2.1
                  have h97 : fx 97 = undef := hd.2.2.2.2.2.2.2.2.2.2.2.2.2.1
                  have h98 : fx 98 = undef := hd.2.2.2.2.2.2.2.2.2.2.2.2.2.2.1
                  have h99 : fx 99 = undef := hd.2.2.2.2.2.2.2.2.2.2.2.2.2.2.2.1
                  have h100 : fx 100 = undef := hd.2.2.2.2.2.2.2.2.2.2.2.2.2.2.2.2.1
                  have h101 : fx 101 = undef := hd.2.2.2.2.2.2.2.2.2.2.2.2.2.2.2.2.2.1
                  have h102 : fx 102 = undef := hd.2.2.2.2.2.2.2.2.2.2.2.2.2.2.2.2.2.2.1
                  have h103 : fx 103 = undef := hd.2.2.2.2.2.2.2.2.2.2.2.2.2.2.2.2.2.2.2.1
                  have h104 : fx 104 = undef := hd.2.2.2.2.2.2.2.2.2.2.2.2.2.2.2.2.2.2.2.2.1
                  have h105 : fx 105 = undef := hd.2.2.2.2.2.2.2.2.2.2.2.2.2.2.2.2.2.2.2.2.2.1
                  have h106 : fx 106 = undef := hd.2.2.2.2.2.2.2.2.2.2.2.2.2.2.2.2.2.2.2.2.2.2.1
                  have h107 : fx 107 = undef := hd.2.2.2.2.2.2.2.2.2.2.2.2.2.2.2.2.2.2.2.2.2.2.2.1
                  have h108 : fx 108 = undef := hd.2.2.2.2.2.2.2.2.2.2.2.2.2.2.2.2.2.2.2.2.2.2.2.2.1
                  have h109 : fx 109 = undef := hd.2.2.2.2.2.2.2.2.2.2.2.2.2.2.2.2.2.2.2.2.2.2.2.2.2.1
                  have h110 : fx 110 = undef := hd.2.2.2.2.2.2.2.2.2.2.2.2.2.2.2.2.2.2.2.2.2.2.2.2.2.2.1
                  have h111 : fx 111 = undef := hd.2.2.2.2.2.2.2.2.2.2.2.2.2.2.2.2.2.2.2.2.2.2.2.2.2.2.2.1
                  have h112 : fx 112 = undef := hd.2.2.2.2.2.2.2.2.2.2.2.2.2.2.2.2.2.2.2.2.2.2.2.2.2.2.2.2.1
                  have h113 : fx 113 = undef := hd.2.2.2.2.2.2.2.2.2.2.2.2.2.2.2.2.2.2.2.2.2.2.2.2.2.2.2.2.2.1
                  have h114 : fx 114 = undef := hd.2.2.2.2.2.2.2.2.2.2.2.2.2.2.2.2.2.2.2.2.2.2.2.2.2.2.2.2.2.2.1
                  have h115 : fx 115 = .bool false := hd.2.2.2.2.2.2.2.2.2.2.2.2.2.2.2.2.2.2.2.2.2.2.2.2.2.2.2.2.2.2.2.1
                  have h116 : fx 116 = .bool false := hd.2.2.2.2.2.2.2.2.2.2.2.2.2.2.2.2.2.2.2.2.2.2.2.2.2.2.2.2.2.2.2.2.1
                  replace HK := Lib.hid (HK.out.kp0 hk)
                  rw [h116]
                  clear hk hd
                  go_wp2_with fail
                  exact ⟨⟨n + 1, by go_num, by omega, HK⟩, by simp [intOf]; omega⟩
              · obtain ⟨r1, hr1⟩ : ∃ r1, r1 = r - 1 := ⟨_, rfl⟩
                obtain ⟨m8, hm8⟩ : ∃ m8, m8 = 8 * r := ⟨_, rfl⟩
                obtain ⟨n9, hn9⟩ : ∃ n9, n9 = n % 9 := ⟨_, rfl⟩
                obtain ⟨n8, hn8⟩ : ∃ n8, n8 = n % 8 := ⟨_, rfl⟩
                obtain ⟨T, hT⟩ : ∃ T, T = 2 ^ n8 := ⟨_, rfl⟩
                have hTb : T ≤ 128 := by
                  have : n8 ≤ 7 := by omega
                  have h2 := Nat.pow_le_pow_right (n := 2) (by omega) this
                  rw [hT]; exact h2
                have hs1 : IntKind.i64.wrap ((r : Int) - 1) = (r1 : Int) := by rw [IntKind.wrap_i64]; omega
                have hs2 : IntKind.i64.wrap (8 * (r : Int)) = (m8 : Int) := by rw [IntKind.wrap_i64]; omega
                have hd9 : (n : Int).tmod 9 = (n9 : Int) := by rw [Int.tmod_eq_emod_of_nonneg (by omega)]; omega
                have hd8 : (n : Int).tmod 8 = (n8 : Int) := by rw [Int.tmod_eq_emod_of_nonneg (by omega)]; omega
                have hw9 : IntKind.i64.wrap (n9 : Int) = (n9 : Int) := by rw [IntKind.wrap_i64]; omega
                have hw8 : IntKind.i64.wrap (n8 : Int) = (n8 : Int) := by rw [IntKind.wrap_i64]; omega
                have hs3 : IntKind.i64.wrap ((m8 : Int) - (n9 : Int)) = (m8 : Int) - (n9 : Int) := by rw [IntKind.wrap_i64]; omega
                have HR1 := Lib.hid (show r = r1 + 1 by omega)
                have hr10 : (0 : Int) ≤ (r1 : Int) := by omega
                have hr1r : (r1 : Int) ≤ (r : Int) := by omega
                have hr1n : r1 ≤ r := by omega
                have hr00 : (0 : Int) < (r : Int) := by omega
                have hn80 : (0 : Int) ≤ (n8 : Int) := by omega
                have HTT := Lib.hid hT
                have hn8b : n8 ≤ 7 := by omega
                clear hr0 hm8 hn9 hn8 hT hr1
                have HXR := Lib.hid (show Rd w8 w8.heap.size (some ⟨g, 0, none⟩) ((List.replicate r1 (0 : Int)).map (.int .u8)) by
                  have h := HX.out.rd HX.out.lt
                  rw [HR1.out, List.replicate_succ', List.map_append] at h
                  have h2 := h.take ((List.replicate r1 (0 : Int)).map (Value.int .u8)).length
                  rwa [List.take_left'] at h2
                  rfl)
                have HRT := Lib.hid (show ∀ x ∈ List.replicate r1 (0 : Int) ++ [(T : Int)], 0 ≤ x ∧ x ≤ 255 from fun x hx => by
                  rcases List.mem_append.1 hx with h | h
                  · rw [List.eq_of_mem_replicate h]; omega
                  · simp only [List.mem_singleton] at h; subst h; omega)
                have hr00n : decide (0 < r) = true := by rw [decide_eq_true_iff]; omega
                have hu8 : IntKind.u8.wrap (2 ^ min n8 8) = (T : Int) := by
                  rw [show min n8 8 = n8 from by omega, show (2 : Int) ^ n8 = (T : Int) from by rw [HTT.out]; simp]
                  simp [IntKind.wrap, IntKind.bits, IntKind.signed]; omega
                have hu9 : IntKind.u8.wrap (2 ^ n8) = (T : Int) := by rw [← hu8, show min n8 8 = n8 from by omega]
                refine wp_region_facts (by kernel_rfl) 206 [84, 85, 86, 87, 88, 89, 90, 91, 92, 93, 94, 95, 96, 97, 98, 99, 100, 101, 102, 103, 104, 105, 106, 107, 108, 109, 110, 111, 112, 113, 114, 115, 116] [[], [], [84, 85], [86], [87], [88], [89, 88], [90, 88], [91, 88], [92], [93, 92], [94, 92], [92], [96, 92], [95, 97, 92], [92], [92], [100, 92], [101, 92], [92], [103, 92], [104, 92], [99, 102, 105, 92], [92], [107, 92], [108, 92], [109, 92], [106, 110, 92], [92], [98, 111, 112, 92], [113, 92], [92, 114, 88], [88, 115]] (by kernel_rfl) (by kernel_rfl) rfl (factOf [(84, .eq (.int .i64 (n : Int))), (85, .eq (.slice (some ⟨g, 0, none⟩) r r)), (86, .eq (.bool true)), (87, .eq (.bool false)), (88, .eq (.bool false)), (89, .eq (.slice (some ⟨g, 0, none⟩) r r)), (90, .eq (.int .i64 (r : Int))), (91, .eq (.bool true)), (92, .eq (.bool true)), (93, .eq (.slice (some ⟨g, 0, none⟩) r r)), (94, .eq (.int .i64 (r : Int))), (95, .eq (.int .i64 (m8 : Int))), (96, .eq (.int .i64 (n : Int))), (97, .eq (.int .i64 (n9 : Int))), (98, .eq (.int .i64 ((m8 : Int) - (n9 : Int)))), (99, .eq (.slice (some ⟨g, 0, none⟩) r r)), (100, .eq (.slice (some ⟨g, 0, none⟩) r r)), (101, .eq (.int .i64 (r : Int))), (102, .eq (.int .i64 (r1 : Int))), (103, .eq (.slice (some ⟨g, 0, none⟩) r r)), (104, .eq (.int .i64 (r : Int))), (105, .eq (.int .i64 (r1 : Int))), (106, .eq (.slice (some ⟨g, 0, none⟩) r1 r1)), (107, .eq (.int .i64 (n : Int))), (108, .eq (.int .i64 (n8 : Int))), (109, .eq (.int .u8 (T : Int))), (110, .rd .u8 ([(T : Int)])), (111, .rd .u8 (List.replicate r1 (0 : Int) ++ [(T : Int)])), (112, .eq (.int .i64 (n : Int))), (113, .eq (.bool true)), (114, .eq (.bool false)), (115, .eq (.bool false)), (116, .eq (.bool false))]) (factOf_stable _) _ (fun x => by simp only [fillL, Nat.reduceAdd, Nat.reduceEqDiff, ↓reduceIte]; rfl) ?_ ?_
                · refine ⟨?_, ?_, ?_, ?_, ?_, ?_, ?_, ?_, ?_, ?_, ?_, ?_, ?_, ?_, ?_, ?_, ?_, ?_, ?_, ?_, ?_, ?_, ?_, ?_, ?_, ?_, ?_, ?_, ?_, ?_, ?_, ?_, ?_, trivial⟩
                  · intro fx w' fa hk hd ev  -- 84 = Op.move (Operand.tmp 1)
                    have e1 : fa.tmps[1]?.getD undef = .int .i64 (n : Int) := ev.old 1 rfl
                    refine stepF_un rfl (fun K hK => ?_)
                    exact stepF_val _ hK (run_move rfl e1 _) rfl
                  · intro fx w' fa hk hd ev  -- 85 = Op.move (Operand.tmp 6)
                    have e6 : fa.tmps[6]?.getD undef = .slice (some ⟨g, 0, none⟩) r r := ev.old 6 rfl
                    refine stepF_un rfl (fun K hK => ?_)
                    exact stepF_val _ hK (run_move rfl e6 _) rfl
                  · intro fx w' fa hk hd ev  -- 86 = Op.call { callee := Callee.value (Operand.func 4), args := #
                    have h84 : fx 84 = .int .i64 (n : Int) := hd.1
                    have e84 : fa.tmps[84]?.getD undef = .int .i64 (n : Int) := (ev.new 84 rfl).trans h84
                    have h85 : fx 85 = .slice (some ⟨g, 0, none⟩) r r := hd.2.1
                    have e85 : fa.tmps[85]?.getD undef = .slice (some ⟨g, 0, none⟩) r r := (ev.new 85 rfl).trans h85
                    refine stepF_un rfl (fun K hK => ?_)
                    go_simp
                    refine (bitsread_any (n : Int) (some ⟨g, 0, none⟩) r r 0 (List.replicate r (0 : Int)) w' ((HX.out.kp0 hk).rd (HX.out.kp0 hk).lt) HRL.out HR0.out (HT.out.kp0 (HK.out.kp0 hk))).mono ?_
                    rintro e w1 ⟨rfl, hk1⟩
                    exact hK _ _ rfl hk1
                  · intro fx w' fa hk hd ev  -- 87 = Op.unOp UnOp.not 4 (Operand.tmp 86)
                    have h86 : fx 86 = .bool true := hd.1
                    have e86 : fa.tmps[86]?.getD undef = .bool true := (ev.new 86 rfl).trans h86
                    refine stepF_un rfl (fun K hK => ?_)
                    go_simp
                    exact hK _ _ rfl (Kp.refl _ _)
                  · intro fx w' fa hk hd ev  -- 88 = Op.move (Operand.tmp 87)
                    have h87 : fx 87 = .bool false := hd.1
                    have e87 : fa.tmps[87]?.getD undef = .bool false := (ev.new 87 rfl).trans h87
                    refine stepF_un rfl (fun K hK => ?_)
                    exact stepF_val _ hK (run_move rfl e87 _) rfl
                  · intro fx w' fa hk hd ev  -- 89 = Op.move (Operand.tmp 6)
                    have h88 : fx 88 = .bool false := hd.1
                    have e88 : fa.tmps[88]?.getD undef = .bool false := (ev.new 88 rfl).trans h88
                    have e6 : fa.tmps[6]?.getD undef = .slice (some ⟨g, 0, none⟩) r r := ev.old 6 rfl
                    refine stepF_yes (i := 4) (g := 88) (b := false) rfl rfl rfl e88 (fun K hK => ?_)
                    exact stepF_val _ hK (run_move rfl e6 _) rfl
                  · intro fx w' fa hk hd ev  -- 90 = Op.call { callee := Callee.builtin Builtin.len, args := #[Op
                    have h89 : fx 89 = .slice (some ⟨g, 0, none⟩) r r := hd.1
                    have e89 : fa.tmps[89]?.getD undef = .slice (some ⟨g, 0, none⟩) r r := (ev.new 89 rfl).trans h89
                    have h88 : fx 88 = .bool false := hd.2.1
                    have e88 : fa.tmps[88]?.getD undef = .bool false := (ev.new 88 rfl).trans h88
                    refine stepF_yes (i := 4) (g := 88) (b := false) rfl rfl rfl e88 (fun K hK => ?_)
                    go_simp
                    exact hK _ _ rfl (Kp.refl _ _)
                  · intro fx w' fa hk hd ev  -- 91 = Op.binOp BinOp.gtr 3 (Operand.tmp 90) (Operand.const (Value.
                    have h90 : fx 90 = .int .i64 (r : Int) := hd.1
                    have e90 : fa.tmps[90]?.getD undef = .int .i64 (r : Int) := (ev.new 90 rfl).trans h90
                    have h88 : fx 88 = .bool false := hd.2.1
                    have e88 : fa.tmps[88]?.getD undef = .bool false := (ev.new 88 rfl).trans h88
                    refine stepF_yes (i := 4) (g := 88) (b := false) rfl rfl rfl e88 (fun K hK => ?_)
                    go_simp
                    exact hK _ _ rfl (Kp.refl _ _)
                  · intro fx w' fa hk hd ev  -- 92 = Op.move (Operand.tmp 91)
                    have h91 : fx 91 = .bool true := hd.1
                    have e91 : fa.tmps[91]?.getD undef = .bool true := (ev.new 91 rfl).trans h91
                    have h88 : fx 88 = .bool false := hd.2.1
                    have e88 : fa.tmps[88]?.getD undef = .bool false := (ev.new 88 rfl).trans h88
                    refine stepF_yes (i := 4) (g := 88) (b := false) rfl rfl rfl e88 (fun K hK => ?_)
                    exact stepF_val _ hK (run_move rfl e91 _) rfl
                  · intro fx w' fa hk hd ev  -- 93 = Op.move (Operand.tmp 6)
                    have h92 : fx 92 = .bool true := hd.1
                    have e92 : fa.tmps[92]?.getD undef = .bool true := (ev.new 92 rfl).trans h92
                    have e6 : fa.tmps[6]?.getD undef = .slice (some ⟨g, 0, none⟩) r r := ev.old 6 rfl
                    refine stepF_yes (i := 8) (g := 92) (b := true) rfl rfl rfl e92 (fun K hK => ?_)
                    exact stepF_val _ hK (run_move rfl e6 _) rfl
                  · intro fx w' fa hk hd ev  -- 94 = Op.call { callee := Callee.builtin Builtin.len, args := #[Op
                    have h93 : fx 93 = .slice (some ⟨g, 0, none⟩) r r := hd.1
                    have e93 : fa.tmps[93]?.getD undef = .slice (some ⟨g, 0, none⟩) r r := (ev.new 93 rfl).trans h93
                    have h92 : fx 92 = .bool true := hd.2.1
                    have e92 : fa.tmps[92]?.getD undef = .bool true := (ev.new 92 rfl).trans h92
                    refine stepF_yes (i := 8) (g := 92) (b := true) rfl rfl rfl e92 (fun K hK => ?_)
                    go_simp
                    exact hK _ _ rfl (Kp.refl _ _)
                  · intro fx w' fa hk hd ev  -- 95 = Op.binOp BinOp.mul 3 (Operand.const (Value.int IntKind.i64 8
                    have h94 : fx 94 = .int .i64 (r : Int) := hd.1
                    have e94 : fa.tmps[94]?.getD undef = .int .i64 (r : Int) := (ev.new 94 rfl).trans h94
                    have h92 : fx 92 = .bool true := hd.2.1
                    have e92 : fa.tmps[92]?.getD undef = .bool true := (ev.new 92 rfl).trans h92
                    refine stepF_yes (i := 8) (g := 92) (b := true) rfl rfl rfl e92 (fun K hK => ?_)
                    go_simp
                    exact hK _ _ rfl (Kp.refl _ _)
                  · intro fx w' fa hk hd ev  -- 96 = Op.move (Operand.tmp 1)
                    have h92 : fx 92 = .bool true := hd.1
                    have e92 : fa.tmps[92]?.getD undef = .bool true := (ev.new 92 rfl).trans h92
                    have e1 : fa.tmps[1]?.getD undef = .int .i64 (n : Int) := ev.old 1 rfl
                    refine stepF_yes (i := 8) (g := 92) (b := true) rfl rfl rfl e92 (fun K hK => ?_)
                    exact stepF_val _ hK (run_move rfl e1 _) rfl
                  · intro fx w' fa hk hd ev  -- 97 = Op.binOp BinOp.rem 3 (Operand.tmp 96) (Operand.const (Value.
                    have h96 : fx 96 = .int .i64 (n : Int) := hd.1
                    have e96 : fa.tmps[96]?.getD undef = .int .i64 (n : Int) := (ev.new 96 rfl).trans h96
                    have h92 : fx 92 = .bool true := hd.2.1
                    have e92 : fa.tmps[92]?.getD undef = .bool true := (ev.new 92 rfl).trans h92
                    refine stepF_yes (i := 8) (g := 92) (b := true) rfl rfl rfl e92 (fun K hK => ?_)
                    go_simp
                    exact hK _ _ rfl (Kp.refl _ _)
                  · intro fx w' fa hk hd ev  -- 98 = Op.binOp BinOp.sub 3 (Operand.tmp 95) (Operand.tmp 97) 3
                    have h95 : fx 95 = .int .i64 (m8 : Int) := hd.1
                    have e95 : fa.tmps[95]?.getD undef = .int .i64 (m8 : Int) := (ev.new 95 rfl).trans h95
                    have h97 : fx 97 = .int .i64 (n9 : Int) := hd.2.1
                    have e97 : fa.tmps[97]?.getD undef = .int .i64 (n9 : Int) := (ev.new 97 rfl).trans h97
                    have h92 : fx 92 = .bool true := hd.2.2.1
                    have e92 : fa.tmps[92]?.getD undef = .bool true := (ev.new 92 rfl).trans h92
                    refine stepF_yes (i := 8) (g := 92) (b := true) rfl rfl rfl e92 (fun K hK => ?_)
                    go_simp
                    exact hK _ _ rfl (Kp.refl _ _)
                  · intro fx w' fa hk hd ev  -- 99 = Op.move (Operand.tmp 6)
                    have h92 : fx 92 = .bool true := hd.1
                    have e92 : fa.tmps[92]?.getD undef = .bool true := (ev.new 92 rfl).trans h92
                    have e6 : fa.tmps[6]?.getD undef = .slice (some ⟨g, 0, none⟩) r r := ev.old 6 rfl
                    refine stepF_yes (i := 8) (g := 92) (b := true) rfl rfl rfl e92 (fun K hK => ?_)
                    exact stepF_val _ hK (run_move rfl e6 _) rfl
                  · intro fx w' fa hk hd ev  -- 100 = Op.move (Operand.tmp 6)
                    have h92 : fx 92 = .bool true := hd.1
                    have e92 : fa.tmps[92]?.getD undef = .bool true := (ev.new 92 rfl).trans h92
                    have e6 : fa.tmps[6]?.getD undef = .slice (some ⟨g, 0, none⟩) r r := ev.old 6 rfl
                    refine stepF_yes (i := 8) (g := 92) (b := true) rfl rfl rfl e92 (fun K hK => ?_)
                    exact stepF_val _ hK (run_move rfl e6 _) rfl
                  · intro fx w' fa hk hd ev  -- 101 = Op.call { callee := Callee.builtin Builtin.len, args := #[Op
                    have h100 : fx 100 = .slice (some ⟨g, 0, none⟩) r r := hd.1
                    have e100 : fa.tmps[100]?.getD undef = .slice (some ⟨g, 0, none⟩) r r := (ev.new 100 rfl).trans h100
                    have h92 : fx 92 = .bool true := hd.2.1
                    have e92 : fa.tmps[92]?.getD undef = .bool true := (ev.new 92 rfl).trans h92
                    refine stepF_yes (i := 8) (g := 92) (b := true) rfl rfl rfl e92 (fun K hK => ?_)
                    go_simp
                    exact hK _ _ rfl (Kp.refl _ _)
                  · intro fx w' fa hk hd ev  -- 102 = Op.binOp BinOp.sub 3 (Operand.tmp 101) (Operand.const (Value
                    have h101 : fx 101 = .int .i64 (r : Int) := hd.1
                    have e101 : fa.tmps[101]?.getD undef = .int .i64 (r : Int) := (ev.new 101 rfl).trans h101
                    have h92 : fx 92 = .bool true := hd.2.1
                    have e92 : fa.tmps[92]?.getD undef = .bool true := (ev.new 92 rfl).trans h92
                    refine stepF_yes (i := 8) (g := 92) (b := true) rfl rfl rfl e92 (fun K hK => ?_)
                    go_simp
                    exact hK _ _ rfl (Kp.refl _ _)
                  · intro fx w' fa hk hd ev  -- 103 = Op.move (Operand.tmp 6)
                    have h92 : fx 92 = .bool true := hd.1
                    have e92 : fa.tmps[92]?.getD undef = .bool true := (ev.new 92 rfl).trans h92
                    have e6 : fa.tmps[6]?.getD undef = .slice (some ⟨g, 0, none⟩) r r := ev.old 6 rfl
                    refine stepF_yes (i := 8) (g := 92) (b := true) rfl rfl rfl e92 (fun K hK => ?_)
                    exact stepF_val _ hK (run_move rfl e6 _) rfl
                  · intro fx w' fa hk hd ev  -- 104 = Op.call { callee := Callee.builtin Builtin.len, args := #[Op
                    have h103 : fx 103 = .slice (some ⟨g, 0, none⟩) r r := hd.1
                    have e103 : fa.tmps[103]?.getD undef = .slice (some ⟨g, 0, none⟩) r r := (ev.new 103 rfl).trans h103
                    have h92 : fx 92 = .bool true := hd.2.1
                    have e92 : fa.tmps[92]?.getD undef = .bool true := (ev.new 92 rfl).trans h92
                    refine stepF_yes (i := 8) (g := 92) (b := true) rfl rfl rfl e92 (fun K hK => ?_)
                    go_simp
                    exact hK _ _ rfl (Kp.refl _ _)
                  · intro fx w' fa hk hd ev  -- 105 = Op.binOp BinOp.sub 3 (Operand.tmp 104) (Operand.const (Value
                    have h104 : fx 104 = .int .i64 (r : Int) := hd.1
                    have e104 : fa.tmps[104]?.getD undef = .int .i64 (r : Int) := (ev.new 104 rfl).trans h104
                    have h92 : fx 92 = .bool true := hd.2.1
                    have e92 : fa.tmps[92]?.getD undef = .bool true := (ev.new 92 rfl).trans h92
                    refine stepF_yes (i := 8) (g := 92) (b := true) rfl rfl rfl e92 (fun K hK => ?_)
                    go_simp
                    exact hK _ _ rfl (Kp.refl _ _)
                  · intro fx w' fa hk hd ev  -- 106 = Op.slice 34 (Operand.tmp 99) none (some (Operand.tmp 102)) (
                    have h99 : fx 99 = .slice (some ⟨g, 0, none⟩) r r := hd.1
                    have e99 : fa.tmps[99]?.getD undef = .slice (some ⟨g, 0, none⟩) r r := (ev.new 99 rfl).trans h99
                    have h102 : fx 102 = .int .i64 (r1 : Int) := hd.2.1
                    have e102 : fa.tmps[102]?.getD undef = .int .i64 (r1 : Int) := (ev.new 102 rfl).trans h102
                    have h105 : fx 105 = .int .i64 (r1 : Int) := hd.2.2.1
                    have e105 : fa.tmps[105]?.getD undef = .int .i64 (r1 : Int) := (ev.new 105 rfl).trans h105
                    have h92 : fx 92 = .bool true := hd.2.2.2.1
                    have e92 : fa.tmps[92]?.getD undef = .bool true := (ev.new 92 rfl).trans h92
                    refine stepF_yes (i := 8) (g := 92) (b := true) rfl rfl rfl e92 (fun K hK => ?_)
                    go_simp
                    exact hK _ _ rfl (Kp.refl _ _)
                  · intro fx w' fa hk hd ev  -- 107 = Op.move (Operand.tmp 1)
                    have h92 : fx 92 = .bool true := hd.1
                    have e92 : fa.tmps[92]?.getD undef = .bool true := (ev.new 92 rfl).trans h92
                    have e1 : fa.tmps[1]?.getD undef = .int .i64 (n : Int) := ev.old 1 rfl
                    refine stepF_yes (i := 8) (g := 92) (b := true) rfl rfl rfl e92 (fun K hK => ?_)
                    exact stepF_val _ hK (run_move rfl e1 _) rfl
                  · intro fx w' fa hk hd ev  -- 108 = Op.binOp BinOp.rem 3 (Operand.tmp 107) (Operand.const (Value
                    have h107 : fx 107 = .int .i64 (n : Int) := hd.1
                    have e107 : fa.tmps[107]?.getD undef = .int .i64 (n : Int) := (ev.new 107 rfl).trans h107
                    have h92 : fx 92 = .bool true := hd.2.1
                    have e92 : fa.tmps[92]?.getD undef = .bool true := (ev.new 92 rfl).trans h92
                    refine stepF_yes (i := 8) (g := 92) (b := true) rfl rfl rfl e92 (fun K hK => ?_)
                    go_simp
                    exact hK _ _ rfl (Kp.refl _ _)
                  · intro fx w' fa hk hd ev  -- 109 = Op.binOp BinOp.shl 5 (Operand.const (Value.int IntKind.u8 1)
                    have h108 : fx 108 = .int .i64 (n8 : Int) := hd.1
                    have e108 : fa.tmps[108]?.getD undef = .int .i64 (n8 : Int) := (ev.new 108 rfl).trans h108
                    have h92 : fx 92 = .bool true := hd.2.1
                    have e92 : fa.tmps[92]?.getD undef = .bool true := (ev.new 92 rfl).trans h92
                    refine stepF_yes (i := 8) (g := 92) (b := true) rfl rfl rfl e92 (fun K hK => ?_)
                    go_simp
                    exact hK _ _ rfl (Kp.refl _ _)
                  · intro fx w' fa hk hd ev  -- 110 = Op.buildSlice 34 1 #[(0, Operand.tmp 109)]
                    have h109 : fx 109 = .int .u8 (T : Int) := hd.1
                    have e109 : fa.tmps[109]?.getD undef = .int .u8 (T : Int) := (ev.new 109 rfl).trans h109
                    have h92 : fx 92 = .bool true := hd.2.1
                    have e92 : fa.tmps[92]?.getD undef = .bool true := (ev.new 92 rfl).trans h92
                    refine stepF_yes (i := 8) (g := 92) (b := true) rfl rfl rfl e92 (fun K hK => ?_)
                    go_simp
                    exact hK _ _ (IsRd.new w' .u8 [(T : Int)] 5 1 rfl) ((Kp.refl _ _).alloc _)
                  · intro fx w' fa hk hd ev  -- 111 = Op.call { callee := Callee.builtin Builtin.append, args := #
                    have h106 : fx 106 = .slice (some ⟨g, 0, none⟩) r1 r1 := hd.1
                    have e106 : fa.tmps[106]?.getD undef = .slice (some ⟨g, 0, none⟩) r1 r1 := (ev.new 106 rfl).trans h106
                    have h110 : IsRd .u8 ([(T : Int)]) (fx 110) w' := hd.2.1
                    obtain ⟨A110, c110, v110, hc110, hr110⟩ := h110.len (n := 1) rfl
                    have e110 : fa.tmps[110]?.getD undef = .slice A110 (1) c110 := (ev.new 110 rfl).trans v110
                    have h92 : fx 92 = .bool true := hd.2.2.1
                    have e92 : fa.tmps[92]?.getD undef = .bool true := (ev.new 92 rfl).trans h92
                    refine stepF_yes (i := 8) (g := 92) (b := true) rfl rfl rfl e92 (fun K hK => ?_)
                    obtain ⟨ad110, rfl⟩ := (show ∃ ad, A110 = some ad from by obtain ⟨ad, h, _⟩ := hr110.at_ (i := 0) rfl; exact ⟨ad, h⟩)
                    exact wp_append_grow_rd hK 106 110 34 rfl .u8 5 i1 (.int .u8 0) 1 Tryd.underlying34 hu hu0 hu1 hu2 rfl _ r1 r1 _ _ (List.replicate r1 (0 : Int)) e106 (fun h => by cases h) List.length_replicate (HXR.out.kp0 hk) ad110 1 c110 [(T : Int)] e110 rfl hr110 (by omega) (by unfold maxLen; omega) (by omega) (fun v' w' h1 h2 => h1)
                  · intro fx w' fa hk hd ev  -- 112 = Op.move (Operand.tmp 1)
                    have h92 : fx 92 = .bool true := hd.1
                    have e92 : fa.tmps[92]?.getD undef = .bool true := (ev.new 92 rfl).trans h92
                    have e1 : fa.tmps[1]?.getD undef = .int .i64 (n : Int) := ev.old 1 rfl
                    refine stepF_yes (i := 8) (g := 92) (b := true) rfl rfl rfl e92 (fun K hK => ?_)
                    exact stepF_val _ hK (run_move rfl e1 _) rfl
                  · intro fx w' fa hk hd ev  -- 113 = Op.call { callee := Callee.value (Operand.func 4), args := #
                    have h98 : fx 98 = .int .i64 ((m8 : Int) - (n9 : Int)) := hd.1
                    have e98 : fa.tmps[98]?.getD undef = .int .i64 ((m8 : Int) - (n9 : Int)) := (ev.new 98 rfl).trans h98
                    have h111 : IsRd .u8 (List.replicate r1 (0 : Int) ++ [(T : Int)]) (fx 111) w' := hd.2.1
                    obtain ⟨A111, c111, v111, hc111, hr111⟩ := h111.len (n := r) (by rw [List.length_append, List.length_replicate, HR1.out]; rfl)
                    have e111 : fa.tmps[111]?.getD undef = .slice A111 (r) c111 := (ev.new 111 rfl).trans v111
                    have h112 : fx 112 = .int .i64 (n : Int) := hd.2.2.1
                    have e112 : fa.tmps[112]?.getD undef = .int .i64 (n : Int) := (ev.new 112 rfl).trans h112
                    have h92 : fx 92 = .bool true := hd.2.2.2.1
                    have e92 : fa.tmps[92]?.getD undef = .bool true := (ev.new 92 rfl).trans h92
                    refine stepF_yes (i := 8) (g := 92) (b := true) rfl rfl rfl e92 (fun K hK => ?_)
                    go_simp
                    refine (bitsread_any ((m8 : Int) - (n9 : Int)) A111 r c111 (n : Int) (List.replicate r1 (0 : Int) ++ [(T : Int)]) w' hr111 (by rw [List.length_append, List.length_replicate, HR1.out]; rfl) HRT.out (HT.out.kp0 (HK.out.kp0 hk))).mono ?_
                    rintro e w1 ⟨rfl, hk1⟩
                    exact hK _ _ rfl hk1
                  · intro fx w' fa hk hd ev  -- 114 = Op.unOp UnOp.not 4 (Operand.tmp 113)
                    have h113 : fx 113 = .bool true := hd.1
                    have e113 : fa.tmps[113]?.getD undef = .bool true := (ev.new 113 rfl).trans h113
                    have h92 : fx 92 = .bool true := hd.2.1
                    have e92 : fa.tmps[92]?.getD undef = .bool true := (ev.new 92 rfl).trans h92
                    refine stepF_yes (i := 8) (g := 92) (b := true) rfl rfl rfl e92 (fun K hK => ?_)
                    go_simp
                    exact hK _ _ rfl (Kp.refl _ _)
                  · intro fx w' fa hk hd ev  -- 115 = Op.pick (Operand.tmp 92) (Operand.tmp 114) (Operand.const (V
                    have h92 : fx 92 = .bool true := hd.1
                    have e92 : fa.tmps[92]?.getD undef = .bool true := (ev.new 92 rfl).trans h92
                    have h114 : fx 114 = .bool false := hd.2.1
                    have e114 : fa.tmps[114]?.getD undef = .bool false := (ev.new 114 rfl).trans h114
                    have h88 : fx 88 = .bool false := hd.2.2.1
                    have e88 : fa.tmps[88]?.getD undef = .bool false := (ev.new 88 rfl).trans h88
                    refine stepF_yes (i := 4) (g := 88) (b := false) rfl rfl rfl e88 (fun K hK => ?_)
                    go_simp
                    exact hK _ _ rfl (Kp.refl _ _)
                  · intro fx w' fa hk hd ev  -- 116 = Op.pick (Operand.tmp 88) (Operand.const (Value.bool true)) (
                    have h88 : fx 88 = .bool false := hd.1
                    have e88 : fa.tmps[88]?.getD undef = .bool false := (ev.new 88 rfl).trans h88
                    have h115 : fx 115 = .bool false := hd.2.1
                    have e115 : fa.tmps[115]?.getD undef = .bool false := (ev.new 115 rfl).trans h115
                    refine stepF_un rfl (fun K hK => ?_)
                    go_simp
                    exact hK _ _ rfl (Kp.refl _ _)
                · intro fx w' hk hd
                  have h84 : fx 84 = .int .i64 (n : Int) := hd.1
                  have h85 : fx 85 = .slice (some ⟨g, 0, none⟩) r r := hd.2.1
                  have h86 : fx 86 = .bool true := hd.2.2.1
                  have h87 : fx 87 = .bool false := hd.2.2.2.1
                  have h88 : fx 88 = .bool false := hd.2.2.2.2.1
                  have h89 : fx 89 = .slice (some ⟨g, 0, none⟩) r r := hd.2.2.2.2.2.1
                  have h90 : fx 90 = .int .i64 (r : Int) := hd.2.2.2.2.2.2.1
                  have h91 : fx 91 = .bool true := hd.2.2.2.2.2.2.2.1
                  have h92 : fx 92 = .bool true := hd.2.2.2.2.2.2.2.2.1
                  have h93 : fx 93 = .slice (some ⟨g, 0, none⟩) r r := hd.2.2.2.2.2.2.2.2.2.1
                  have h94 : fx 94 = .int .i64 (r : Int) := hd.2.2.2.2.2.2.2.2.2.2.1
                  have h95 : fx 95 = .int .i64 (m8 : Int) := hd.2.2.2.2.2.2.2.2.2.2.2.1
                  have h96 : fx 96 = .int .i64 (n : Int) := hd.2.2.2.2.2.2.2.2.2.2.2.2.1
                  have h97 : fx 97 = .int .i64 (n9 : Int) := hd.2.2.2.2.2.2.2.2.2.2.2.2.2.1
                  have h98 : fx 98 = .int .i64 ((m8 : Int) - (n9 : Int)) := hd.2.2.2.2.2.2.2.2.2.2.2.2.2.2.1
                  have h99 : fx 99 = .slice (some ⟨g, 0, none⟩) r r := hd.2.2.2.2.2.2.2.2.2.2.2.2.2.2.2.1
                  have h100 : fx 100 = .slice (some ⟨g, 0, none⟩) r r := hd.2.2.2.2.2.2.2.2.2.2.2.2.2.2.2.2.1
                  have h101 : fx 101 = .int .i64 (r : Int) := hd.2.2.2.2.2.2.2.2.2.2.2.2.2.2.2.2.2.1
                  have h102 : fx 102 = .int .i64 (r1 : Int) := hd.2.2.2.2.2.2.2.2.2.2.2.2.2.2.2.2.2.2.1
                  have h103 : fx 103 = .slice (some ⟨g, 0, none⟩) r r := hd.2.2.2.2.2.2.2.2.2.2.2.2.2.2.2.2.2.2.2.1
                  have h104 : fx 104 = .int .i64 (r : Int) := hd.2.2.2.2.2.2.2.2.2.2.2.2.2.2.2.2.2.2.2.2.1
                  have h105 : fx 105 = .int .i64 (r1 : Int) := hd.2.2.2.2.2.2.2.2.2.2.2.2.2.2.2.2.2.2.2.2.2.1
                  have h106 : fx 106 = .slice (some ⟨g, 0, none⟩) r1 r1 := hd.2.2.2.2.2.2.2.2.2.2.2.2.2.2.2.2.2.2.2.2.2.2.1
                  have h107 : fx 107 = .int .i64 (n : Int) := hd.2.2.2.2.2.2.2.2.2.2.2.2.2.2.2.2.2.2.2.2.2.2.2.1
                  have h108 : fx 108 = .int .i64 (n8 : Int) := hd.2.2.2.2.2.2.2.2.2.2.2.2.2.2.2.2.2.2.2.2.2.2.2.2.1
                  have h109 : fx 109 = .int .u8 (T : Int) := hd.2.2.2.2.2.2.2.2.2.2.2.2.2.2.2.2.2.2.2.2.2.2.2.2.2.1
                  have h110 : IsRd .u8 ([(T : Int)]) (fx 110) w' := hd.2.2.2.2.2.2.2.2.2.2.2.2.2.2.2.2.2.2.2.2.2.2.2.2.2.2.1
                  have h111 : IsRd .u8 (List.replicate r1 (0 : Int) ++ [(T : Int)]) (fx 111) w' := hd.2.2.2.2.2.2.2.2.2.2.2.2.2.2.2.2.2.2.2.2.2.2.2.2.2.2.2.1
                  have h112 : fx 112 = .int .i64 (n : Int) := hd.2.2.2.2.2.2.2.2.2.2.2.2.2.2.2.2.2.2.2.2.2.2.2.2.2.2.2.2.1
                  have h113 : fx 113 = .bool true := hd.2.2.2.2.2.2.2.2.2.2.2.2.2.2.2.2.2.2.2.2.2.2.2.2.2.2.2.2.2.1
                  have h114 : fx 114 = .bool false := hd.2.2.2.2.2.2.2.2.2.2.2.2.2.2.2.2.2.2.2.2.2.2.2.2.2.2.2.2.2.2.1
                  have h115 : fx 115 = .bool false := hd.2.2.2.2.2.2.2.2.2.2.2.2.2.2.2.2.2.2.2.2.2.2.2.2.2.2.2.2.2.2.2.1
                  have h116 : fx 116 = .bool false := hd.2.2.2.2.2.2.2.2.2.2.2.2.2.2.2.2.2.2.2.2.2.2.2.2.2.2.2.2.2.2.2.2.1
                  replace HK := Lib.hid (HK.out.kp0 hk)
                  rw [h116]
                  clear hk hd
                  go_wp2_with fail
                  exact ⟨⟨n + 1, by go_num, by omega, HK⟩, by simp [intOf]; omega⟩
    · clear hi hz0 hz1 hz2 hu hu0 hu1 hu2
      go_wp2_with fail
      obtain ⟨w2, hw2⟩ : ∃ w2, w2 = wr.alloc (.cells #[.int .i64 (-9223372036854775808), .int .i64 (-1), .int .i64 0, .int .i64 1, .int .i64 8, .int .i64 9, .int .i64 16777217, .int .i64 9223372036854775807] 3) := ⟨_, rfl⟩
      obtain ⟨ge, hge⟩ : ∃ ge, ge = wr.heap.size := ⟨_, rfl⟩
      have HE := Lib.hid (show Rd w2 w2.heap.size (some ⟨ge, 0, none⟩) (([-9223372036854775808, -1, 0, 1, 8, 9, 16777217, 9223372036854775807] : List Int).map (.int .i64)) by rw [hw2]; exact rd_new' wr _ _ hge)
      have HB8 := Lib.hid (show ∀ x ∈ ([-9223372036854775808, -1, 0, 1, 8, 9, 16777217, 9223372036854775807] : List Int), -9223372036854775808 ≤ x ∧ x ≤ 9223372036854775807 by decide)
      replace HK := Lib.hid (show Kp [] w w2 by rw [hw2]; exact HK.out.alloc _)
      rw [← hw2, ← hge]
      clear hw2 hge
      go_loopw [8] (fun x wq => ∃ i : Nat, x = .int .i64 (i : Int) ∧ i ≤ 8 ∧ Hid (Kp [] w2 wq)) (fun x _ => 8 - (intOf x).toNat)
      case atStart => exact ⟨0, rfl, by omega, Lib.hid (Kp.refl _ _)⟩
      case round =>
        obtain ⟨i, rfl, hi, HK2⟩ := hrel
        by_cases hlt : i < 8
        · obtain ⟨x, ad, hxi, had, _, hcx0⟩ := HE.out.ix (i := i) (by show i < 8; exact hlt)
          injection had with had
          subst had
          rw [addr_lit_add, Nat.zero_add] at hcx0
          have hcx := HK2.out.cell hcx0 (by simp)
          have HCX0 := Lib.hid hcx0; clear hcx0
          have HXB := Lib.hid (HB8.out x (List.mem_of_getElem? hxi))
          clear hxi
          have hi0 : (0 : Int) ≤ (i : Int) := by omega
          have hi8 : (i : Int) < 8 := by omega
          by_cases hE : lenE x = 0
          · have hle := lenE_ok hE
            obtain ⟨n, rfl⟩ : ∃ n : Nat, x = (n : Int) := ⟨x.toNat, by omega⟩
            have hn16 : n ≤ 16777216 := by omega
            clear hE
            go_wp2_with fail
            refine (bnew_any n wr hn16).mono ?_
            rintro e w3 ⟨S, p, rfl, hv, hS, hk⟩
            have HSW := Lib.hid (show ∀ x ∈ S, w2.heap.size ≤ x from fun x hx => Nat.le_trans HK2.out.size (hS x hx))
            have hcx3 := hk.cell hcx (by simp)
            replace HK2 := Lib.hid (HK2.out.kp0 hk)
            have HV := Lib.hid hv; clear hv
            clear hS hk hcx
            go_wp2_with fail
            refine (rbnew_raw n w3 hn16).mono ?_
            rintro e w4 ⟨g, q, rfl, hg, hq, hgq, hbg, hbq, hk⟩
            have HR := Lib.hid (RefV.of_blk (List.length_replicate) (by unfold maxLen; omega) hbg hbq)
            have HTS := Lib.hid (show ∀ x ∈ [q, g], x ∉ S from fun x hx hm => by
              have h1 := HV.out.lt x hm
              simp only [List.mem_cons, List.not_mem_nil, or_false] at hx
              rcases hx with rfl | rfl <;> omega)
            have hcx4 := hk.cell hcx3 (by simp)
            replace HK2 := Lib.hid (HK2.out.kp0 hk)
            replace HV := Lib.hid (HV.out.kp0 hk)
            clear hk
            clear hg hq hgq hbg hbq hcx3
            have HT0 := Lib.hid (show Tab64 w4 from HT.out.kp0 (HK.out.kp0 HK2.out))
            have H0S := Lib.hid (show 0 ∉ S from fun h => by have h1 := HSW.out _ h; have h2 := HT.out.lt; have h3 := HK.out.size; omega)
            go_wp2_with fail
            refine (same_any S [q, g] p q 0 _ false w4 HV.out HR.out HTS.out HT0.out H0S.out).mono ?_
            rintro e w5 ⟨rfl, hk5, _⟩
            replace HK2 := Lib.hid (HK2.out.trans' hk5 (fun x hx => .inr (HSW.out x hx)))
            have hcx5 := HK2.out.cell HCX0.out (by simp)
            clear hk5 hcx4 HV HR HTS HT0 H0S HSW
            go_wp2_with fail
            refine (bitsread_any (n : Int) (some ⟨w5.heap.size, 0, none⟩) 1 1 0 [1] _ (rd_new' w5 #[.int .u8 1] 5 rfl) rfl (by decide) (HT.out.kp0 (HK.out.kp0 (HK2.out.alloc _)))).mono ?_
            rintro e w6 ⟨rfl, hk6⟩
            replace HK2 := Lib.hid ((HK2.out.alloc _).kp0 hk6)
            have hcx6 := HK2.out.cell HCX0.out (by simp)
            clear hk6 hcx5
            go_wp2_with fail
            refine (bitsread_any (n : Int) none 0 0 0 [] w6 (Rd.nil _ _ _) rfl (by decide) (HT.out.kp0 (HK.out.kp0 HK2.out))).mono ?_
            rintro e w7 ⟨rfl, hk7⟩
            replace HK2 := Lib.hid (HK2.out.kp0 hk7)
            clear hk7 hcx6
            go_wp2_with fail
            exact ⟨⟨i + 1, by go_num, by omega, HK2⟩, by simp [intOf]; omega⟩
          · obtain ⟨E, hEE⟩ : ∃ E, E = lenE x := ⟨_, rfl⟩
            have hE1 : (E == 0) = false := by rw [hEE]; simpa using hE
            have hE2 : (E != 0) = true := by rw [hEE]; simpa using hE
            have HNE := Lib.hid hE
            have HEE := Lib.hid hEE
            clear hE hEE
            go_wp2_with fail
            refine (bnew_no x wr HNE.out).mono ?_
            rw [← HEE.out]
            rintro e w3 ⟨rfl, rfl⟩
            go_wp2_with fail
            refine (rbnew_no x wr HNE.out).mono ?_
            rw [← HEE.out]
            rintro e w3 ⟨rfl, rfl⟩
            go_wp2_with fail
            refine (bitsread_any x (some ⟨wr.heap.size, 0, none⟩) 1 1 0 [1] _ (rd_new' wr #[.int .u8 1] 5 rfl) rfl (by decide) (HT.out.kp0 (HK.out.kp0 (HK2.out.alloc _)))).mono ?_
            rintro e w6 ⟨rfl, hk6⟩
            replace HK2 := Lib.hid ((HK2.out.alloc _).kp0 hk6)
            have hcx6 := HK2.out.cell HCX0.out (by simp)
            clear hk6 hcx
            go_wp2_with fail
            refine (bitsread_any x none 0 0 0 [] w6 (Rd.nil _ _ _) rfl (by decide) (HT.out.kp0 (HK.out.kp0 HK2.out))).mono ?_
            rintro e w7 ⟨rfl, hk7⟩
            replace HK2 := Lib.hid (HK2.out.kp0 hk7)
            clear hk7 hcx6
            go_wp2_with fail
            exact ⟨⟨i + 1, by go_num, by omega, HK2⟩, by simp [intOf]; omega⟩
        · obtain rfl : i = 8 := by omega
          obtain ⟨m, hm⟩ : ∃ m : Nat, m = 16777215 := ⟨_, rfl⟩
          have HM := Lib.hid hm
          have hmb : m + 1 ≤ 16777216 := by omega
          have HLN := Lib.hid (show (List.replicate (m + 1) false).length = m + 1 from List.length_replicate)
          have HBD := Lib.hid (show badL (m + 1) [(m : Int)] = false by simp [badL]; omega)
          clear hm
          replace HK := Lib.hid (HK.out.kp0 HK2.out)
          clear HK2 HE
          go_wp2_with fail
          have hnew := bnew_any (m + 1) wr hmb
          rw [show ((m + 1 : Nat) : Int) = 16777216 by have := HM.out; omega] at hnew
          refine hnew.mono ?_
          clear hnew
          rintro e w3 ⟨S, p, rfl, hv, hS, hk⟩
          have HSW := Lib.hid (show ∀ x ∈ S, w.heap.size ≤ x from fun x hx => Nat.le_trans HK.out.size (hS x hx))
          replace HK := Lib.hid (HK.out.kp0 hk)
          have HV := Lib.hid hv; clear hv
          clear hS hk
          go_wp2_with fail
          have hset := vset_any S p (m + 1) 1 1 _ true (some ⟨w3.heap.size, 0, none⟩) [(m : Int)] (List.replicate (m + 1) false) false _ (HV.out.kp0 ((Kp.refl [] w3).alloc (.cells #[.int .i64 (m : Int)] 3))) HLN.out (rd_new' w3 #[.int .i64 (m : Int)] 3 rfl) rfl (by omega) (fun ad h hm => by injection h with h; subst h; exact Nat.lt_irrefl _ (HV.out.lt _ hm))
          rw [HBD.out] at hset
          rw [show (m : Int) = 16777215 by have := HM.out; omega] at hset
          refine hset.mono ?_
          clear hset
          rintro e w4 (⟨hbad, _⟩ | ⟨_, rfl, hv4, hks⟩)
          · cases hbad
          rw [show (16777215 : Int) = (m : Int) by have := HM.out; omega] at hv4
          have hks2 : Kp S w3 w4 := ((Kp.refl S w3).alloc _).trans hks
          replace HK := Lib.hid (HK.out.trans' hks2 (fun x hx => .inr (HSW.out x hx)))
          have HV4 := Lib.hid (show VecM w4 S p ((List.replicate (m + 1) false).set m true) false from hv4)
          clear hks hks2 hv4 HV
          go_wp2_with fail
          have hrk := vrank_any S p ((m + 1 : Nat) : Int) _ false w4 HV4.out
          rw [rk1 m, show ((m + 1 : Nat) : Int) = 16777216 by have := HM.out; omega] at hrk
          refine hrk.mono ?_
          clear hrk
          rintro e w5 ⟨rfl, hp⟩
          obtain ⟨T, hv5, hk5, _, _⟩ := hp
          replace HK := Lib.hid (HK.out.trans' hk5 (fun x hx => .inr (HSW.out x hx)))
          have HV5 := Lib.hid hv5; clear hv5
          clear hk5 HV4
          go_wp2_with fail
          have hrk := qrank (m : Int) HV5.out (rk0 m)
          rw [show (m : Int) = 16777215 by have := HM.out; omega] at hrk
          refine hrk.mono ?_
          clear hrk
          rintro e w6 ⟨rfl, hk6⟩
          replace HK := Lib.hid (HK.out.kp0 hk6)
          clear hk6 HV5
          go_wp2_with fail
          refine (bnone_any w6).mono ?_
          rintro e w7 ⟨rfl, hk7⟩
          replace HK := Lib.hid (HK.out.kp0 hk7)
          clear hk7
          go_wp2_with fail
          refine (bawake_any w7 (HT.out.kp0 HK.out)).mono ?_
          rintro e w8 ⟨rfl, hk8⟩
          replace HK := Lib.hid (HK.out.kp0 hk8)
          clear hk8
          go_wp2_with fail
          go_ret
          exact ⟨rfl, HK.out⟩
end Go.Proofs.YtifdphkocjjbiaaDoor
