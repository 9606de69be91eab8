/-
  LAYER 3: NewReader; the document's reader: take, Next, Number.
  CONDITIONS: as each says.
-/
import Derived.Test.YtddmioaeehgkbaaDoorFrgam
namespace Go.Proofs.YtddmioaeehgkbaaDoor
open Go.RowKit

set_option maxRecDepth 100000 in
set_option maxHeartbeats 4000000 in
theorem rnew_no (S : List Nat) (q N : Nat) (at_ : Int) (bs : List Bool) (c : Bool) (w : World) (hv : VecM w S q bs c) (hN : bs.length = N) (h : at_ < 0 ∨ (N : Int) < at_) :
    Calls Tryd.prog 10 #[.pointer (some ⟨q, 0, none⟩), .int .i64 at_] w fun e w' => e = .returned (.tuple #[.pointer none, .int .i64 6]) ∧ VecM w' S q bs false ∧ Kp S w w' := by
  have HV := Lib.hid hv; clear hv
  have HN := Lib.hid hN; clear hN
  rcases h with h | h
  all_goals
    go_enter Tryd.func10, Tryd.ntmps10
    go_wp2_with fail
    refine (vset_any S q N 0 0 0 false none [] bs c w HV.out HN.out (Rd.nil _ _ _) rfl (by omega) (fun ad h => by cases h)).mono ?_
    rintro e w1 (⟨hb, _⟩ | ⟨_, rfl, hv1, hk1⟩)
    · cases hb
    have HV1 := Lib.hid (show VecM w1 S q bs false from hv1)
    have HK1 := Lib.hid hk1
    clear hv1 hk1
    go_wp2_with (go_at_call 37; refine (vlen_any S q N bs false w1 HV1.out HN.out).mono ?_; rintro e w2 ⟨rfl, rfl⟩)
    go_ret2
    exact ⟨rfl, HV1.out, HK1.out⟩
set_option maxRecDepth 100000 in
set_option maxHeartbeats 4000000 in
theorem rnew_yes (S : List Nat) (q N a : Nat) (bs : List Bool) (c : Bool) (w : World) (hv : VecM w S q bs c) (hN : bs.length = N) (h : a ≤ N) :
    Calls Tryd.prog 10 #[.pointer (some ⟨q, 0, none⟩), .int .i64 (a : Int)] w fun e w' => ∃ p, e = .returned (.tuple #[.pointer (some ⟨p, 0, none⟩), .int .i64 0]) ∧ RdM w' p q a false ∧ VecM w' S q bs false ∧ w.heap.size ≤ p ∧ p ∉ S ∧ Kp S w w' := by
  have hN16 : N ≤ 16777216 := by rw [← hN]; exact hv.tail.2.2.2
  have HV := Lib.hid hv; clear hv
  have HN := Lib.hid hN; clear hN
  go_enter Tryd.func10, Tryd.ntmps10
  go_wp2_with fail
  refine (vset_any S q N 0 0 0 false none [] bs c w HV.out HN.out (Rd.nil _ _ _) rfl (by omega) (fun ad h => by cases h)).mono ?_
  rintro e w1 (⟨hb, _⟩ | ⟨_, rfl, hv1, hk1⟩)
  · cases hb
  have HV1 := Lib.hid (show VecM w1 S q bs false from hv1)
  have HK1 := Lib.hid hk1
  clear hv1 hk1
  go_wp2_with (go_at_call 37; refine (vlen_any S q N bs false w1 HV1.out HN.out).mono ?_; rintro e w2 ⟨rfl, rfl⟩)
  go_ret2
  exact ⟨w1.heap.size, rfl, Blk.new w1 82 [.int .i64 0, .pointer (some ⟨q, 0, none⟩), .int .i64 (a : Int)], HV1.out.kp0 ((Kp.refl [] w1).alloc _), HK1.out.size, fun hm => Nat.lt_irrefl _ (HV1.out.lt _ hm), HK1.out.alloc _⟩

/-- The document's reader in memory. -/
def RrM (w : World) (p : Nat) (A : Option Addr) (N c a : Nat) (bad : Bool) : Prop := Blk w p 35 [.slice A N c, .int .i64 (a : Int), .bool bad]
theorem RrM.kp {w w' : World} {p N c a : Nat} {A : Option Addr} {bad : Bool} {T : List Nat} (h : RrM w p A N c a bad) (hk : Kp T w w') (hp : p ∉ T) : RrM w' p A N c a bad := Blk.kp h hk hp
theorem RrM.kp0 {w w' : World} {p N c a : Nat} {A : Option Addr} {bad : Bool} (h : RrM w p A N c a bad) (hk : Kp [] w w') : RrM w' p A N c a bad := h.kp hk (by simp)
theorem RrM.cells {w : World} {p N c a : Nat} {A : Option Addr} {bad : Bool} (h : RrM w p A N c a bad) : w.cell? ⟨p, 0, none⟩ = some (.slice A N c) ∧ w.cell? ⟨p, 1, none⟩ = some (.int .i64 (a : Int)) ∧ w.cell? ⟨p, 2, none⟩ = some (.bool bad) :=
  ⟨by rw [Blk.cell h]; rfl, by rw [Blk.cell h]; rfl, by rw [Blk.cell h]; rfl⟩
theorem Rd.cut {w : World} {B : Nat} {A : Option Addr} {xs : List Value} {a n c : Nat} (h : Rd w B A xs) (ha : a + n ≤ xs.length) (hc : xs.length ≤ c) : Rd w B (if c = a then A else A.map (fun x => x.add a)) ((xs.drop a).take n) := by
  intro i u hu
  rw [List.getElem?_take] at hu
  split at hu
  · rename_i hi
    rw [List.getElem?_drop] at hu
    obtain ⟨ad, e, hb, hcell⟩ := h _ u hu
    subst e
    rw [if_neg (by omega)]
    exact ⟨_, rfl, by rw [addr_add_block]; exact hb, by rw [addr_add_add]; exact hcell⟩
  · cases hu
set_option maxRecDepth 100000 in
set_option maxHeartbeats 4000000 in
theorem rtake_no (p N c a : Nat) (A : Option Addr) (bad : Bool) (m : Int) (w : World) (h : RrM w p A N c a bad) (ha : a ≤ N) (hN : N ≤ 16777216) (hb : hasB N a bad m = true) :
    Calls Tryd.prog 42 #[.pointer (some ⟨p, 0, none⟩), .int .i64 m] w fun e w' => e = .returned (.tuple #[.slice none 0 0, .bool false]) ∧ RrM w' p A N c a true ∧ Kp [p] w w' := by
  obtain ⟨hc0, hc1, hc2⟩ := h.cells
  have hf := Blk.free h 2
  have H := Lib.hid h; clear h
  unfold hasB at hb
  rw [Bool.or_eq_true, decide_eq_true_iff] at hb
  have go : ∀ nq, RrM ((w.drewN nq).setCell ⟨p, 2, none⟩ (.bool true)) p A N c a true ∧ Kp [p] w ((w.drewN nq).setCell ⟨p, 2, none⟩ (.bool true)) := fun nq =>
    ⟨Blk.set_ (show Blk (w.drewN nq) p _ _ from H.out.kp0 ((Kp.refl [] w).drewN _)) 2 (.bool true), ((Kp.refl [p] w).drewN _).setCell (.inl (by simp)) _⟩
  have GO := Lib.hid go
  clear go
  cases bad with
  | true =>
    go_enter Tryd.func42, Tryd.ntmps42
    go_wp2_with fail
    go_quiet (fail)
    go_wp2_with fail
    go_ret2
    exact ⟨rfl, GO.out _⟩
  | false =>
    have hb' : m < 0 ∨ 60 < m ∨ (N : Int) - (a : Int) < m := by
      rcases hb with h | h
      · cases h
      · exact h
    clear hb
    by_cases h1 : m < 0
    · have hd1 : decide (m < 0) = true := decide_eq_true h1
      clear hb'
      go_enter Tryd.func42, Tryd.ntmps42
      go_wp2_with fail
      go_quiet (fail)
      go_wp2_with fail
      go_ret2
      exact ⟨rfl, GO.out _⟩
    have hd1 : decide (m < 0) = false := decide_eq_false h1
    by_cases h2 : 60 < m
    · have hd2 : decide (60 < m) = true := decide_eq_true h2
      clear hb'
      go_enter Tryd.func42, Tryd.ntmps42
      go_wp2_with fail
      go_quiet (fail)
      go_wp2_with fail
      go_ret2
      exact ⟨rfl, GO.out _⟩
    have hd2 : decide (60 < m) = false := decide_eq_false h2
    have h3 : (N : Int) - (a : Int) < m := by omega
    obtain ⟨M, rfl⟩ : ∃ M : Nat, m = (M : Int) := ⟨m.toNat, by omega⟩
    obtain ⟨D, hD⟩ : ∃ D, D = N - a := ⟨_, rfl⟩
    have hDw : IntKind.i64.wrap ((N : Int) - (a : Int)) = (D : Int) := by rw [IntKind.wrap_i64]; omega
    have hd3 : decide ((D : Int) < (M : Int)) = true := decide_eq_true (by omega)
    have hd3' : decide (D < M) = true := decide_eq_true (by omega)
    clear hb' hD h3
    go_enter Tryd.func42, Tryd.ntmps42
    go_wp2_with fail
    go_quiet (fail)
    go_wp2_with fail
    go_ret2
    exact ⟨rfl, GO.out _⟩
set_option maxRecDepth 100000 in
set_option maxHeartbeats 4000000 in
theorem rtake_yes (p N c a M B : Nat) (A : Option Addr) (bs : List Bool) (w : World) (h : RrM w p A N c a false) (hx : Rd w B A (bs.map .bool)) (hN : bs.length = N) (hc : N ≤ c) (ha : a + M ≤ N) (hN16 : N ≤ 16777216) (hM : M ≤ 60) (hB : B ≤ p) :
    Calls Tryd.prog 42 #[.pointer (some ⟨p, 0, none⟩), .int .i64 (M : Int)] w fun e w' => ∃ A' c', e = .returned (.tuple #[.slice A' M c', .bool true]) ∧ Rd w' B A' (((bs.drop a).take M).map .bool) ∧ RrM w' p A N c (a + M) false ∧ Kp [p] w w' := by
  obtain ⟨hc0, hc1, hc2⟩ := h.cells
  have H := Lib.hid h; clear h
  have HX := Lib.hid hx; clear hx
  have HN := Lib.hid hN; clear hN
  obtain ⟨D, hD⟩ : ∃ D, D = N - a := ⟨_, rfl⟩
  obtain ⟨z, hz⟩ : ∃ z, z = a + M := ⟨_, rfl⟩
  have hDw : IntKind.i64.wrap ((N : Int) - (a : Int)) = (D : Int) := by rw [IntKind.wrap_i64]; omega
  have hzw : IntKind.i64.wrap ((a : Int) + (M : Int)) = (z : Int) := by rw [IntKind.wrap_i64]; omega
  have hd1 : decide ((M : Int) < 0) = false := decide_eq_false (by omega)
  have hd2 : decide (60 < (M : Int)) = false := decide_eq_false (by omega)
  have hd3 : decide ((D : Int) < (M : Int)) = false := decide_eq_false (by omega)
  have hd3' : decide (D < M) = false := decide_eq_false (by omega)
  have haz : a ≤ z := by omega
  have hzc : z ≤ c := by omega
  have hzM : z - a = M := by omega
  have ha0 : (0 : Int) ≤ (a : Int) := by omega
  have haz' : (a : Int) ≤ (z : Int) := by omega
  have hzc' : (z : Int) ≤ (c : Int) := by omega
  have HZ := Lib.hid hz
  have HCUT := Lib.hid (show Rd w B (if c = a then A else A.map (fun x => x.add a)) (((bs.drop a).take M).map .bool) by
    have := Rd.cut (a := a) (n := M) (c := c) HX.out (by rw [List.length_map, HN.out]; omega) (by rw [List.length_map, HN.out]; exact hc)
    rwa [← List.map_drop, ← List.map_take] at this)
  have hf := Blk.free H.out 1
  have GO := Lib.hid (show ∀ nq, RrM ((w.drewN nq).setCell ⟨p, 1, none⟩ (.int .i64 (z : Int))) p A N c (a + M) false ∧ Kp [p] w ((w.drewN nq).setCell ⟨p, 1, none⟩ (.int .i64 (z : Int))) from fun nq => by
    rw [← hz]
    exact ⟨Blk.set_ (show Blk (w.drewN nq) p _ _ from H.out.kp0 ((Kp.refl [] w).drewN _)) 1 (.int .i64 (z : Int)), ((Kp.refl [p] w).drewN _).setCell (.inl (by simp)) _⟩)
  clear hD hz
  by_cases hca : c = a
  · have HC2 := Lib.hid (show Rd w B A (((bs.drop a).take M).map .bool) by have h := HCUT.out; rwa [if_pos hca] at h)
    go_enter Tryd.func42, Tryd.ntmps42
    go_wp2_with fail
    go_quiet (fail)
    go_wp2_with fail
    go_quiet (fail)
    go_wp2_with fail
    go_ret2
    exact ⟨_, _, rfl, HC2.out.kp (GO.out _).2 (by intro g hg; simp only [List.mem_singleton] at hg; subst hg; exact hB), GO.out _⟩
  · have HC2 := Lib.hid (show Rd w B (A.map (fun x => x.add a)) (((bs.drop a).take M).map .bool) by have h := HCUT.out; rwa [if_neg hca] at h)
    rcases A with _ | ad
    all_goals
      go_enter Tryd.func42, Tryd.ntmps42
      go_wp2_with fail
      go_quiet (fail)
      go_wp2_with fail
      go_quiet (fail)
      go_wp2_with fail
      go_ret2
      exact ⟨_, _, rfl, HC2.out.kp (GO.out _).2 (by intro g hg; simp only [List.mem_singleton] at hg; subst hg; exact hB), GO.out _⟩
end Go.Proofs.YtddmioaeehgkbaaDoor
