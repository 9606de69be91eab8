/-
  LAYER 3: NewReader; the document's reader: take, Next, Number.
  CONDITIONS: as each says.
-/
import Derived.Test.YtddmioaeehgkbaaDoorFrd
namespace Go.Proofs.YtddmioaeehgkbaaDoor
open Go.RowKit

set_option maxRecDepth 100000 in
set_option maxHeartbeats 4000000 in
theorem rnew_no (S : List Nat) (q N : Nat) (at_ : Int) (bs : List Bool) (c : Bool) (w : World) (hv : VecM w S q bs c) (hN : bs.length = N) (h : at_ < 0 ∨ (N : Int) < at_) :
    Calls Tryd.prog 10 #[.pointer (some ⟨q, 0, none⟩), .int .i64 at_] w fun e w' => e = .returned (.tuple #[.pointer none, .int .i64 6]) ∧ VecM w' S q bs false ∧ Kp S w w' := by
  have HV := Lib.hid hv; clear hv
  have HN := Lib.hid hN; clear hN
  rcases h with h | h
  all_goals
    go_enter Tryd.func10, Tryd.ntmps10
    go_wp2_with fail
    refine (vset_any S q N 0 0 0 false none [] bs c w HV.out HN.out (Rd.nil _ _ _) rfl (by omega) (fun ad h => by cases h)).mono ?_
    rintro e w1 (⟨hb, _⟩ | ⟨_, rfl, hv1, hk1⟩)
    · cases hb
    have HV1 := Lib.hid (show VecM w1 S q bs false from hv1)
    have HK1 := Lib.hid hk1
    clear hv1 hk1
    go_wp2_with (go_at_call 37; refine (vlen_any S q N bs false w1 HV1.out HN.out).mono ?_; rintro e w2 ⟨rfl, rfl⟩)
    go_ret2
    exact ⟨rfl, HV1.out, HK1.out⟩
set_option maxRecDepth 100000 in
set_option maxHeartbeats 4000000 in
theorem rnew_yes (S : List Nat) (q N a : Nat) (bs : List Bool) (c : Bool) (w : World) (hv : VecM w S q bs c) (hN : bs.length = N) (h : a ≤ N) :
    Calls Tryd.prog 10 #[.pointer (some ⟨q, 0, none⟩), .int .i64 (a : Int)] w fun e w' => ∃ p, e = .returned (.tuple #[.pointer (some ⟨p, 0, none⟩), .int .i64 0]) ∧ RdM w' p q a false ∧ VecM w' S q bs false ∧ w.heap.size ≤ p ∧ p ∉ S ∧ Kp S w w' := by
  have hN16 : N ≤ 16777216 := by rw [← hN]; exact hv.tail.2.2.2
  have HV := Lib.hid hv; clear hv
  have HN := Lib.hid hN; clear hN
  go_enter Tryd.func10, Tryd.ntmps10
  go_wp2_with fail
  refine (vset_any S q N 0 0 0 false none [] bs c w HV.out HN.out (Rd.nil _ _ _) rfl (by omega) (fun ad h => by cases h)).mono ?_
  rintro e w1 (⟨hb, _⟩ | ⟨_, rfl, hv1, hk1⟩)
  · cases hb
  have HV1 := Lib.hid (show VecM w1 S q bs false from hv1)
  have HK1 := Lib.hid hk1
  clear hv1 hk1
  go_wp2_with (go_at_call 37; refine (vlen_any S q N bs false w1 HV1.out HN.out).mono ?_; rintro e w2 ⟨rfl, rfl⟩)
  go_ret2
  exact ⟨w1.heap.size, rfl, Blk.new w1 82 [.int .i64 0, .pointer (some ⟨q, 0, none⟩), .int .i64 (a : Int)], HV1.out.kp0 ((Kp.refl [] w1).alloc _), HK1.out.size, fun hm => Nat.lt_irrefl _ (HV1.out.lt _ hm), HK1.out.alloc _⟩

/-- The document's reader in memory. -/
def RrM (w : World) (p : Nat) (A : Option Addr) (N c a : Nat) (bad : Bool) : Prop := Blk w p 35 [.slice A N c, .int .i64 (a : Int), .bool bad]
theorem RrM.kp {w w' : World} {p N c a : Nat} {A : Option Addr} {bad : Bool} {T : List Nat} (h : RrM w p A N c a bad) (hk : Kp T w w') (hp : p ∉ T) : RrM w' p A N c a bad := Blk.kp h hk hp
theorem RrM.kp0 {w w' : World} {p N c a : Nat} {A : Option Addr} {bad : Bool} (h : RrM w p A N c a bad) (hk : Kp [] w w') : RrM w' p A N c a bad := h.kp hk (by simp)
theorem RrM.cells {w : World} {p N c a : Nat} {A : Option Addr} {bad : Bool} (h : RrM w p A N c a bad) : w.cell? ⟨p, 0, none⟩ = some (.slice A N c) ∧ w.cell? ⟨p, 1, none⟩ = some (.int .i64 (a : Int)) ∧ w.cell? ⟨p, 2, none⟩ = some (.bool bad) :=
  ⟨by rw [Blk.cell h]; rfl, by rw [Blk.cell h]; rfl, by rw [Blk.cell h]; rfl⟩
theorem Rd.cut {w : World} {B : Nat} {A : Option Addr} {xs : List Value} {a n c : Nat} (h : Rd w B A xs) (ha : a + n ≤ xs.length) (hc : xs.length ≤ c) : Rd w B (if c = a then A else A.map (fun x => x.add a)) ((xs.drop a).take n) := by
  intro i u hu
  rw [List.getElem?_take] at hu
  split at hu
  · rename_i hi
    rw [List.getElem?_drop] at hu
    obtain ⟨ad, e, hb, hcell⟩ := h _ u hu
    subst e
    rw [if_neg (by omega)]
    exact ⟨_, rfl, by rw [addr_add_block]; exact hb, by rw [addr_add_add]; exact hcell⟩
  · cases hu
set_option maxRecDepth 100000 in
set_option maxHeartbeats 4000000 in
theorem rtake_no (p N c a : Nat) (A : Option Addr) (bad : Bool) (m : Int) (w : World) (h : RrM w p A N c a bad) (ha : a ≤ N) (hN : N ≤ 16777216) (hb : hasB N a bad m = true) :
    Calls Tryd.prog 42 #[.pointer (some ⟨p, 0, none⟩), .int .i64 m] w fun e w' => e = .returned (.tuple #[.slice none 0 0, .bool false]) ∧ RrM w' p A N c a true ∧ Kp [p] w w' := by
  obtain ⟨hc0, hc1, hc2⟩ := h.cells
  have hf := Blk.free h 2
  have H := Lib.hid h; clear h
  unfold hasB at hb
  rw [Bool.or_eq_true, decide_eq_true_iff] at hb
  have go : ∀ nq, RrM ((w.drewN nq).setCell ⟨p, 2, none⟩ (.bool true)) p A N c a true ∧ Kp [p] w ((w.drewN nq).setCell ⟨p, 2, none⟩ (.bool true)) := fun nq =>
    ⟨Blk.set_ (show Blk (w.drewN nq) p _ _ from H.out.kp0 ((Kp.refl [] w).drewN _)) 2 (.bool true), ((Kp.refl [p] w).drewN _).setCell (.inl (by simp)) _⟩
  have GO := Lib.hid go
  clear go
  cases bad with
  | true =>
    go_enter Tryd.func42, Tryd.ntmps42
    go_wp2_with fail
    go_quiet (fail)
    go_wp2_with fail
    go_ret2
    exact ⟨rfl, GO.out _⟩
  | false =>
    have hb' : m < 0 ∨ 60 < m ∨ (N : Int) - (a : Int) < m := by
      rcases hb with h | h
      · cases h
      · exact h
    clear hb
    by_cases h1 : m < 0
    · have hd1 : decide (m < 0) = true := decide_eq_true h1
      clear hb'
      go_enter Tryd.func42, Tryd.ntmps42
      go_wp2_with fail
      go_quiet (fail)
      go_wp2_with fail
      go_ret2
      exact ⟨rfl, GO.out _⟩
    have hd1 : decide (m < 0) = false := decide_eq_false h1
    by_cases h2 : 60 < m
    · have hd2 : decide (60 < m) = true := decide_eq_true h2
      clear hb'
      go_enter Tryd.func42, Tryd.ntmps42
      go_wp2_with fail
      go_quiet (fail)
      go_wp2_with fail
      go_ret2
      exact ⟨rfl, GO.out _⟩
    have hd2 : decide (60 < m) = false := decide_eq_false h2
    have h3 : (N : Int) - (a : Int) < m := by omega
    obtain ⟨M, rfl⟩ : ∃ M : Nat, m = (M : Int) := ⟨m.toNat, by omega⟩
    obtain ⟨D, hD⟩ : ∃ D, D = N - a := ⟨_, rfl⟩
    have hDw : IntKind.i64.wrap ((N : Int) - (a : Int)) = (D : Int) := by rw [IntKind.wrap_i64]; omega
    have hd3 : decide ((D : Int) < (M : Int)) = true := decide_eq_true (by omega)
    have hd3' : decide (D < M) = true := decide_eq_true (by omega)
    clear hb' hD h3
    go_enter Tryd.func42, Tryd.ntmps42
    go_wp2_with fail
    go_quiet (fail)
    go_wp2_with fail
    go_ret2
    exact ⟨rfl, GO.out _⟩
set_option maxRecDepth 100000 in
set_option maxHeartbeats 4000000 in
theorem rtake_yes (p N c a M B : Nat) (A : Option Addr) (bs : List Bool) (w : World) (h : RrM w p A N c a false) (hx : Rd w B A (bs.map .bool)) (hN : bs.length = N) (hc : N ≤ c) (ha : a + M ≤ N) (hN16 : N ≤ 16777216) (hM : M ≤ 60) (hB : B ≤ p) :
    Calls Tryd.prog 42 #[.pointer (some ⟨p, 0, none⟩), .int .i64 (M : Int)] w fun e w' => ∃ A' c', e = .returned (.tuple #[.slice A' M c', .bool true]) ∧ Rd w' B A' (((bs.drop a).take M).map .bool) ∧ RrM w' p A N c (a + M) false ∧ Kp [p] w w' := by
  obtain ⟨hc0, hc1, hc2⟩ := h.cells
  have H := Lib.hid h; clear h
  have HX := Lib.hid hx; clear hx
  have HN := Lib.hid hN; clear hN
  obtain ⟨D, hD⟩ : ∃ D, D = N - a := ⟨_, rfl⟩
  obtain ⟨z, hz⟩ : ∃ z, z = a + M := ⟨_, rfl⟩
  have hDw : IntKind.i64.wrap ((N : Int) - (a : Int)) = (D : Int) := by rw [IntKind.wrap_i64]; omega
  have hzw : IntKind.i64.wrap ((a : Int) + (M : Int)) = (z : Int) := by rw [IntKind.wrap_i64]; omega
  have hd1 : decide ((M : Int) < 0) = false := decide_eq_false (by omega)
  have hd2 : decide (60 < (M : Int)) = false := decide_eq_false (by omega)
  have hd3 : decide ((D : Int) < (M : Int)) = false := decide_eq_false (by omega)
  have hd3' : decide (D < M) = false := decide_eq_false (by omega)
  have haz : a ≤ z := by omega
  have hzc : z ≤ c := by omega
  have hzM : z - a = M := by omega
  have ha0 : (0 : Int) ≤ (a : Int) := by omega
  have haz' : (a : Int) ≤ (z : Int) := by omega
  have hzc' : (z : Int) ≤ (c : Int) := by omega
  have HZ := Lib.hid hz
  have HCUT := Lib.hid (show Rd w B (if c = a then A else A.map (fun x => x.add a)) (((bs.drop a).take M).map .bool) by
    have := Rd.cut (a := a) (n := M) (c := c) HX.out (by rw [List.length_map, HN.out]; omega) (by rw [List.length_map, HN.out]; exact hc)
    rwa [← List.map_drop, ← List.map_take] at this)
  have hf := Blk.free H.out 1
  have GO := Lib.hid (show ∀ nq, RrM ((w.drewN nq).setCell ⟨p, 1, none⟩ (.int .i64 (z : Int))) p A N c (a + M) false ∧ Kp [p] w ((w.drewN nq).setCell ⟨p, 1, none⟩ (.int .i64 (z : Int))) from fun nq => by
    rw [← hz]
    exact ⟨Blk.set_ (show Blk (w.drewN nq) p _ _ from H.out.kp0 ((Kp.refl [] w).drewN _)) 1 (.int .i64 (z : Int)), ((Kp.refl [p] w).drewN _).setCell (.inl (by simp)) _⟩)
  clear hD hz
  by_cases hca : c = a
  · have HC2 := Lib.hid (show Rd w B A (((bs.drop a).take M).map .bool) by have h := HCUT.out; rwa [if_pos hca] at h)
    go_enter Tryd.func42, Tryd.ntmps42
    go_wp2_with fail
    go_quiet (fail)
    go_wp2_with fail
    go_quiet (fail)
    go_wp2_with fail
    go_ret2
    exact ⟨_, _, rfl, HC2.out.kp (GO.out _).2 (by intro g hg; simp only [List.mem_singleton] at hg; subst hg; exact hB), GO.out _⟩
  · have HC2 := Lib.hid (show Rd w B (A.map (fun x => x.add a)) (((bs.drop a).take M).map .bool) by have h := HCUT.out; rwa [if_neg hca] at h)
    rcases A with _ | ad
    all_goals
      go_enter Tryd.func42, Tryd.ntmps42
      go_wp2_with fail
      go_quiet (fail)
      go_wp2_with fail
      go_quiet (fail)
      go_wp2_with fail
      go_ret2
      exact ⟨_, _, rfl, HC2.out.kp (GO.out _).2 (by intro g hg; simp only [List.mem_singleton] at hg; subst hg; exact hB), GO.out _⟩

set_option maxRecDepth 100000 in
set_option maxHeartbeats 4000000 in
theorem rrnum_any (p N c a B : Nat) (A : Option Addr) (bad : Bool) (m : Int) (bs : List Bool) (w : World) (h : RrM w p A N c a bad) (hx : Rd w B A (bs.map .bool)) (hN : bs.length = N) (hc : N ≤ c) (ha : a ≤ N) (hN16 : N ≤ 16777216) (hB : B ≤ p) :
    Calls Tryd.prog 15 #[.pointer (some ⟨p, 0, none⟩), .int .i64 m] w fun e w' => e = .returned (.int .i64 (((rNum bs a bad m).1 : Nat) : Int)) ∧ RrM w' p A N c (rNum bs a bad m).2.1 (rNum bs a bad m).2.2 ∧ Kp [p] w w' := by
  cases hz : hasB N a bad m with
  | true =>
    rw [rNum_bad hN hz]
    have HC := Lib.hid (rtake_no p N c a A bad m w h ha hN16 hz)
    clear h hx hN hz
    go_enter Tryd.func15, Tryd.ntmps15
    go_wp2_with fail
    refine HC.out.mono ?_
    rintro e w1 ⟨rfl, hr, hk⟩
    have HR := Lib.hid hr; clear hr
    have HK := Lib.hid hk; clear hk
    go_wp2_with fail
    go_loop [7, 8] (fun s y => s = .int .i64 0 ∧ y = .int .i64 0) (fun _ _ => 0)
    case atStart => exact ⟨rfl, rfl⟩
    case round =>
      obtain ⟨rfl, rfl⟩ := hrel
      go_wp2_with fail
      go_ret
      exact ⟨rfl, HR.out, HK.out⟩
  | false =>
    obtain ⟨rfl, hm0, hm60, hmN, hR⟩ := rNum_ok hN hz
    obtain ⟨M, rfl⟩ : ∃ M : Nat, m = (M : Int) := ⟨m.toNat, by omega⟩
    rw [Int.toNat_natCast] at hR
    rw [hR]
    have HC := Lib.hid (rtake_yes p N c a M B A bs w h hx hN hc (by omega) hN16 (by omega) hB)
    obtain ⟨l, hl⟩ : ∃ l, l = (bs.drop a).take M := ⟨_, rfl⟩
    have HLL := Lib.hid (show l.length = M by rw [hl, List.length_take, List.length_drop, hN]; omega)
    have hM60 : M ≤ 60 := by omega
    rw [← hl] at HC ⊢
    clear h hx hN hz hR hl hm0 hm60 hmN
    go_enter Tryd.func15, Tryd.ntmps15
    go_wp2_with fail
    refine HC.out.mono ?_
    rintro e w1 ⟨A', c', rfl, hrd, hr, hk⟩
    have HRD := Lib.hid hrd; clear hrd
    have HR := Lib.hid hr; clear hr
    have HK := Lib.hid hk; clear hk
    go_wp2_with fail
    go_loop [7, 8] (fun s y => ∃ (k X : Nat), y = .int .i64 (k : Int) ∧ s = .int .i64 (X : Int) ∧ k ≤ M ∧ Hid (X = valL (l.take k))) (fun _ y => M - (intOf y).toNat)
    case atStart => exact ⟨0, 0, rfl, rfl, by omega, Lib.hid rfl⟩
    case round =>
      obtain ⟨k, X, rfl, rfl, hk, HX⟩ := hrel
      by_cases hlt : k < M
      · obtain ⟨b, hb⟩ : ∃ b, l[k]? = some b := ⟨_, List.getElem?_eq_getElem (by rw [HLL.out]; exact hlt)⟩
        obtain ⟨ad, rfl, _, hcx⟩ := HRD.out.at_ (i := k) (u := .bool b) (by simp [hb])
        have HX1 := Lib.hid (show 2 * X + b.toNat = valL (l.take (k + 1)) by rw [take_succ_of hb, valL_snoc, ← HX.out])
        have hXb : X < 1152921504606846976 := by
          have h1 := valL_lt (l.take k)
          rw [← HX.out, List.length_take] at h1
          exact Nat.lt_of_lt_of_le h1 (Nat.pow_le_pow_right (n := 2) (by omega) (show min k l.length ≤ 60 by omega))
        clear hb
        cases b with
        | true =>
          go_wp2_with fail
          exact ⟨⟨k + 1, 2 * X + 1, by go_num, by rw [show (((2 * X + 1 : Nat)) : Int) = 2 * (X : Int) + 1 by omega], by omega, HX1⟩, by simp [intOf]; omega⟩
        | false =>
          go_wp2_with fail
          exact ⟨⟨k + 1, 2 * X, by go_num, by rw [show (((2 * X : Nat)) : Int) = 2 * (X : Int) by omega], by omega, HX1⟩, by simp [intOf]; omega⟩
      · obtain rfl : M = k := by omega
        have HXF := Lib.hid (show X = valL l by rw [HX.out, List.take_of_length_le (by rw [HLL.out]; exact Nat.le_refl _)])
        go_wp2_with fail
        go_ret
        exact ⟨by rw [← HXF.out]; rfl, HR.out, HK.out⟩
theorem rNum_one {bs : List Bool} {a : Nat} {b : Bool} (hb : bs[a]? = some b) : rNum bs a false 1 = (b.toNat, a + 1, false) := by
  have ha : a < bs.length := (List.getElem?_eq_some_iff.1 hb).1
  unfold rNum
  rw [if_neg (by simp; omega)]
  have : (bs.drop a).take (1 : Int).toNat = [b] := by
    rw [show (1 : Int).toNat = 0 + 1 from rfl, take_succ_of (by rw [List.getElem?_drop]; exact hb)]
    rfl
  rw [this]
  cases b <;> rfl
set_option maxRecDepth 100000 in
set_option maxHeartbeats 4000000 in
theorem rrnext_any (p N c a B : Nat) (A : Option Addr) (bad : Bool) (bs : List Bool) (w : World) (h : RrM w p A N c a bad) (hx : Rd w B A (bs.map .bool)) (hN : bs.length = N) (hc : N ≤ c) (ha : a ≤ N) (hN16 : N ≤ 16777216) (hB : B ≤ p) :
    Calls Tryd.prog 13 #[.pointer (some ⟨p, 0, none⟩)] w fun e w' => e = .returned (.bool ((rNum bs a bad 1).1 == 1)) ∧ RrM w' p A N c (rNum bs a bad 1).2.1 (rNum bs a bad 1).2.2 ∧ Kp [p] w w' := by
  cases hz : hasB N a bad 1 with
  | true =>
    rw [rNum_bad hN hz]
    have HC := Lib.hid (rtake_no p N c a A bad 1 w h ha hN16 hz)
    clear h hx hN hz
    go_enter Tryd.func13, Tryd.ntmps13
    go_wp2_with fail
    refine HC.out.mono ?_
    rintro e w1 ⟨rfl, hr, hk⟩
    have HR := Lib.hid hr; clear hr
    have HK := Lib.hid hk; clear hk
    go_wp2_with fail
    go_ret
    exact ⟨rfl, HR.out, HK.out⟩
  | false =>
    obtain ⟨rfl, hm0, hm60, hmN, hR⟩ := rNum_ok hN hz
    have HC := Lib.hid (rtake_yes p N c a 1 B A bs w h hx hN hc (by omega) hN16 (by omega) hB)
    obtain ⟨b, hb⟩ : ∃ b, bs[a]? = some b := ⟨_, List.getElem?_eq_getElem (by rw [hN]; omega)⟩
    rw [rNum_one hb]
    have hl : (bs.drop a).take 1 = [b] := by
      rw [show 1 = 0 + 1 from rfl, take_succ_of (by rw [List.getElem?_drop]; exact hb)]
      rfl
    rw [hl] at HC
    clear h hx hN hz hR hl hm0 hm60 hmN hb
    go_enter Tryd.func13, Tryd.ntmps13
    go_wp2_with fail
    refine HC.out.mono ?_
    rintro e w1 ⟨A', c', rfl, hrd, hr, hk⟩
    obtain ⟨ad, rfl, _, hcx⟩ := hrd.at_ (i := 0) (u := .bool b) rfl
    have hcx0 := hcx
    rw [addr_add_zero] at hcx0
    clear hrd
    have HR := Lib.hid hr; clear hr
    have HK := Lib.hid hk; clear hk
    go_wp2_with fail
    go_ret
    exact ⟨by cases b <;> rfl, HR.out, HK.out⟩

theorem rGam_true (bs : List Bool) (a : Nat) : rGam bs a true = (0, a, true) := rfl
theorem RrM.at_ {w : World} {p N c a z : Nat} {A : Option Addr} {bad : Bool} (h : RrM w p A N c a bad) {v : Int} (hv : v = (z : Int)) : RrM (w.setCell ⟨p, 1, none⟩ (.int .i64 v)) p A N c z bad := by
  subst hv
  exact Blk.set_ h 1 _
theorem RrM.spoil {w : World} {p N c a : Nat} {A : Option Addr} {bad : Bool} (h : RrM w p A N c a bad) : RrM (w.setCell ⟨p, 2, none⟩ (.bool true)) p A N c a true := Blk.set_ h 2 _
set_option maxRecDepth 100000 in
set_option maxHeartbeats 4000000 in
theorem rrgam_any (p N c a B : Nat) (A : Option Addr) (bad : Bool) (bs : List Bool) (w : World) (h : RrM w p A N c a bad) (hx : Rd w B A (bs.map .bool)) (hN : bs.length = N) (hc : N ≤ c) (ha : a ≤ N) (hN16 : N ≤ 16777216) (hB : B ≤ p) :
    Calls Tryd.prog 17 #[.pointer (some ⟨p, 0, none⟩)] w fun e w' => e = .returned (.int .i64 (((rGam bs a bad).1 : Nat) : Int)) ∧ RrM w' p A N c (rGam bs a bad).2.1 (rGam bs a bad).2.2 ∧ Kp [p] w w' := by
  obtain ⟨R, hR⟩ : ∃ R, R = rGam bs a bad := ⟨_, rfl⟩
  rw [← hR]
  have HRR := Lib.hid hR
  obtain ⟨Z, hZ⟩ : ∃ Z, Z = zer (bs.drop a) := ⟨_, rfl⟩
  have hZl := zer_le (bs.drop a)
  rw [← hZ, List.length_drop, hN] at hZl
  have HZ9 := Lib.hid hZ
  obtain ⟨hc0, hc1, hc2⟩ := h.cells
  have hZN : a + Z ≤ N := by omega
  have HC1 := Lib.hid hc1
  have H := Lib.hid h; clear h
  have HX := Lib.hid hx; clear hx
  have HN := Lib.hid hN; clear hN
  clear hR hZ hZl hc0 hc2
  go_enter Tryd.func17, Tryd.ntmps17
  go_wp2_with fail
  clear hc1
  go_loopw [4] (fun y wr => ∃ k : Nat, y = .int .i64 (k : Int) ∧ k ≤ Z ∧ Hid (Dr w wr)) (fun y _ => Z - (intOf y).toNat)
  case atStart => exact ⟨0, rfl, by omega, Lib.hid (Dr.refl w)⟩
  case round =>
    obtain ⟨k, rfl, hk, HD⟩ := hrel
    have HR1 := Lib.hid (H.out.kp0 (HD.out.kp []))
    obtain ⟨hc0, hc1, hc2⟩ := HR1.out.cells
    obtain ⟨z, hz⟩ : ∃ z, z = a + k := ⟨_, rfl⟩
    have hzw : IntKind.i64.wrap ((a : Int) + (k : Int)) = (z : Int) := by rw [IntKind.wrap_i64]; omega
    have hz0 : (0 : Int) ≤ (z : Int) := by omega
    by_cases hlt : k < Z
    · have hzN : z < N := by omega
      have hb : bs[z]? = some false := by
        have := zer_get (l := bs.drop a) (i := k) (by rw [← HZ9.out]; exact hlt)
        rwa [List.getElem?_drop, ← hz] at this
      obtain ⟨ad, rfl, _, hcx⟩ := (HX.out.kp0 (HD.out.kp [])).at_ (i := z) (u := .bool false) (by simp [hb])
      have hd1 : decide ((z : Int) < (N : Int)) = true := decide_eq_true (by omega)
      have hd1' : decide (z < N) = true := decide_eq_true hzN
      have hzi : (z : Int) < (N : Int) := by omega
      clear hz hb
      go_wp2_with fail
      go_quiet (fail)
      go_wp2_with fail
      exact ⟨⟨k + 1, by go_num, by omega, Lib.hid (HD.out.drewN _)⟩, by simp [intOf]; omega⟩
    · obtain rfl : Z = k := by omega
      have HZZ := Lib.hid hz
      have HEND := Lib.hid (show ∀ nq, RrM (wr.drewN nq) p A N c a bad ∧ Kp [p] w (wr.drewN nq) from fun nq => ⟨HR1.out.kp0 ((Kp.refl [] wr).drewN _), (HD.out.kp [p]).drewN _⟩)
      by_cases hzN : z < N
      · have hb : bs[z]? = some true := by
          have := zer_at (l := bs.drop a) (by rw [← HZ9.out, List.length_drop, HN.out]; omega)
          rwa [← HZ9.out, List.getElem?_drop, ← hz] at this
        obtain ⟨ad, rfl, _, hcx⟩ := (HX.out.kp0 (HD.out.kp [])).at_ (i := z) (u := .bool true) (by simp [hb])
        have hd1 : decide ((z : Int) < (N : Int)) = true := decide_eq_true (by omega)
        have hd1' : decide (z < N) = true := decide_eq_true hzN
        have hzi : (z : Int) < (N : Int) := by omega
        clear hz hb
        go_wp2_with fail
        go_quiet (fail)
        generalize hw2 : wr.drewN _ = w2
        have HE2 : RrM w2 p (some ad) N c a bad ∧ Kp [p] w w2 := by rw [← hw2]; exact HEND.out _
        obtain ⟨hr2, hk2⟩ := HE2
        clear hw2 hc0 hc1 hc2 hd1 hd1' hzw HEND HR1 HC1 HD
        obtain ⟨hc0, hc1, hc2⟩ := hr2.cells
        have hf1 := Blk.free hr2 1
        have hf2 := Blk.free hr2 2
        have HR2 := Lib.hid hr2; clear hr2
        have HK2 := Lib.hid hk2; clear hk2
        have HSP := Lib.hid (show RrM (w2.setCell ⟨p, 2, none⟩ (.bool true)) p (some ad) N c a true ∧ Kp [p] w (w2.setCell ⟨p, 2, none⟩ (.bool true)) from ⟨HR2.out.spoil, HK2.out.setCell (.inl (by simp)) _⟩)
        cases bad with
        | true =>
          have HR5 := Lib.hid (show R = (0, a, true) from HRR.out)
          go_wp2_with fail
          go_ret
          rw [HR5.out]
          exact ⟨rfl, HSP.out⟩
        | false =>
          by_cases h60 : 59 < Z
          · have HR5 := Lib.hid (show R = (0, a, true) by rw [HRR.out]; exact rGam_bad HN.out HZ9.out (.inl (by omega)))
            go_wp2_with fail
            go_ret
            rw [HR5.out]
            exact ⟨rfl, HSP.out⟩
          · clear HSP hc0
            have HR3 := Lib.hid (HR2.out.at_ (z := a + Z) (v := (a : Int) + (Z : Int)) (by omega))
            have HK3 := Lib.hid (HK2.out.setCell (p := ⟨p, 1, none⟩) (.inl (by simp)) (.int .i64 ((a : Int) + (Z : Int))))
            have HX3 := Lib.hid (HX.out.kp HK3.out (by intro g hg; simp only [List.mem_singleton] at hg; subst hg; exact hB))
            go_wp2_with fail
            have hnm := rrnum_any p N c (a + Z) B (some ad) false ((Z + 1 : Nat) : Int) bs _ HR3.out HX3.out HN.out hc hZN hN16 hB
            rw [show ((Z + 1 : Nat) : Int) = (Z : Int) + 1 by omega] at hnm
            refine hnm.mono ?_
            clear hnm
            by_cases hD : 2 * Z + 1 ≤ N - a
            · have HR5 := Lib.hid (show rNum bs (a + Z) false ((Z : Int) + 1) = R by
                rw [show (Z : Int) + 1 = ((Z + 1 : Nat) : Int) by omega, HRR.out]; exact (rGam_ok HN.out HZ9.out (by omega) hD).symm)
              have HR6 := Lib.hid (show R.2.2 = false by
                rw [← HR5.out]
                unfold rNum
                rw [if_neg (by rw [HN.out]; simp; omega)])
              rw [HR5.out]
              rintro e w4 ⟨rfl, hr4, hk4⟩
              obtain ⟨_, _, hc24⟩ := hr4.cells
              rw [HR6.out] at hc24
              have HR4 := Lib.hid hr4
              have HK4 := Lib.hid (HK3.out.trans hk4)
              clear hr4 hk4
              go_wp2_with fail
              go_ret
              exact ⟨rfl, HR4.out, HK4.out⟩
            · have HR5 := Lib.hid (show R = (0, a, true) by rw [HRR.out]; exact rGam_bad HN.out HZ9.out (.inr (by omega)))
              have HR6 := Lib.hid (show rNum bs (a + Z) false ((Z : Int) + 1) = (0, a + Z, true) from rNum_bad HN.out (by
                unfold hasB
                rw [Bool.false_or, decide_eq_true_iff]
                omega))
              rw [HR6.out]
              rintro e w4 ⟨rfl, hr4, hk4⟩
              obtain ⟨_, _, hc24⟩ := hr4.cells
              have hf14 := Blk.free hr4 1
              have hc14 := hr4.cells.2.1
              have HR7 := Lib.hid (RrM.at_ hr4 (z := a) rfl)
              have HK4 := Lib.hid ((HK3.out.trans hk4).setCell (p := ⟨p, 1, none⟩) (.inl (by simp)) (.int .i64 (a : Int)))
              clear hr4 hk4
              go_wp2_with fail
              go_ret
              rw [HR5.out]
              exact ⟨rfl, HR7.out, HK4.out⟩
      · have hd1 : decide ((z : Int) < (N : Int)) = false := decide_eq_false (by omega)
        have hd1' : decide (z < N) = false := decide_eq_false hzN
        clear hz
        go_wp2_with fail
        go_quiet (fail)
        generalize hw2 : wr.drewN _ = w2
        have HE2 : RrM w2 p A N c a bad ∧ Kp [p] w w2 := by rw [← hw2]; exact HEND.out _
        obtain ⟨hr2, hk2⟩ := HE2
        clear hw2 hc0 hc1 hc2 hd1 hd1' hzw HEND HR1 HC1 HD
        obtain ⟨hc0, hc1, hc2⟩ := hr2.cells
        have hf1 := Blk.free hr2 1
        have hf2 := Blk.free hr2 2
        have HR2 := Lib.hid hr2; clear hr2
        have HK2 := Lib.hid hk2; clear hk2
        have HSP := Lib.hid (show RrM (w2.setCell ⟨p, 2, none⟩ (.bool true)) p A N c a true ∧ Kp [p] w (w2.setCell ⟨p, 2, none⟩ (.bool true)) from ⟨HR2.out.spoil, HK2.out.setCell (.inl (by simp)) _⟩)
        cases bad with
        | true =>
          have HR5 := Lib.hid (show R = (0, a, true) from HRR.out)
          go_wp2_with fail
          go_ret
          rw [HR5.out]
          exact ⟨rfl, HSP.out⟩
        | false =>
          by_cases h60 : 59 < Z
          · have HR5 := Lib.hid (show R = (0, a, true) by rw [HRR.out]; exact rGam_bad HN.out HZ9.out (.inl (by omega)))
            go_wp2_with fail
            go_ret
            rw [HR5.out]
            exact ⟨rfl, HSP.out⟩
          · clear HSP hc0
            have HR3 := Lib.hid (HR2.out.at_ (z := a + Z) (v := (a : Int) + (Z : Int)) (by omega))
            have HK3 := Lib.hid (HK2.out.setCell (p := ⟨p, 1, none⟩) (.inl (by simp)) (.int .i64 ((a : Int) + (Z : Int))))
            have HX3 := Lib.hid (HX.out.kp HK3.out (by intro g hg; simp only [List.mem_singleton] at hg; subst hg; exact hB))
            go_wp2_with fail
            have hnm := rrnum_any p N c (a + Z) B A false ((Z + 1 : Nat) : Int) bs _ HR3.out HX3.out HN.out hc hZN hN16 hB
            rw [show ((Z + 1 : Nat) : Int) = (Z : Int) + 1 by omega] at hnm
            refine hnm.mono ?_
            clear hnm
            by_cases hD : 2 * Z + 1 ≤ N - a
            · have HR5 := Lib.hid (show rNum bs (a + Z) false ((Z : Int) + 1) = R by
                rw [show (Z : Int) + 1 = ((Z + 1 : Nat) : Int) by omega, HRR.out]; exact (rGam_ok HN.out HZ9.out (by omega) hD).symm)
              have HR6 := Lib.hid (show R.2.2 = false by
                rw [← HR5.out]
                unfold rNum
                rw [if_neg (by rw [HN.out]; simp; omega)])
              rw [HR5.out]
              rintro e w4 ⟨rfl, hr4, hk4⟩
              obtain ⟨_, _, hc24⟩ := hr4.cells
              rw [HR6.out] at hc24
              have HR4 := Lib.hid hr4
              have HK4 := Lib.hid (HK3.out.trans hk4)
              clear hr4 hk4
              go_wp2_with fail
              go_ret
              exact ⟨rfl, HR4.out, HK4.out⟩
            · have HR5 := Lib.hid (show R = (0, a, true) by rw [HRR.out]; exact rGam_bad HN.out HZ9.out (.inr (by omega)))
              have HR6 := Lib.hid (show rNum bs (a + Z) false ((Z : Int) + 1) = (0, a + Z, true) from rNum_bad HN.out (by
                unfold hasB
                rw [Bool.false_or, decide_eq_true_iff]
                omega))
              rw [HR6.out]
              rintro e w4 ⟨rfl, hr4, hk4⟩
              obtain ⟨_, _, hc24⟩ := hr4.cells
              have hf14 := Blk.free hr4 1
              have hc14 := hr4.cells.2.1
              have HR7 := Lib.hid (RrM.at_ hr4 (z := a) rfl)
              have HK4 := Lib.hid ((HK3.out.trans hk4).setCell (p := ⟨p, 1, none⟩) (.inl (by simp)) (.int .i64 (a : Int)))
              clear hr4 hk4
              go_wp2_with fail
              go_ret
              rw [HR5.out]
              exact ⟨rfl, HR7.out, HK4.out⟩
end Go.Proofs.YtddmioaeehgkbaaDoor
