/-
  LAYER 15 (tree): quarter, outside, parted.
  CONDITIONS: as each says.
-/
import Derived.Test.YtldmabkilgpgcaaQ04
import Derived.Test.YtldmabkilgpgcaaQ00
import Derived.Deep.RegionLaw
namespace Go.Proofs.Ytldmabkilgpgcaa
open Go.RowKit

theorem rd_new' (w : World) (C : Array Value) (e : TypeId) {g : Nat} (hg : g = w.heap.size) : Rd (w.alloc (.cells C e)) (w.alloc (.cells C e)).heap.size (some ⟨g, 0, none⟩) C.toList := by
  subst hg
  exact (Rd.new w C e (0, 0)).bound (by simp)
theorem Kp.free1 {S : List Nat} {w w' : World} {g q : Nat} {t : TypeId} (hk : Kp S w w') (h : ∃ l, Blk w g t l) (hg : g ∉ S) : w'.frozen? ⟨g, q, none⟩ = false := by
  obtain ⟨l, h⟩ := h
  exact (h.kp hk hg).free q
theorem own_new {w : World} {o : Obj} {v v' : Value} (hat : v'.ownBlock = v.ownBlock ∨ v'.ownBlock = some (w.alloc o).heap.size) : ∀ x ∈ ownL v', x ∈ ownL v ∨ w.heap.size ≤ x := fun x hx => by
  rw [mem_ownL] at hx
  rcases hat with h | h
  · exact .inl (by rw [mem_ownL, ← h]; exact hx)
  · rw [h] at hx
    injection hx with hx
    subst hx
    exact .inr (by simp)
theorem g_and1 (y : Nat) (h : y < 2 ^ 63) : bits .and .i64 (y : Int) 1 = ((y % 2 : Nat) : Int) := by
  have := (bits_nat .i64 63 (by decide) (fun n h0 h1 => by rw [IntKind.wrap_i64]; omega) y 1 h (by decide)).1
  rw [Nat.and_one_is_mod] at this
  exact this
theorem g_or (a b : Nat) (ha : a ≤ 1) (hb : b ≤ 1) : bits .or .i64 ((2 * a : Nat) : Int) (b : Int) = ((2 * a + b : Nat) : Int) := by
  rcases (show a = 0 ∨ a = 1 by omega) with rfl | rfl <;> rcases (show b = 0 ∨ b = 1 by omega) with rfl | rfl <;> decide
theorem g_q (h r c : Nat) (hr : r < 131072) (hc : c < 131072) : bits .or .i64 (wrap64 (bits .and .i64 ((r : Int) / 2 ^ h) 1 * 2)) (bits .and .i64 ((c : Int) / 2 ^ h) 1) = ((qN h (r, c) : Nat) : Int) := by
  have h1 : bits .and .i64 ((r : Int) / 2 ^ h) 1 = ((r / 2 ^ h % 2 : Nat) : Int) := g_and1 (r / 2 ^ h) (Nat.lt_of_le_of_lt (Nat.div_le_self _ _) (by omega))
  have h2 : bits .and .i64 ((c : Int) / 2 ^ h) 1 = ((c / 2 ^ h % 2 : Nat) : Int) := g_and1 (c / 2 ^ h) (Nat.lt_of_le_of_lt (Nat.div_le_self _ _) (by omega))
  rw [h1, h2]
  unfold qN
  generalize hx : r / 2 ^ h % 2 = a
  generalize hy : c / 2 ^ h % 2 = b
  have ha : a ≤ 1 := by omega
  have hb : b ≤ 1 := by omega
  clear hx hy h1 h2
  rw [show wrap64 ((a : Int) * 2) = ((2 * a : Nat) : Int) by unfold wrap64; omega]
  exact g_or a b ha hb
set_option maxRecDepth 100000 in
set_option maxHeartbeats 4000000 in
theorem quarter_any (h r c : Nat) (w : World) (hh : h ≤ 16) (hr : r < 131072) (hc : c < 131072) :
    Calls Try.prog 55 #[.agg #[.int .i64 (r : Int), .int .i64 (c : Int)], .int .i64 (h : Int)] w fun e w' => e = .returned (.int .i64 ((qN h (r, c) : Nat) : Int)) ∧ Kp [] w w' := by
  go_enter Try.func55, Try.ntmps55
  go_wp2_with fail
  go_quiet (fail)
  go_wp2_with fail
  go_ret
  exact ⟨congrArg (fun x => Ending.returned (.int .i64 x)) (g_q h r c hr hc), ((Kp.refl [] w).alloc _).drewN _⟩
/-- Is a pair outside of a square? -/
def outI (s r c : Int) : Bool := !decide (0 ≤ r ∧ r < s ∧ 0 ≤ c ∧ c < s)
set_option maxRecDepth 100000 in
set_option maxHeartbeats 4000000 in
theorem outside_any (s r c : Int) (w : World) (hs0 : 0 ≤ s) (hs : s ≤ 131072) (hr0 : -9223372036854775808 ≤ r) (hr1 : r ≤ 9223372036854775807) (hc0 : -9223372036854775808 ≤ c) (hc1 : c ≤ 9223372036854775807) :
    Calls Try.prog 37 #[.int .i64 s, .agg #[.int .i64 r, .int .i64 c]] w fun e w' => e = .returned (.bool (outI s r c)) ∧ Kp [] w w' := by
  go_enter Try.func37, Try.ntmps37
  by_cases h1 : r < 0
  · have hq : IntKind.wrap .u64 r = r + 18446744073709551616 := by rw [IntKind.wrap_u64]; omega
    have hz : outI s r c = true := by unfold outI; rw [decide_eq_false (by omega)]; rfl
    rw [hz]
    clear hz
    go_wp2_with fail
    go_ret
    exact ⟨rfl, (Kp.refl [] w).alloc _⟩
  · by_cases h2 : c < 0
    · have hq : IntKind.wrap .u64 c = c + 18446744073709551616 := by rw [IntKind.wrap_u64]; omega
      have hz : outI s r c = true := by unfold outI; rw [decide_eq_false (by omega)]; rfl
      rw [hz]
      clear hz
      by_cases h3 : s ≤ r
      · go_wp2_with fail
        go_ret
        exact ⟨rfl, (Kp.refl [] w).alloc _⟩
      · have hq3 : s ≤ c + 18446744073709551616 := by omega
        go_wp2_with fail
        go_ret
        exact ⟨by simp, (Kp.refl [] w).alloc _⟩
    · have hz : outI s r c = (decide (s ≤ r) || decide (s ≤ c)) := by
        unfold outI
        by_cases h3 : s ≤ r
        · rw [decide_eq_false (by omega), decide_eq_true h3]; rfl
        · by_cases h4 : s ≤ c
          · rw [decide_eq_false (by omega), decide_eq_true h4, Bool.or_true]; rfl
          · rw [decide_eq_true (by omega), decide_eq_false h3, decide_eq_false h4]; rfl
      rw [hz]
      clear hz
      by_cases h3 : s ≤ r
      · go_wp2_with fail
        go_ret
        exact ⟨by simp, (Kp.refl [] w).alloc _⟩
      · have hq3 : decide (s ≤ r) = false := decide_eq_false h3
        rw [hq3]
        go_wp2_with fail
        go_ret
        exact ⟨by simp, (Kp.refl [] w).alloc _⟩
/-- Four rows, the pairs of the quarters. -/
def Four (w : World) (g base h : Nat) (l : List (Nat × Nat)) : Prop :=
  ∃ vs : Nat → Value, Blk w g 106 [vs 0, vs 1, vs 2, vs 3] ∧ (∀ q, q < 4 → w.ownsRow base 24 2 (vs q) (part h l q).length (pc (part h l q))) ∧ (∀ q q', q < 4 → q' < 4 → q ≠ q' → ∀ b ∈ ownL (vs q), b ∉ ownL (vs q'))
theorem Four.kp0 {w w' : World} {g base h : Nat} {l : List (Nat × Nat)} (hf : Four w g base h l) (hk : Kp [] w w') : Four w' g base h l := by
  obtain ⟨vs, h1, h2, h3⟩ := hf
  exact ⟨vs, h1.kp0 hk, fun q hq => own_kp0 (h2 q hq) hk, h3⟩
theorem part_snoc (h : Nat) (l : List (Nat × Nat)) (p : Nat × Nat) (i : Nat) : part h (l ++ [p]) i = if qN h p = i then part h l i ++ [p] else part h l i := by
  unfold part
  rw [List.filter_append, List.filter_cons, List.filter_nil]
  by_cases hq : qN h p = i
  · rw [if_pos hq, if_pos (by simpa using hq)]
  · rw [if_neg hq, if_neg (by simpa using hq), List.append_nil]
theorem four_set {α : Type} (vs : Nat → α) (u : α) {q : Nat} (hq : q < 4) : [vs 0, vs 1, vs 2, vs 3].set q u = [(if 0 = q then u else vs 0), (if 1 = q then u else vs 1), (if 2 = q then u else vs 2), (if 3 = q then u else vs 3)] := by
  rcases (show q = 0 ∨ q = 1 ∨ q = 2 ∨ q = 3 by omega) with rfl | rfl | rfl | rfl <;> rfl
theorem Four.at_ {w : World} {g base h : Nat} {l : List (Nat × Nat)} (hf : Four w g base h l) (hgb : g < base) (q : Nat) (hq : q < 4) : ∃ A n c, w.cell? ⟨g, q, none⟩ = some (.slice A n c) ∧ w.ownsRow base 24 2 (.slice A n c) n (pc (part h l q)) ∧ n = (part h l q).length ∧
    ∀ (w3 : World) (new : Value) (p : Nat × Nat), qN h p = q → w3.ownsRow base 24 2 new (n + 1) (pc (part h l q) ++ [.int .i64 (p.1 : Int), .int .i64 (p.2 : Int)]) → Kp (ownL (.slice A n c)) w w3 → (∀ b ∈ ownL new, b ∈ ownL (.slice A n c) ∨ w.heap.size ≤ b) → Four (w3.setCell ⟨g, q, none⟩ new) g base h (l ++ [p]) := by
  obtain ⟨vs, h1, h2, h3⟩ := hf
  obtain ⟨A, c, hv⟩ : ∃ A c, vs q = .slice A (part h l q).length c := by
    rcases (h2 q hq).2 with ⟨h, hn⟩ | ⟨g, cap, cur, h, _⟩
    · exact ⟨none, 0, by rw [h, hn]⟩
    · exact ⟨_, cap, h⟩
  refine ⟨A, _, c, ?_, by rw [← hv]; exact h2 q hq, rfl, fun w3 new p hp ho hk hb => ?_⟩
  · rw [← hv, h1.cell]
    rcases (show q = 0 ∨ q = 1 ∨ q = 2 ∨ q = 3 by omega) with rfl | rfl | rfl | rfl <;> rfl
  · rw [← hv] at hk hb
    have hg : g ∉ ownL (vs q) := fun hm => by have := (own_ge (h2 q hq) (mem_ownL.1 hm)).1; omega
    have hks : Kp [g] w3 (w3.setCell ⟨g, q, none⟩ new) := (Kp.refl [g] w3).setCell (.inl (by simp)) new
    refine ⟨fun i => if i = q then new else vs i, ?_, fun i hi => ?_, fun i i' hi hi' hne b hm => ?_⟩
    · have := (h1.kp hk hg).set_ q new
      rw [four_set vs new hq] at this
      exact this
    · rw [part_snoc, hp]
      by_cases hiq : i = q
      · subst hiq
        simp only [if_true]
        rw [List.length_append, pc_snoc]
        exact own_kp ho hks (fun x hx hm => by simp only [List.mem_singleton] at hm; subst hm; have := (own_ge ho hx).1; omega)
      · rw [if_neg (fun e => hiq e.symm)]
        simp only [if_neg hiq]
        refine own_kp (own_kp (h2 i hi) hk (fun x hx => h3 i q hi hq hiq x (mem_ownL.2 hx))) hks (fun x hx hm => ?_)
        simp only [List.mem_singleton] at hm
        subst hm
        have := (own_ge (h2 i hi) hx).1
        omega
    · simp only at hm ⊢
      by_cases hiq : i = q
      · subst hiq
        rw [if_pos rfl] at hm
        rw [if_neg (fun e => hne e.symm)]
        rcases hb b hm with h | h
        · exact h3 i i' hi hi' hne b h
        · intro h'
          have := (own_ge (h2 i' hi') (mem_ownL.1 h')).2
          omega
      · rw [if_neg hiq] at hm
        by_cases hiq' : i' = q
        · subst hiq'
          rw [if_pos rfl]
          intro h'
          rcases hb b h' with h | h
          · exact h3 i i' hi hi' hne b hm h
          · have := (own_ge (h2 i hi) (mem_ownL.1 hm)).2
            omega
        · rw [if_neg hiq']
          exact h3 i i' hi hi' hne b hm
theorem addr_fld (a : Addr) {n : Nat} (h : 0 < n) : a.add n = ⟨a.block, a.off + n, none⟩ := by
  unfold Addr.add
  rw [if_neg (by omega)]
theorem Rd.ixP {w : World} {B : Nat} {A : Option Addr} {l : List (Nat × Nat)} (h : Rd w B A (pc l)) {k : Nat} (hk : k < l.length) :
    ∃ r c ad, l[k]? = some (r, c) ∧ A = some ad ∧ ad.block < B ∧ w.cell? (ad.add (k * 2)) = some (.int .i64 ((r : Nat) : Int)) ∧ w.cell? ⟨(ad.add (k * 2)).block, (ad.add (k * 2)).off + 1, none⟩ = some (.int .i64 ((c : Nat) : Int)) := by
  obtain ⟨p, hp⟩ : ∃ p, l[k]? = some p := ⟨_, List.getElem?_eq_getElem hk⟩
  obtain ⟨h1, h2⟩ := pc_get hp
  obtain ⟨ad, e1, hb, c1⟩ := h _ _ h1
  obtain ⟨ad2, e2, _, c2⟩ := h _ _ h2
  rw [e1] at e2
  injection e2 with e2
  subst e2
  rw [← addr_add_add, addr_fld _ (by omega)] at c2
  exact ⟨p.1, p.2, ad, hp, e1, hb, c1, c2⟩
theorem Try.info_pair : (Try.prog.info? 24).map (fun i => (i.zero, i.size, i.bytes)) = some (some (.agg #[.int .i64 0, .int .i64 0]), 2, 16) := by kernel_rfl
set_option maxRecDepth 100000 in
set_option maxHeartbeats 4000000 in
theorem parted_any (h n c B : Nat) (A : Option Addr) (l : List (Nat × Nat)) (w : World) (hx : Rd w B A (pc l)) (hn : l.length = n) (hb : n ≤ 1000000) (hh : h ≤ 16) (hs : ∀ p ∈ l, p.1 < 131072 ∧ p.2 < 131072) :
    Calls Try.prog 60 #[.int .i64 (h : Int), .slice A n c] w fun e w' => ∃ vs : Nat → Value, e = .returned (.agg #[vs 0, vs 1, vs 2, vs 3]) ∧ (∀ q, q < 4 → ∃ Aq cq, vs q = .slice Aq (part h l q).length cq ∧ Rd w' w'.heap.size Aq (pc (part h l q)) ∧ (∀ ad, Aq = some ad → w.heap.size ≤ ad.block)) ∧ Kp [] w w' := by
  obtain ⟨i0, hi, hz0, hz1, hz2⟩ := info_parts Try.info_pair
  have HX := Lib.hid hx
  have HN := Lib.hid hn; clear hn
  have HS := Lib.hid hs; clear hs
  clear hx
  go_enter Try.func60, Try.ntmps60
  go_wp2_with fail
  obtain ⟨g, hg⟩ : ∃ g, g = w.heap.size := ⟨_, rfl⟩
  rw [← hg]
  have HG := Lib.hid hg
  have HF0 := Lib.hid (show Four (w.alloc (.cells #[.slice none 0 0, .slice none 0 0, .slice none 0 0, .slice none 0 0] 106)) g (g + 1) h [] from
    ⟨fun _ => .slice none 0 0, by rw [hg]; exact Blk.new w _ _, fun q hq => World.ownsRow_nil _ _ _ _, fun q q' _ _ _ b hb => by simp [mem_ownL, Value.ownBlock] at hb⟩)
  have HK0 := Lib.hid ((Kp.refl [] w).alloc (.cells #[.slice none 0 0, .slice none 0 0, .slice none 0 0, .slice none 0 0] 106))
  clear hg
  go_loopw [10] (fun x wr => ∃ k : Nat, x = .int .i64 (k : Int) ∧ k ≤ n ∧ Hid (Four wr g (g + 1) h (l.take k)) ∧ Hid (Kp [] w wr)) (fun x _ => n - (intOf x).toNat)
  case atStart => exact ⟨0, rfl, by omega, HF0, HK0⟩
  case round =>
    clear HF0 HK0
    obtain ⟨k, rfl, hk, HF, HK⟩ := hrel
    by_cases hlt : k < n
    · obtain ⟨r, c1, ad, hp, rfl, _, hq1, hq2⟩ := (HX.out.kp0 HK.out).ixP (k := k) (by rw [HN.out]; exact hlt)
      obtain ⟨hr, hc⟩ := HS.out _ (List.mem_of_getElem? hp)
      have HP := Lib.hid hp
      obtain ⟨q, hq⟩ : ∃ q, q = qN h (r, c1) := ⟨_, rfl⟩
      have HQ := Lib.hid hq
      have hq4 : q < 4 := by rw [hq]; exact qN_lt _ _
      have hi0 : (0 : Int) ≤ (k : Int) := by omega
      have hi1 : (k : Int) < (n : Int) := by omega
      clear hp hq
      go_wp2_with fail
      refine (quarter_any h r c1 _ hh hr hc).mono ?_
      rw [← HQ.out]
      rintro e w2 ⟨rfl, hk2⟩
      clear hq1 hq2
      obtain ⟨gp, hgp⟩ : ∃ gp, gp = wr.heap.size := ⟨_, rfl⟩
      rw [← hgp]
      have hB2 := (Blk.new wr 24 [.int .i64 (r : Int), .int .i64 (c1 : Int)]).kp0 hk2
      rw [← hgp] at hB2
      have hk2' : Kp [] wr w2 := ((Kp.refl [] wr).alloc _).trans hk2
      have hF2 := HF.out.kp0 hk2'
      have HF2 := Lib.hid hF2
      obtain ⟨Aq, nq, cq, hcq, hoq, hnq, hst⟩ := hF2.at_ (by omega) q hq4
      have HST := Lib.hid (hst · · (r, c1) HQ.out.symm)
      clear hst
      have hgl : g < wr.heap.size := by obtain ⟨vs, h1, _⟩ := HF.out; exact h1.lt
      have hgg : g ≠ gp := by omega
      have hp0 : w2.cell? ⟨gp, 0, none⟩ = some (.int .i64 (r : Int)) := by rw [hB2.cell]; rfl
      have hp1 : w2.cell? ⟨gp, 1, none⟩ = some (.int .i64 (c1 : Int)) := by rw [hB2.cell]; rfl
      have HOQ := Lib.hid hoq
      have hnb : nq ≤ 1000000 := by rw [hnq]; exact Nat.le_trans (List.length_filter_le _ _) (by rw [List.length_take]; omega)
      have HNQ := Lib.hid hnq
      have HK2 := Lib.hid (HK.out.trans hk2')
      have hgne : g ∉ ownL (.slice Aq nq cq) := fun hm => by have := (own_ge hoq (mem_ownL.1 hm)).1; omega
      have HNE := Lib.hid hgne
      have HFR := Lib.hid (show ∃ l, Blk w2 g 106 l by obtain ⟨vs, h1, _⟩ := hF2; exact ⟨_, h1⟩)
      have HSZ := Lib.hid (show g + 1 ≤ w2.heap.size from Nat.le_trans hgl hk2'.size)
      have hj0 : (0 : Int) ≤ (q : Int) := by omega
      have hj1 : (q : Int) < 4 := by omega
      have hcq2 : (w2.alloc (.cells #[.int .i64 (r : Int), .int .i64 (c1 : Int)] 24)).cell? ⟨g, q, none⟩ = some (.slice Aq nq cq) := ((Kp.refl [] w2).alloc _).cell hcq (by simp)
      clear hB2 hF2 hoq hnq hk2 hk2' hgp hgne
      go_wp2_with fail
      go_region_law
        ((refine step_append_rd rfl (.tmp 20) (.tmp 22) 22 rfl (g + 1) 24 i0 (.agg #[.int .i64 0, .int .i64 0]) 2 16 Try.underlying22 hi hz0 hz1 hz2 rfl (by decide) (.slice Aq nq cq) nq _ (by rfl) (own_kp0 HOQ.out (show Kp [] w2 _ from by first | exact ((Kp.refl _ _).alloc _) | exact ((Kp.refl _ _).drew.alloc _))) _ _ 1 1 [.int .i64 (r : Int), .int .i64 (c1 : Int)] (by rfl) rfl (rd_new' _ #[.int .i64 (r : Int), .int .i64 (c1 : Int)] 24 rfl) (by simp [Value.oneCell']) (by unfold maxLen; omega) (by omega) (Nat.le_trans HSZ.out (by simp)) ?_; intro v3 w3 hown3 hgrow3 hat3; obtain ⟨A3, c3, rfl, _⟩ := own_form hown3; have hk3 : Kp (ownL (.slice Aq nq cq)) w2 w3 := (show Kp (ownL (.slice Aq nq cq)) w2 _ from by first | exact ((Kp.refl _ _).alloc _) | exact ((Kp.refl _ _).drew.alloc _)).grown hgrow3 (fun x hx => .inl (mem_ownL.2 hx)); have e1 := hk3.cell hcq HNE.out; have e4 : w3.frozen? ⟨g, q, none⟩ = false := hk3.free1 HFR.out HNE.out; have H3 := Lib.hid (HST.out w3 _ hown3 hk3 (own_new hat3)); have HK3 := Lib.hid (HK2.out.trans' hk3 (fun x hx => .inr (by have := (own_ge HOQ.out (mem_ownL.1 hx)).1; have := HG.out; omega))); clear hown3 hgrow3 hat3 hk3))
      all_goals
        go_wp2_with fail
        exact ⟨⟨k + 1, by go_num, by omega, Lib.hid (by rw [List.take_add_one, HP.out]; exact H3.out), Lib.hid (HK3.out.setCell (.inr (by rw [HG.out]; exact Nat.le_refl _)) _)⟩, by simp [intOf]; omega⟩
    · obtain rfl : k = n := by omega
      rw [List.take_of_length_le (Nat.le_of_eq HN.out)] at HF
      obtain ⟨vs, h1, h2, h3⟩ := HF.out
      have hv : ∀ q, q < 4 → ∃ Aq cq, vs q = .slice Aq (part h l q).length cq := fun q hq => by
        rcases (h2 q hq).2 with ⟨h, hn⟩ | ⟨g, cap, cur, h, _⟩
        · exact ⟨none, 0, by rw [h, hn]⟩
        · exact ⟨_, cap, h⟩
      obtain ⟨a0, k0, e0⟩ := hv 0 (by omega)
      obtain ⟨a1, k1, e1⟩ := hv 1 (by omega)
      obtain ⟨a2, k2, e2⟩ := hv 2 (by omega)
      obtain ⟨a3, k3, e3⟩ := hv 3 (by omega)
      have H2 := Lib.hid h2
      have HV := Lib.hid hv
      rw [e0, e1, e2, e3] at h1
      have HE := Lib.hid (And.intro e0 (And.intro e1 (And.intro e2 e3)))
      have HB := Lib.hid h1
      have hq0 : wr.cell? ⟨g, 0, none⟩ = some (.slice a0 (part h l 0).length k0) := by rw [h1.cell]; rfl
      have hq1 : wr.cell? ⟨g, 1, none⟩ = some (.slice a1 (part h l 1).length k1) := by rw [h1.cell]; rfl
      have hq2 : wr.cell? ⟨g, 2, none⟩ = some (.slice a2 (part h l 2).length k2) := by rw [h1.cell]; rfl
      have hq3 : wr.cell? ⟨g, 3, none⟩ = some (.slice a3 (part h l 3).length k3) := by rw [h1.cell]; rfl
      have hf0 := h1.free 0
      have hf1 := h1.free 1
      have hf2 := h1.free 2
      have hf3 := h1.free 3
      clear h1 h2 h3 hv e0 e1 e2 e3
      go_wp2_with fail
      have hb9 := (((HB.out.set_ 0 (.slice a0 (part h l 0).length k0)).set_ 1 (.slice a1 (part h l 1).length k1)).set_ 2 (.slice a2 (part h l 2).length k2)).set_ 3 (.slice a3 (part h l 3).length k3)
      have hk9 : Kp [g] wr ((((wr.setCell ⟨g, 0, none⟩ (.slice a0 (part h l 0).length k0)).setCell ⟨g, 1, none⟩ (.slice a1 (part h l 1).length k1)).setCell ⟨g, 2, none⟩ (.slice a2 (part h l 2).length k2)).setCell ⟨g, 3, none⟩ (.slice a3 (part h l 3).length k3)) :=
        ((((Kp.refl [g] wr).setCell (.inl (by simp)) _).setCell (.inl (by simp)) _).setCell (.inl (by simp)) _).setCell (.inl (by simp)) _
      generalize (((wr.setCell ⟨g, 0, none⟩ (.slice a0 (part h l 0).length k0)).setCell ⟨g, 1, none⟩ (.slice a1 (part h l 1).length k1)).setCell ⟨g, 2, none⟩ (.slice a2 (part h l 2).length k2)).setCell ⟨g, 3, none⟩ (.slice a3 (part h l 3).length k3) = w9 at hb9 hk9 ⊢
      simp only [List.set_cons_zero, List.set_cons_succ] at hb9
      obtain ⟨e0, e1, e2, e3⟩ := HE.out
      have r0 : w9.cell? ⟨g, 0, none⟩ = some (.slice a0 (part h l 0).length k0) := by rw [hb9.cell]; rfl
      have r1 : w9.cell? ⟨g, 1, none⟩ = some (.slice a1 (part h l 1).length k1) := by rw [hb9.cell]; rfl
      have r2 : w9.cell? ⟨g, 2, none⟩ = some (.slice a2 (part h l 2).length k2) := by rw [hb9.cell]; rfl
      have r3 : w9.cell? ⟨g, 3, none⟩ = some (.slice a3 (part h l 3).length k3) := by rw [hb9.cell]; rfl
      refine bodyPost_ret (v := .agg #[.slice a0 (part h l 0).length k0, .slice a1 (part h l 1).length k1, .slice a2 (part h l 2).length k2, .slice a3 (part h l 3).length k3]) (by simp [results, Try.results60, go_sem, r0, r1, r2, r3]) rfl ⟨vs, by rw [e0, e1, e2, e3], fun q hq => ?_, HK.out.trans' hk9 (fun x hx => .inr (by simp only [List.mem_singleton] at hx; subst hx; rw [HG.out]; exact Nat.le_refl _))⟩
      obtain ⟨Aq, cq, hvq⟩ := HV.out q hq
      have ho := own_kp (H2.out q hq) hk9 (fun x hx hm => by simp only [List.mem_singleton] at hm; subst hm; have := (own_ge (H2.out q hq) hx).1; omega)
      rw [hvq] at ho
      refine ⟨Aq, cq, hvq, own_rd ho, fun ad ha => ?_⟩
      obtain ⟨A', c', e', _, _, _, hb'⟩ := own_form ho
      injection e' with e1' e2' e3'
      have := (hb' ad (by rw [← e1']; exact ha)).2.2.1
      have := HG.out
      omega
end Go.Proofs.Ytldmabkilgpgcaa
