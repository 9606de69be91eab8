/-
  LAYER 1: what a vector tells.
  CONDITIONS: as each says.
-/
import Derived.Test.YtldmabkilgpgcaaBfind
namespace Go.Proofs.Ytldmabkilgpgcaa
open Go.RowKit

/-- The place of a one as the document has it. -/
def selO (bs : List Bool) (k : Int) : Option Nat := if k < 0 then none else (List.range bs.length).find? fun i => (bs[i]? == some true) && (cntI bs i == k.toNat)
theorem selO_some {bs : List Bool} {k : Int} {i : Nat} (h0 : 0 ≤ k) (h : IsSel bs k.toNat i) : selO bs k = some i := by
  unfold selO
  rw [if_neg (by omega)]
  have hi : i < bs.length := (List.getElem?_eq_some_iff.1 h.1).1
  cases hf : (List.range bs.length).find? (fun i => (bs[i]? == some true) && (cntI bs i == k.toNat)) with
  | none =>
    have := List.find?_eq_none.1 hf i (List.mem_range.2 hi)
    exfalso
    apply this
    have h2 : cntI bs i = k.toNat := h.2
    simp [h.1, h2]
  | some j =>
    have hj := List.find?_some hf
    simp only [Bool.and_eq_true, beq_iff_eq] at hj
    have : IsSel bs k.toNat j := ⟨hj.1, hj.2⟩
    rw [this.unique h]
theorem selO_none {bs : List Bool} {k : Int} (h : k < 0 ∨ (bs.count true : Int) ≤ k) : selO bs k = none := by
  unfold selO
  by_cases h0 : k < 0
  · rw [if_pos h0]
  · rw [if_neg h0, List.find?_eq_none]
    intro i hi hc
    simp only [Bool.and_eq_true, beq_iff_eq] at hc
    have : IsSel bs k.toNat i := ⟨hc.1, hc.2⟩
    have := this.lt
    omega
def selI (bs : List Bool) (k : Int) : Int := (((selO bs k).getD 0 : Nat) : Int)
def selB (bs : List Bool) (k : Int) : Bool := (selO bs k).isSome
def getB (bs : List Bool) (i : Int) : Bool := if i < 0 then false else bs.getD i.toNat false
/-- How many ones stand below a place, whatever number it is. -/
def rankI (bs : List Bool) (i : Int) : Nat := cntI bs (min (max i 0) (bs.length : Int)).toNat
/-- Behind a call: the vector is what it was; only its own blocks have changed. -/
def VPost (w w' : World) (S : List Nat) (p : Nat) (bs : List Bool) (c : Bool) : Prop := ∃ S' c', VecM w' S' p bs c' ∧ Kp S w w' ∧ Grow w S S' ∧ (c = true → c' = true ∧ S = S' ∧ Kp [] w w')

/-- The same, of a call that counts. -/
def VPostT (w w' : World) (S : List Nat) (p : Nat) (bs : List Bool) (c : Bool) : Prop := ∃ S', VecM w' S' p bs true ∧ Kp S w w' ∧ Grow w S S' ∧ (c = true → S = S' ∧ Kp [] w w')
theorem VPostT.post {w w' : World} {S : List Nat} {p : Nat} {bs : List Bool} {c : Bool} (h : VPostT w w' S p bs c) : VPost w w' S p bs c := by
  obtain ⟨S', h1, h2, h3, h4⟩ := h
  exact ⟨S', true, h1, h2, h3, fun h => ⟨rfl, h4 h⟩⟩

theorem vthere_any (S : List Nat) (p : Nat) (bs : List Bool) (c : Bool) (w : World) (h : VecM w S p bs c) :
    Calls Try.prog 61 #[.pointer (some ⟨p, 0, none⟩)] w fun e w' => e = .returned (.bool true) ∧ w = w' := by
  obtain ⟨_, _, c4, _⟩ := h.tail
  clear h
  go_enter Try.func61, Try.ntmps61
  go_wp2_with fail
  go_ret
  exact ⟨rfl, rfl⟩
theorem vlen_any (S : List Nat) (p n : Nat) (bs : List Bool) (c : Bool) (w : World) (h : VecM w S p bs c) (hn : bs.length = n) :
    Calls Try.prog 45 #[.pointer (some ⟨p, 0, none⟩)] w fun e w' => e = .returned (.int .i64 (n : Int)) ∧ w = w' := by
  obtain ⟨_, c3, _, _⟩ := h.tail
  rw [hn] at c3
  clear hn
  go_enter Try.func45, Try.ntmps45
  go_wp2_with fail
  refine (vthere_any S p bs c w h).mono ?_
  rintro e w1 ⟨rfl, rfl⟩
  go_wp2_with fail
  go_ret
  exact ⟨rfl, rfl⟩
theorem vis_any (S : List Nat) (p n : Nat) (i : Int) (bs : List Bool) (c : Bool) (w : World) (h : VecM w S p bs c) (hn : bs.length = n) :
    Calls Try.prog 66 #[.pointer (some ⟨p, 0, none⟩), .int .i64 i] w fun e w' => e = .returned (.bool (decide (0 ≤ i ∧ i < (n : Int)))) ∧ w = w' := by
  obtain ⟨_, c3, _, _⟩ := h.tail
  rw [hn] at c3
  clear hn h
  by_cases h0 : 0 ≤ i
  · by_cases h1 : i < (n : Int)
    · have hd := Lib.hid (show decide (0 ≤ i ∧ i < (n : Int)) = true by simp; omega)
      obtain ⟨qv, hqv⟩ : ∃ qv, qv = decide (0 ≤ i ∧ i < (n : Int)) := ⟨_, rfl⟩
      rw [← hqv]
      have hd := Lib.hid (hqv.trans hd.out)
      clear hqv
      go_enter Try.func66, Try.ntmps66
      go_wp2_with fail
      go_ret
      exact ⟨by rw [hd.out]; rfl, rfl⟩
    · have hd := Lib.hid (show decide (0 ≤ i ∧ i < (n : Int)) = false by simp; omega)
      have hd1 : decide (i < (n : Int)) = false := by simp; omega
      obtain ⟨qv, hqv⟩ : ∃ qv, qv = decide (0 ≤ i ∧ i < (n : Int)) := ⟨_, rfl⟩
      rw [← hqv]
      have hd := Lib.hid (hqv.trans hd.out)
      clear hqv
      go_enter Try.func66, Try.ntmps66
      go_wp2_with fail
      go_ret
      exact ⟨by rw [hd.out]; rfl, rfl⟩
  · have hd := Lib.hid (show decide (0 ≤ i ∧ i < (n : Int)) = false by simp; omega)
    have h00 : i < 0 := by omega
    obtain ⟨qv, hqv⟩ : ∃ qv, qv = decide (0 ≤ i ∧ i < (n : Int)) := ⟨_, rfl⟩
    rw [← hqv]
    have hd := Lib.hid (hqv.trans hd.out)
    clear hqv
    go_enter Try.func66, Try.ntmps66
    go_wp2_with fail
    go_ret
    exact ⟨by rw [hd.out]; rfl, rfl⟩

set_option maxRecDepth 100000 in
set_option maxHeartbeats 2000000 in
theorem vget_any (S : List Nat) (p : Nat) (i : Int) (bs : List Bool) (c : Bool) (w : World) (h : VecM w S p bs c) :
    Calls Try.prog 56 #[.pointer (some ⟨p, 0, none⟩), .int .i64 i] w fun e w' => e = .returned (.bool (getB bs i)) ∧ w = w' := by
  have HV := Lib.hid h; clear h
  obtain ⟨n, hn⟩ : ∃ n, bs.length = n := ⟨_, rfl⟩
  have HN := Lib.hid hn; clear hn
  by_cases hin : 0 ≤ i ∧ i < (n : Int)
  · obtain ⟨I, rfl⟩ : ∃ I : Nat, i = (I : Int) := ⟨i.toNat, by omega⟩
    have hIn : I < n := by omega
    obtain ⟨b, hb⟩ : ∃ b, bs[I]? = some b := ⟨_, List.getElem?_eq_getElem (by rw [HN.out]; exact hIn)⟩
    have HG := Lib.hid (show getB bs (I : Int) = b by
      unfold getB
      rw [if_neg (by omega), Int.toNat_natCast, List.getD_eq_getElem?_getD, hb]
      rfl)
    obtain ⟨g, c0, hcw⟩ := HV.out.words
    obtain ⟨_, _, _, hnb⟩ := HV.out.tail
    obtain ⟨m, hm⟩ : ∃ m, m = wordsOf bs.length := ⟨_, rfl⟩
    rw [← hm] at c0 hcw
    obtain ⟨q, hq⟩ : ∃ q, q = I / 64 := ⟨_, rfl⟩
    obtain ⟨r, hr⟩ : ∃ r, r = I % 64 := ⟨_, rfl⟩
    have hqm : q < m := by unfold wordsOf at hm; rw [HN.out] at hm; omega
    have cx := hcw q hqm
    obtain ⟨x, hx⟩ : ∃ x, x = bitN (wordL bs q) := ⟨_, rfl⟩
    have hxb : x < 2 ^ 64 := by rw [hx]; exact bitN_wordL_lt _ _
    rw [← hx] at cx
    have hdiv : (I : Int).tdiv 64 = (q : Int) := by rw [Int.tdiv_eq_ediv_of_nonneg (by omega)]; omega
    have hmod : (I : Int).tmod 64 = (r : Int) := by rw [Int.tmod_eq_emod_of_nonneg (by omega)]; omega
    rw [HN.out] at hnb
    have hwq : IntKind.i64.wrap (q : Int) = (q : Int) := by rw [IntKind.wrap_i64]; omega
    have hwr : IntKind.i64.wrap (r : Int) = (r : Int) := by rw [IntKind.wrap_i64]; omega
    have hr64 : r < 64 := by omega
    obtain ⟨y, hy⟩ : ∃ y, y = x / 2 ^ r := ⟨_, rfl⟩
    have hdx : (x : Int) / 2 ^ r = (y : Int) := by rw [hy]; simp
    have hdx' : (x : Int) / 2 ^ min r 64 = (y : Int) := by rw [show min r 64 = r from by omega]; exact hdx
    have hyb : y < 2 ^ 64 := by rw [hy]; exact Nat.lt_of_le_of_lt (Nat.div_le_self _ _) hxb
    obtain ⟨t, ht⟩ : ∃ t, t = y % 2 := ⟨_, rfl⟩
    have hand : bits .and .u64 (y : Int) 1 = (t : Int) := by
      have := u64_and_nat y 1 (by omega) (by omega)
      rw [Nat.and_one_is_mod, ← ht] at this
      exact this
    have htb : t = b.toNat := by
      rw [ht, hy, hx]
      refine bitN_bit (l := wordL bs q) (i := r) ?_
      unfold wordL
      rw [List.getElem?_take, if_pos hr64, List.getElem?_drop, show 64 * q + r = I by omega, hb]
    have heq : ((t : Int) == 1) = b := by rw [htb]; cases b <;> rfl
    have hqi : (q : Int) < (m : Int) := by omega
    have hdd : decide (0 ≤ (I : Int) ∧ (I : Int) < (n : Int)) = true := by simp; omega
    clear hb hcw hnb hm hq hr hx hxb hy hyb ht htb hin
    go_enter Try.func56, Try.ntmps56
    go_wp2_with fail
    refine (vthere_any S p bs c w HV.out).mono ?_
    rintro e w1 ⟨rfl, rfl⟩
    go_wp2_with fail
    refine (vis_any S p n I bs c w HV.out HN.out).mono ?_
    rintro e w1 ⟨rfl, rfl⟩
    rw [hdd]
    go_wp2_with fail
    go_ret
    exact ⟨by rw [HG.out]; rfl, rfl⟩
  · have HG := Lib.hid (show getB bs i = false by
      unfold getB
      by_cases h0 : i < 0
      · rw [if_pos h0]
      · rw [if_neg h0, List.getD_eq_getElem?_getD, List.getElem?_eq_none (by rw [HN.out]; omega)]
        rfl)
    have hdd : decide (0 ≤ i ∧ i < (n : Int)) = false := by simpa using hin
    clear hin
    go_enter Try.func56, Try.ntmps56
    go_wp2_with fail
    refine (vthere_any S p bs c w HV.out).mono ?_
    rintro e w1 ⟨rfl, rfl⟩
    go_wp2_with fail
    refine (vis_any S p n i bs c w HV.out HN.out).mono ?_
    rintro e w1 ⟨rfl, rfl⟩
    rw [hdd]
    go_wp2_with fail
    go_ret
    exact ⟨by rw [HG.out]; rfl, rfl⟩

set_option maxRecDepth 100000 in
set_option maxHeartbeats 2000000 in
theorem vones_any (S : List Nat) (p : Nat) (bs : List Bool) (c : Bool) (w : World) (h : VecM w S p bs c) :
    Calls Try.prog 40 #[.pointer (some ⟨p, 0, none⟩)] w fun e w' => e = .returned (.int .i64 ((bs.count true : Nat) : Int)) ∧ VPostT w w' S p bs c := by
  have HV := Lib.hid h; clear h
  obtain ⟨N, hN⟩ : ∃ N, N = bs.count true := ⟨_, rfl⟩
  rw [← hN]
  have HN := Lib.hid hN; clear hN
  go_enter Try.func40, Try.ntmps40
  go_wp2_with fail
  refine (vthere_any S p bs c w HV.out).mono ?_
  rintro e w1 ⟨rfl, rfl⟩
  go_wp2_with fail
  refine (all_any S p bs c w HV.out).mono ?_
  rw [← HN.out]
  rintro e w2 ⟨rfl, S', hv, hk, hg, hc⟩
  have HP := Lib.hid (show VPostT w w2 S p bs c from ⟨S', hv, hk, hg, fun h => ⟨(hc h).2, (hc h).1⟩⟩)
  clear hv hk hg hc
  go_wp2_with fail
  go_ret
  exact ⟨rfl, HP.out⟩

theorem below_int (S : List Nat) (p : Nat) (x : Int) (i : Nat) (bs : List Bool) (c : Bool) (w : World) (h : VecM w S p bs c) (hi : i ≤ bs.length) (hx : x = (i : Int)) :
    Calls Try.prog 67 #[.pointer (some ⟨p, 0, none⟩), .int .i64 x] w fun e w' => e = .returned (.int .i64 ((cntI bs i : Nat) : Int)) ∧ ∃ S', VecM w' S' p bs true ∧ Kp S w w' ∧ Grow w S S' ∧ (c = true → Kp [] w w' ∧ S = S') := by
  subst hx
  exact below_any S p i bs c w h hi

set_option maxRecDepth 100000 in
set_option maxHeartbeats 4000000 in
theorem vrank_any (S : List Nat) (p : Nat) (i : Int) (bs : List Bool) (c : Bool) (w : World) (h : VecM w S p bs c) :
    Calls Try.prog 57 #[.pointer (some ⟨p, 0, none⟩), .int .i64 i] w fun e w' => e = .returned (.int .i64 ((rankI bs i : Nat) : Int)) ∧ VPostT w w' S p bs c := by
  have HV := Lib.hid h; clear h
  obtain ⟨n, hn⟩ : ∃ n, bs.length = n := ⟨_, rfl⟩
  have HN := Lib.hid hn
  obtain ⟨_, c3, _, _⟩ := HV.out.tail
  rw [hn] at c3
  obtain ⟨I, hI⟩ : ∃ I : Nat, min (max i 0) (n : Int) = (I : Int) := ⟨(min (max i 0) (n : Int)).toNat, by omega⟩
  have hIn : I ≤ n := by omega
  obtain ⟨N, hNN⟩ : ∃ N, N = rankI bs i := ⟨_, rfl⟩
  have HNN := Lib.hid (show cntI bs I = N by rw [hNN]; unfold rankI; rw [hn, hI, Int.toNat_natCast])
  rw [← hNN]
  have HI := Lib.hid hI
  clear hNN hn hI
  go_enter Try.func57, Try.ntmps57
  go_wp2_with fail
  refine (vthere_any S p bs c w HV.out).mono ?_
  rintro e w1 ⟨rfl, rfl⟩
  go_wp2_with fail
  refine wp_region_still_tail 10 (by kernel_rfl) (by kernel_rfl) ?_
  simp only [List.take_succ_cons, List.take_zero, List.drop_succ_cons, List.drop_zero]
  repeat still_step
  refine wpStill_nil ?_
  change wpList _ _ _ _ _ w.drew
  go_wp2_with fail
  all_goals
    refine (below_int S p _ I bs c w.drew (HV.out.kp0 (Kp.refl [] w).drew) (by rw [HN.out]; exact hIn) (by have hI := HI.out; first | omega | (split at * <;> omega))).mono ?_
    rw [HNN.out]
    rintro e w2 ⟨rfl, S', hv, hk, hg, hc⟩
    have HP := Lib.hid (show VPostT w w2 S p bs c from ⟨S', hv, ((Kp.refl S w).drew).trans hk, hg, fun h => ⟨(hc h).2, ((Kp.refl [] w).drew).trans (hc h).1⟩⟩)
    clear hv hk hg hc
    go_wp2_with fail
    go_ret
    exact ⟨rfl, HP.out⟩

end Go.Proofs.Ytldmabkilgpgcaa
