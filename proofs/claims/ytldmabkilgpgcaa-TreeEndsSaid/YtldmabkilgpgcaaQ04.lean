/-
  THE CONTRACTS OF THE STATEMENTS' OWN KIT (marks; lists with marks behind their ends; what is the same), at bytes and at numbers.
  ROWS OF THE CALL'S OWN THAT LIE APART FROM EACH OTHER, as many as there are: one of them may grow.
  ossuarykit.Pick: a number in 0 .. n-1 of any integer.
  LAYER 15 (tree): Side, height.
  CONDITIONS: as each lemma says.
-/
import Derived.Test.YtldmabkilgpgcaaQ00
import Derived.Test.YtldmabkilgpgcaaProg
import Derived.WalkSpells
import Derived.WalkLawsBesides
import Derived.Deep.QuietTactic
import Derived.BigQuiet
import Derived.KernelRfl
namespace Go.Proofs.Ytldmabkilgpgcaa
open Go.RowKit

/-- The marks, as the code reckons them. -/
def markI (k i : Int) : Int := 1000003 * (k + 7) + i
def marksI (k : Int) (n : Nat) : List Int := (List.range n).map fun (i : Nat) => markI k (i : Int)
theorem marksI_succ (k : Int) (n : Nat) : marksI k (n + 1) = marksI k n ++ [markI k n] := by simp [marksI, List.range_succ]
theorem marksI_len (k : Int) (n : Nat) : (marksI k n).length = n := by simp [marksI]
theorem marksI_get (k : Int) (n i : Nat) (h : i < n) : (marksI k n)[i]? = some (markI k i) := by simp [marksI, h]

/-- The blocks that a slice value of the call's own lies in. -/
def ownL (v : Value) : List Nat := v.ownBlock.toList
theorem ownL_some (g n c o : Nat) : ownL (.slice (some ⟨g, o, none⟩) n c) = [g] := rfl
theorem ownL_none (n c : Nat) : ownL (.slice none n c) = [] := rfl
theorem mem_ownL {v : Value} {g : Nat} : g ∈ ownL v ↔ v.ownBlock = some g := by unfold ownL; cases v.ownBlock <;> simp; exact eq_comm

set_option maxRecDepth 100000 in
set_option maxHeartbeats 400000 in
theorem mark_any (k i : Int) (w : World) (hk : 0 ≤ k) (hk' : k ≤ 10) (hi : 0 ≤ i) (hi' : i ≤ 1000000000000) :
    Calls Try.prog 64 #[.int .i64 k, .int .i64 i] w fun e w' => e = .returned (.int .i64 (markI k i)) ∧ w = w' := by
  go_enter Try.func64, Try.ntmps64
  go_wp2_with fail
  go_ret
  exact ⟨rfl, rfl⟩

def markB (k i : Int) : Int := IntKind.u64.wrap (IntKind.u64.wrap (markI k i) * 11400714819323198485) / 72057594037927936 % 256
def marksB (k : Int) (n : Nat) : List Int := (List.range n).map fun (i : Nat) => markB k (i : Int)
theorem marksB_succ (k : Int) (n : Nat) : marksB k (n + 1) = marksB k n ++ [markB k n] := by simp [marksB, List.range_succ]
theorem marksB_len (k : Int) (n : Nat) : (marksB k n).length = n := by simp [marksB]
theorem marksB_get (k : Int) (n i : Nat) (h : i < n) : (marksB k n)[i]? = some (markB k i) := by simp [marksB, h]
set_option maxRecDepth 100000 in
set_option maxHeartbeats 400000 in
theorem markB_any (k i : Int) (w : World) (hk : 0 ≤ k) (hk' : k ≤ 10) (hi : 0 ≤ i) (hi' : i ≤ 1000000000000) :
    Calls Try.prog 43 #[.int .i64 k, .int .i64 i] w fun e w' => e = .returned (.int .u8 (markB k i)) ∧ w = w' := by
  go_enter Try.func43, Try.ntmps43
  go_wp2_with (go_at_call 64; refine (mark_any _ _ _ hk hk' hi hi').mono ?_; rintro e w' ⟨rfl, rfl⟩)
  go_ret
  exact ⟨rfl, rfl⟩
theorem Try.info_u8 : (Try.prog.info? 5).map (fun i => (i.zero, i.size, i.bytes)) = some (some (.int .u8 0), 1, 1) := by kernel_rfl

set_option maxRecDepth 100000 in
set_option maxHeartbeats 400000 in
theorem lentB (A : Option Addr) (n c B : Nat) (xs : List Int) (w : World) (hx : Rd w B A (xs.map (.int .u8))) (hn : xs.length = n) (hb : n ≤ 1000000000) :
    Calls Try.prog 22 #[.slice A n c] w fun e w' => e = .returned (.slice (some ⟨w.heap.size, 0, none⟩) n (n + 12)) ∧ Kp [] w w' ∧ Blk w' w.heap.size 5 ((xs ++ marksB 1 12).map (.int .u8)) := by
  obtain ⟨i0, hi, hz0, hz1, hz2⟩ := info_parts Try.info_u8
  have HN := Lib.hid hn; clear hn
  have HX := Lib.hid hx; clear hx
  go_enter Try.func22, Try.ntmps22
  go_wp2_with (first | (at_make; refine wpList_make_own _ rfl _ _ 38 rfl w.heap.size 5 i0 (.int .u8 0) 1 Try.underlying38 hi hz0 hz1 .i64 .i64 _ (n + 12) rfl rfl (by simp) (by rw [hz2]; omega) (by unfold maxLen; omega) (Nat.le_refl _) ?_; intro w1 hown1 hgrow1) | (at_builtin; refine wpList_append_fits_rd rfl (.tmp 9) (.tmp 10) 38 rfl w.heap.size 5 i0 1 Try.underlying38 hi hz1 (by omega) w.heap.size 0 (n + 12) [] rfl hown1 B A n c (xs.map (.int .u8)) rfl (by simpa using HN.out) (HX.out.kp0 ((Kp.refl [] w).grown hgrow1 (by simp))) (by simp [Value.oneCell']) (by omega) ?_; intro w2 hown2 hgrow2; simp only [Nat.zero_add, List.nil_append] at hown2))
  go_loopw [3, 4] (fun s i wr => ∃ k : Nat, k ≤ 12 ∧ i = .int .i64 k ∧ s = .slice (some ⟨w.heap.size, 0, none⟩) (n + k) (n + 12) ∧ wr.ownsRow w.heap.size 5 1 s (n + k) ((xs ++ marksB 1 k).map (.int .u8)) ∧ Kp [] w wr) (fun _ i _ => 12 - (intOf i).toNat)
  case atStart => exact ⟨0, by omega, rfl, rfl, by simpa [marksB] using hown2, ((Kp.refl [] w).grown hgrow1 (by simp)).trans' ((Kp.refl [w.heap.size] w1).grown hgrow2 (by simp)) (by simp)⟩
  case round =>
    obtain ⟨k, hk, rfl, rfl, hown, hkp⟩ := hrel
    clear hown1 hown2 hgrow1 hgrow2
    by_cases hlt : k < 12
    · go_wp2_with (first | (go_at_call 43; refine (markB_any 1 (k : Int) _ (by omega) (by omega) (by omega) (by omega)).mono ?_; rintro e w' ⟨rfl, rfl⟩) | (at_builtin; refine wpList_append_fits _ rfl (.tmp 16) (.tmp 19) 38 rfl w.heap.size 5 i0 1 Try.underlying38 hi hz1 w.heap.size (n + k) (n + 12) _ rfl (hown.alloc _) ⟨wr.heap.size, 0, none⟩ 1 1 [.int .u8 (markB 1 k)] rfl rfl (cell_one_new _ _ _) (by simp [Value.oneCell']) (by omega) ?_; intro w3 hown3 hgrow3))
      go_roundw
      case rel => exact ⟨k + 1, by omega, by go_num, rfl, by rw [marksB_succ, ← List.append_assoc, List.map_append]; exact hown3, (hkp.alloc _).grown hgrow3 (by simp)⟩
      case measure => simp [intOf]; omega
    · have hk12 : k = 12 := by omega
      have HK := Lib.hid hk12; clear hk12
      go_wp2
      go_ret
      have h0 := HK.out
      subst h0
      exact ⟨rfl, hkp, own_full hown⟩

set_option maxHeartbeats 1000000 in
theorem keptB (A A' : Option Addr) (n c c' B B' : Nat) (xs : List Int) (w : World) (hy : Rd w B A ((xs ++ marksB 1 12).map (.int .u8))) (hx : Rd w B' A' (xs.map (.int .u8))) (hn : xs.length = n) (hb : n ≤ 1000000000) (hc : n + 12 ≤ c) :
    Calls Try.prog 25 #[.slice A n c, .slice A' n c'] w fun e w' => e = .returned (.bool true) ∧ Dr w w' := by
  have HN := Lib.hid hn; clear hn
  have HX := Lib.hid hx; clear hx
  have HY := Lib.hid hy; clear hy
  go_enter Try.func25, Try.ntmps25
  go_wp2
  go_loopw [6] (fun i wr => ∃ k : Nat, k ≤ n + 12 ∧ i = .int .i64 k ∧ Dr w wr) (fun i _ => n + 12 - (intOf i).toNat)
  case atStart => exact ⟨0, by omega, rfl, Dr.refl w⟩
  case round =>
    obtain ⟨k, hk, rfl, hd⟩ := hrel
    by_cases hlt : k < n + 12
    · obtain ⟨y, ad, hyk, rfl, _, hcy⟩ := (HY.out.kp0 (hd.kp [])).ix (i := k) (by have := HN.out; rw [List.length_append, marksB_len]; omega)
      by_cases hkn : k < n
      · obtain ⟨x, bd, hxk, rfl, _, hcx⟩ := (HX.out.kp0 (hd.kp [])).ix (i := k) (by have := HN.out; omega)
        have he : y = x := by
          rw [List.getElem?_append_left (by have := HN.out; omega), hxk] at hyk
          exact (Option.some.inj hyk).symm
        subst he
        clear hxk hyk
        have hd1 : decide ((k : Int) < (n : Int)) = true := by simp; omega
        have hd2 : decide (n ≤ k) = false := by simp; omega
        go_wp2
        go_quiet (fail)
        go_wp2
        go_roundw
        case rel => exact ⟨k + 1, by omega, by go_num, hd.drewN _⟩
        case measure => simp [intOf]; omega
      · have he : y = markB 1 ((k : Int) - n) := by
          rw [List.getElem?_append_right (by have := HN.out; omega), marksB_get _ _ _ (by have := HN.out; omega)] at hyk
          rw [← Option.some.inj hyk, HN.out]
          congr 1
          omega
        subst he
        clear hyk
        have hd1 : decide ((k : Int) < (n : Int)) = false := by simp; omega
        have hd2 : decide (n ≤ k) = true := by simp; omega
        go_wp2
        go_quiet ((go_at_call 43; exact quiet_eq (markB_any _ _ _ (by omega) (by omega) (by omega) (by omega))))
        go_wp2
        go_roundw
        case rel => exact ⟨k + 1, by omega, by go_num, hd.drewN _⟩
        case measure => simp [intOf]; omega
    · go_wp2
      go_ret
      exact ⟨rfl, hd⟩

set_option maxRecDepth 100000 in
set_option maxHeartbeats 400000 in
theorem sameB (A A' : Option Addr) (n m c c' B B' : Nat) (xs ys : List Int) (w : World) (hx : Rd w B A (xs.map (.int .u8))) (hy : Rd w B' A' (ys.map (.int .u8))) (hn : xs.length = n) (hm : ys.length = m) (hb : n ≤ 1000000000) (hb' : m ≤ 1000000000) :
    Calls Try.prog 29 #[.slice A n c, .slice A' m c'] w fun e w' => e = .returned (.bool (decide (xs = ys))) ∧ Dr w w' := by
  have HN := Lib.hid hn; clear hn
  have HM := Lib.hid hm; clear hm
  have HX := Lib.hid hx; clear hx
  have HY := Lib.hid hy; clear hy
  by_cases hnm : n = m
  · subst hnm
    go_enter Try.func29, Try.ntmps29
    go_wp2
    go_loopw [5] (fun i wr => ∃ k : Nat, k ≤ n ∧ i = .int .i64 k ∧ Hid (xs.take k = ys.take k) ∧ Dr w wr) (fun i _ => n - (intOf i).toNat)
    case atStart => exact ⟨0, by omega, rfl, Lib.hid (by simp), Dr.refl w⟩
    case round =>
      obtain ⟨k, hk, rfl, hpre, hd⟩ := hrel
      by_cases hlt : k < n
      · obtain ⟨x, ad, hxk, rfl, _, hcx⟩ := (HX.out.kp0 (hd.kp [])).ix (i := k) (by have := HN.out; omega)
        obtain ⟨y, bd, hyk, rfl, _, hcy⟩ := (HY.out.kp0 (hd.kp [])).ix (i := k) (by have := HM.out; omega)
        have hp1 := take_succ_of hxk
        have hp2 := take_succ_of hyk
        have HP1 := Lib.hid hp1; clear hp1
        have HP2 := Lib.hid hp2; clear hp2
        have HXK := Lib.hid hxk; clear hxk
        have HYK := Lib.hid hyk; clear hyk
        by_cases hxy : x = y
        · subst hxy
          go_wp2
          go_quiet (fail)
          go_wp2
          go_roundw
          case rel => exact ⟨k + 1, by omega, by go_num, Lib.hid (by rw [HP1.out, HP2.out, hpre.out]), hd.drewN _⟩
          case measure => simp [intOf]; omega
        · have hne : (x != y) = true := by simpa using hxy
          have HXY := Lib.hid hxy; clear hxy
          go_wp2
          go_quiet (fail)
          go_wp2
          go_ret
          refine ⟨?_, hd.drewN _⟩
          have : xs ≠ ys := fun e => HXY.out (by
            have := HXK.out
            rw [e, HYK.out] at this
            exact (Option.some.inj this).symm)
          simp [this]
      · go_wp2
        go_ret
        refine ⟨?_, hd⟩
        have h1 := hpre.out
        rw [List.take_of_length_le (by have := HN.out; omega), List.take_of_length_le (by have := HM.out; omega)] at h1
        simp [h1]
  · have hne : xs ≠ ys := fun e => hnm (by rw [← HN.out, ← HM.out, e])
    have hd1 : ((n : Int) != (m : Int)) = true := by simp; omega
    have HE := Lib.hid hne; clear hne
    have HF := Lib.hid hnm; clear hnm
    go_enter Try.func29, Try.ntmps29
    go_wp2
    go_ret
    exact ⟨by simp [HE.out], Dr.refl w⟩

set_option maxRecDepth 100000 in
set_option maxHeartbeats 400000 in
theorem overB_some (g n c : Nat) (l : List Value) (w : World) (hg : Blk w g 5 l) (hl : l.length = c) (hn : n ≤ c) (hc : c ≤ 9223372036854775807) (hb : n ≤ 1000000000) :
    Calls Try.prog 15 #[.slice (some ⟨g, 0, none⟩) n c] w fun e w' => e = .returned (.tuple #[]) ∧ Kp [g] w w' := by
  have HL := Lib.hid hl; clear hl
  have HG := Lib.hid hg; clear hg
  by_cases hcn : c ≤ n + 12
  · go_enter Try.func15, Try.ntmps15
    go_wp2
    go_loopw [3] (fun i wr => ∃ k : Nat, k ≤ c ∧ i = .int .i64 k ∧ (∃ l' : List Value, Blk wr g 5 l' ∧ l'.length = c) ∧ Kp [g] w wr) (fun i _ => c - (intOf i).toNat)
    case atStart => exact ⟨0, by omega, rfl, ⟨l, HG.out, HL.out⟩, Kp.refl _ w⟩
    case round =>
      obtain ⟨k, hk, rfl, ⟨l', hbk, hll⟩, hkp⟩ := hrel
      by_cases hlt : k < c
      · obtain ⟨u0, _, hcell⟩ := hbk.ix (i := k) (by omega)
        have hfree := hbk.free k
        have HB := Lib.hid hbk; clear hbk
        have HLL := Lib.hid hll; clear hll
        go_wp2_with (first | (go_at_call 43; refine (markB_any 2 (k : Int) _ (by omega) (by omega) (by omega) (by omega)).mono ?_; rintro e w' ⟨rfl, rfl⟩))
        go_roundw
        case rel => exact ⟨k + 1, by omega, by go_num, ⟨_, HB.out.set_ k _, by rw [List.length_set]; exact HLL.out⟩, hkp.setCell (.inl (by simp)) _⟩
        case measure => simp [intOf]; omega
      · clear hbk hll
        go_wp2
        go_end0
        exact ⟨rfl, hkp⟩
  · go_enter Try.func15, Try.ntmps15
    go_wp2
    go_loopw [3] (fun i wr => ∃ k : Nat, k ≤ n + 12 ∧ i = .int .i64 k ∧ (∃ l' : List Value, Blk wr g 5 l' ∧ l'.length = c) ∧ Kp [g] w wr) (fun i _ => n + 12 - (intOf i).toNat)
    case atStart => exact ⟨0, by omega, rfl, ⟨l, HG.out, HL.out⟩, Kp.refl _ w⟩
    case round =>
      obtain ⟨k, hk, rfl, ⟨l', hbk, hll⟩, hkp⟩ := hrel
      by_cases hlt : k < n + 12
      · obtain ⟨u0, _, hcell⟩ := hbk.ix (i := k) (by omega)
        have hfree := hbk.free k
        have HB := Lib.hid hbk; clear hbk
        have HLL := Lib.hid hll; clear hll
        go_wp2_with (first | (go_at_call 43; refine (markB_any 2 (k : Int) _ (by omega) (by omega) (by omega) (by omega)).mono ?_; rintro e w' ⟨rfl, rfl⟩))
        go_roundw
        case rel => exact ⟨k + 1, by omega, by go_num, ⟨_, HB.out.set_ k _, by rw [List.length_set]; exact HLL.out⟩, hkp.setCell (.inl (by simp)) _⟩
        case measure => simp [intOf]; omega
      · clear hbk hll
        go_wp2
        go_end0
        exact ⟨rfl, hkp⟩

set_option maxRecDepth 100000 in
set_option maxHeartbeats 400000 in
theorem overB_none (w : World) :
    Calls Try.prog 15 #[.slice none 0 0] w fun e w' => e = .returned (.tuple #[]) ∧ w = w' := by
  go_enter Try.func15, Try.ntmps15
  go_wp2
  go_loopw [3] (fun i wr => i = .int .i64 0 ∧ w = wr) (fun _ _ => 0)
  case atStart => exact ⟨rfl, rfl⟩
  case round =>
    obtain ⟨rfl, rfl⟩ := hrel
    go_wp2
    go_end0
    exact ⟨rfl, rfl⟩

theorem overB (base n c : Nat) (A : Option Addr) (xs : List Value) (w : World) (h : w.ownsRow base 5 1 (.slice A n c) n xs) (hb : n ≤ 1000000000) :
    Calls Try.prog 15 #[.slice A n c] w fun e w' => e = .returned (.tuple #[]) ∧ Kp (ownL (.slice A n c)) w w' := by
  rcases own_blk h with ⟨hv, rfl, _⟩ | ⟨g, cap, rest, hv, _, hg, hn, hm, hl, hc⟩
  · injection hv with h1 h2 h3
    subst h1 h3
    exact (overB_none w).mono fun e w' ⟨he, hw⟩ => ⟨he, hw ▸ Kp.refl _ _⟩
  · injection hv with h1 h2 h3
    subst h1 h3
    exact overB_some g n c _ w hg (by simpa using hc) hn (by simpa only [maxLen] using hm) hb

theorem Try.info_int : (Try.prog.info? 3).map (fun i => (i.zero, i.size, i.bytes)) = some (some (.int .i64 0), 1, 8) := by kernel_rfl

end Go.Proofs.Ytldmabkilgpgcaa
namespace Go.Proofs.Ytldmabkilgpgcaa
open Go.RowKit

/-- A row: element type, cells of an element, value, length, cells. -/
structure ORow where
  e : TypeId
  size : Nat
  v : Value
  n : Nat
  xs : List Value
def ORow.ok (r : ORow) (w : World) (base : Nat) : Prop := w.ownsRow base r.e r.size r.v r.n r.xs
def oBlocks (L : List ORow) : List Nat := L.flatMap fun r => ownL r.v
def OwnAll (w : World) (base : Nat) (L : List ORow) : Prop := (∀ (i : Nat) (r : ORow), L[i]? = some r → r.ok w base) ∧ ∀ (i j : Nat) (r s : ORow), i ≠ j → L[i]? = some r → L[j]? = some s → ∀ x ∈ ownL r.v, x ∉ ownL s.v
theorem OwnAll.nil (w : World) (base : Nat) : OwnAll w base [] := ⟨fun i r h => by simp at h, fun i j r s _ h => by simp at h⟩
theorem OwnAll.kp0 {w w' : World} {base : Nat} {L : List ORow} (h : OwnAll w base L) (hk : Kp [] w w') : OwnAll w' base L := ⟨fun i r hi => own_kp0 (h.1 i r hi) hk, h.2⟩
theorem OwnAll.at_ {w : World} {base : Nat} {L : List ORow} (h : OwnAll w base L) (i : Nat) {r : ORow} (hi : L[i]? = some r) : w.ownsRow base r.e r.size r.v r.n r.xs := h.1 i r hi
theorem mem_oBlocks {L : List ORow} {x : Nat} : x ∈ oBlocks L ↔ ∃ (i : Nat) (r : ORow), L[i]? = some r ∧ x ∈ ownL r.v := by
  unfold oBlocks
  rw [List.mem_flatMap]
  constructor
  · rintro ⟨r, hr, hx⟩
    obtain ⟨i, hi⟩ := List.getElem?_of_mem hr
    exact ⟨i, r, hi, hx⟩
  · rintro ⟨i, r, hi, hx⟩
    exact ⟨r, List.mem_of_getElem? hi, hx⟩
theorem OwnAll.ge {w : World} {base : Nat} {L : List ORow} (h : OwnAll w base L) : ∀ x ∈ oBlocks L, base ≤ x ∧ x < w.heap.size := fun x hx => by
  obtain ⟨i, r, hi, hx⟩ := mem_oBlocks.1 hx
  exact own_ge (h.1 i r hi) (mem_ownL.1 hx)
/-- What may change blocks outside of all rows. -/
theorem OwnAll.kp {w w' : World} {base : Nat} {L : List ORow} {S : List Nat} (h : OwnAll w base L) (hk : Kp S w w') (hS : ∀ x ∈ S, x ∉ oBlocks L) : OwnAll w' base L :=
  ⟨fun i r hi => own_kp (h.1 i r hi) hk (fun g hg hm => hS g hm (mem_oBlocks.2 ⟨i, r, hi, mem_ownL.2 hg⟩)), h.2⟩
/-- One more row, apart from the others. -/
theorem OwnAll.cons {w : World} {base : Nat} {L : List ORow} {r : ORow} (h : OwnAll w base L) (hr : w.ownsRow base r.e r.size r.v r.n r.xs) (ha : ∀ x ∈ ownL r.v, x ∉ oBlocks L) : OwnAll w base (r :: L) := by
  refine ⟨fun i s hi => ?_, fun i j s u hne hi hj x hx hm => ?_⟩
  · cases i with
    | zero => simp at hi; subst hi; exact hr
    | succ i => exact h.1 i s (by simpa using hi)
  · cases i with
    | zero =>
      simp at hi
      subst hi
      cases j with
      | zero => exact hne rfl
      | succ j => exact ha x hx (mem_oBlocks.2 ⟨j, u, by simpa using hj, hm⟩)
    | succ i =>
      cases j with
      | zero =>
        simp at hj
        subst hj
        exact ha x hm (mem_oBlocks.2 ⟨i, s, by simpa using hi, hx⟩)
      | succ j => exact h.2 i j s u (by omega) (by simpa using hi) (by simpa using hj) x hx hm
/-- The i-th row has grown. -/
theorem OwnAll.grow {w w' : World} {base : Nat} {L : List ORow} {r s : ORow} {i : Nat} (h : OwnAll w base L) (hi : L[i]? = some r) (hk : Kp (ownL r.v) w w') (hn : ∀ x ∈ ownL s.v, x ∈ ownL r.v ∨ w.heap.size ≤ x) (ho : w'.ownsRow base s.e s.size s.v s.n s.xs) : OwnAll w' base (L.set i s) := by
  have hlt := (List.getElem?_eq_some_iff.1 hi).1
  refine ⟨fun j u hj => ?_, fun j k u v hne hj hk' x hx hm => ?_⟩
  · by_cases e : i = j
    · subst e
      rw [List.getElem?_set_self hlt] at hj
      injection hj with hj
      subst hj
      exact ho
    · rw [List.getElem?_set_ne e] at hj
      exact own_kp (h.1 j u hj) hk (fun g hg hm => h.2 i j r u e hi hj g hm (mem_ownL.2 hg))
  · by_cases e : i = j
    · subst e
      rw [List.getElem?_set_self hlt] at hj
      injection hj with hj
      subst hj
      rw [List.getElem?_set_ne hne] at hk'
      rcases hn x hx with g | g
      · exact h.2 i k r v hne hi hk' x g hm
      · have := (own_ge (h.1 k v hk') (mem_ownL.1 hm)).2
        omega
    · rw [List.getElem?_set_ne e] at hj
      by_cases e2 : i = k
      · subst e2
        rw [List.getElem?_set_self hlt] at hk'
        injection hk' with hk'
        subst hk'
        rcases hn x hm with g | g
        · exact h.2 j i u r hne hj hi x hx g
        · have := (own_ge (h.1 j u hj) (mem_ownL.1 hx)).2
          omega
      · rw [List.getElem?_set_ne e2] at hk'
        exact h.2 j k u v hne hj hk' x hx hm
theorem oBlocks_grow {L : List ORow} {r s : ORow} {i N : Nat} (hi : L[i]? = some r) (hn : ∀ x ∈ ownL s.v, x ∈ ownL r.v ∨ N ≤ x) : ∀ x ∈ oBlocks (L.set i s), x ∈ oBlocks L ∨ N ≤ x := fun x hx => by
  have hlt := (List.getElem?_eq_some_iff.1 hi).1
  obtain ⟨j, u, hj, hx⟩ := mem_oBlocks.1 hx
  by_cases e : i = j
  · subst e
    rw [List.getElem?_set_self hlt] at hj
    injection hj with hj
    subst hj
    rcases hn x hx with g | g
    · exact .inl (mem_oBlocks.2 ⟨i, r, hi, g⟩)
    · exact .inr g
  · rw [List.getElem?_set_ne e] at hj
    exact .inl (mem_oBlocks.2 ⟨j, u, hj, hx⟩)
theorem oBlocks_at {L : List ORow} {r : ORow} {i : Nat} (hi : L[i]? = some r) : ∀ x ∈ ownL r.v, x ∈ oBlocks L := fun _ hx => mem_oBlocks.2 ⟨i, r, hi, hx⟩
/-- Two descriptions of one row's cells. -/
theorem own_inj {w : World} {base base' : Nat} {e : TypeId} {size n : Nat} {v : Value} {xs ys : List Value} (h : w.ownsRow base e size v n xs) (h' : w.ownsRow base' e size v n ys) : xs = ys := by
  have l1 := h.1
  have l2 := h'.1
  rcases own_blk h with ⟨rfl, _, e1⟩ | ⟨g, cap, rest, rfl, _, hb, _, _, _⟩
  · rcases own_blk h' with ⟨_, _, e2⟩ | ⟨g', _, _, e', _⟩
    · rw [e1, e2]
    · cases e'
  · rcases own_blk h' with ⟨e', _, _⟩ | ⟨g', cap', rest', e', _, hb', _, _, _⟩
    · cases e'
    · injection e' with e1 e2 e3
      injection e1 with e1
      injection e1 with e1 _ _
      subst e1
      exact (List.append_inj (hb.inj hb').2 (by omega)).1
end Go.Proofs.Ytldmabkilgpgcaa
namespace Go.Proofs.Ytldmabkilgpgcaa

/-- What Pick gives. -/
def pickI (x n : Int) : Int := if n < 1 then 0 else x % n
theorem pickI_bound {x n : Int} (h : 1 ≤ n) : 0 ≤ pickI x n ∧ pickI x n < n := by
  unfold pickI
  rw [if_neg (by omega)]
  exact ⟨Int.emod_nonneg _ (by omega), Int.emod_lt_of_pos _ (by omega)⟩

theorem pick_any (x n : Int) (w : World) (hn : n ≤ 1099511627776) :
    Calls Try.prog 28 #[.int .i64 x, .int .i64 n] w fun e w' => e = .returned (.int .i64 (pickI x n)) ∧ w = w' := by
  go_enter Try.func28, Try.ntmps28
  by_cases h1 : n < 1
  · go_wp2
    go_ret
    have he : pickI x n = 0 := by unfold pickI; rw [if_pos h1]
    exact ⟨congrArg (fun z => Ending.returned (.int .i64 z)) he.symm, rfl⟩
  · have hz : n ≠ 0 := by omega
    obtain ⟨r, hr⟩ : ∃ r, x.tmod n = r := ⟨_, rfl⟩
    have hb : -n < r ∧ r < n := by
      rw [← hr]
      exact ⟨Int.lt_tmod_of_pos _ (by omega), Int.tmod_lt_of_pos _ (by omega)⟩
    have he : pickI x n = if r < 0 then r + n else r := by
      unfold pickI
      rw [if_neg h1]
      have h2 := Int.tmod_add_mul_tdiv x n
      have h3 := Int.emod_nonneg x hz
      have h4 := Int.emod_lt_of_pos x (show 0 < n by omega)
      rw [hr] at h2
      have h5 : x % n = r % n := by rw [← h2]; simp
      rw [h5]
      by_cases h0 : r < 0
      · rw [if_pos h0, ← Int.add_emod_right, Int.emod_eq_of_lt (by omega) (by omega)]
      · rw [if_neg h0, Int.emod_eq_of_lt (by omega) (by omega)]
    by_cases h0 : r < 0
    · rw [if_pos h0] at he
      go_wp2
      go_ret
      exact ⟨rfl, rfl⟩
    · rw [if_neg h0] at he
      go_wp2
      go_ret
      exact ⟨rfl, rfl⟩
end Go.Proofs.Ytldmabkilgpgcaa
namespace Go.Proofs.Ytldmabkilgpgcaa
open Go.RowKit

set_option maxRecDepth 100000 in
set_option maxHeartbeats 4000000 in
theorem tside_any (r c m : Int) (w : World) (hm : m = max r c) :
    Calls Try.prog 13 #[.int .i64 r, .int .i64 c] w fun e w' => e = .returned (.int .i64 (sideI m)) ∧ w = w' := by
  obtain ⟨R, hR⟩ : ∃ R, R = sideI m := ⟨_, rfl⟩
  rw [← hR]
  have HR := Lib.hid hR; clear hR
  have HM := Lib.hid hm; clear hm
  go_enter Try.func13, Try.ntmps13
  go_wp2_with fail
  go_loopw [5] (fun v wr => ∃ k s : Nat, v = .int .i64 (s : Int) ∧ k ≤ 17 ∧ Hid (s = 2 ^ (k + 1)) ∧ Hid (R = sideF (17 - k) (s : Int) m) ∧ w = wr) (fun v _ => 300000 - (intOf v).toNat)
  case atStart => exact ⟨0, 2, rfl, by omega, Lib.hid rfl, HR, rfl⟩
  case round =>
    obtain ⟨k, s, rfl, hk, HS, HF, rfl⟩ := hrel
    have hs1 : 1 ≤ s := by rw [HS.out]; exact Nat.pow_pos (by omega)
    have hmx : (if r < c then c else r) = m := by rw [HM.out]; by_cases h : r < c <;> simp [h] <;> omega
    by_cases h17 : k < 17
    · have hs : s ≤ 131072 := by rw [HS.out]; exact Nat.pow_le_pow_right (n := 2) (by omega) (show k + 1 ≤ 17 by omega)
      have HF2 := Lib.hid (show R = if m ≤ (s : Int) then (s : Int) else sideF (17 - (k + 1)) (2 * (s : Int)) m by rw [HF.out, show 17 - k = (17 - (k + 1)) + 1 by omega]; rfl)
      by_cases hms : m ≤ (s : Int)
      · have HR2 := Lib.hid (show R = (s : Int) by rw [HF2.out, if_pos hms])
        go_wp2_with fail
        go_ret
        exact ⟨by rw [HR2.out]; rfl, rfl⟩
      · have HR2 := Lib.hid (show R = sideF (17 - (k + 1)) ((s * 2 : Nat) : Int) m by rw [HF2.out, if_neg hms, Int.natCast_mul, Int.mul_comm]; rfl)
        have HS2 := Lib.hid (show s * 2 = 2 ^ (k + 1 + 1) by rw [HS.out, Nat.pow_succ 2 (k + 1)])
        go_wp2_with fail
        exact ⟨⟨k + 1, s * 2, by go_num, by omega, HS2, HR2, trivial⟩, by simp [intOf]; omega⟩
    · obtain rfl : k = 17 := by omega
      have hs : s = 262144 := HS.out
      subst hs
      have HR2 := Lib.hid (show R = 0 from HF.out)
      go_wp2_with fail
      go_ret
      exact ⟨by rw [HR2.out]; rfl, rfl⟩
set_option maxRecDepth 100000 in
set_option maxHeartbeats 4000000 in
theorem height_any (s : Int) (w : World) (hs0 : -9223372036854775808 ≤ s) (hs1 : s ≤ 9223372036854775807) :
    Calls Try.prog 34 #[.int .i64 s] w fun e w' => e = .returned (.int .i64 ((hgt s : Nat) : Int)) ∧ w = w' := by
  obtain ⟨H, hH⟩ : ∃ H, H = hgt s := ⟨_, rfl⟩
  rw [← hH]
  have HH := Lib.hid (hgt_spec s)
  rw [← hH] at HH
  have HS := Lib.hid (show ∀ w, Calls Try.prog 13 #[.int .i64 s, .int .i64 s] w fun e w' => e = .returned (.int .i64 (sideI s)) ∧ w = w' from fun w => tside_any s s s w (by omega))
  obtain ⟨T, hT⟩ : ∃ T, T = sideI s := ⟨_, rfl⟩
  rw [← hT] at HH HS
  have HT := Lib.hid hT
  clear hH hT
  go_enter Try.func34, Try.ntmps34
  by_cases h2 : s < 2
  · obtain rfl : H = 0 := by
      rcases HH.out with ⟨h, _⟩ | ⟨h1, h2', h3⟩
      · exact h
      · have : 2 ^ 1 ≤ 2 ^ H := Nat.pow_le_pow_right (by omega) h1
        omega
    go_wp2_with fail
    go_ret
    exact ⟨rfl, rfl⟩
  · go_wp2_with fail
    refine (HS.out _).mono ?_
    rintro e w1 ⟨rfl, rfl⟩
    by_cases hT : T = s
    · obtain ⟨h1, h17, hp⟩ : 1 ≤ H ∧ H ≤ 17 ∧ s = ((2 ^ H : Nat) : Int) := by
        rcases HH.out with ⟨_, h⟩ | h
        · exact absurd ⟨by omega, hT⟩ h
        · exact h
      have HP := Lib.hid hp
      subst hT
      clear hp
      go_wp2_with fail
      go_loopw [0, 2] (fun v x wr => ∃ k y : Nat, x = .int .i64 (k : Int) ∧ v = .int .i64 (y : Int) ∧ k ≤ H ∧ y ≤ 131072 ∧ 1 ≤ y ∧ Hid (y = 2 ^ (H - k)) ∧ w = wr) (fun v _ _ => (intOf v).toNat)
      case atStart =>
        have hy : 2 ^ H ≤ 2 ^ 17 := Nat.pow_le_pow_right (by omega) h17
        have hy1 : 0 < 2 ^ H := Nat.pow_pos (by omega)
        exact ⟨0, 2 ^ H, rfl, by rw [HP.out], by omega, by omega, by omega, Lib.hid rfl, rfl⟩
      case round =>
        obtain ⟨k, y, rfl, rfl, hk, hy, hy1, HY, rfl⟩ := hrel
        by_cases hkH : k < H
        · have HY2 := Lib.hid (show y / 2 = 2 ^ (H - (k + 1)) by rw [HY.out, show H - k = (H - (k + 1)) + 1 by omega, Nat.pow_succ, Nat.mul_div_cancel _ (by omega)])
          have hy2 : 1 ≤ y / 2 := by rw [HY2.out]; exact Nat.pow_pos (by omega)
          have htd : Int.tdiv (y : Int) 2 = ((y / 2 : Nat) : Int) := rfl
          go_wp2_with fail
          exact ⟨⟨k + 1, y / 2, by go_num, by go_num, by omega, by omega, hy2, HY2, trivial⟩, by simp [intOf]; omega⟩
        · obtain rfl : k = H := by omega
          obtain rfl : y = 1 := by rw [HY.out, Nat.sub_self]
          go_wp2_with fail
          go_ret
          exact ⟨rfl, rfl⟩
    · obtain rfl : H = 0 := by
        rcases HH.out with ⟨h, _⟩ | ⟨h1, h2', h3⟩
        · exact h
        · exact absurd (HT.out.trans ((side_is (by omega)).2 ⟨H, h1, h2', h3⟩)) hT
      go_wp2_with fail
      go_ret
      exact ⟨rfl, rfl⟩
end Go.Proofs.Ytldmabkilgpgcaa
