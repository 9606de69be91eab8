/-
  LAYER 6 (alpha): Of: the best code of texts.
  LAYER 6 (alpha): the chapter's example (awake).
  PLAIN MATHEMATICS OF LAYER 6, fourth part: the texts of a code have words; their bits, added, by any lengths.
  LAYER 6 (alpha): AlphaWords, the walk.
  CONDITIONS: as each lemma says.
-/
import Derived.Test.YtpmdfklhgabfgaaQ29
import Derived.Test.YtpmdfklhgabfgaaQ28
import Derived.Test.YtpmdfklhgabfgaaQ26
import Derived.Test.YtpmdfklhgabfgaaQ27
import Derived.Test.YtpmdfklhgabfgaaQ14
import Derived.Test.YtpmdfklhgabfgaaQ09
namespace Go.Proofs.Ytpmdfklhgabfgaa
open Go.RowKit

/-- Two rows of the call's own that lie apart. -/
structure Pair (w : World) (b : Nat) (y z : Value) (m k : Nat) (v u : List Int) : Prop where
  o1 : w.ownsRow b 3 1 y m (v.map (.int .i64))
  o2 : w.ownsRow b 3 1 z k (u.map (.int .i64))
  ne : ∀ g, y.ownBlock = some g → z.ownBlock ≠ some g
section
variable {w w' : World} {b m k : Nat} {y z y' : Value} {v u : List Int}
theorem Pair.swap (h : Pair w b y z m k v u) : Pair w b z y k m u v := ⟨h.o2, h.o1, fun g h1 h2 => h.ne g h2 h1⟩
theorem Pair.kp0 (h : Pair w b y z m k v u) (hk : Kp [] w w') : Pair w' b y z m k v u := ⟨own_kp0 h.o1 hk, own_kp0 h.o2 hk, h.ne⟩
theorem Pair.left {o : Obj} {x : Int} (h : Pair w b y z m k v u) (hown : w'.ownsRow b 3 1 y' (m + 1) (v.map (.int .i64) ++ [.int .i64 x])) (hg : (w.alloc o).grownBy w' y.ownBlock) (hat : y'.ownBlock = y.ownBlock ∨ y'.ownBlock = some (w.alloc o).heap.size) :
    Pair w' b y' z (m + 1) k (v ++ [x]) u := by
  have hk : Kp (ownL y) w w' := ((Kp.refl _ w).alloc o).grown hg (fun g hg => .inl (mem_ownL.2 hg))
  refine ⟨by rw [List.map_append]; exact hown, own_kp h.o2 hk (fun g hg hm => h.ne g (mem_ownL.1 hm) hg), fun g h1 h2 => ?_⟩
  rcases hat with e | e
  · exact h.ne g (e ▸ h1) h2
  · rw [e] at h1
    injection h1 with h1
    have := (own_ge h.o2 h2).2
    simp at h1
    omega
theorem Pair.keep {o : Obj} {w0 : World} (h : Pair w b y z m k v u) (hk : Kp [] w0 w) (hg : (w.alloc o).grownBy w' y.ownBlock) (hb : b = w0.heap.size) : Kp [] w0 w' :=
  (hk.alloc o).grown hg (fun g hg => .inr (by subst hb; exact (own_ge h.o1 hg).1))
end
theorem Pair.nil (w : World) (b : Nat) : Pair w b (.slice none 0 0) (.slice none 0 0) 0 0 [] [] := ⟨⟨rfl, .inl ⟨rfl, rfl⟩⟩, ⟨rfl, .inl ⟨rfl, rfl⟩⟩, fun g h => by cases h⟩

/-- The signs that stand in a row, from the least on; how often each does. -/
def sgK (l : List Nat) (k : Nat) : List Nat := (List.range k).filter fun s => decide (0 < l.count s)
def smK (l : List Nat) (k : Nat) : List Int := (sgK l k).map fun s => ((s : Nat) : Int)
def wtK (l : List Nat) (k : Nat) : List Int := (sgK l k).map fun s => ((l.count s : Nat) : Int)
def smO (l : List Nat) : List Int := smK l 257
def wtO (l : List Nat) : List Int := wtK l 257
theorem sgK_yes {l : List Nat} {k : Nat} (h : 0 < l.count k) : sgK l (k + 1) = sgK l k ++ [k] := by unfold sgK; rw [List.range_succ, List.filter_append, List.filter_cons, if_pos (decide_eq_true h)]; rfl
theorem sgK_no {l : List Nat} {k : Nat} (h : l.count k = 0) : sgK l (k + 1) = sgK l k := by unfold sgK; rw [List.range_succ, List.filter_append, List.filter_cons, if_neg (by simp only [decide_eq_true_eq]; omega)]; simp
theorem sgK_lt {l : List Nat} {k : Nat} : ∀ s ∈ sgK l k, s < k := fun _ hs => List.mem_range.1 (List.mem_filter.1 hs).1
theorem smK_ris (l : List Nat) : ∀ k, k ≤ 257 → risI (-1) (smK l k) ∧ (smK l k).getLastD (-1) < k
  | 0, _ => ⟨by simp [smK, sgK, risI], by simp [smK, sgK]⟩
  | k + 1, hk => by
    obtain ⟨h1, h2⟩ := smK_ris l k (by omega)
    by_cases h : 0 < l.count k
    · unfold smK at h1 h2 ⊢
      rw [sgK_yes h, List.map_append]
      refine ⟨risI_snoc.2 ⟨h1, h2, by simp only; omega⟩, by simp; omega⟩
    · unfold smK at h1 h2 ⊢
      rw [sgK_no (by omega)]
      exact ⟨h1, by omega⟩
theorem wtO_ok {l : List Nat} (h0 : 0 ∈ l) (hb : l.length ≤ 4294967296) : okW (wtO l) := by
  unfold okW wtO wtK
  refine ⟨fun x hx => ?_, ?_, ?_⟩
  · obtain ⟨s, _, rfl⟩ := List.mem_map.1 hx
    have := List.count_le_length (a := s) (l := l)
    omega
  · rw [List.length_map]
    have : 0 ∈ sgK l 257 := List.mem_filter.2 ⟨List.mem_range.2 (by omega), by simpa using List.count_pos_iff.2 h0⟩
    exact List.length_pos_of_mem this
  · rw [List.length_map]
    exact Nat.le_trans (List.length_filter_le _ _) (by simp)
theorem okMake_of {l : List Nat} (h0 : 0 ∈ l) (hb : l.length ≤ 4294967296) : okMake (smO l) (lensL (wtO l)) := by
  have hw := wtO_ok h0 hb
  refine ⟨?_, okF_lens hw, (smK_ris l 257 (Nat.le_refl _)).1⟩
  rw [lensL_len hw]
  unfold smO smK wtO wtK
  rw [List.length_map, List.length_map]
theorem run_index_257 (cs : Array Value) (k : Nat) (v : Value) (hk : k < 257) (hv : cs[k]? = some v) (w : World) : (Instr.index 68 (.agg cs) (.int .i64 (k : Int))).run Try.prog w = .ok v w := by
  have hp : ∀ w, (Go.part 3 cs k).run Try.prog w = .ok v w := fun w => by
    have hagg : (isAgg 3).run Try.prog w = .ok false w := by kernel_rfl
    unfold Go.part
    simp [Sem.run_bind, hagg, hv]
  have hs : ∀ w, (sizeOf 3).run Try.prog w = .ok 1 w := fun w => by kernel_rfl
  simp [Instr.index, asIntOf, run_underlying Try.underlying68, hs, hp]
  intro h9
  omega
set_option maxRecDepth 100000 in
set_option maxHeartbeats 4000000 in
theorem aof_no (A : Option Addr) (c : Nat) (w : World) : Calls Try.prog 10 #[.slice A 0 c] w fun e w' => e = .returned (.tuple #[.pointer none, .int .i64 2]) ∧ w = w' := by
  go_enter Try.func10, Try.ntmps10
  go_wp2_with fail
  go_ret2
  exact ⟨rfl, rfl⟩
/-- What Of answers of some texts. -/
def OfP (w : World) (l : List Nat) (e : Ending) (w' : World) : Prop := ∃ p, e = .returned (.tuple #[.pointer (some ⟨p, 0, none⟩), .int .i64 0]) ∧ CodeM w' w.heap.size w'.heap.size p (treeC (smO l) (lensL (wtO l))) ((smO l).map Int.toNat) (lensL (wtO l)) ∧ Kp [] w w'
set_option maxRecDepth 100000 in
set_option maxHeartbeats 4000000 in
theorem aof_any (A : Option Addr) (n c B : Nat) (ss : List ByteArray) (w : World) (hx : Rd w B A (ss.map .string)) (hn : ss.length = n) (h1 : 1 ≤ n) (hb : (symL ss).length ≤ 4294967296) (hB : B ≤ w.heap.size) :
    Calls Try.prog 10 #[.slice A n c] w (OfP w (symL ss)) := by
  obtain ⟨i0, hi, hz0, hz1, hz2⟩ := info_parts Try.info_aint
  obtain ⟨l, hl⟩ : ∃ l, l = symL ss := ⟨_, rfl⟩
  have h0 : 0 ∈ l := by
    match ss, hn with
    | [], hn => simp at hn; omega
    | s :: t, _ => rw [hl, symL_cons]; unfold symT; simp
  have HC := Lib.hid (counted_any A n c B ss w hx hn (by omega) hB)
  rw [← hl] at HC hb ⊢
  have HOK := Lib.hid (okMake_of h0 hb)
  have HW := Lib.hid (wtO_ok h0 hb)
  have HCB := Lib.hid (show ∀ k, l.count k ≤ 4294967296 from fun k => Nat.le_trans (List.count_le_length) hb)
  have hn0 : ((n : Int) == 0) = false := by simp; omega
  clear hx hn hl h0 hb hB h1
  go_enter Try.func10, Try.ntmps10
  go_wp2_with fail
  refine HC.out.mono ?_
  rintro e w1 ⟨rfl, hk1⟩
  have HK1 := Lib.hid hk1
  clear hk1 HC
  obtain ⟨cs, hcs⟩ : ∃ cs, cs = (cntV l).toArray := ⟨_, rfl⟩
  rw [← hcs]
  have HIX := Lib.hid (show ∀ k : Nat, k < 257 → ∀ w, (Instr.index 68 (.agg cs) (.int .i64 (k : Int))).run Try.prog w = .ok (.int .i64 ((l.count k : Nat) : Int)) w from fun k hk w => run_index_257 cs k _ hk (by rw [hcs]; simpa using cntV_get l hk) w)
  clear hcs
  go_wp2_with fail
  go_loopw [4, 5, 15] (fun y z x wr => ∃ (k m c1 c2 : Nat) (A1 A2 : Option Addr), x = .int .i64 (k : Int) ∧ y = .slice A1 m c1 ∧ z = .slice A2 m c2 ∧ k ≤ 257 ∧ m ≤ k ∧ Hid ((sgK l k).length = m) ∧ Hid (Pair wr w1.heap.size (.slice A1 m c1) (.slice A2 m c2) m m (smK l k) (wtK l k)) ∧ Hid (Kp [] w1 wr)) (fun _ _ x _ => 257 - (intOf x).toNat)
  case atStart => exact ⟨0, 0, 0, 0, none, none, rfl, rfl, rfl, by omega, by omega, Lib.hid rfl, Lib.hid (Pair.nil _ _), Lib.hid (Kp.refl _ _)⟩
  case round =>
    obtain ⟨k, m, c1, c2, A1, A2, rfl, rfl, rfl, hk, hmk, HM, HP, HK⟩ := hrel
    by_cases hlt : k < 257
    · have hix := HIX.out k hlt
      have hcb := HCB.out k
      have hk0 : (0 : Int) ≤ (k : Int) := by omega
      obtain ⟨z, hz⟩ : ∃ z, z = l.count k := ⟨_, rfl⟩
      rw [← hz] at hix hcb
      have HZ := Lib.hid hz
      clear hz
      by_cases hz0' : 0 < z
      · have hzd : decide ((0 : Int) < (z : Int)) = true := by simp; omega
        have HSZ := Lib.hid HK.out.size
        have HS1 := Lib.hid (show sgK l (k + 1) = sgK l k ++ [k] from sgK_yes (by rw [← HZ.out]; exact hz0'))
        go_wp2_with (first
          | (at_builtin; refine wpList_append_rd rfl (.tmp 21) (.tmp 23) 23 rfl w1.heap.size 3 i0 (.int .i64 0) 1 8 Try.underlying23 hi hz0 hz1 hz2 rfl (by decide) (.slice A1 m c1) m _ rfl (own_kp0 HP.out.o1 ((Kp.refl [] _).alloc _)) _ _ 1 1 [.int .i64 (k : Int)] rfl rfl (Rd.new wr #[.int .i64 (k : Int)] 3 (0, 0)) (by intro u hu; simp at hu; subst hu; rfl) (by unfold maxLen; omega) (by omega) (by have := HSZ.out; simp; omega) ?_; intro v2 w2 hown2 hgrow2 hat2
             obtain ⟨A3, c3, rfl, _⟩ := own_form hown2
             have HP2 := Lib.hid (HP.out.left hown2 hgrow2 hat2).swap
             have HK2 := Lib.hid (HP.out.keep HK.out hgrow2 rfl)
             have HSZ2 := Lib.hid HK2.out.size
             clear hown2 hgrow2 hat2 HP HK)
          | (at_builtin; refine wpList_append_rd rfl (.tmp 25) (.tmp 27) 23 rfl w1.heap.size 3 i0 (.int .i64 0) 1 8 Try.underlying23 hi hz0 hz1 hz2 rfl (by decide) (.slice A2 m c2) m _ rfl (own_kp0 HP2.out.o1 ((Kp.refl [] _).alloc _)) _ _ 1 1 [.int .i64 (z : Int)] rfl rfl (Rd.new w2 #[.int .i64 (z : Int)] 3 (0, 0)) (by intro u hu; simp at hu; subst hu; rfl) (by unfold maxLen; omega) (by omega) (by have := HSZ2.out; simp; omega) ?_; intro v3 w3 hown3 hgrow3 hat3
             obtain ⟨A4, c4, rfl, _⟩ := own_form hown3
             have HP3 := Lib.hid (HP2.out.left hown3 hgrow3 hat3).swap
             have HK3 := Lib.hid (HP2.out.keep HK2.out hgrow3 rfl)
             clear hown3 hgrow3 hat3 HP2 HK2))
        exact ⟨⟨k + 1, m + 1, c3, c4, A3, A4, by go_num, rfl, rfl, by omega, by omega, Lib.hid (by rw [HS1.out, List.length_append, HM.out]; rfl), Lib.hid (by unfold smK wtK; rw [HS1.out, List.map_append, List.map_append]; rw [HZ.out] at HP3; exact HP3.out), HK3⟩, by simp [intOf]; omega⟩
      · obtain rfl : z = 0 := by omega
        have HS1 := Lib.hid (show sgK l (k + 1) = sgK l k from sgK_no HZ.out.symm)
        clear hz0'
        go_wp2_with fail
        exact ⟨⟨k + 1, m, c1, c2, A1, A2, by go_num, rfl, rfl, by omega, by omega, Lib.hid (by rw [HS1.out]; exact HM.out), Lib.hid (by unfold smK wtK; rw [HS1.out]; exact HP.out), HK⟩, by simp [intOf]; omega⟩
    · obtain rfl : k = 257 := by omega
      have HMS := Lib.hid (show (smO l).length = m ∧ (wtO l).length = m from ⟨by unfold smO smK; rw [List.length_map, HM.out], by unfold wtO wtK; rw [List.length_map, HM.out]⟩)
      have HX1 := Lib.hid (show Rd wr wr.heap.size A1 ((smO l).map (.int .i64)) from own_rd HP.out.o1)
      have HX2 := Lib.hid (show Rd wr wr.heap.size A2 ((wtO l).map (.int .i64)) from own_rd HP.out.o2)
      have HKW := Lib.hid (HK1.out.trans HK.out)
      clear HP HK HM HIX HCB HK1 hlt hk
      go_wp2_with fail
      refine (tlengths_any A2 m c2 _ (wtO l) wr HX2.out HMS.out.2 (by omega)).mono ?_
      rintro e w3 ⟨A5, m5, c5, hm5, rfl, hown5, hk5⟩
      rw [lensE_ok HW.out]
      have HL5 := Lib.hid (show (lensL (wtO l)).length = m5 from hm5.symm)
      have hm57 : m5 ≤ 257 := by rw [hm5]; exact lensL_le _
      have HX5 := Lib.hid (own_rd hown5)
      have HX15 := Lib.hid (HX1.out.kp0 hk5)
      have HZ5 := Lib.hid (show wr.heap.size ≤ w3.heap.size from hk5.size)
      have HK5 := Lib.hid (HKW.out.trans hk5)
      clear hk5 hown5 hm5 HX1 HX2
      go_wp2_with fail
      refine (amake_any A1 A5 m m5 c1 c5 _ _ (smO l) (lensL (wtO l)) w3 HX15.out HX5.out HMS.out.1 HL5.out (by omega) (by omega) HZ5.out (Nat.le_refl _)).mono ?_
      rintro e w4 ⟨hyes, _, hk4⟩
      obtain ⟨p, rfl, hcode⟩ := hyes HOK.out
      have HF := Lib.hid (show OfP w l (.returned (.tuple #[.pointer (some ⟨p, 0, none⟩), .int .i64 0])) w4 from ⟨p, rfl, hcode.low HK5.out.size, HK5.out.trans hk4⟩)
      clear hyes hk4 hcode
      go_wp2_with fail
      go_ret2
      exact HF.out
end Go.Proofs.Ytpmdfklhgabfgaa
namespace Go.Proofs.Ytpmdfklhgabfgaa
open Go.RowKit

def sA : ByteArray := ⟨#[97]⟩
def sAB : ByteArray := ⟨#[97, 98]⟩
theorem symL_a : symL [sA, sAB] = [0, 98, 0, 98, 99] := rfl
theorem smO_a : smO [0, 98, 0, 98, 99] = [0, 98, 99] := by decide +kernel
theorem wtO_a : wtO [0, 98, 0, 98, 99] = [2, 2, 1] := by decide +kernel
theorem okW_aa : okW [2, 2, 1] := ⟨by intro x hx; simp at hx; omega, by simp, by simp⟩
theorem K_aa : K (wt [2, 2, 1]) 0 2 = 1 := by
  unfold K cut
  have h0 := (spl_one (wt [2, 2, 1]) 0).1
  have h1 := (spl_one (wt [2, 2, 1]) 0).2
  rw [cst_one] at h0 h1
  have e0 : spl (wt [2, 2, 1]) 1 0 0 = 3 := h0
  have e1 : spl (wt [2, 2, 1]) 1 0 1 = 4 := h1
  show 0 + 1 + argm (spl (wt [2, 2, 1]) 1 0) 1 = 1
  unfold argm argm
  rw [e0, e1]
  rfl
theorem lensL_aa : lensL [2, 2, 1] = [1, 2, 2] := by
  rw [lensL_more okW_aa (by simp)]
  show lens _ 0 2 0 = _
  rw [lens_cut _ _ (by omega), K_aa]
  show lens _ 0 0 1 ++ lens _ 1 2 1 = _
  rw [lens_self, lens_two]
  rfl
theorem words_aa {T : CT} (h : CodeT T [0, 98, 99] [1, 2, 2]) : T.word 0 = some [false] ∧ T.word 98 = some [true, false] ∧ T.word 99 = some [true, true] := by
  have w0 := words_first h (l0 := 1) rfl
  have w1 := words_next h (i := 0) (m := 2) w0 rfl
  have w2 := words_next h (i := 1) (m := 2) w1 rfl
  have k : ∀ (i s : Nat) (u : List Bool), ([0, 98, 99] : List Nat)[i]? = some s → (wordsT T)[i]? = some u → T.word s = some u := by
    intro i s u hs hu
    obtain ⟨v, h1, h2, _⟩ := word_at h hs
    unfold wordsT at hu
    rw [List.getElem?_map, h2] at hu
    injection hu with hu
    rw [h1, ← hu]
  exact ⟨k 0 0 _ rfl w0, k 1 98 _ rfl w1, k 2 99 _ rfl w2⟩
theorem enc_aa {T : CT} (h : CodeT T [0, 98, 99] [1, 2, 2]) : encT T sAB = some [true, false, true, true, false] := by
  obtain ⟨h0, h1, h2⟩ := words_aa h
  have e3 : T.enc [] = some [] := rfl
  exact enc_mk h1 (enc_mk h2 (enc_mk h0 e3))
theorem long_aa {T : CT} (h : CodeT T [0, 98, 99] [1, 2, 2]) : longN T sAB = 5 ∧ longE T sAB = 0 := by
  unfold longN longE
  rw [enc_aa h]
  exact ⟨rfl, rfl⟩
theorem wdL_aa {T : CT} (h : CodeT T [0, 98, 99] [1, 2, 2]) : wdL T 99 = [true, true] := by
  unfold wdL wdI
  rw [if_pos (by omega)]
  show (T.word 99).getD [] = _
  rw [(words_aa h).2.2]
  rfl
theorem rd_ss (w : World) : Rd (w.alloc (.cells #[.string sA, .string sAB] 9)) (w.heap.size + 1) (some ⟨w.heap.size, 0, none⟩) ([sA, sAB].map .string) := Rd.new w #[.string sA, .string sAB] 9 (0, 0)
theorem rd_l (w : World) : Rd (w.alloc (.cells #[.int .i64 1, .int .i64 2, .int .i64 2] 3)) (w.heap.size + 1) (some ⟨w.heap.size, 0, none⟩) ([1, 2, 2].map (.int .i64)) := Rd.new w #[.int .i64 1, .int .i64 2, .int .i64 2] 3 (0, 0)
theorem rd_s (w : World) : Rd (w.alloc (.cells #[.int .i64 0, .int .i64 98, .int .i64 99] 3)) (w.heap.size + 1) (some ⟨w.heap.size, 0, none⟩) ([0, 98, 99].map (.int .i64)) := Rd.new w #[.int .i64 0, .int .i64 98, .int .i64 99] 3 (0, 0)
theorem rd_t (w : World) : Rd (w.alloc (.cells #[.bool true, .bool true] 4)) (w.heap.size + 1) (some ⟨w.heap.size, 0, none⟩) ([true, true].map .bool) := Rd.new w #[.bool true, .bool true] 4 (0, 0)
set_option maxRecDepth 100000 in
set_option maxHeartbeats 4000000 in
theorem awake_a (w : World) : Calls Try.prog 8 #[] w fun e w' => e = .returned (.bool true) ∧ Kp [] w w' := by
  go_enter Try.func8, Try.ntmps8
  go_wp2_with fail
  refine (aof_any _ 2 2 _ [sA, sAB] _ (rd_ss w) rfl (by omega) (by rw [symL_a]; simp) (by simp)).mono ?_
  rintro e w1 ⟨p, rfl, hcode, hk1⟩
  obtain ⟨lo, hlo⟩ : ∃ lo, lo = (w.alloc (.cells #[.string sA, .string sAB] 9)).heap.size := ⟨_, rfl⟩
  rw [symL_a, smO_a, wtO_a, lensL_aa] at hcode
  have hcode' : CodeM w1 lo w1.heap.size p (treeC [0, 98, 99] [1, 2, 2]) [0, 98, 99] [1, 2, 2] := hlo ▸ hcode
  clear hcode hlo
  obtain ⟨T, hT⟩ : ∃ T, T = treeC [0, 98, 99] [1, 2, 2] := ⟨_, rfl⟩
  rw [← hT] at hcode'
  clear hT
  have HLA := Lib.hid (long_aa hcode'.1)
  have HWA := Lib.hid (wdL_aa hcode'.1)
  obtain ⟨hi, hhi⟩ : ∃ hi, hi = w1.heap.size := ⟨_, rfl⟩
  rw [← hhi] at hcode'
  have HHI := Lib.hid (show hi ≤ w1.heap.size by omega)
  have HC := Lib.hid hcode'
  have HK := Lib.hid (((Kp.refl [] w).alloc _).trans hk1)
  clear hcode' hk1 hhi
  go_wp2_with fail
  refine (clengths_any lo hi p T _ _ w1 HC.out).mono ?_
  rintro e w2 ⟨A2, n2, c2, hn2, rfl, hown2, hk2⟩
  obtain rfl : n2 = 3 := hn2
  have HX2 := Lib.hid (own_rd hown2)
  replace HC := Lib.hid (HC.out.kp0 (hk2))
  have HK2 := Lib.hid (HK.out.trans hk2)
  have HH2 := Lib.hid (show hi ≤ w2.heap.size from Nat.le_trans HHI.out hk2.size)
  clear hown2 hk2 HK HHI
  go_wp2_with fail
  refine (sameI A2 _ 3 3 c2 3 _ _ [1, 2, 2] [1, 2, 2] _ (HX2.out.kp0 ((Kp.refl [] _).alloc _)) (rd_l w2) rfl rfl (by omega) (by omega)).mono ?_
  rintro e w4 ⟨rfl, hd4⟩
  rw [show decide (([1, 2, 2] : List Int) = [1, 2, 2]) = true from by simp]
  have hk4 := ((Kp.refl [] w2).alloc (.cells #[.int .i64 1, .int .i64 2, .int .i64 2] 3)).trans (hd4.kp [])
  replace HC := Lib.hid (HC.out.kp0 (hk4))
  have HK4 := Lib.hid (HK2.out.trans hk4)
  have HH4 := Lib.hid (Nat.le_trans HH2.out hk4.size)
  clear hd4 hk4 HK2 HX2 HH2
  go_wp2_with fail
  refine (csigns_any lo hi p T _ _ w4 HC.out).mono ?_
  rintro e w5 ⟨A5, n5, c5, hn5, rfl, hown5, hk5⟩
  obtain rfl : n5 = 3 := hn5
  have HX5 := Lib.hid (own_rd hown5)
  replace HC := Lib.hid (HC.out.kp0 (hk5))
  have HK5 := Lib.hid (HK4.out.trans hk5)
  have HH5 := Lib.hid (show hi ≤ w5.heap.size from Nat.le_trans HH4.out hk5.size)
  clear hown5 hk5 HK4 HH4
  go_wp2_with fail
  refine (sameI A5 _ 3 3 c5 3 _ _ [0, 98, 99] [0, 98, 99] _ (HX5.out.kp0 ((Kp.refl [] _).alloc _)) (rd_s w5) rfl rfl (by omega) (by omega)).mono ?_
  rintro e w6 ⟨rfl, hd6⟩
  rw [show decide (([0, 98, 99] : List Int) = [0, 98, 99]) = true from by simp]
  have hk6 := ((Kp.refl [] w5).alloc (.cells #[.int .i64 0, .int .i64 98, .int .i64 99] 3)).trans (hd6.kp [])
  replace HC := Lib.hid (HC.out.kp0 (hk6))
  have HK6 := Lib.hid (HK5.out.trans hk6)
  have HH6 := Lib.hid (Nat.le_trans HH5.out hk6.size)
  clear hd6 hk6 HK5 HX5 HH5
  go_wp2_with fail
  refine (clong_any lo hi p T _ _ sAB w6 HC.out (by decide) HH6.out).mono ?_
  rintro e w7 ⟨rfl, hk7⟩
  rw [HLA.out.1, HLA.out.2, show ((5 : Nat) : Int) = 5 from rfl]
  replace HC := Lib.hid (HC.out.kp0 (hk7))
  have HK7 := Lib.hid (HK6.out.trans hk7)
  have HH7 := Lib.hid (Nat.le_trans HH6.out hk7.size)
  clear hk7 HK6 HH6
  go_wp2_with fail
  refine (cword_any lo hi p 99 T _ _ w7 HC.out).mono ?_
  rw [HWA.out]
  rintro e w8 ⟨A8, n8, c8, hn8, rfl, hown8, hk8⟩
  obtain rfl : n8 = 2 := hn8
  have HX8 := Lib.hid (own_rd hown8)
  have HK8 := Lib.hid (HK7.out.trans hk8)
  clear hown8 hk8 HK7 HH7 HC
  go_wp2_with fail
  refine (sameT A8 _ 2 2 c8 2 _ _ [true, true] [true, true] _ (HX8.out.kp0 ((Kp.refl [] _).alloc _)) (rd_t w8) rfl rfl (by omega) (by omega)).mono ?_
  rintro e w9 ⟨rfl, hd9⟩
  rw [show decide (([true, true] : List Bool) = [true, true]) = true from by simp]
  have HK9 := Lib.hid ((HK8.out.alloc _).trans (hd9.kp []))
  clear hd9 HK8
  go_wp2_with fail
  go_ret
  exact ⟨rfl, HK9.out⟩
end Go.Proofs.Ytpmdfklhgabfgaa
namespace Go.Proofs.Ytpmdfklhgabfgaa

theorem toNat_smO (l : List Nat) : (smO l).map Int.toNat = sgK l 257 := by
  unfold smO smK
  rw [List.map_map]
  exact (List.map_congr_left (fun s _ => by simp)).trans (List.map_id _)
theorem mem_sgK {l : List Nat} {s : Nat} (h : s ∈ l) (hs : s < 257) : s ∈ sgK l 257 := by
  unfold sgK
  exact List.mem_filter.2 ⟨List.mem_range.2 hs, by simpa using List.count_pos_iff.2 h⟩
theorem symT_count (t : ByteArray) (s : Nat) : (symT t).count s = (sgs (txt t)).count s := by
  unfold symT sgs
  rw [List.count_append, List.count_cons, List.count_cons, List.count_nil]
  omega
theorem sgs_sym {t : ByteArray} {s : Nat} : s ∈ sgs (txt t) ↔ s ∈ symT t := by
  unfold symT sgs
  simp only [List.mem_append, List.mem_cons, List.not_mem_nil, or_false]
  exact ⟨fun h => h.symm, fun h => h.symm⟩
theorem enc_all {T : CT} {sg : List Nat} {ls : List Int} (h : CodeT T sg ls) {t : ByteArray} (ha : ∀ s ∈ symT t, s ∈ sg) : ∃ r, encT T t = some r := by
  refine enc_some (fun s hs => ?_)
  obtain ⟨i, hi, he⟩ := List.getElem_of_mem (ha s (sgs_sym.1 hs))
  obtain ⟨w, hw, _⟩ := word_at h (i := i) (s := s) (by rw [List.getElem?_eq_getElem hi, he])
  exact ⟨w, hw⟩
def sumT (T : CT) (ss : List ByteArray) : Nat := (ss.map (longN T)).sum
theorem sumT_snoc (T : CT) (ss : List ByteArray) (t : ByteArray) : sumT T (ss ++ [t]) = sumT T ss + longN T t := by unfold sumT; simp
theorem long_bound {T : CT} {sg : List Nat} {ls : List Int} (h : CodeT T sg ls) (t : ByteArray) : longN T t ≤ 256 * (t.size + 1) := by
  unfold longN
  cases hr : encT T t with
  | none => simp
  | some r => exact encT_len h hr
theorem sumT_bound {T : CT} {sg : List Nat} {ls : List Int} (h : CodeT T sg ls) : ∀ (ss : List ByteArray), sumT T ss ≤ 256 * (symL ss).length
  | [] => by simp [sumT, symL]
  | t :: ss => by
    have := sumT_bound h ss
    have h2 := long_bound h t
    rw [symL_cons, List.length_append, symT_len]
    unfold sumT at this ⊢
    rw [List.map_cons, List.sum_cons]
    omega
theorem cl_add (ls : List Int) : ∀ (sg : List Nat) (f g : Nat → Int), cl (sg.map fun s => f s + g s) ls = cl (sg.map f) ls + cl (sg.map g) ls := by
  induction ls with
  | nil => intro sg f g; cases sg <;> rfl
  | cons y ls ih =>
    intro sg f g
    cases sg with
    | nil => rfl
    | cons s sg =>
      show (f s + g s) * y + cl (sg.map fun s => f s + g s) ls = (f s * y + cl (sg.map f) ls) + (g s * y + cl (sg.map g) ls)
      rw [ih, Int.add_mul]
      omega
theorem cl_nought (ls : List Int) : ∀ (sg : List Nat), cl (sg.map fun _ => (0 : Int)) ls = 0 := by
  induction ls with
  | nil => intro sg; cases sg <;> rfl
  | cons y ls ih =>
    intro sg
    cases sg with
    | nil => rfl
    | cons s sg =>
      show 0 * y + cl (sg.map fun _ => (0 : Int)) ls = 0
      rw [ih]
      omega
theorem sum_len {T : CT} {sg : List Nat} {ls : List Int} (h : CodeT T sg ls) : ∀ (ss : List ByteArray), (∀ t ∈ ss, ∃ r, encT T t = some r) → (sumT T ss : Int) = cl (sg.map fun s => ((symL ss).count s : Int)) ls
  | [], _ => by
    rw [show (fun s => (((symL []).count s : Nat) : Int)) = fun _ => (0 : Int) from funext fun s => by simp [symL], cl_nought]
    rfl
  | t :: ss, ha => by
    obtain ⟨r, hr⟩ := ha t (by simp)
    have h1 := enc_len h _ r hr
    have h2 := sum_len h ss (fun x hx => ha x (by simp [hx]))
    have e : (fun s => (((symL (t :: ss)).count s : Nat) : Int)) = fun s => (((sgs (txt t)).count s : Nat) : Int) + (((symL ss).count s : Nat) : Int) := funext fun s => by
      rw [symL_cons, List.count_append, symT_count]
      omega
    rw [e, cl_add, ← h1, ← h2]
    unfold sumT
    rw [List.map_cons, List.sum_cons]
    have : longN T t = r.length := by unfold longN; rw [hr]
    omega
/-- The code that Of makes takes the fewest bits. -/
theorem best_words {ss : List ByteArray} {ls : List Int} (h1 : 1 ≤ ss.length) (hb : (symL ss).length ≤ 4294967296) (h : okMake (smO (symL ss)) ls) :
    (∀ t ∈ ss, (∃ r, encT (treeC (smO (symL ss)) (lensL (wtO (symL ss)))) t = some r) ∧ ∃ r, encT (treeC (smO (symL ss)) ls) t = some r) ∧ sumT (treeC (smO (symL ss)) (lensL (wtO (symL ss)))) ss ≤ sumT (treeC (smO (symL ss)) ls) ss := by
  have h0 : 0 ∈ symL ss := by
    match ss, h1 with
    | s :: t, _ => rw [symL_cons]; unfold symT; simp
  have c1 := treeC_code (okMake_of h0 hb)
  have c2 := treeC_code h
  rw [toNat_smO] at c1 c2
  have hw := wtO_ok h0 hb
  have ha : ∀ t ∈ ss, ∀ s ∈ symT t, s ∈ sgK (symL ss) 257 := fun t ht s hs => by
    have hm : s ∈ symL ss := List.mem_flatMap.2 ⟨t, ht, hs⟩
    exact mem_sgK hm (symL_lt ss s hm)
  have e1 : ∀ t ∈ ss, ∃ r, encT (treeC (smO (symL ss)) (lensL (wtO (symL ss)))) t = some r := fun t ht => enc_all c1 (ha t ht)
  have e2 : ∀ t ∈ ss, ∃ r, encT (treeC (smO (symL ss)) ls) t = some r := fun t ht => enc_all c2 (ha t ht)
  refine ⟨fun t ht => ⟨e1 t ht, e2 t ht⟩, ?_⟩
  have s1 := sum_len c1 ss e1
  have s2 := sum_len c2 ss e2
  have hb := best_least (l := wtO (symL ss)) (ls := ls) ⟨by rw [← h.1]; unfold wtO wtK smO smK; simp, hw, h.2.1⟩
  have ew : wtO (symL ss) = (sgK (symL ss) 257).map fun s => (((symL ss).count s : Nat) : Int) := rfl
  rw [← ew] at s1 s2
  omega
/-- Two words that follow each other. -/
theorem words_two {T : CT} {sg : List Nat} {ls : List Int} (h : CodeT T sg ls) {i x y : Nat} (hx : sg[i]? = some x) (hy : sg[i + 1]? = some y) :
    x ≤ 256 ∧ y ≤ 256 ∧ cmpB (wdL T x) (wdL T y) = -1 ∧ begB (wdL T x) (wdL T y) = false ∧ ls[i]? = some ((wdL T x).length : Int) := by
  obtain ⟨u, h1, h2, h3⟩ := word_at h hx
  obtain ⟨v, k1, k2, k3⟩ := word_at h hy
  have hxb := h.2.2.2.1 x (List.mem_of_getElem? hx)
  have hyb := h.2.2.2.1 y (List.mem_of_getElem? hy)
  have eu : wdL T x = u := by
    unfold wdL wdI
    rw [if_pos (by omega), Int.toNat_natCast, h1]; rfl
  have ev : wdL T y = v := by
    unfold wdL wdI
    rw [if_pos (by omega), Int.toNat_natCast, k1]; rfl
  have hd := (al_dif (T := T) [] i (i + 1) (x, u) (y, v) (by omega) h2 k2).lt
  rw [eu, ev]
  exact ⟨hxb, hyb, hd.1, hd.2.2.1, h3⟩
theorem long_yes {T : CT} {t : ByteArray} (h : ∃ r, encT T t = some r) : longE T t = 0 := by
  obtain ⟨r, hr⟩ := h
  unfold longE
  rw [hr]
end Go.Proofs.Ytpmdfklhgabfgaa
namespace Go.Proofs.Ytpmdfklhgabfgaa
open Go.RowKit

theorem natR {w : World} {B : Nat} {A : Option Addr} {sg : List Nat} (h : Rd w B A (sg.map fun (x : Nat) => .int .i64 (x : Int))) {k : Nat} (hk : k < sg.length) : ∃ s ad, sg[k]? = some s ∧ A = some ad ∧ ad.block < B ∧ w.cell? (ad.add k) = some (.int .i64 (s : Int)) := by
  obtain ⟨ad, h1, h2, h3⟩ := h.at_ (i := k) (u := .int .i64 (sg[k] : Int)) (by rw [List.getElem?_map, List.getElem?_eq_getElem hk]; rfl)
  exact ⟨_, ad, List.getElem?_eq_getElem hk, h1, h2, h3⟩
theorem nat_int (sg : List Nat) : (sg.map fun (x : Nat) => Value.int .i64 (x : Int)) = (sg.map fun (x : Nat) => (x : Int)).map (.int .i64) := by rw [List.map_map]; rfl
set_option maxRecDepth 100000 in
set_option maxHeartbeats 4000000 in
theorem cword_vals (lo hi p : Nat) (k : Int) (nu : Nat) (u : List Bool) (T : CT) (sg : List Nat) (ls : List Int) (w : World) (h : CodeM w lo hi p T sg ls) (hu : wdL T k = u) (hn : u.length = nu) :
    Calls Try.prog 12 #[.pointer (some ⟨p, 0, none⟩), .int .i64 k] w fun e w' => (∃ (A : Option Addr) (c : Nat), e = .returned (.slice A nu c) ∧ nu ≤ c ∧ Rd w' w'.heap.size A (u.map .bool)) ∧ Kp [] w w' := by
  refine (cword_any lo hi p k T sg ls w h).mono ?_
  rw [hu]
  rintro e w' ⟨A', n, c', hn', rfl, hown, hk⟩
  obtain ⟨A3, c3, he, hle, _⟩ := own_form hown
  injection he with e1 e2 e3
  subst e1 e3
  obtain rfl : n = nu := by omega
  exact ⟨⟨_, _, rfl, hle, own_rd hown⟩, hk⟩
set_option maxRecDepth 100000 in
set_option maxHeartbeats 4000000 in
theorem awords_any (A A' : Option Addr) (n m c c' B B' : Nat) (ss : List ByteArray) (ls : List Int) (w : World) (hx : Rd w B A (ss.map .string)) (hy : Rd w B' A' (ls.map (.int .i64))) (hn : ss.length = n) (hm : ls.length = m) (hB : B ≤ w.heap.size) (hB' : B' ≤ w.heap.size) (hb : n ≤ 140737488351232) (hb' : m ≤ 140737488351232) (hl : ∀ s ∈ ss, s.size ≤ 140737488351232) :
    Calls Try.prog 3 #[.slice A n c, .slice A' m c'] w fun e w' => e = .returned (.bool true) ∧ Kp [] w w' := by
  have HX := Lib.hid hx; clear hx
  have HY := Lib.hid hy; clear hy
  have HN := Lib.hid hn; clear hn
  have HM := Lib.hid hm; clear hm
  have HB := Lib.hid hB; clear hB
  have HB' := Lib.hid hB'; clear hB'
  have HL := Lib.hid hl; clear hl
  go_enter Try.func3, Try.ntmps3
  go_wp2_with fail
  refine (awake_a w).mono ?_
  rintro e w1 ⟨rfl, hk1⟩
  have HK := Lib.hid hk1
  replace HX := Lib.hid (HX.out.kp0 hk1)
  replace HY := Lib.hid (HY.out.kp0 hk1)
  clear hk1
  go_wp2_with fail
  refine (asize_any A n c B ss w1 HX.out HN.out hb HL.out).mono ?_
  rintro e w1' ⟨⟨Z, rfl, hZ, hnZ, hZs⟩, rfl⟩
  by_cases hZ6 : 600 < Z
  · have hzd : decide ((600 : Int) < (Z : Int)) = true := by simp; omega
    go_wp2_with fail
    go_ret
    exact ⟨rfl, HK.out⟩
  have HZS := Lib.hid (hZs (by omega))
  have hzd : decide ((600 : Int) < (Z : Int)) = false := by simp; omega
  have hn6 : n ≤ 600 := by omega
  clear hZs
  by_cases hn0 : n = 0
  · subst hn0
    go_wp2_with fail
    go_ret
    exact ⟨rfl, HK.out⟩
  have hn0' : ((n : Int) == 0) = false := by simp; omega
  by_cases hm3 : 300 < m
  · have hmd : decide ((300 : Int) < (m : Int)) = true := by simp; omega
    go_wp2_with fail
    go_ret
    exact ⟨rfl, HK.out⟩
  have hmd : decide ((300 : Int) < (m : Int)) = false := by simp; omega
  have hn1 : 1 ≤ n := by omega
  have HSL := Lib.hid (show (symL ss).length ≤ 600 from Nat.le_trans HZS.out (by omega))
  have HBW := Lib.hid (fun h => best_words (ss := ss) (ls := ls) (by rw [HN.out]; exact hn1) (by have := HSL.out; omega) h)
  go_wp2_with fail
  refine (aof_any A n c B ss w1 HX.out HN.out hn1 (by have := HSL.out; omega) (Nat.le_trans HB.out HK.out.size)).mono ?_
  rintro e w2 ⟨p, rfl, hcode, hk2⟩
  obtain ⟨lo, hlo⟩ : ∃ lo, lo = w1.heap.size := ⟨_, rfl⟩
  obtain ⟨hi, hhi⟩ : ∃ hi, hi = w2.heap.size := ⟨_, rfl⟩
  rw [← hlo, ← hhi] at hcode
  have HLO := Lib.hid hlo
  have HHI := Lib.hid (show hi ≤ w2.heap.size by omega)
  clear hlo hhi
  obtain ⟨L, hL⟩ : ∃ L, L = lensL (wtO (symL ss)) := ⟨_, rfl⟩
  obtain ⟨T, hT⟩ : ∃ T, T = treeC (smO (symL ss)) L := ⟨_, rfl⟩
  rw [toNat_smO] at hcode
  obtain ⟨sg, hsg⟩ : ∃ sg, sg = sgK (symL ss) 257 := ⟨_, rfl⟩
  have HSM := Lib.hid (show smO (symL ss) = sg.map fun (x : Nat) => (x : Int) by rw [hsg]; rfl)
  rw [← hL] at hcode
  rw [← hT, ← hsg] at hcode
  have HBW2 := Lib.hid (show okMake (smO (symL ss)) ls → (∀ t ∈ ss, (∃ r, encT T t = some r) ∧ ∃ r, encT (treeC (smO (symL ss)) ls) t = some r) ∧ sumT T ss ≤ sumT (treeC (smO (symL ss)) ls) ss from by rw [hT, hL]; exact HBW.out)
  have HC := Lib.hid hcode
  clear hcode HBW hT hsg hL HZS
  replace HK := Lib.hid (HK.out.trans hk2)
  replace HX := Lib.hid (HX.out.kp0 hk2)
  replace HY := Lib.hid (HY.out.kp0 hk2)
  clear hk2
  go_wp2_with fail
  refine (csigns_any lo hi p T sg L w2 HC.out).mono ?_
  rintro e w3 ⟨As, ns, cs, hns, rfl, hown3, hk3⟩
  have HNS := Lib.hid hns
  have hsb : ns ≤ 257 := by rw [hns]; exact codeT_len HC.out.1
  have hs1 : 1 ≤ ns := by rw [hns]; exact HC.out.1.2.2.2.2.1
  have HRS := Lib.hid (own_rd hown3)
  replace HK := Lib.hid (HK.out.trans hk3)
  replace HHI := Lib.hid (Nat.le_trans HHI.out hk3.size)
  replace HX := Lib.hid (HX.out.kp0 hk3)
  replace HY := Lib.hid (HY.out.kp0 hk3)
  replace HC := Lib.hid (HC.out.kp0 hk3)
  clear hk3
  clear hown3 hns
  have hns1 : (1 : Int) ≤ (ns : Int) := by omega
  go_wp2_with fail
  go_loopw [8] (fun i wr => ∃ k : Nat, i = .int .i64 ((k : Int) + 1) ∧ k + 1 ≤ ns ∧ Hid (Kp [] w3 wr)) (fun i _ => ns - (intOf i).toNat)
  case atStart => exact ⟨0, rfl, by omega, Lib.hid (Kp.refl _ _)⟩
  case round =>
    obtain ⟨k, rfl, hk, HKR⟩ := hrel
    by_cases hlt : k + 1 < ns
    · obtain ⟨x, ad, hxk, rfl, _, hcx⟩ := natR (HRS.out.kp0 HKR.out) (k := k) (by rw [← HNS.out]; omega)
      obtain ⟨y, ad', hyk, e', _, hcy⟩ := natR (HRS.out.kp0 HKR.out) (k := k + 1) (by rw [← HNS.out]; omega)
      injection e' with e'
      subst e'
      obtain ⟨bd, hbd⟩ : ∃ bd, bd = ad.add (k + 1) := ⟨_, rfl⟩
      rw [← hbd] at hcy
      have HBD := Lib.hid hbd
      obtain ⟨hx6, hy6, hcmp, hbeg, hlk⟩ := words_two HC.out.1 hxk hyk
      have HCR := Lib.hid (HC.out.kp0 HKR.out)
      obtain ⟨u, hu⟩ : ∃ u, u = wdL T x := ⟨_, rfl⟩
      obtain ⟨v, hv⟩ : ∃ v, v = wdL T y := ⟨_, rfl⟩
      have hub : u.length ≤ 256 := by rw [hu]; exact wdI_len HC.out.1 _
      have hvb : v.length ≤ 256 := by rw [hv]; exact wdI_len HC.out.1 _
      rw [← hu, ← hv] at hcmp hbeg
      rw [← hu] at hlk
      obtain ⟨nu, hnu⟩ : ∃ nu, nu = u.length := ⟨_, rfl⟩
      obtain ⟨nv, hnv⟩ : ∃ nv, nv = v.length := ⟨_, rfl⟩
      rw [← hnu] at hub hlk
      rw [← hnv] at hvb
      have HWX := Lib.hid (show ∀ w', Kp [] wr w' → _ from fun w' hk' => cword_vals lo hi p (x : Int) nu u T sg L w' (HCR.out.kp0 hk') hu.symm hnu.symm)
      have HWY := Lib.hid (show ∀ w', Kp [] wr w' → _ from fun w' hk' => cword_vals lo hi p (y : Int) nv v T sg L w' (HCR.out.kp0 hk') hv.symm hnv.symm)
      have HNU := Lib.hid hnu.symm
      have HNV := Lib.hid hnv.symm
      have HCMP := Lib.hid hcmp
      have HBEG := Lib.hid hbeg
      have HLK := Lib.hid hlk
      have hi0 : (0 : Int) ≤ (k : Int) := by omega
      have hi1 : (k : Int) < (ns : Int) := by omega
      have hi2 : (k : Int) + 1 < (ns : Int) := by omega
      have hi3 : (0 : Int) ≤ (k : Int) + 1 := by omega
      clear hcmp hbeg hlk hnu hnv hu hv hxk hyk hbd
      go_wp2_with fail
      refine wp_region_facts (by kernel_rfl) 136 [9, 10, 50, 51, 52, 53, 54, 55, 56, 57, 58, 59, 60, 61, 62] [[], [], [], [52], [51, 53], [54], [50, 55], [], [], [], [58, 59], [60], [57, 61], [56], [62]] (by kernel_rfl) (by kernel_rfl) rfl (factOf [(50, .eq (.pointer (some ⟨p, 0, none⟩))), (51, .eq (.slice (some ad) ns cs)), (52, .eq (.int .i64 ((k : Int) + 1))), (53, .eq (.int .i64 (k : Int))), (54, .eq (.pointer (some (ad.add k)))), (55, .eq (.int .i64 (x : Int))), (56, SFact.vals nu (u.map .bool)), (57, .eq (.pointer (some ⟨p, 0, none⟩))), (58, .eq (.slice (some ad) ns cs)), (59, .eq (.int .i64 ((k : Int) + 1))), (60, .eq (.pointer (some bd))), (61, .eq (.int .i64 (y : Int))), (62, SFact.vals nv (v.map .bool)), (9, SFact.vals nu (u.map .bool)), (10, SFact.vals nv (v.map .bool))]) (factOf_stable _) _ (fun x => by simp only [fillL, Nat.reduceAdd, Nat.reduceEqDiff, ↓reduceIte]; rfl) ?_ ?_
      · refine ⟨?_, ?_, ?_, ?_, ?_, ?_, ?_, ?_, ?_, ?_, ?_, ?_, ?_, ?_, ?_, trivial⟩
        · intro fx w' fa hk hd ev  -- 50 = Op.move (Operand.tmp 5)
          have e5 : fa.tmps[5]?.getD undef = .pointer (some ⟨p, 0, none⟩) := ev.old 5 rfl
          refine stepF_un rfl (fun K hK => ?_)
          exact stepF_val _ hK (run_move rfl e5 _) rfl
        · intro fx w' fa hk hd ev  -- 51 = Op.move (Operand.tmp 7)
          have e7 : fa.tmps[7]?.getD undef = .slice (some ad) ns cs := ev.old 7 rfl
          refine stepF_un rfl (fun K hK => ?_)
          exact stepF_val _ hK (run_move rfl e7 _) rfl
        · intro fx w' fa hk hd ev  -- 52 = Op.move (Operand.tmp 8)
          have e8 : fa.tmps[8]?.getD undef = .int .i64 ((k : Int) + 1) := ev.old 8 rfl
          refine stepF_un rfl (fun K hK => ?_)
          exact stepF_val _ hK (run_move rfl e8 _) rfl
        · intro fx w' fa hk hd ev  -- 53 = Op.binOp BinOp.sub 3 (Operand.tmp 52) (Operand.const (Value.
          have h52 : fx 52 = .int .i64 ((k : Int) + 1) := hd.1
          have e52 : fa.tmps[52]?.getD undef = .int .i64 ((k : Int) + 1) := (ev.new 52 rfl).trans h52
          refine stepF_un rfl (fun K hK => ?_)
          have q9 : IntKind.wrap .i64 (k : Int) = k := by rw [IntKind.wrap_i64]; omega
          go_simp
          exact hK _ _ rfl (Kp.refl _ _)
        · intro fx w' fa hk hd ev  -- 54 = Op.indexAddr 23 (Operand.tmp 51) (Operand.tmp 53)
          have h51 : fx 51 = .slice (some ad) ns cs := hd.1
          have e51 : fa.tmps[51]?.getD undef = .slice (some ad) ns cs := (ev.new 51 rfl).trans h51
          have h53 : fx 53 = .int .i64 (k : Int) := hd.2.1
          have e53 : fa.tmps[53]?.getD undef = .int .i64 (k : Int) := (ev.new 53 rfl).trans h53
          refine stepF_un rfl (fun K hK => ?_)
          go_simp
          exact hK _ _ rfl (Kp.refl _ _)
        · intro fx w' fa hk hd ev  -- 55 = Op.load 3 (Operand.tmp 54)
          have h54 : fx 54 = .pointer (some (ad.add k)) := hd.1
          have e54 : fa.tmps[54]?.getD undef = .pointer (some (ad.add k)) := (ev.new 54 rfl).trans h54
          refine stepF_un rfl (fun K hK => ?_)
          have q9 := hk.cell hcx (by simp)
          go_simp
          exact hK _ _ rfl (Kp.refl _ _)
        · intro fx w' fa hk hd ev  -- 56 = Op.call { callee := Callee.value (Operand.func 12), args := 
          have h50 : fx 50 = .pointer (some ⟨p, 0, none⟩) := hd.1
          have e50 : fa.tmps[50]?.getD undef = .pointer (some ⟨p, 0, none⟩) := (ev.new 50 rfl).trans h50
          have h55 : fx 55 = .int .i64 (x : Int) := hd.2.1
          have e55 : fa.tmps[55]?.getD undef = .int .i64 (x : Int) := (ev.new 55 rfl).trans h55
          refine stepF_un rfl (fun K hK => ?_)
          go_simp
          refine (HWX.out w' hk).mono ?_
          rintro e w2 ⟨⟨A2, c2, rfl, hle2, hr2⟩, hk2⟩
          exact hK _ _ ⟨A2, c2, rfl, hle2, hr2⟩ hk2
        · intro fx w' fa hk hd ev  -- 57 = Op.move (Operand.tmp 5)
          have e5 : fa.tmps[5]?.getD undef = .pointer (some ⟨p, 0, none⟩) := ev.old 5 rfl
          refine stepF_un rfl (fun K hK => ?_)
          exact stepF_val _ hK (run_move rfl e5 _) rfl
        · intro fx w' fa hk hd ev  -- 58 = Op.move (Operand.tmp 7)
          have e7 : fa.tmps[7]?.getD undef = .slice (some ad) ns cs := ev.old 7 rfl
          refine stepF_un rfl (fun K hK => ?_)
          exact stepF_val _ hK (run_move rfl e7 _) rfl
        · intro fx w' fa hk hd ev  -- 59 = Op.move (Operand.tmp 8)
          have e8 : fa.tmps[8]?.getD undef = .int .i64 ((k : Int) + 1) := ev.old 8 rfl
          refine stepF_un rfl (fun K hK => ?_)
          exact stepF_val _ hK (run_move rfl e8 _) rfl
        · intro fx w' fa hk hd ev  -- 60 = Op.indexAddr 23 (Operand.tmp 58) (Operand.tmp 59)
          have h58 : fx 58 = .slice (some ad) ns cs := hd.1
          have e58 : fa.tmps[58]?.getD undef = .slice (some ad) ns cs := (ev.new 58 rfl).trans h58
          have h59 : fx 59 = .int .i64 ((k : Int) + 1) := hd.2.1
          have e59 : fa.tmps[59]?.getD undef = .int .i64 ((k : Int) + 1) := (ev.new 59 rfl).trans h59
          refine stepF_un rfl (fun K hK => ?_)
          go_simp
          exact hK _ _ (by rw [HBD.out]; rfl) (Kp.refl _ _)
        · intro fx w' fa hk hd ev  -- 61 = Op.load 3 (Operand.tmp 60)
          have h60 : fx 60 = .pointer (some bd) := hd.1
          have e60 : fa.tmps[60]?.getD undef = .pointer (some bd) := (ev.new 60 rfl).trans h60
          refine stepF_un rfl (fun K hK => ?_)
          have q9 := hk.cell hcy (by simp)
          go_simp
          exact hK _ _ rfl (Kp.refl _ _)
        · intro fx w' fa hk hd ev  -- 62 = Op.call { callee := Callee.value (Operand.func 12), args := 
          have h57 : fx 57 = .pointer (some ⟨p, 0, none⟩) := hd.1
          have e57 : fa.tmps[57]?.getD undef = .pointer (some ⟨p, 0, none⟩) := (ev.new 57 rfl).trans h57
          have h61 : fx 61 = .int .i64 (y : Int) := hd.2.1
          have e61 : fa.tmps[61]?.getD undef = .int .i64 (y : Int) := (ev.new 61 rfl).trans h61
          refine stepF_un rfl (fun K hK => ?_)
          go_simp
          refine (HWY.out w' hk).mono ?_
          rintro e w2 ⟨⟨A2, c2, rfl, hle2, hr2⟩, hk2⟩
          exact hK _ _ ⟨A2, c2, rfl, hle2, hr2⟩ hk2
        · intro fx w' fa hk hd ev  -- 9 = Op.assign (Operand.tmp 56)
          have h56 : (SFact.vals nu (u.map .bool) : SFact).p (fx 56) w' := hd.1
          refine stepF_un rfl (fun K hK => ?_)
          exact stepF_val _ hK (run_assign rfl (ev.new 56 rfl) _) h56
        · intro fx w' fa hk hd ev  -- 10 = Op.assign (Operand.tmp 62)
          have h62 : (SFact.vals nv (v.map .bool) : SFact).p (fx 62) w' := hd.1
          refine stepF_un rfl (fun K hK => ?_)
          exact stepF_val _ hK (run_assign rfl (ev.new 62 rfl) _) h62
      · intro fx w' hk hd
        have h9 : (SFact.vals nu (u.map .bool) : SFact).p (fx 9) w' := hd.1
        have h10 : (SFact.vals nv (v.map .bool) : SFact).p (fx 10) w' := hd.2.1
        obtain ⟨A9, c9, v9, _, hr9⟩ := h9
        obtain ⟨A10, c10, v10, _, hr10⟩ := h10
        rw [v9, v10]
        have HR9 := Lib.hid hr9
        have HR10 := Lib.hid hr10
        have HKR2 := Lib.hid (HKR.out.trans hk)
        have HCR2 := Lib.hid (HCR.out.kp0 hk)
        clear v9 v10 hr9 hr10 hk hd HWX HWY HCR hcx hcy HKR
        go_wp2_with fail
        refine (compare_any A9 A10 nu nv c9 c10 _ _ u v w' HR9.out HR10.out HNU.out HNV.out (by omega) (by omega)).mono ?_
        rintro e w5 ⟨rfl, hd5⟩
        rw [HCMP.out]
        have hk5 := hd5.kp []
        replace HKR2 := Lib.hid (HKR2.out.trans hk5)
        replace HR9 := Lib.hid (HR9.out.kp0 hk5)
        replace HR10 := Lib.hid (HR10.out.kp0 hk5)
        replace HCR2 := Lib.hid (HCR2.out.kp0 hk5)
        clear hd5 hk5
        go_wp2_with fail
        refine (begins_any A9 A10 nu nv c9 c10 _ _ u v w5 HR9.out HR10.out HNU.out HNV.out (by omega) (by omega)).mono ?_
        rintro e w6 ⟨rfl, hd6⟩
        rw [HBEG.out]
        have hk6 := hd6.kp []
        replace HKR2 := Lib.hid (HKR2.out.trans hk6)
        replace HCR2 := Lib.hid (HCR2.out.kp0 hk6)
        clear hd6 hk6 HR9 HR10
        go_wp2_with fail
        refine (clengths_any lo hi p T sg L w6 HCR2.out).mono ?_
        rintro e w7 ⟨A7, n7, c7, hn7, rfl, hown7, hk7⟩
        obtain ⟨ad7, hadd7, _, hc7⟩ := (own_rd hown7).at_ (i := k) (u := .int .i64 (nu : Int)) (by rw [List.getElem?_map, HLK.out]; rfl)
        subst hadd7
        have hk7' : (k : Int) < (n7 : Int) := by have := (List.getElem?_eq_some_iff.1 HLK.out).1; omega
        have hk7'' : k < n7 := by omega
        replace HKR2 := Lib.hid (HKR2.out.trans hk7)
        clear hown7 hk7 HCR2 hn7
        go_wp2_with fail
        exact ⟨⟨k + 1, by go_num, by omega, HKR2⟩, by simp [intOf]; omega⟩
    · obtain rfl : k + 1 = ns := by omega
      replace HK := Lib.hid (HK.out.trans HKR.out)
      replace HX := Lib.hid (HX.out.kp0 HKR.out)
      replace HY := Lib.hid (HY.out.kp0 HKR.out)
      replace HC := Lib.hid (HC.out.kp0 HKR.out)
      replace HRS := Lib.hid (HRS.out.kp0 HKR.out)
      replace HHI := Lib.hid (Nat.le_trans HHI.out HKR.out.size)
      have HZ3 := Lib.hid HKR.out.size
      clear HKR
      have HNSM := Lib.hid (show (smO (symL ss)).length = k + 1 from by rw [HSM.out, List.length_map]; exact HNS.out.symm)
      have HRS2 := Lib.hid (show Rd wr w3.heap.size As ((smO (symL ss)).map (.int .i64)) from by rw [HSM.out, ← nat_int]; exact HRS.out)
      have HBS := Lib.hid (show w.heap.size ≤ wr.heap.size from HK.out.size)
      clear HRS HSM HNS hns1 hs1 hlt hk
      go_wp2_with fail
      refine (amake_any As A' (k + 1) m cs c' _ B' _ ls wr HRS2.out HY.out HNSM.out HM.out (by omega) (by omega) HZ3.out (Nat.le_trans HB'.out HBS.out)).mono ?_
      rintro e w4 ⟨hyes, hno, hk4⟩
      by_cases hok : okMake (smO (symL ss)) ls
      · obtain ⟨q, rfl, hcode4⟩ := hyes hok
        obtain ⟨hall, hsum⟩ := HBW2.out hok
        obtain ⟨T', hT'⟩ : ∃ T', T' = treeC (smO (symL ss)) ls := ⟨_, rfl⟩
        rw [← hT'] at hcode4 hall hsum
        obtain ⟨sg', hsg'⟩ : ∃ sg', sg' = (smO (symL ss)).map Int.toNat := ⟨_, rfl⟩
        rw [← hsg'] at hcode4
        obtain ⟨hi', hhi'⟩ : ∃ hi', hi' = w4.heap.size := ⟨_, rfl⟩
        rw [← hhi'] at hcode4
        have HHI' := Lib.hid (show hi' ≤ w4.heap.size by omega)
        have HC' := Lib.hid hcode4
        have HALL := Lib.hid hall
        have HSUM := Lib.hid hsum
        replace HK := Lib.hid (HK.out.trans hk4)
        replace HX := Lib.hid (HX.out.kp0 hk4)
        replace HY := Lib.hid (HY.out.kp0 hk4)
        replace HC := Lib.hid (HC.out.kp0 hk4)
        replace HHI := Lib.hid (Nat.le_trans HHI.out hk4.size)
        have HBT := Lib.hid (show ∀ k, sumT T (ss.take k) ≤ 153600 ∧ sumT T' (ss.take k) ≤ 153600 from fun k => by
          have h1 := sumT_bound HC.out.1 (ss.take k)
          have h2 := sumT_bound HC'.out.1 (ss.take k)
          have h3 : (symL (ss.take k)).length ≤ (symL ss).length := by
            conv => rhs; rw [← List.take_append_drop k ss]
            unfold symL
            rw [List.flatMap_append, List.length_append]
            omega
          have := HSL.out
          omega)
        clear hyes hno hcode4 hall hsum hk4 hT' hsg' hhi' hok HBW2 HRS2 HNSM HZ3
        go_wp2_with fail
        go_loopw [13, 14, 15] (fun a b i wr => ∃ j N M : Nat, i = .int .i64 (j : Int) ∧ a = .int .i64 (N : Int) ∧ b = .int .i64 (M : Int) ∧ j ≤ n ∧ Hid (sumT T (ss.take j) = N ∧ sumT T' (ss.take j) = M) ∧ Hid (Kp [] w4 wr)) (fun _ _ i _ => n - (intOf i).toNat)
        case atStart => exact ⟨0, 0, 0, rfl, rfl, rfl, by omega, Lib.hid (by simp [sumT]), Lib.hid (Kp.refl _ _)⟩
        case round =>
          obtain ⟨j, N, M, rfl, rfl, rfl, hj, HNM, HKR⟩ := hrel
          by_cases hjn : j < n
          · obtain ⟨s, ad, hs, rfl, _, hcs⟩ := (HX.out.kp0 HKR.out).str (k := j) (by rw [HN.out]; exact hjn)
            have hmem := List.mem_of_getElem? hs
            have HE1 := Lib.hid (long_yes (HALL.out s hmem).1)
            have HE2 := Lib.hid (long_yes (HALL.out s hmem).2)
            have hsz : s.size ≤ 1000000000 := by
              have h1 : (symT s).length ≤ (symL ss).length := by
                obtain ⟨l1, l2, e⟩ := List.append_of_mem hmem
                rw [e]
                unfold symL
                rw [List.flatMap_append, List.flatMap_cons, List.length_append, List.length_append]
                omega
              rw [symT_len] at h1
              have := HSL.out
              omega
            obtain ⟨x, hx⟩ : ∃ x, x = longN T s := ⟨_, rfl⟩
            obtain ⟨y, hy⟩ : ∃ y, y = longN T' s := ⟨_, rfl⟩
            have HNM2 := Lib.hid (show sumT T (ss.take (j + 1)) = N + x ∧ sumT T' (ss.take (j + 1)) = M + y from by
              rw [take_succ_of hs, sumT_snoc, sumT_snoc, HNM.out.1, HNM.out.2, hx, hy]
              exact ⟨rfl, rfl⟩)
            obtain ⟨hb1, hb2⟩ := HBT.out (j + 1)
            rw [HNM2.out.1] at hb1
            rw [HNM2.out.2] at hb2
            have HXE := Lib.hid hx.symm
            have HYE := Lib.hid hy.symm
            have HCR := Lib.hid (HC.out.kp0 HKR.out)
            have HCR' := Lib.hid (HC'.out.kp0 HKR.out)
            have HH1 := Lib.hid (Nat.le_trans HHI.out HKR.out.size)
            have HH2 := Lib.hid (Nat.le_trans HHI'.out HKR.out.size)
            have hi0 : (0 : Int) ≤ (j : Int) := by omega
            have hi1 : (j : Int) < (n : Int) := by omega
            clear hs hmem hx hy
            go_wp2_with fail
            refine (clong_any lo hi p T sg L s wr HCR.out hsz HH1.out).mono ?_
            rw [HXE.out, HE1.out]
            rintro e w5 ⟨rfl, hk5⟩
            have hcs5 := hk5.cell hcs (by simp)
            replace HCR' := Lib.hid (HCR'.out.kp0 hk5)
            have HK5 := Lib.hid (HKR.out.trans hk5)
            replace HH2 := Lib.hid (Nat.le_trans HH2.out hk5.size)
            clear hk5 hcs
            go_wp2_with fail
            refine (clong_any _ hi' q T' sg' ls s w5 HCR'.out hsz HH2.out).mono ?_
            rw [HYE.out, HE2.out]
            rintro e w6 ⟨rfl, hk6⟩
            have HK6 := Lib.hid (HK5.out.trans hk6)
            clear hk6 hcs5 HK5 HCR' HCR HKR
            go_wp2_with fail
            exact ⟨⟨j + 1, N + x, M + y, by go_num, by go_num, by go_num, by omega, HNM2, HK6⟩, by simp [intOf]; omega⟩
          · obtain rfl : j = n := by omega
            have hNM : N ≤ M := by
              have h1 := HNM.out.1
              have h2 := HNM.out.2
              rw [List.take_of_length_le (by rw [HN.out]; exact Nat.le_refl _)] at h1 h2
              have := HSUM.out
              omega
            have hNMi : decide ((N : Int) ≤ (M : Int)) = true := by simp; omega
            have HCE := Lib.hid (HC'.out.kp0 HKR.out)
            have HYE := Lib.hid (HY.out.kp0 HKR.out)
            have HKE := Lib.hid (HK.out.trans HKR.out)
            have HTL := Lib.hid HM.out
            clear HKR HK HC HC' HX HY HNM HSUM HALL HBT hjn hj HHI HHI'
            go_wp2_with fail
            refine (clengths_any _ hi' q T' sg' ls wr HCE.out).mono ?_
            rintro e w7 ⟨A7, n7, c7, hn7, rfl, hown7, hk7⟩
            obtain rfl : n7 = m := by rw [hn7]; exact HTL.out
            have HX7 := Lib.hid (own_rd hown7)
            have HY7 := Lib.hid (HYE.out.kp0 hk7)
            replace HKE := Lib.hid (HKE.out.trans hk7)
            clear hown7 hk7 hn7
            go_wp2_with fail
            refine (sameI A7 A' n7 n7 c7 c' _ _ ls ls w7 HX7.out HY7.out HTL.out HTL.out (by omega) (by omega)).mono ?_
            rw [decide_eq_true (rfl : ls = ls)]
            rintro e w8 ⟨rfl, hd8⟩
            have HK8 := Lib.hid (HKE.out.trans (hd8.kp []))
            clear hd8 HKE HX7 HY7
            go_wp2_with fail
            go_ret
            exact ⟨rfl, HK8.out⟩
      · rw [hno hok]
        have HKE := Lib.hid (HK.out.trans hk4)
        clear hyes hno hk4
        go_wp2_with fail
        go_ret
        exact ⟨rfl, HKE.out⟩
end Go.Proofs.Ytpmdfklhgabfgaa
