/-
  LAYER 1's library: bits.OnesCount64.
  LAYER 1's vector in memory; its counts.
  LAYER 1: how many ones stand below a place.
  LAYER 1's library: bits.TrailingZeros64, where its table lies in memory; all ones; the closure of find.
  CONDITIONS: as each lemma says.
-/
import Derived.Test.YtpmdfklhgabfgaaQ00
import Derived.Test.YtpmdfklhgabfgaaQ01
import Derived.Test.YtpmdfklhgabfgaaQ07
import Derived.Test.YtpmdfklhgabfgaaQ06
import Derived.Test.YtpmdfklhgabfgaaQ08
import Derived.Laws.BitsAllLaws
import Derived.Laws.Bits128
namespace Go.Proofs.Ytpmdfklhgabfgaa
open Go.RowKit

end Go.Proofs.Ytpmdfklhgabfgaa
namespace Go.Proofs.Ytpmdfklhgabfgaa
open Go.RowKit

theorem Try.info_int_ : (Try.prog.info? 3).map (fun i => (i.zero, i.size, i.bytes)) = some (some (.int .i64 0), 1, 8) := by kernel_rfl
/-- How many ones stand below a place. -/
def cntI (bs : List Bool) (i : Nat) : Nat := (bs.take i).count true
theorem cntI_add (bs : List Bool) (i j : Nat) : cntI bs (i + j) = cntI bs i + ((bs.drop i).take j).count true := by
  unfold cntI
  rw [List.take_add, List.count_append]
theorem cntI_le (bs : List Bool) (i : Nat) : cntI bs i ≤ bs.length := by
  unfold cntI
  have h1 := (List.take_sublist i bs).count_le true
  have h2 := List.count_le_length (a := true) (l := bs)
  omega
theorem cntI_all {bs : List Bool} {i : Nat} (h : bs.length ≤ i) : cntI bs i = bs.count true := by
  unfold cntI
  rw [List.take_of_length_le h]
theorem cntI_mono (bs : List Bool) {i j : Nat} (h : i ≤ j) : cntI bs i ≤ cntI bs j := count_take_le bs h
/-- The counts ahead of rows of 512 bits. -/
def aheadK (bs : List Bool) (j : Nat) : List Int := (List.range j).map fun i => ((cntI bs (512 * i) : Nat) : Int)
theorem aheadK_len (bs : List Bool) (j : Nat) : (aheadK bs j).length = j := by simp [aheadK]
theorem aheadK_succ (bs : List Bool) (j : Nat) : aheadK bs (j + 1) = aheadK bs j ++ [((cntI bs (512 * j) : Nat) : Int)] := by simp [aheadK, List.range_succ]
theorem aheadK_get {bs : List Bool} {j i : Nat} (h : i < j) : (aheadK bs j)[i]? = some ((cntI bs (512 * i) : Nat) : Int) := by simp [aheadK, h]
def rowsOf (n : Nat) : Nat := (n + 511) / 512 + 1
/-- A word is 64 of the bits. -/
theorem word_bits {ws : List Nat} {bs : List Bool} {k x : Nat} (hw : ∀ x ∈ ws, x < 2 ^ 64) (hn : num ws = bitN bs) (hx : ws[k]? = some x) : x = bitN ((bs.drop (64 * k)).take 64) := by
  have h := num_get (q := k) (r := 0) (wd := 64) hw hx (by omega)
  rw [Nat.add_zero, Nat.pow_zero, Nat.div_one, Nat.mod_eq_of_lt (hw x (List.mem_of_getElem? hx)), hn, bitN_div, bitN_mod] at h
  exact h.symm
theorem word_pop {ws : List Nat} {bs : List Bool} {k x : Nat} (hw : ∀ x ∈ ws, x < 2 ^ 64) (hn : num ws = bitN bs) (hx : ws[k]? = some x) : cntI bs (64 * (k + 1)) = cntI bs (64 * k) + popN 64 x := by
  rw [show 64 * (k + 1) = 64 * k + 64 by omega, cntI_add, word_bits hw hn hx, popN_bitN 64 _ (by rw [List.length_take]; omega)]

/-- A vector in memory: its blocks S, its place, its bits, whether they are counted. -/
def VecM (w : World) (S : List Nat) (p : Nat) (bs : List Bool) (c : Bool) : Prop :=
  ∃ (g : Nat) (ws : List Nat) (A : Option Addr) (na ca : Nat) (av : List Int),
    Blk w p 103 [.slice (some ⟨g, 0, none⟩) ws.length ws.length, .slice A na ca, .bool c, .int .i64 (bs.length : Int), .bool true] ∧
    Blk w g 122 (wordsV ws) ∧ (∀ x ∈ ws, x < 2 ^ 64) ∧ ws.length = (bs.length + 63) / 64 ∧ num ws = bitN bs ∧ bs.length ≤ 16777216 ∧
    w.ownsRow 0 3 1 (.slice A na ca) na (av.map (.int .i64)) ∧ (c = true → av = aheadK bs (rowsOf bs.length)) ∧ S = p :: g :: ownL (.slice A na ca)
/-- A set of blocks grows by new ones alone. -/
def Grow (w : World) (S S' : List Nat) : Prop := ∀ g ∈ S', g ∈ S ∨ w.heap.size ≤ g
theorem Grow.refl (w : World) (S : List Nat) : Grow w S S := fun _ h => .inl h
theorem Grow.trans {w w' : World} {S T U : List Nat} (h : Grow w S T) (h' : Grow w' T U) (hs : w.heap.size ≤ w'.heap.size) : Grow w S U := fun g hg => by
  rcases h' g hg with h1 | h1
  · exact h g h1
  · exact .inr (by omega)
theorem VecM.lt {w : World} {S : List Nat} {p : Nat} {bs : List Bool} {c : Bool} (h : VecM w S p bs c) : ∀ g ∈ S, g < w.heap.size := by
  obtain ⟨g, ws, A, na, ca, av, h1, h2, _, _, _, _, h7, _, rfl⟩ := h
  intro x hx
  simp only [List.mem_cons] at hx
  rcases hx with rfl | rfl | hx
  · exact h1.lt
  · exact h2.lt
  · exact (own_ge h7 (mem_ownL.1 hx)).2
theorem VecM.kp {w w' : World} {S T : List Nat} {p : Nat} {bs : List Bool} {c : Bool} (h : VecM w S p bs c) (hk : Kp T w w') (hd : ∀ g ∈ S, g ∉ T) : VecM w' S p bs c := by
  obtain ⟨g, ws, A, na, ca, av, h1, h2, h3, h4, h5, h6, h7, h8, rfl⟩ := h
  exact ⟨g, ws, A, na, ca, av, h1.kp hk (hd p (by simp)), h2.kp hk (hd g (by simp)), h3, h4, h5, h6, own_kp h7 hk (fun x hx => hd x (by simp [mem_ownL, hx])), h8, rfl⟩
theorem VecM.kp0 {w w' : World} {S : List Nat} {p : Nat} {bs : List Bool} {c : Bool} (h : VecM w S p bs c) (hk : Kp [] w w') : VecM w' S p bs c := h.kp hk (by simp)
theorem own_zero {w : World} {base : Nat} {e : TypeId} {A : Option Addr} {n c : Nat} {xs : List Value} (h : w.ownsRow base e 1 (.slice A n c) n xs) : w.ownsRow base e 1 (.slice A 0 c) 0 [] := by
  rcases own_blk h with ⟨hv, _, _⟩ | ⟨g, cap, rest, hv, hb, hB, h1, h2, h3, h4⟩
  · injection hv with hv _ hc
    subst hv hc
    exact ⟨rfl, .inl ⟨rfl, rfl⟩⟩
  · injection hv with hv _ hc
    subst hv hc
    exact own_of_blk (xs := []) (rest := xs ++ rest) hB hb (Nat.zero_le _) h2 rfl h4
theorem own_blk_some {w : World} {base : Nat} {e : TypeId} {n : Nat} {v : Value} {xs : List Value} (h : w.ownsRow base e 1 v n xs) {b : Nat} (hb : v.ownBlock = some b) : ∃ l, Blk w b e l := by
  rcases own_blk h with ⟨rfl, _, _⟩ | ⟨g, cap, rest, rfl, _, hB, _⟩
  · cases hb
  · have hb' : some g = some b := hb
    injection hb' with hb'
    subst hb'
    exact ⟨_, hB⟩
theorem ownBlock_len (A : Option Addr) (n m c : Nat) : (Value.slice A n c).ownBlock = (Value.slice A m c).ownBlock := by rcases A with _ | ⟨b, o, s⟩ <;> rfl

end Go.Proofs.Ytpmdfklhgabfgaa
namespace Go.Proofs.Ytpmdfklhgabfgaa
open Go.RowKit

def wordsOf (n : Nat) : Nat := (n + 63) / 64
/-- The 64 bits of a word. -/
def wordL (bs : List Bool) (k : Nat) : List Bool := (bs.drop (64 * k)).take 64
theorem wordL_len (bs : List Bool) (k : Nat) : (wordL bs k).length ≤ 64 := by unfold wordL; rw [List.length_take]; omega
theorem bitN_wordL_lt (bs : List Bool) (k : Nat) : bitN (wordL bs k) < 2 ^ 64 := Nat.lt_of_lt_of_le (bitN_lt _) (Nat.pow_le_pow_right (by omega) (wordL_len bs k))
theorem wordL_pop (bs : List Bool) (k : Nat) : cntI bs (64 * (k + 1)) = cntI bs (64 * k) + popN 64 (bitN (wordL bs k)) := by
  rw [show 64 * (k + 1) = 64 * k + 64 by omega, cntI_add, popN_bitN 64 _ (wordL_len bs k)]
  rfl
theorem wordL_low (bs : List Bool) (k r : Nat) (hr : r ≤ 64) : cntI bs (64 * k + r) = cntI bs (64 * k) + popN 64 (bitN (wordL bs k) % 2 ^ r) := by
  rw [cntI_add, bitN_mod, popN_bitN 64 _ (by rw [List.length_take]; omega)]
  unfold wordL
  rw [List.take_take, Nat.min_eq_left hr]
/-- What the cells of a vector hold. -/
theorem VecM.words {w : World} {S : List Nat} {p : Nat} {bs : List Bool} {c : Bool} (h : VecM w S p bs c) :
    ∃ g, w.cell? ⟨p, 0, none⟩ = some (.slice (some ⟨g, 0, none⟩) (wordsOf bs.length) (wordsOf bs.length)) ∧ (∀ k, k < wordsOf bs.length → w.cell? ⟨g, k, none⟩ = some (.int .u64 ((bitN (wordL bs k) : Nat) : Int))) := by
  obtain ⟨g, ws, A, na, ca, av, h1, h2, h3, h4, h5, _⟩ := h
  refine ⟨g, by rw [h1.cell]; unfold wordsOf; rw [← h4]; rfl, fun k hk => ?_⟩
  obtain ⟨x, hx⟩ : ∃ x, ws[k]? = some x := ⟨_, List.getElem?_eq_getElem (by rw [h4]; exact hk)⟩
  rw [h2.cell, wordsV_get hx, word_bits h3 h5 hx]
  rfl
theorem VecM.tail {w : World} {S : List Nat} {p : Nat} {bs : List Bool} {c : Bool} (h : VecM w S p bs c) : w.cell? ⟨p, 2, none⟩ = some (.bool c) ∧ w.cell? ⟨p, 3, none⟩ = some (.int .i64 (bs.length : Int)) ∧ w.cell? ⟨p, 4, none⟩ = some (.bool true) ∧ bs.length ≤ 16777216 := by
  obtain ⟨g, ws, A, na, ca, av, h1, _, _, _, _, h6, _⟩ := h
  exact ⟨by rw [h1.cell]; rfl, by rw [h1.cell]; rfl, by rw [h1.cell]; rfl, h6⟩
theorem VecM.ahead {w : World} {S : List Nat} {p : Nat} {bs : List Bool} (h : VecM w S p bs true) :
    ∃ ga ca, w.cell? ⟨p, 1, none⟩ = some (.slice (some ⟨ga, 0, none⟩) (rowsOf bs.length) ca) ∧ ∀ i, i < rowsOf bs.length → w.cell? ⟨ga, i, none⟩ = some (.int .i64 ((cntI bs (512 * i) : Nat) : Int)) := by
  obtain ⟨g, ws, A, na, ca, av, h1, _, _, _, _, _, h7, h8, _⟩ := h
  have hav := h8 rfl
  subst hav
  have hna : na = rowsOf bs.length := by
    have := h7.1
    rw [List.length_map, aheadK_len, Nat.mul_one] at this
    exact this.symm
  subst hna
  obtain ⟨ga, rfl, _, _⟩ := own_blk h7 |>.elim (fun h => absurd h.2.1 (by unfold rowsOf; omega)) (fun ⟨g', cap, rest, hv, _⟩ => ⟨g', by injection hv, trivial, trivial⟩ : _ → ∃ ga, A = some ⟨ga, 0, none⟩ ∧ True ∧ True)
  refine ⟨ga, ca, by rw [h1.cell]; rfl, fun i hi => ?_⟩
  obtain ⟨ad, had, _, hc⟩ := (own_rd h7).at_ (i := i) (u := .int .i64 ((cntI bs (512 * i) : Nat) : Int)) (by rw [List.getElem?_map, aheadK_get hi]; rfl)
  injection had with had
  subst had
  rwa [addr_lit_add, Nat.zero_add] at hc

theorem low_mask (x r : Nat) : x &&& (2 ^ r - 1) = x % 2 ^ r := Nat.and_two_pow_sub_one_eq_mod x r

end Go.Proofs.Ytpmdfklhgabfgaa
namespace Go.Proofs.Ytpmdfklhgabfgaa
open Go.RowKit

def dbTab : List Int := [0, 1, 56, 2, 57, 49, 28, 3, 61, 58, 42, 50, 38, 29, 17, 4, 62, 47, 59, 36, 45, 43, 51, 22, 53, 39, 33, 30, 24, 18, 12, 5, 63, 55, 48, 27, 60, 41, 37, 16, 46, 35, 44, 21, 52, 32, 23, 11, 54, 26, 40, 15, 34, 20, 31, 10, 25, 14, 19, 9, 13, 8, 7, 6]
theorem db_at : ∀ c : Nat, c < 64 → dbTab[2 ^ c * 285870213051353865 % 18446744073709551616 / 288230376151711744]? = some (c : Int) := by decide +kernel
theorem ft_app : ∀ {l : List Bool} (n : Nat), 0 < l.count true → ft (l ++ List.replicate n false) = ft l
  | [], n, h => by simp at h
  | true :: l, n, _ => rfl
  | false :: l, n, h => by
    have := ft_app (l := l) n (by simpa [List.count_cons] using h)
    show ft (l ++ List.replicate n false) + 1 = ft l + 1
    rw [this]
theorem bitN_pad (l : List Bool) (n : Nat) : bitN (l ++ List.replicate n false) = bitN l := by rw [bitN_app, bitN_zeros, Nat.mul_zero, Nat.add_zero]

end Go.Proofs.Ytpmdfklhgabfgaa
