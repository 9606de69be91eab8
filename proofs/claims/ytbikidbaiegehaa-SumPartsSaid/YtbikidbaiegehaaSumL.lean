/-
  THE STATEMENTS OF LAYER 4 (sum): the helpers size, awake, and SumTells.
  CONDITIONS: each slice takes at most 2^47 bytes.
-/
import Derived.Test.YtbikidbaiegehaaSum4
import Derived.Lib.SlBytesConst
namespace Go.Proofs.Ytbikidbaiegehaa
open Go.RowKit

theorem crc_example : crc [49, 50, 51, 52, 53, 54, 55, 56, 57] = 3421780262 := by decide +kernel

def SizeIs (w : World) (n t : Nat) (e : Ending) (w' : World) : Prop := ∃ s : Int, e = .returned (.int .i64 s) ∧ w = w' ∧ 0 ≤ s ∧ s ≤ 281474976710656 ∧ (s ≤ 3000 → s = n + t)
set_option maxHeartbeats 1000000 in
theorem size4_any (A : Option Addr) (n c B : Nat) (xss : List (List Int)) (w : World) (hx : RdRows w B .u8 A xss) (hn : xss.length = n) (hb : n ≤ 140737488355328) (hr : ∀ xs ∈ xss, xs.length ≤ 140737488355328) :
    Calls Try.prog 12 #[.slice A n c] w (SizeIs w n xss.flatten.length) := by
  have HN := Lib.hid hn; clear hn
  have HX := Lib.hid hx; clear hx
  have HR := Lib.hid hr; clear hr
  go_enter Try.func12, Try.ntmps12
  go_wp2
  go_loop [3, 4] (fun s i => ∃ k q : Nat, k ≤ n ∧ i = .int .i64 k ∧ s = .int .i64 q ∧ q ≤ 281474976710656 ∧ Hid (q = n + (xss.take k).flatten.length)) (fun _ i => n - (intOf i).toNat)
  case atStart => exact ⟨0, n, by omega, rfl, rfl, by omega, Lib.hid (by simp)⟩
  case round =>
    obtain ⟨k, q, hk, rfl, rfl, hq, hqq⟩ := hrel
    by_cases hlt : k < n
    · by_cases h3 : q ≤ 3000
      · obtain ⟨xs, ad, Ai, ci, hxk, rfl, _, hcell, _, _⟩ := HX.out.ix (i := k) (by have := HN.out; omega)
        have hl := HR.out xs (List.mem_of_getElem? hxk)
        have hfl : (xss.take (k + 1)).flatten.length = (xss.take k).flatten.length + xs.length := by rw [flat_take_succ hxk, List.length_append]
        have HFL := Lib.hid hfl; clear hfl
        have HXK := Lib.hid hxk; clear hxk
        go_wp2
        go_round
        case rel => exact ⟨k + 1, q + xs.length, by omega, by go_num, by go_num, by omega, Lib.hid (by rw [HFL.out, hqq.out]; omega)⟩
        case measure => simp [intOf]; omega
      · go_wp2
        go_ret
        exact ⟨q, rfl, rfl, by omega, by omega, fun h => by omega⟩
    · go_wp2
      go_ret
      refine ⟨q, rfl, rfl, by omega, by omega, fun _ => ?_⟩
      have h9 := hqq.out
      rw [List.take_of_length_le (by have := HN.out; omega)] at h9
      rw [h9]
      simp

theorem conv_const {P : Program} (w : World) (t e : TypeId) (C : Array Value) (g n c : Nat) (ht : P.underlying t = some (.slice e)) (he : P.underlying e = some (.int .u8)) (h : w.heap.size = g) :
    (convert t t (.slice (some ⟨g, 0, none⟩) n c)).run P (w.alloc (.cells C e)) = .ok (.slice (some ⟨g, 0, none⟩) n c) (w.alloc (.cells C e (C.size, C.size + 1))) := by
  subst h
  exact Lib.run_convert_bytes_const w t e C n c ht he

set_option maxHeartbeats 1000000 in
theorem awake4_any (w : World) : Calls Try.prog 13 #[] w fun e w' => e = .returned (.bool true) ∧ Kp [] w w' := by
  have kc := fun (w : World) (C : Array Value) (g n c : Nat) (h : w.heap.size = g) => conv_const (P := Try.prog) w 23 5 C g n c Try.underlying23 Try.underlying5 h
  go_enter Try.func13, Try.ntmps13
  go_wp2_with fail
  clear kc
  refine (of_any _ 2 _ (w.heap.size + 3) [[49, 50, 51, 52], [53, 54, 55, 56, 57]] _ ?_ (by simp) rfl (by omega) (by simp) ?_).mono ?_
  · refine RdRows.of_list (l := [.slice (some ⟨w.heap.size, 0, none⟩) 4 4, .slice (some ⟨w.heap.size + 1, 0, none⟩) 5 5]) ?_ ?_
    · refine ⟨⟨_, 4, rfl, by simp, ?_⟩, ⟨_, 5, rfl, by simp, ?_⟩, trivial⟩
      · exact (((Rd.new w _ _ _).kp0 ((Kp.refl [] _).alloc _)).kp0 ((Kp.refl [] _).alloc _)).bound (by omega)
      · have h := Rd.new (w.alloc (.cells #[.int .u8 49, .int .u8 50, .int .u8 51, .int .u8 52] 5 (4, 5))) #[.int .u8 53, .int .u8 54, .int .u8 55, .int .u8 56, .int .u8 57] 5 (5, 6)
        rw [World.size_alloc] at h
        exact (h.kp0 ((Kp.refl [] _).alloc _)).bound (by omega)
    · have h := Rd.new ((w.alloc (.cells #[.int .u8 49, .int .u8 50, .int .u8 51, .int .u8 52] 5 (4, 5))).alloc (.cells #[.int .u8 53, .int .u8 54, .int .u8 55, .int .u8 56, .int .u8 57] 5 (5, 6))) #[.slice (some ⟨w.heap.size, 0, none⟩) 4 4, .slice (some ⟨w.heap.size + 1, 0, none⟩) 5 5] 23 (0, 0)
      rw [World.size_alloc, World.size_alloc] at h
      exact h
  · intro xs hxs
    simp only [List.mem_cons, List.not_mem_nil, or_false] at hxs
    rcases hxs with rfl | rfl <;> (intro x hx; simp at hx; omega)
  · rintro e w1 ⟨rfl, hk1⟩
    have he : crc [[49, 50, 51, 52], [53, 54, 55, 56, 57]].flatten = 3421780262 := crc_example
    rw [he]
    have HK := Lib.hid hk1; clear hk1 he
    go_wp2
    go_ret
    exact ⟨rfl, (((Kp.refl [] w).alloc _).alloc _).alloc _ |>.trans HK.out⟩

/-- Lists handed out with marks behind their ends, each in a block of its own. -/
def LentRows (w : World) (B : Nat) (l : List Value) (xss : List (List Int)) : Prop :=
  l.length = xss.length ∧ ∀ (i : Nat) (xs : List Int), xss[i]? = some xs → ∃ g : Nat, l[i]? = some (Value.slice (some ⟨g, 0, none⟩) xs.length (xs.length + 12)) ∧ B ≤ g ∧ Blk w g 5 ((xs ++ marksB 1 12).map (.int .u8))
theorem LentRows.nil (w : World) (B : Nat) : LentRows w B [] [] := ⟨rfl, fun i xs h => by simp at h⟩
theorem LentRows.kp {w w' : World} {B C : Nat} {l : List Value} {xss : List (List Int)} {S : List Nat} (h : LentRows w B l xss) (k : Kp S w w') (hS : ∀ g ∈ S, C ≤ g) (hC : w.heap.size ≤ C) : LentRows w' B l xss := by
  refine ⟨h.1, fun i xs hi => ?_⟩
  obtain ⟨g, h1, h2, h3⟩ := h.2 i xs hi
  exact ⟨g, h1, h2, h3.kp k (fun hm => by have := hS g hm; have := h3.lt; omega)⟩
theorem LentRows.kp0 {w w' : World} {B : Nat} {l : List Value} {xss : List (List Int)} (h : LentRows w B l xss) (k : Kp [] w w') : LentRows w' B l xss := h.kp k (C := w.heap.size) (by simp) (Nat.le_refl _)
/-- .. while the row of slices itself grows. -/
theorem LentRows.grown {w w' : World} {B base n : Nat} {l xs' : List Value} {v : Value} {xss : List (List Int)} (h : LentRows w B l xss) (ho : w.ownsRow base 23 1 v n xs') (k : w.grownBy w' v.ownBlock) : LentRows w' B l xss := by
  refine ⟨h.1, fun i xs hi => ?_⟩
  obtain ⟨g, h1, h2, h3⟩ := h.2 i xs hi
  refine ⟨g, h1, h2, ?_⟩
  refine (k.block g h3.lt (fun e => ?_)).trans h3
  rcases own_blk ho with ⟨rfl, _⟩ | ⟨g', cap, rest, rfl, _, hb, _⟩
  · simp [Value.ownBlock] at e
  · simp only [Value.ownBlock, Option.some.injEq] at e
    subst e
    exact absurd (h3.inj hb).1 (by decide)
theorem LentRows.snoc {w : World} {B g : Nat} {l : List Value} {xss : List (List Int)} {xs : List Int} (h : LentRows w B l xss) (hb : Blk w g 5 ((xs ++ marksB 1 12).map (.int .u8))) (hB : B ≤ g) :
    LentRows w B (l ++ [.slice (some ⟨g, 0, none⟩) xs.length (xs.length + 12)]) (xss ++ [xs]) := by
  refine ⟨by simp [h.1], fun i ys hi => ?_⟩
  by_cases hl : i < xss.length
  · rw [List.getElem?_append_left hl] at hi
    obtain ⟨g, h1, h2, h3⟩ := h.2 i ys hi
    exact ⟨g, by rw [List.getElem?_append_left (by rw [h.1]; exact hl)]; exact h1, h2, h3⟩
  · rw [List.getElem?_append_right (by omega)] at hi
    have h0 : i - xss.length = 0 := by
      have := (List.getElem?_eq_some_iff.1 hi).1
      simp at this
      omega
    rw [h0] at hi
    simp at hi
    subst hi
    exact ⟨g, by rw [List.getElem?_append_right (by rw [h.1]; omega), h.1, h0]; rfl, hB, hb⟩
theorem LentRows.rows {w : World} {B : Nat} {A : Option Addr} {l : List Value} {xss : List (List Int)} (h : LentRows w B l xss) (hr : Rd w w.heap.size A l) : RdRows w w.heap.size .u8 A xss := by
  refine ⟨l, h.1, hr, fun i xs hi => ?_⟩
  obtain ⟨g, h1, h2, h3⟩ := h.2 i xs hi
  refine ⟨_, _, h1, by omega, ?_⟩
  have := (h3.rd h3.lt).take xs.length
  rw [← List.map_take, List.take_append_of_le_length (Nat.le_refl _), List.take_of_length_le (Nat.le_refl _)] at this
  exact this
end Go.Proofs.Ytbikidbaiegehaa
