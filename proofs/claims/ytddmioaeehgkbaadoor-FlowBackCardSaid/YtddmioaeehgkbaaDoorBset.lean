/-
  LAYER 1: slices.ContainsFunc over a predicate that changes nothing; Set's predicate.
  CONDITIONS: as each says.
-/
import Derived.Test.YtddmioaeehgkbaaDoorBsame
import Derived.Test.YtddmioaeehgkbaaDoorSearch
namespace Go.Proofs.YtddmioaeehgkbaaDoor
open Go.RowKit

set_option maxRecDepth 100000 in
set_option maxHeartbeats 2000000 in
theorem index_any (g n c B : Nat) (A : Option Addr) (lb : Array Value) (p : Int → Bool) (l : List Int) (w : World) (hx : Rd w B A (l.map (.int .i64))) (hn : l.length = n) (hb : n ≤ 1000000000) (eg : ∀ args w, (callFunc g args).run Tryd.prog w = .ok (.enter g args) w)
    (hf : ∀ x ∈ l, Calls Tryd.prog g (#[.int .i64 x] ++ lb) w fun e w' => e = .returned (.bool (p x)) ∧ w = w') :
    Calls Tryd.prog 69 #[.slice A n c, .func (.func g) #[] lb] w fun e w' => ∃ k : Int, e = .returned (.int .i64 k) ∧ (decide (0 ≤ k) = l.any p) ∧ w = w' := by
  have HX := Lib.hid hx; clear hx
  have HN := Lib.hid hn; clear hn
  have HF := Lib.hid hf; clear hf
  go_enter Tryd.func69, Tryd.ntmps69
  go_wp2_with fail
  go_loopw [8] (fun x wr => ∃ k : Nat, x = .int .i64 (k : Int) ∧ k ≤ n ∧ Hid (∀ y ∈ l.take k, p y = false) ∧ w = wr) (fun x _ => n - (intOf x).toNat)
  case atStart => exact ⟨0, rfl, by omega, Lib.hid (fun y hy => by simp at hy), rfl⟩
  case round =>
    obtain ⟨k, rfl, hk, HNO, rfl⟩ := hrel
    by_cases hlt : k < n
    · obtain ⟨x, ad, hxk, rfl, _, hcx⟩ := HX.out.ix (i := k) (by rw [HN.out]; exact hlt)
      have hc := HF.out x (List.mem_of_getElem? hxk)
      cases hp : p x <;> rw [hp] at hc
      · have HNO2 := Lib.hid (show ∀ y ∈ l.take (k + 1), p y = false from fun y hy => by
          rw [take_succ_of hxk] at hy
          rcases List.mem_append.1 hy with h | h
          · exact HNO.out y h
          · obtain rfl : y = x := by simpa using h
            exact hp)
        clear hp hxk HNO
        go_wp2_with fail
        refine hc.mono ?_
        rintro e w' ⟨rfl, rfl⟩
        go_wp2_with fail
        exact ⟨⟨k + 1, by go_num, by omega, HNO2, trivial⟩, by simp [intOf]; omega⟩
      · have HAN := Lib.hid (show l.any p = true from List.any_eq_true.2 ⟨x, List.mem_of_getElem? hxk, hp⟩)
        clear hp hxk HNO
        go_wp2_with fail
        refine hc.mono ?_
        rintro e w' ⟨rfl, rfl⟩
        go_wp2_with fail
        go_ret
        exact ⟨_, rfl, by rw [HAN.out]; simp, rfl⟩
    · obtain rfl : n = k := by omega
      have HAN := Lib.hid (show l.any p = false from by
        rw [List.any_eq_false]
        intro y hy
        have := HNO.out y (by rw [List.take_of_length_le (by rw [HN.out]; exact Nat.le_refl _)]; exact hy)
        simp [this])
      go_wp2_with fail
      go_ret
      exact ⟨-1, rfl, by rw [HAN.out]; rfl, rfl⟩
theorem contains_any (g n c B : Nat) (A : Option Addr) (lb : Array Value) (p : Int → Bool) (l : List Int) (w : World) (hx : Rd w B A (l.map (.int .i64))) (hn : l.length = n) (hb : n ≤ 1000000000) (eg : ∀ args w, (callFunc g args).run Tryd.prog w = .ok (.enter g args) w)
    (hf : ∀ x ∈ l, Calls Tryd.prog g (#[.int .i64 x] ++ lb) w fun e w' => e = .returned (.bool (p x)) ∧ w = w') :
    Calls Tryd.prog 62 #[.slice A n c, .func (.func g) #[] lb] w fun e w' => e = .returned (.bool (l.any p)) ∧ w = w' := by
  have HX := Lib.hid hx; clear hx
  have HN := Lib.hid hn; clear hn
  have HF := Lib.hid hf; clear hf
  have HE := Lib.hid eg; clear eg
  obtain ⟨q, hq⟩ : ∃ q, q = l.any p := ⟨_, rfl⟩
  rw [← hq]
  have HQ := Lib.hid hq; clear hq
  go_enter Tryd.func62, Tryd.ntmps62
  go_wp2_with fail
  refine (index_any g n c B A lb p l w HX.out HN.out hb HE.out HF.out).mono ?_
  rw [← HQ.out]
  rintro e w' ⟨k, rfl, hk, rfl⟩
  cases q with
  | true =>
    have h0 : 0 ≤ k := by simpa using hk
    go_wp2_with fail
    go_ret
    exact ⟨rfl, rfl⟩
  | false =>
    have h0 : k < 0 := by simpa using hk
    go_wp2_with fail
    go_ret
    exact ⟨rfl, rfl⟩
/-- Set's predicate. -/
theorem setc_any (S : List Nat) (p n b1 : Nat) (i : Int) (bs : List Bool) (c : Bool) (w : World) (h : VecM w S p bs c) (hn : bs.length = n) (hb : w.cell? ⟨b1, 0, none⟩ = some (.pointer (some ⟨p, 0, none⟩))) :
    Calls Tryd.prog 63 (#[.int .i64 i] ++ #[.pointer (some ⟨b1, 0, none⟩)]) w fun e w' => e = .returned (.bool (!decide (0 ≤ i ∧ i < (n : Int)))) ∧ w = w' := by
  have HV := Lib.hid h; clear h
  have HN := Lib.hid hn; clear hn
  obtain ⟨q, hq⟩ : ∃ q, q = decide (0 ≤ i ∧ i < (n : Int)) := ⟨_, rfl⟩
  rw [← hq]
  have HQ := Lib.hid hq; clear hq
  show Calls Tryd.prog 63 #[.int .i64 i, .pointer (some ⟨b1, 0, none⟩)] w _
  go_enter Tryd.func63, Tryd.ntmps63
  go_wp2_with fail
  refine (vis_any S p n i bs c w HV.out HN.out).mono ?_
  rw [← HQ.out]
  rintro e w' ⟨rfl, rfl⟩
  go_wp2_with fail
  go_ret
  exact ⟨rfl, rfl⟩
end Go.Proofs.YtddmioaeehgkbaaDoor
