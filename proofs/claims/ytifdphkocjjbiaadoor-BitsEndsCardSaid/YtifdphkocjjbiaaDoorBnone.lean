/-
  LAYER 1: of no vector (nil, or not made); what none() says.
  CONDITIONS: as each says.
-/
import Derived.Test.YtifdphkocjjbiaaDoorBdo2
namespace Go.Proofs.YtifdphkocjjbiaaDoor
open Go.RowKit

/-- No vector: nil, or one that was not made. -/
def NoVec (w : World) (v : Value) : Prop := v = .pointer none ∨ ∃ p, v = .pointer (some ⟨p, 0, none⟩) ∧ w.cell? ⟨p, 4, none⟩ = some (.bool false)
theorem NoVec.kp0 {w w' : World} {v : Value} (h : NoVec w v) (hk : Kp [] w w') : NoVec w' v := by
  rcases h with h | ⟨p, h1, h2⟩
  · exact .inl h
  · exact .inr ⟨p, h1, hk.cell h2 (by simp)⟩
theorem nthere_any (v : Value) (w : World) (h : NoVec w v) : Calls Tryd.prog 33 #[v] w fun e w' => e = .returned (.bool false) ∧ w = w' := by
  rcases h with rfl | ⟨p, rfl, hc⟩
  all_goals
    go_enter Tryd.func33, Tryd.ntmps33
    go_wp2_with fail
    go_ret
    exact ⟨rfl, rfl⟩
theorem nlen_any (v : Value) (w : World) (h : NoVec w v) : Calls Tryd.prog 10 #[v] w fun e w' => e = .returned (.int .i64 0) ∧ w = w' := by
  have H := Lib.hid h; clear h
  go_enter Tryd.func10, Tryd.ntmps10
  go_wp2_with fail
  refine (nthere_any v w H.out).mono ?_
  rintro e w1 ⟨rfl, rfl⟩
  go_wp2_with fail
  go_ret
  exact ⟨rfl, rfl⟩
theorem nones_any (v : Value) (w : World) (h : NoVec w v) : Calls Tryd.prog 12 #[v] w fun e w' => e = .returned (.int .i64 0) ∧ w = w' := by
  have H := Lib.hid h; clear h
  go_enter Tryd.func12, Tryd.ntmps12
  go_wp2_with fail
  refine (nthere_any v w H.out).mono ?_
  rintro e w1 ⟨rfl, rfl⟩
  go_wp2_with fail
  go_ret
  exact ⟨rfl, rfl⟩
theorem nrank_any (v : Value) (i : Int) (w : World) (h : NoVec w v) : Calls Tryd.prog 11 #[v, .int .i64 i] w fun e w' => e = .returned (.int .i64 0) ∧ w = w' := by
  have H := Lib.hid h; clear h
  go_enter Tryd.func11, Tryd.ntmps11
  go_wp2_with fail
  refine (nthere_any v w H.out).mono ?_
  rintro e w1 ⟨rfl, rfl⟩
  go_wp2_with fail
  go_ret
  exact ⟨rfl, rfl⟩
theorem nget_any (v : Value) (i : Int) (w : World) (h : NoVec w v) : Calls Tryd.prog 13 #[v, .int .i64 i] w fun e w' => e = .returned (.bool false) ∧ w = w' := by
  have H := Lib.hid h; clear h
  go_enter Tryd.func13, Tryd.ntmps13
  go_wp2_with fail
  refine (nthere_any v w H.out).mono ?_
  rintro e w1 ⟨rfl, rfl⟩
  go_wp2_with fail
  go_ret
  exact ⟨rfl, rfl⟩
theorem nselect_any (v : Value) (i : Int) (w : World) (h : NoVec w v) : Calls Tryd.prog 14 #[v, .int .i64 i] w fun e w' => e = .returned (.tuple #[.int .i64 0, .bool false]) ∧ w = w' := by
  have H := Lib.hid h; clear h
  go_enter Tryd.func14, Tryd.ntmps14
  go_wp2_with fail
  refine (nthere_any v w H.out).mono ?_
  rintro e w1 ⟨rfl, rfl⟩
  go_wp2_with fail
  go_ret2
  exact ⟨rfl, rfl⟩
theorem nbytes_any (v : Value) (w : World) (h : NoVec w v) : Calls Tryd.prog 27 #[v] w fun e w' => e = .returned (.slice none 0 0) ∧ w = w' := by
  have H := Lib.hid h; clear h
  go_enter Tryd.func27, Tryd.ntmps27
  go_wp2_with fail
  refine (nlen_any v w H.out).mono ?_
  rintro e w1 ⟨rfl, rfl⟩
  go_wp2_with fail
  go_loop [2, 8] (fun o x => o = .slice none 0 0 ∧ x = .int .i64 0) (fun _ _ => 0)
  case atStart => exact ⟨rfl, rfl⟩
  case round =>
    obtain ⟨rfl, rfl⟩ := hrel
    go_wp2_with fail
    go_ret
    exact ⟨rfl, rfl⟩
theorem nset_any (v : Value) (b : Bool) (A : Option Addr) (n c : Nat) (w : World) (h : NoVec w v) : Calls Tryd.prog 24 #[v, .bool b, .slice A n c] w fun e w' => e = .returned (.int .i64 1) ∧ Kp [] w w' := by
  rcases h with rfl | ⟨p, rfl, hc⟩
  · go_enter Tryd.func24, Tryd.ntmps24
    go_wp2_with fail
    refine (nthere_any (.pointer none) _ (.inl rfl)).mono ?_
    rintro e w1 ⟨rfl, rfl⟩
    go_wp2_with fail
    go_ret
    exact ⟨rfl, (Kp.refl [] w).alloc _⟩
  · have HC := Lib.hid ((Kp.refl [] w).alloc (.cells #[.pointer (some ⟨p, 0, none⟩)] 24) |>.cell hc (by simp)); clear hc
    go_enter Tryd.func24, Tryd.ntmps24
    go_wp2_with fail
    refine (nthere_any (.pointer (some ⟨p, 0, none⟩)) _ (.inr ⟨p, rfl, HC.out⟩)).mono ?_
    rintro e w1 ⟨rfl, rfl⟩
    go_wp2_with fail
    go_ret
    exact ⟨rfl, (Kp.refl [] w).alloc _⟩
set_option maxRecDepth 100000 in
set_option maxHeartbeats 4000000 in
theorem bnone_any (w : World) : Calls Tryd.prog 30 #[] w fun e w' => e = .returned (.bool true) ∧ Kp [] w w' := by
  go_enter Tryd.func30, Tryd.ntmps30
  go_wp2_with fail
  obtain ⟨w1, hw1⟩ : ∃ w1, w1 = (w.alloc (.cells #[.slice none 0 0, .slice none 0 0, .bool false, .int .i64 0, .bool false] 65)).alloc (.cells #[.pointer none, .pointer (some ⟨w.heap.size, 0, none⟩)] 24) := ⟨_, rfl⟩
  obtain ⟨b0, hb0⟩ : ∃ b0, b0 = w.heap.size := ⟨_, rfl⟩
  obtain ⟨b1, hb1⟩ : ∃ b1, b1 = w.heap.size + 1 := ⟨_, rfl⟩
  have HK1 := Lib.hid (show Kp [] w w1 by rw [hw1]; exact ((Kp.refl [] w).alloc _).alloc _)
  have HVC := Lib.hid (show ∀ k, k < 2 → ∃ v, w1.cell? ⟨b1, k, none⟩ = some v ∧ NoVec w1 v from fun k hk => by
    have e1 : Blk w1 b1 24 [.pointer none, .pointer (some ⟨b0, 0, none⟩)] := by
      have h := Blk.new (w.alloc (.cells #[.slice none 0 0, .slice none 0 0, .bool false, .int .i64 0, .bool false] 65)) 24 [.pointer none, .pointer (some ⟨w.heap.size, 0, none⟩)]
      rw [hw1, hb1, hb0]
      simpa using h
    have e0 : Blk w1 b0 65 [.slice none 0 0, .slice none 0 0, .bool false, .int .i64 0, .bool false] := by
      rw [hw1, hb0]
      exact (Blk.new w 65 [.slice none 0 0, .slice none 0 0, .bool false, .int .i64 0, .bool false]).alloc _
    match k, hk with
    | 0, _ => exact ⟨.pointer none, by rw [e1.cell]; rfl, .inl rfl⟩
    | 1, _ => exact ⟨.pointer (some ⟨b0, 0, none⟩), by rw [e1.cell]; rfl, .inr ⟨b0, rfl, by rw [e0.cell]; rfl⟩⟩)
  rw [← hw1]
  rw [← hb1]
  clear hw1 hb0 hb1
  go_loopw [2] (fun x wr => ∃ k : Nat, x = .int .i64 (k : Int) ∧ k ≤ 2 ∧ Hid (Kp [] w1 wr)) (fun x _ => 2 - (intOf x).toNat)
  case atStart => exact ⟨0, rfl, by omega, Lib.hid (Kp.refl _ _)⟩
  case round =>
    obtain ⟨k, rfl, hk, HK⟩ := hrel
    by_cases hlt : k < 2
    · obtain ⟨v, hcv, hnv⟩ := HVC.out k hlt
      have hc := HK.out.cell hcv (by simp)
      have HN := Lib.hid (hnv.kp0 HK.out)
      clear hcv hnv
      have hk0 : (0 : Int) ≤ (k : Int) := by omega
      have hk1 : (k : Int) < 2 := by omega
      go_wp2_with fail
      refine (nselect_any v 0 wr HN.out).mono ?_
      rintro e w2 ⟨rfl, rfl⟩
      go_wp2_with fail
      go_region_held3 (fun w' => w'.cell? ⟨b1, k, none⟩ = some v) (go_keep)
        (first
          | (go_at_call 24
             refine (nset_any v true none 0 0 _ (HN.out.kp0 ((Kp.refl [] wr).drew))).mono ?_
             rintro e w3 ⟨rfl, hk3'⟩
             have hk3 := ((Kp.refl [] wr).drew).trans hk3'
             have hc3 := hk3.cell hc (by simp)
             have HN3 := Lib.hid (HN.out.kp0 hk3)
             have HK3 := Lib.hid (HK.out.kp0 hk3)
             clear hk3' hk3 hc)
          | (go_at_call 13
             refine (nget_any v 0 w3 HN3.out).mono ?_
             rintro e w4 ⟨rfl, rfl⟩)
          | (go_at_call 10
             refine (nlen_any v w3 HN3.out).mono ?_
             rintro e w4 ⟨rfl, rfl⟩)
          | (go_at_call 12
             refine (nones_any v w3 HN3.out).mono ?_
             rintro e w4 ⟨rfl, rfl⟩)
          | (go_at_call 11
             refine (nrank_any v 9 w3 HN3.out).mono ?_
             rintro e w4 ⟨rfl, rfl⟩)
          | (go_at_call 27
             refine (nbytes_any v w3 HN3.out).mono ?_
             rintro e w4 ⟨rfl, rfl⟩))
      go_wp2_with fail
      exact ⟨⟨k + 1, by go_num, by omega, HK3⟩, by simp [intOf]; omega⟩
    · obtain rfl : 2 = k := by omega
      go_wp2_with fail
      go_ret
      exact ⟨rfl, HK1.out.trans HK.out⟩
end Go.Proofs.YtifdphkocjjbiaaDoor
