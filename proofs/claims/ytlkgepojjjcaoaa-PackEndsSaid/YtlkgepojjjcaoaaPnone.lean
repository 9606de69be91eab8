/-
  LAYER 2: what no row tells (a nil pointer, a row that was not made); the chapter's 'none'.
  CONDITIONS: none.
-/
import Derived.Test.YtlkgepojjjcaoaaPfind
import Derived.Test.YtlkgepojjjcaoaaRegF
namespace Go.Proofs.Ytlkgepojjjcaoaa
open Go.RowKit

/-- No row. -/
def NoRow (w : World) (v : Value) : Prop := v = .pointer none ∨ ∃ p, v = .pointer (some ⟨p, 0, none⟩) ∧ Blk w p 63 [.slice none 0 0, .int .i64 0, .int .i64 0]
theorem NoRow.kp0 {w w' : World} {v : Value} (h : NoRow w v) (hk : Kp [] w w') : NoRow w' v := by
  rcases h with h | ⟨p, h, hb⟩
  · exact .inl h
  · exact .inr ⟨p, h, hb.kp0 hk⟩

theorem nthere_any (v : Value) (w : World) (h : NoRow w v) :
    Calls Try.prog 40 #[v] w fun e w' => e = .returned (.bool false) ∧ w = w' := by
  rcases h with rfl | ⟨p, rfl, hb⟩
  · go_enter Try.func40, Try.ntmps40
    go_wp2_with fail
    go_ret
    exact ⟨rfl, rfl⟩
  · have c1 := hb.cell 1
    simp only [List.getElem?_cons_zero, List.getElem?_cons_succ] at c1
    go_enter Try.func40, Try.ntmps40
    go_wp2_with fail
    go_ret
    exact ⟨rfl, rfl⟩
theorem nlen_any (v : Value) (w : World) (h : NoRow w v) :
    Calls Try.prog 28 #[v] w fun e w' => e = .returned (.int .i64 0) ∧ w = w' := by
  go_enter Try.func28, Try.ntmps28
  go_wp2_with fail
  refine (nthere_any v w h).mono ?_
  rintro e w1 ⟨rfl, rfl⟩
  go_wp2_with fail
  go_ret
  exact ⟨rfl, rfl⟩
theorem nwide_any (v : Value) (w : World) (h : NoRow w v) :
    Calls Try.prog 12 #[v] w fun e w' => e = .returned (.int .i64 0) ∧ w = w' := by
  go_enter Try.func12, Try.ntmps12
  go_wp2_with fail
  refine (nthere_any v w h).mono ?_
  rintro e w1 ⟨rfl, rfl⟩
  go_wp2_with fail
  go_ret
  exact ⟨rfl, rfl⟩
theorem nAt_any (v : Value) (w : World) (h : NoRow w v) :
    Calls Try.prog 30 #[v, .int .i64 0] w fun e w' => e = .returned (.tuple #[.int .i64 0, .bool false]) ∧ w = w' := by
  have HH := Lib.hid h; clear h
  go_enter Try.func30, Try.ntmps30
  go_wp2_with fail
  refine (nlen_any v w HH.out).mono ?_
  rintro e w1 ⟨rfl, rfl⟩
  go_wp2_with fail
  go_ret2
  exact ⟨rfl, rfl⟩
theorem nall_any (v : Value) (w : World) (h : NoRow w v) :
    Calls Try.prog 32 #[v] w fun e w' => e = .returned (.slice none 0 0) ∧ w = w' := by
  have HH := Lib.hid h; clear h
  go_enter Try.func32, Try.ntmps32
  go_wp2_with fail
  refine (nlen_any v w HH.out).mono ?_
  rintro e w1 ⟨rfl, rfl⟩
  go_wp2_with fail
  go_loopw [2, 6] (fun y x wr => y = .slice none 0 0 ∧ x = .int .i64 0 ∧ w = wr) (fun _ x _ => 0)
  case atStart => exact ⟨rfl, rfl, rfl⟩
  case round =>
    obtain ⟨rfl, rfl, rfl⟩ := hrel
    go_wp2_with fail
    go_ret
    exact ⟨rfl, rfl⟩
theorem nbytes_any (v : Value) (w : World) (h : NoRow w v) :
    Calls Try.prog 27 #[v] w fun e w' => e = .returned (.slice none 0 0) ∧ w = w' := by
  have HH := Lib.hid h; clear h
  go_enter Try.func27, Try.ntmps27
  go_wp2_with fail
  refine (nlen_any v w HH.out).mono ?_
  rintro e w1 ⟨rfl, rfl⟩
  go_wp2_with fail
  refine (nwide_any v w HH.out).mono ?_
  rintro e w1 ⟨rfl, rfl⟩
  go_wp2_with fail
  go_loopw [2, 11] (fun y x wr => y = .slice none 0 0 ∧ x = .int .i64 0 ∧ w = wr) (fun _ x _ => 0)
  case atStart => exact ⟨rfl, rfl, rfl⟩
  case round =>
    obtain ⟨rfl, rfl, rfl⟩ := hrel
    go_wp2_with fail
    go_ret
    exact ⟨rfl, rfl⟩

set_option maxRecDepth 100000 in
set_option maxHeartbeats 2000000 in
theorem nfind_any (v : Value) (w : World) (h : NoRow w v) :
    Calls Try.prog 33 #[v, .int .i64 0] w fun e w' => e = .returned (.tuple #[.int .i64 0, .bool false]) ∧ Kp [] w w' := by
  obtain ⟨A, rfl⟩ : ∃ A, v = .pointer A := by
    rcases h with rfl | ⟨p, rfl, _⟩
    · exact ⟨_, rfl⟩
    · exact ⟨_, rfl⟩
  have HH := Lib.hid h; clear h
  go_enter Try.func33, Try.ntmps33
  go_wp2_with fail
  refine (nlen_any (.pointer A) _ (HH.out.kp0 (((Kp.refl [] w).alloc _).alloc _))).mono ?_
  rintro e w1 ⟨rfl, hw⟩
  obtain ⟨c, hc⟩ : ∃ c, c = w.heap.size := ⟨_, rfl⟩
  have HK1 := Lib.hid (show Kp [] w w1 by rw [← hw]; exact ((Kp.refl [] w).alloc _).alloc _)
  have c1 : w1.cell? ⟨c, 0, none⟩ = some (.pointer A) := by
    rw [← hw, hc]
    exact (((Kp.refl [] _).alloc (.cells #[.int .i64 0] 3)).cell ((Blk.new w 27 [.pointer A]).cell 0) (by simp))
  rw [← hc]
  clear hc hw
  go_wp2_with fail
  refine (search_any 47 0 _ (fun _ => false) w1 (enters_fn Try.func47 (by kernel_rfl) rfl) (by omega) (fun w' i hd hi => absurd hi (Nat.not_lt_zero _)) (fun a b' hab hbn hp => absurd hbn (Nat.not_lt_zero _))).mono ?_
  rintro e w2 ⟨k, rfl, hk, _, _, hd⟩
  obtain rfl : k = 0 := by omega
  have HK2 := Lib.hid (HK1.out.trans (hd.kp []))
  have d1 : w2.cell? ⟨c, 0, none⟩ = some (.pointer A) := by rw [hd.cell]; exact c1
  clear hd c1 hk
  go_wp2_with fail
  refine (nAt_any (.pointer A) w2 (HH.out.kp0 HK2.out)).mono ?_
  rintro e w3 ⟨rfl, rfl⟩
  go_wp2_with fail
  go_region
  go_wp2_with fail
  go_ret2
  exact ⟨rfl, HK2.out.drew⟩
end Go.Proofs.Ytlkgepojjjcaoaa
