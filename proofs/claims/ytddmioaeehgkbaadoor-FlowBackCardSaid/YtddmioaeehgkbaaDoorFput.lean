/-
  LAYER 3: what FlowBack and FlowLess want: put.
  CONDITIONS: as each says.
-/
import Derived.Test.YtddmioaeehgkbaaDoorFlaw
namespace Go.Proofs.YtddmioaeehgkbaaDoor
open Go.RowKit

theorem WPost.aft {w wr w' : World} {S : List Nat} {p : Nat} {s : WS} (hk : Kp [] w wr) (h : WPost wr w' S p s) : WPost w w' S p s := by
  obtain ⟨S', q1, q2, q3⟩ := h
  exact ⟨S', q1, (hk.mono (by simp)).trans q2, fun z hz => (q3 z hz).imp id (fun h => Nat.le_trans hk.size h)⟩
/-- What a deed makes of a writer. -/
def fputR (s : WS) (what wide : Int) (ones : List Bool) (nums : List Int) : WS := if pickI what 3 = 0 then wPut s ones else if pickI what 3 = 1 then wNum s wide nums else wGam s nums
set_option maxRecDepth 100000 in
set_option maxHeartbeats 4000000 in
theorem fput_any (S : List Nat) (p n m1 m2 c2 c3 B : Nat) (what wide : Int) (A2 A3 : Option Addr) (ones : List Bool) (nums : List Int) (s : WS) (w : World) (h : WrM w S p s) (hn : s.1.length = n) (h2 : Rd w B A2 (ones.map .bool)) (hm1 : ones.length = m1) (h3 : Rd w B A3 (nums.map (.int .i64))) (hm2 : nums.length = m2) (hb1 : m1 ≤ 1000000) (hb2 : m2 ≤ 1000000) (hs : ∀ x ∈ nums, x ≤ 9223372036854775807) :
    Calls Tryd.prog 38 #[.pointer (some ⟨p, 0, none⟩), .agg #[.int .i64 what, .int .i64 wide, .slice A2 m1 c2, .slice A3 m2 c3]] w fun e w' => e = .returned (.int .i64 (fputR s what wide ones nums).2) ∧ WPost w w' S p (fputR s what wide ones nums) := by
  have HV := Lib.hid (show fputR s what wide ones nums = if pickI what 3 = 0 then wPut s ones else if pickI what 3 = 1 then wNum s wide nums else wGam s nums from rfl)
  obtain ⟨R, hR⟩ : ∃ R, R = fputR s what wide ones nums := ⟨_, rfl⟩
  rw [← hR] at HV ⊢
  obtain ⟨r, hr⟩ : ∃ r : Int, r = pickI what 3 := ⟨_, rfl⟩
  have hrb := pickI_bound (x := what) (n := 3) (by omega)
  rw [← hr] at hrb HV
  have HPK := Lib.hid (show ∀ w, Calls Tryd.prog 11 #[.int .i64 what, .int .i64 3] w fun e w' => e = .returned (.int .i64 r) ∧ w = w' from fun w => by rw [hr]; exact pick_any what 3 w (by omega))
  obtain ⟨w1, hw1⟩ : ∃ w1, w1 = w.alloc (.cells #[.int .i64 what, .int .i64 wide, .slice A2 m1 c2, .slice A3 m2 c3] 39) := ⟨_, rfl⟩
  obtain ⟨g, hg⟩ : ∃ g, g = w.heap.size := ⟨_, rfl⟩
  have hk : Kp [] w w1 := by rw [hw1]; exact (Kp.refl [] w).alloc _
  have hB : Blk w1 g 39 [.int .i64 what, .int .i64 wide, .slice A2 m1 c2, .slice A3 m2 c3] := by rw [hw1, hg]; exact Blk.new w 39 [.int .i64 what, .int .i64 wide, .slice A2 m1 c2, .slice A3 m2 c3]
  have hq0 : w1.cell? ⟨g, 0, none⟩ = some (.int .i64 what) := by rw [hB.cell]; rfl
  have hq1 : w1.cell? ⟨g, 1, none⟩ = some (.int .i64 wide) := by rw [hB.cell]; rfl
  have hq2 : w1.cell? ⟨g, 2, none⟩ = some (.slice A2 m1 c2) := by rw [hB.cell]; rfl
  have hq3 : w1.cell? ⟨g, 3, none⟩ = some (.slice A3 m2 c3) := by rw [hB.cell]; rfl
  have HQ := Lib.hid (And.intro hq0 (And.intro hq1 (And.intro hq2 hq3)))
  have HW := Lib.hid (h.kp0 hk)
  have HR2 := Lib.hid (h2.kp0 hk)
  have HR3 := Lib.hid (h3.kp0 hk)
  have HK := Lib.hid hk
  have HW1 := Lib.hid hw1
  have HG := Lib.hid hg
  have HN := Lib.hid hn; clear hn
  have HM1 := Lib.hid hm1; clear hm1
  have HM2 := Lib.hid hm2; clear hm2
  have HS := Lib.hid hs; clear hs
  clear h h2 h3 hk hB hq0 hq1 hq2 hq3 hR hr hw1 hg
  go_enter Tryd.func38, Tryd.ntmps38
  go_wp2_with fail
  rw [← HW1.out, ← HG.out]
  obtain ⟨hq0, hq1, hq2, hq3⟩ := HQ.out
  go_wp2_with fail
  refine (HPK.out _).mono ?_
  rintro e w2 ⟨rfl, rfl⟩
  rcases (show r = 0 ∨ r = 1 ∨ r = 2 by omega) with rfl | rfl | rfl
  · have HE := Lib.hid (show R = wPut s ones by rw [HV.out, if_pos rfl])
    clear HV
    go_wp2_with fail
    refine (wput_any S p n m1 c2 _ A2 ones s w1 HW.out HN.out HR2.out HM1.out (by omega)).mono ?_
    rw [← HE.out]
    rintro e w3 ⟨rfl, hp⟩
    have HP := Lib.hid (WPost.aft HK.out hp); clear hp
    go_wp2_with fail
    go_ret
    exact ⟨rfl, HP.out⟩
  · have HE := Lib.hid (show R = wNum s wide nums by rw [HV.out, if_neg (by decide), if_pos rfl])
    clear HV
    go_wp2_with fail
    refine (wnumber_any S p n m2 c3 _ wide A3 nums s w1 HW.out HN.out HR3.out HM2.out (by omega) HS.out).mono ?_
    rw [← HE.out]
    rintro e w3 ⟨rfl, hp⟩
    have HP := Lib.hid (WPost.aft HK.out hp); clear hp
    go_wp2_with fail
    go_ret
    exact ⟨rfl, HP.out⟩
  · have HE := Lib.hid (show R = wGam s nums by rw [HV.out, if_neg (by decide), if_neg (by decide)])
    clear HV
    go_wp2_with fail
    refine (wgamma_any S p n m2 c3 _ A3 nums s w1 HW.out HN.out HR3.out HM2.out (by omega) HS.out).mono ?_
    rw [← HE.out]
    rintro e w3 ⟨rfl, hp⟩
    have HP := Lib.hid (WPost.aft HK.out hp); clear hp
    go_wp2_with fail
    go_ret
    exact ⟨rfl, HP.out⟩
end Go.Proofs.YtddmioaeehgkbaaDoor
