/-
  LAYER 15 (tree): Bytes.
  CONDITIONS: as each says.
-/
import Derived.Test.YtldmabkilgpgcaaGhas
namespace Go.Proofs.Ytldmabkilgpgcaa
open Go.RowKit

/-- A tree's first five bytes. -/
def headB (h n : Nat) : List Int := [(h : Int), (n : Int) / 16777216 % 256, (n : Int) / 65536 % 256, (n : Int) / 256 % 256, (n : Int) % 256]
/-- The bytes of a tree. -/
def treeB (h : Nat) (bs : List Bool) : List Int := headB h bs.length ++ bytesN (bitN bs) ((bs.length + 7) / 8)
theorem Try.info_gu8 : (Try.prog.info? 5).map (fun i => (i.zero, i.size, i.bytes)) = some (some (.int .u8 0), 1, 1) := by kernel_rfl
/-- A new row that is full. -/
theorem own_ful5 (w : World) (base : Nat) (e : TypeId) (l : List Value) (hb : base ≤ w.heap.size) (hm : l.length ≤ maxLen) : (w.alloc (.cells l.toArray e)).ownsRow base e 1 (.slice (some ⟨w.heap.size, 0, none⟩) l.length l.length) l.length l :=
  ⟨by simp, .inr ⟨_, _, l.toArray, rfl, hb, Blk.new w e l, Nat.le_refl _, hm, by simp, by simp⟩⟩
theorem grown1 {w w' : World} {g n c : Nat} (hg : w.grownBy w' (Value.slice (some ⟨g, 0, none⟩) n c).ownBlock) : Kp [g] w w' :=
  (Kp.refl _ w).grown hg (fun x hx => .inl (by simp [Value.ownBlock] at hx; simp [hx]))
set_option maxRecDepth 100000 in
set_option maxHeartbeats 4000000 in
theorem tbytes_any (S : List Nat) (p q h k : Nat) (bs : List Bool) (w : World) (ht : TreeM w S p q h k bs true) (hh : h ≤ 17) :
    Calls Try.prog 16 #[.pointer (some ⟨p, 0, none⟩)] w fun e w' => ∃ A m c, m = 5 + (bs.length + 7) / 8 ∧ e = .returned (.slice A m c) ∧ w'.ownsRow w.heap.size 5 1 (.slice A m c) m ((treeB h bs).map (.int .u8)) ∧ Kp [] w w' := by
  obtain ⟨i0, hi, hz0, hz1, hz2⟩ := info_parts Try.info_gu8
  obtain ⟨n, hn⟩ : ∃ n, bs.length = n := ⟨_, rfl⟩
  have hn16 : n ≤ 16777216 := by rw [← hn]; exact ht.2.1.tail.2.2.2
  obtain ⟨c0, c1, _⟩ := ht.cells
  obtain ⟨x1, hx1⟩ : ∃ x1, x1 = (n : Int) / 16777216 % 256 := ⟨_, rfl⟩
  obtain ⟨x2, hx2⟩ : ∃ x2, x2 = (n : Int) / 65536 % 256 := ⟨_, rfl⟩
  obtain ⟨x3, hx3⟩ : ∃ x3, x3 = (n : Int) / 256 % 256 := ⟨_, rfl⟩
  obtain ⟨x4, hx4⟩ : ∃ x4, x4 = (n : Int) % 256 := ⟨_, rfl⟩
  have HTB := Lib.hid (show treeB h bs = [(h : Int), x1, x2, x3, x4] ++ bytesN (bitN bs) ((n + 7) / 8) by unfold treeB headB; rw [hn, hx1, hx2, hx3, hx4])
  have hw0 : IntKind.wrap .u8 (h : Int) = (h : Int) := by rw [IntKind.wrap_u8]; omega
  have hw1 : IntKind.wrap .u8 ((n : Int) / 16777216) = x1 := by rw [IntKind.wrap_u8, hx1]
  have hw2 : IntKind.wrap .u8 ((n : Int) / 65536) = x2 := by rw [IntKind.wrap_u8, hx2]
  have hw3 : IntKind.wrap .u8 ((n : Int) / 256) = x3 := by rw [IntKind.wrap_u8, hx3]
  have hw4 : IntKind.wrap .u8 (n : Int) = x4 := by rw [IntKind.wrap_u8, hx4]
  have HN := Lib.hid hn
  have HT := Lib.hid ht
  have HPL := Lib.hid (show p < w.heap.size from ht.1.lt)
  have HPW := Lib.hid (show p ∉ [w.heap.size] from fun hm => by simp only [List.mem_singleton] at hm; have := ht.1.lt; omega)
  clear hn ht hx1 hx2 hx3 hx4
  rw [HTB.out, HN.out]
  go_enter Try.func16, Try.ntmps16
  go_wp2_with fail
  refine (tthere_any S p q h k bs true w HT.out).mono ?_
  rintro e w1 ⟨rfl, rfl⟩
  go_wp2_with fail
  refine (vlen_any S q n bs true w HT.out.2.1 HN.out).mono ?_
  rintro e w1 ⟨rfl, rfl⟩
  go_wp2_with fail
  have HO5 := Lib.hid (own_ful5 w w.heap.size 5 [.int .u8 (h : Int), .int .u8 x1, .int .u8 x2, .int .u8 x3, .int .u8 x4] (Nat.le_refl _) (by unfold maxLen; simp))
  go_region_held3 (fun w' => w'.cell? ⟨p, 0, none⟩ = some (.pointer (some ⟨q, 0, none⟩)) ∧ w'.cell? ⟨p, 1, none⟩ = some (.int .i64 (h : Int))) (go_keep)
    (first
     | (go_at_call 46
        refine (vbytes_any S q bs true _ (HT.out.2.1.kp0 (show Kp [] w _ from by first | exact ((Kp.refl _ _).alloc _).drew | exact (Kp.refl _ _).drew))).mono ?_
        rintro e w7 ⟨Ab, mb, cb, hmb, rfl, ho7, hk7'⟩
        have hk7 : Kp [] w w7 := (show Kp [] w _ from by first | exact ((Kp.refl _ _).alloc _).drew | exact (Kp.refl _ _).drew).trans hk7'
        have hq0 : w7.cell? ⟨p, 0, none⟩ = some (.pointer (some ⟨q, 0, none⟩)) := hk7.cell c0 (by simp)
        have hq1 : w7.cell? ⟨p, 1, none⟩ = some (.int .i64 (h : Int)) := hk7.cell c1 (by simp)
        have HO7 := Lib.hid (And.intro (own_rd ho7) hk7')
        have HMB := Lib.hid (show mb = (n + 7) / 8 by rw [hmb, HN.out])
        have hmbb : mb ≤ 3000000 := by rw [hmb, HN.out]; omega
        have HK7 := Lib.hid hk7
        clear hmb ho7 hk7 hk7')
     | ((refine step_append_rd rfl (.tmp 28) (.tmp 33) 38 rfl w.heap.size 5 i0 (.int .u8 0) 1 1 Try.underlying38 hi hz0 hz1 hz2 rfl (by decide) (.slice (some ⟨_, 0, none⟩) 5 5) 5 [.int .u8 (h : Int), .int .u8 x1, .int .u8 x2, .int .u8 x3, .int .u8 x4] (by rfl) (own_kp0 HO5.out (((Kp.refl [] _).drew).trans HO7.out.2)) _ Ab mb cb ((bytesN (bitN bs) mb).map (.int .u8)) (by rfl) (by simp [bytesN]) HO7.out.1 (oc_ints _ _) (by unfold maxLen; omega) (by omega) HK7.out.size ?_); intro v8 w8 hown8 hgrow8 hat8; obtain ⟨A8, c8, rfl, _⟩ := own_form hown8; have hk8 : Kp [w.heap.size] w7 w8 := grown1 hgrow8; have hr0 : w8.cell? ⟨p, 0, none⟩ = some (.pointer (some ⟨q, 0, none⟩)) := hk8.cell hq0 HPW.out; have hr1 : w8.cell? ⟨p, 1, none⟩ = some (.int .i64 (h : Int)) := hk8.cell hq1 HPW.out; have H8 := Lib.hid (And.intro hown8 (HK7.out.trans' hk8 (fun x hx => .inr (by simp only [List.mem_singleton] at hx; subst hx; exact Nat.le_refl _)))); clear hown8 hgrow8 hat8 hk8)
     | ((refine step_append_rd rfl (.tmp 28) (.tmp 33) 38 rfl w.heap.size 5 i0 (.int .u8 0) 1 1 Try.underlying38 hi hz0 hz1 hz2 rfl (by decide) (.slice (some ⟨w7.heap.size, 0, none⟩) 5 5) 5 [.int .u8 (h : Int), .int .u8 x1, .int .u8 x2, .int .u8 x3, .int .u8 x4] (by rfl) (own_ful5 w7 w.heap.size 5 [.int .u8 (h : Int), .int .u8 x1, .int .u8 x2, .int .u8 x3, .int .u8 x4] HK7.out.size (by unfold maxLen; simp)) _ Ab mb cb ((bytesN (bitN bs) mb).map (.int .u8)) (by rfl) (by simp [bytesN]) (HO7.out.1.kp0 ((Kp.refl [] w7).alloc _)) (oc_ints _ _) (by unfold maxLen; omega) (by omega) (Nat.le_trans HK7.out.size (by simp)) ?_); intro v8 w8 hown8 hgrow8 hat8; obtain ⟨A8, c8, rfl, _⟩ := own_form hown8; have hk8 : Kp [w7.heap.size] w7 w8 := ((Kp.refl _ w7).alloc _).trans (grown1 hgrow8); have hr0 : w8.cell? ⟨p, 0, none⟩ = some (.pointer (some ⟨q, 0, none⟩)) := hk8.cell hq0 (fun hm => HPW.out (by simp only [List.mem_singleton] at hm ⊢; have := HPL.out; have := HK7.out.size; omega)); have hr1 : w8.cell? ⟨p, 1, none⟩ = some (.int .i64 (h : Int)) := hk8.cell hq1 (fun hm => HPW.out (by simp only [List.mem_singleton] at hm ⊢; have := HPL.out; have := HK7.out.size; omega)); have H8 := Lib.hid (And.intro hown8 (HK7.out.trans' hk8 (fun x hx => .inr (by simp only [List.mem_singleton] at hx; subst hx; exact HK7.out.size)))); clear hown8 hgrow8 hat8 hk8))
  all_goals
    go_wp2_with fail
    go_ret
    refine ⟨A8, 5 + mb, c8, by rw [HMB.out], rfl, ?_, H8.out.2⟩
    rw [← HMB.out]
    exact H8.out.1
end Go.Proofs.Ytldmabkilgpgcaa
