/-
  LAYER 3: back: a deed's bits are read again.
  CONDITIONS: as each says.
-/
import Derived.Test.YtddmioaeehgkbaaDoorMBack
import Derived.Test.YtddmioaeehgkbaaDoorFless1
import Derived.Deep.RegionHeld3
namespace Go.Proofs.YtddmioaeehgkbaaDoor
open Go.RowKit

/-- A reader that stands at a, and is not spoilt. -/
def RB (w0 w : World) (G : List Nat) (p q N : Nat) (bs : List Bool) (a : Nat) : Prop := ∃ S c, VecM w S q bs c ∧ RdM w p q a false ∧ a ≤ N ∧ p ∉ S ∧ (∀ x ∈ S, w0.heap.size ≤ x) ∧ w0.heap.size ≤ p ∧ (∀ x ∈ S, x ∉ G) ∧ p ∉ G ∧ (∀ x ∈ G, x < w.heap.size) ∧ Kp [] w0 w
theorem RB.kp0 {w0 w w' : World} {G : List Nat} {p q N : Nat} {bs : List Bool} {a : Nat} (h : RB w0 w G p q N bs a) (hk : Kp [] w w') : RB w0 w' G p q N bs a := by
  obtain ⟨S, c, h1, h2, h3, h4, h5, h6, h7, h8, h9, h10⟩ := h
  exact ⟨S, c, h1.kp0 hk, h2.kp0 hk, h3, h4, h5, h6, h7, h8, fun x hx => Nat.lt_of_lt_of_le (h9 x hx) hk.size, h10.trans hk⟩
theorem drop_at {L l r : List Bool} {a k : Nat} {b : Bool} (h : L.drop a = l ++ r) (hb : l[k]? = some b) : L.drop (a + k) = b :: (l.drop (k + 1) ++ r) := by
  obtain ⟨g1, e1⟩ := List.getElem?_eq_some_iff.1 hb
  rw [← List.drop_drop, h, List.drop_append_of_le_length (by omega), List.drop_eq_getElem_cons g1, e1]
  rfl
set_option maxRecDepth 100000 in
set_option maxHeartbeats 4000000 in
theorem back0_any (w0 : World) (p q a N m1 m2 c2 c3 : Nat) (what wide : Int) (A2 A3 : Option Addr) (ones : List Bool) (bs r : List Bool) (w : World) (h : RB w0 w [] p q N bs a) (hN : bs.length = N) (h2 : Rd w w0.heap.size A2 (ones.map .bool)) (hm1 : ones.length = m1) (hb1 : m1 ≤ 1000000) (hp : pickI what 3 = 0) (hd : bs.drop a = ones ++ r) :
    Calls Tryd.prog 39 #[.pointer (some ⟨p, 0, none⟩), .agg #[.int .i64 what, .int .i64 wide, .slice A2 m1 c2, .slice A3 m2 c3]] w fun e w' => e = .returned (.bool true) ∧ RB w0 w' [] p q N bs (a + m1) := by
  have HPK := Lib.hid (show ∀ w, Calls Tryd.prog 11 #[.int .i64 what, .int .i64 3] w fun e w' => e = .returned (.int .i64 0) ∧ w = w' from fun w => by rw [← hp]; exact pick_any what 3 w (by omega))
  obtain ⟨w1, hw1⟩ : ∃ w1, w1 = w.alloc (.cells #[.int .i64 what, .int .i64 wide, .slice A2 m1 c2, .slice A3 m2 c3] 39) := ⟨_, rfl⟩
  obtain ⟨g, hg⟩ : ∃ g, g = w.heap.size := ⟨_, rfl⟩
  have hk : Kp [] w w1 := by rw [hw1]; exact (Kp.refl [] w).alloc _
  have hB : Blk w1 g 39 [.int .i64 what, .int .i64 wide, .slice A2 m1 c2, .slice A3 m2 c3] := by rw [hw1, hg]; exact Blk.new w 39 [.int .i64 what, .int .i64 wide, .slice A2 m1 c2, .slice A3 m2 c3]
  have HRB := Lib.hid (show RB w0 w1 [g] p q N bs a by
    obtain ⟨S, c, q1, q2, q3, q4, q5, q6, q7, q8, q9, q10⟩ := h
    exact ⟨S, c, q1.kp0 hk, q2.kp0 hk, q3, q4, q5, q6, fun x hx hm => by simp only [List.mem_singleton] at hm; have := q1.lt x hx; omega, fun hm => by simp only [List.mem_singleton] at hm; have := Blk.lt q2; omega, fun x hx => by simp only [List.mem_singleton] at hx; subst hx; exact hB.lt, q10.trans hk⟩)
  have hq0 : w1.cell? ⟨g, 0, none⟩ = some (.int .i64 what) := by rw [hB.cell]; rfl
  have HB := Lib.hid hB
  have H2 := Lib.hid (h2.kp0 hk)
  have HW1 := Lib.hid hw1
  have HG := Lib.hid hg
  have HN := Lib.hid hN; clear hN
  have HM1 := Lib.hid hm1; clear hm1
  have HD := Lib.hid hd; clear hd
  clear h h2 hk hB hp hw1 hg
  go_enter Tryd.func39, Tryd.ntmps39
  go_wp2_with fail
  rw [← HW1.out, ← HG.out]
  go_wp2_with fail
  refine (HPK.out _).mono ?_
  rintro e w2 ⟨rfl, rfl⟩
  clear HW1 HG hq0
  go_wp2_with fail
  go_loopw [5] (fun x wr => ∃ k : Nat, x = .int .i64 (k : Int) ∧ k ≤ m1 ∧ Hid (RB w0 wr [g] p q N bs (a + k)) ∧ Hid (Blk wr g 39 [.int .i64 what, .int .i64 wide, .slice A2 m1 c2, .slice A3 m2 c3]) ∧ Hid (Rd wr w0.heap.size A2 (ones.map .bool))) (fun x _ => m1 - (intOf x).toNat)
  case atStart => exact ⟨0, rfl, by omega, HRB, HB, H2⟩
  case round =>
    clear HRB HB H2
    obtain ⟨k, rfl, hk, HRB, HB, H2⟩ := hrel
    have hq2 : wr.cell? ⟨g, 2, none⟩ = some (.slice A2 m1 c2) := by rw [HB.out.cell]; rfl
    by_cases hlt : k < m1
    · obtain ⟨b, ad, hb, rfl, hadb, hcb⟩ := H2.out.ixB (i := k) (by rw [HM1.out]; exact hlt)
      have hdk := drop_at HD.out hb
      obtain ⟨S, c, q1, q2, q3, q4, q5, q6, q7, q8, q9, q10⟩ := HRB.out
      have HRN := Lib.hid (rnext_any S p q (a + k) N false bs c)
      have HRV := Lib.hid (rBit_back hdk (by rw [HN.out]; exact q3))
      have HAN := Lib.hid (show a + k + 1 ≤ N by
        have := congrArg List.length hdk
        rw [List.length_drop, List.length_cons, HN.out] at this
        omega)
      have HADB := Lib.hid (show ad.block ≠ p from fun e => by omega)
      have HADK := Lib.hid (show (ad.add k).block = ad.block from addr_add_block _ _)
      have HGP := Lib.hid (show g ≠ p from fun e => q8 (by simp [e]))
      have Q1 := Lib.hid q1
      have Q2 := Lib.hid q2
      have Q4 := Lib.hid q4
      have QR := Lib.hid (And.intro q5 (And.intro q6 (And.intro q7 (And.intro q8 (And.intro q9 q10)))))
      have Q3 := Lib.hid q3
      clear q1 q2 q3 q4 q5 q6 q7 q8 q9 q10 hb hdk HRB hadb
      have hk0 : (0 : Int) ≤ (k : Int) := by omega
      have hk1 : (k : Int) < (m1 : Int) := by omega
      go_wp2_with fail
      go_region_held3 (fun w' => w'.cell? ⟨g, 2, none⟩ = some (.slice (some ad) m1 c2) ∧ w'.cell? (ad.add k) = some (.bool b)) (go_keep)
        ((go_at_call 12
          refine (rnext_any S p q (a + k) N false bs c _ (Q2.out.kp0 ((Kp.refl [] wr).drew)) (Q1.out.kp0 ((Kp.refl [] wr).drew)) HN.out Q3.out Q4.out).mono ?_
          rw [HRV.out, bit_one]
          rintro e w7 ⟨rfl, hr7, hk7'⟩
          have hk7 : Kp [p] wr w7 := ((Kp.refl [p] wr).drew).trans hk7'
          have hq27 := hk7.cell hq2 (by simpa using HGP.out)
          have hcb7 := hk7.cell hcb (by rw [HADK.out]; simpa using HADB.out)
          have HV7 := Lib.hid (Q1.out.kp hk7 (by intro x hx hm; simp only [List.mem_singleton] at hm; subst hm; exact Q4.out hx))
          have HR7 := Lib.hid hr7
          have HB7 := Lib.hid (HB.out.kp hk7 (by simpa using HGP.out))
          have H27 := Lib.hid (H2.out.kp hk7 (by intro x hx; simp only [List.mem_singleton] at hx; subst hx; exact QR.out.2.1))
          have HK7 := Lib.hid (QR.out.2.2.2.2.2.trans' hk7 (fun x hx => by simp only [List.mem_singleton] at hx; subst hx; exact .inr QR.out.2.1))
          have HSZ7 := Lib.hid hk7.size
          clear hk7 hk7' hr7 hq2 hcb))
      go_wp2_with fail
      exact ⟨⟨k + 1, by go_num, by omega, Lib.hid ⟨S, c, HV7.out, HR7.out, HAN.out, Q4.out, QR.out.1, QR.out.2.1, QR.out.2.2.1, QR.out.2.2.2.1, fun x hx => Nat.lt_of_lt_of_le (QR.out.2.2.2.2.1 x hx) HSZ7.out, HK7.out⟩, HB7, H27⟩, by simp [intOf]; omega⟩
    · obtain rfl : m1 = k := by omega
      go_wp2_with fail
      go_ret
      obtain ⟨S, c, q1, q2, q3, q4, q5, q6, q7, q8, q9, q10⟩ := HRB.out
      exact ⟨rfl, S, c, q1, q2, q3, q4, q5, q6, by simp, by simp, by simp, q10⟩
theorem okD_lt {M : Nat} {x : Int} (hM : M ≤ 60) (hb : x ≤ 9223372036854775807) (h : okD (M : Int) x = true) : ∃ z : Nat, x = (z : Int) ∧ z < 2 ^ M := by
  unfold okD at h
  rw [Bool.and_eq_true, decide_eq_true_iff, decide_eq_true_iff] at h
  exact ⟨x.toNat, by omega, (bl_le_iff (by omega) (by omega)).1 (by omega)⟩
theorem drop_num {L r : List Bool} {l : List Int} {a k M : Nat} {x : Int} (h : L.drop a = numL M l ++ r) (hx : l[k]? = some x) : L.drop (a + M * k) = digL M x.toNat ++ (numL M (l.drop (k + 1)) ++ r) := by
  obtain ⟨g1, e1⟩ := List.getElem?_eq_some_iff.1 hx
  have e : numL M l = numL M (l.take k) ++ (digL M x.toNat ++ numL M (l.drop (k + 1))) := by
    have h1 : l = l.take k ++ (x :: l.drop (k + 1)) := by rw [← e1, ← List.drop_eq_getElem_cons g1, List.take_append_drop]
    have h2 := congrArg (numL M) h1
    rw [show numL M (l.take k ++ (x :: l.drop (k + 1))) = numL M (l.take k) ++ numL M (x :: l.drop (k + 1)) by simp [numL]] at h2
    rw [h2, numL_cons]
  have hk : (numL M (l.take k)).length = M * k := by rw [numL_len, List.length_take, Nat.min_eq_left (by omega)]
  rw [← List.drop_drop, h, e, List.append_assoc, List.drop_left' hk, List.append_assoc]
set_option maxRecDepth 100000 in
set_option maxHeartbeats 4000000 in
theorem back1_any (w0 : World) (p q a N m1 m2 c2 c3 : Nat) (what : Int) (M : Nat) (A2 A3 : Option Addr) (nums : List Int) (bs r : List Bool) (w : World) (h : RB w0 w [] p q N bs a) (hN : bs.length = N) (h2 : Rd w w0.heap.size A3 (nums.map (.int .i64))) (hm2 : nums.length = m2) (hb1 : m2 ≤ 1000000) (hM : M ≤ 60) (hok : nums.all (okD (M : Int)) = true) (hs : ∀ x ∈ nums, x ≤ 9223372036854775807) (hp : pickI what 3 = 1) (hd : bs.drop a = numL M nums ++ r) :
    Calls Tryd.prog 39 #[.pointer (some ⟨p, 0, none⟩), .agg #[.int .i64 what, .int .i64 (M : Int), .slice A2 m1 c2, .slice A3 m2 c3]] w fun e w' => e = .returned (.bool true) ∧ RB w0 w' [] p q N bs (a + M * m2) := by
  have HPK := Lib.hid (show ∀ w, Calls Tryd.prog 11 #[.int .i64 what, .int .i64 3] w fun e w' => e = .returned (.int .i64 1) ∧ w = w' from fun w => by rw [← hp]; exact pick_any what 3 w (by omega))
  obtain ⟨w1, hw1⟩ : ∃ w1, w1 = w.alloc (.cells #[.int .i64 what, .int .i64 (M : Int), .slice A2 m1 c2, .slice A3 m2 c3] 39) := ⟨_, rfl⟩
  obtain ⟨g, hg⟩ : ∃ g, g = w.heap.size := ⟨_, rfl⟩
  have hk : Kp [] w w1 := by rw [hw1]; exact (Kp.refl [] w).alloc _
  have hB : Blk w1 g 39 [.int .i64 what, .int .i64 (M : Int), .slice A2 m1 c2, .slice A3 m2 c3] := by rw [hw1, hg]; exact Blk.new w 39 [.int .i64 what, .int .i64 (M : Int), .slice A2 m1 c2, .slice A3 m2 c3]
  have HRB := Lib.hid (show RB w0 w1 [g] p q N bs a by
    obtain ⟨S, c, q1, q2, q3, q4, q5, q6, q7, q8, q9, q10⟩ := h
    exact ⟨S, c, q1.kp0 hk, q2.kp0 hk, q3, q4, q5, q6, fun x hx hm => by simp only [List.mem_singleton] at hm; have := q1.lt x hx; omega, fun hm => by simp only [List.mem_singleton] at hm; have := Blk.lt q2; omega, fun x hx => by simp only [List.mem_singleton] at hx; subst hx; exact hB.lt, q10.trans hk⟩)
  have hq0 : w1.cell? ⟨g, 0, none⟩ = some (.int .i64 what) := by rw [hB.cell]; rfl
  have HB := Lib.hid hB
  have H2 := Lib.hid (h2.kp0 hk)
  have HW1 := Lib.hid hw1
  have HG := Lib.hid hg
  have HN := Lib.hid hN; clear hN
  have HM2 := Lib.hid hm2; clear hm2
  have HD := Lib.hid hd; clear hd
  have HOK := Lib.hid hok; clear hok
  have HS := Lib.hid hs; clear hs
  clear h h2 hk hB hp hw1 hg
  go_enter Tryd.func39, Tryd.ntmps39
  go_wp2_with fail
  rw [← HW1.out, ← HG.out]
  go_wp2_with fail
  refine (HPK.out _).mono ?_
  rintro e w2 ⟨rfl, rfl⟩
  clear HW1 HG hq0
  go_wp2_with fail
  go_loopw [6] (fun x wr => ∃ k : Nat, x = .int .i64 (k : Int) ∧ k ≤ m2 ∧ Hid (RB w0 wr [g] p q N bs (a + M * k)) ∧ Hid (Blk wr g 39 [.int .i64 what, .int .i64 (M : Int), .slice A2 m1 c2, .slice A3 m2 c3]) ∧ Hid (Rd wr w0.heap.size A3 (nums.map (.int .i64)))) (fun x _ => m2 - (intOf x).toNat)
  case atStart => exact ⟨0, rfl, by omega, HRB, HB, H2⟩
  case round =>
    clear HRB HB H2
    obtain ⟨k, rfl, hk, HRB, HB, H2⟩ := hrel
    have hq2 : wr.cell? ⟨g, 3, none⟩ = some (.slice A3 m2 c3) := by rw [HB.out.cell]; rfl
    have hq1 : wr.cell? ⟨g, 1, none⟩ = some (.int .i64 (M : Int)) := by rw [HB.out.cell]; rfl
    by_cases hlt : k < m2
    · obtain ⟨x, ad, hb, rfl, hadb, hcb⟩ := H2.out.ix (i := k) (by rw [HM2.out]; exact hlt)
      obtain ⟨z, rfl, hzM⟩ := okD_lt hM (HS.out x (List.mem_of_getElem? hb)) (List.all_eq_true.1 HOK.out x (List.mem_of_getElem? hb))
      have hdk := drop_num HD.out hb
      rw [Int.toNat_natCast] at hdk
      obtain ⟨S, c, q1, q2, q3, q4, q5, q6, q7, q8, q9, q10⟩ := HRB.out
      have HRV := Lib.hid (rNum_back hdk hM hzM (by rw [HN.out]; exact q3))
      have HAN := Lib.hid (show a + M * k + M ≤ N by
        have := drop_le hdk (by rw [HN.out]; exact q3)
        rwa [digL_len, HN.out] at this)
      have HADB := Lib.hid (show ad.block ≠ p from fun e => by omega)
      have HADK := Lib.hid (show (ad.add k).block = ad.block from addr_add_block _ _)
      have HGP := Lib.hid (show g ≠ p from fun e => q8 (by simp [e]))
      have Q1 := Lib.hid q1
      have Q2 := Lib.hid q2
      have Q4 := Lib.hid q4
      have QR := Lib.hid (And.intro q5 (And.intro q6 (And.intro q7 (And.intro q8 (And.intro q9 q10)))))
      have Q3 := Lib.hid q3
      clear q1 q2 q3 q4 q5 q6 q7 q8 q9 q10 hb hdk HRB hadb
      have hk0 : (0 : Int) ≤ (k : Int) := by omega
      have hk1 : (k : Int) < (m2 : Int) := by omega
      go_wp2_with fail
      go_region_held3 (fun w' => w'.cell? ⟨g, 1, none⟩ = some (.int .i64 (M : Int)) ∧ w'.cell? ⟨g, 3, none⟩ = some (.slice (some ad) m2 c3) ∧ w'.cell? (ad.add k) = some (.int .i64 (z : Int))) (go_keep)
        ((go_at_call 14
          refine (rnum_any S p q (a + M * k) N false (M : Int) bs c _ (Q2.out.kp0 ((Kp.refl [] wr).drew)) (Q1.out.kp0 ((Kp.refl [] wr).drew)) HN.out Q3.out Q4.out).mono ?_
          rw [HRV.out]
          rintro e w7 ⟨rfl, hr7, hk7'⟩
          have hk7 : Kp [p] wr w7 := ((Kp.refl [p] wr).drew).trans hk7'
          have hq27 := hk7.cell hq2 (by simpa using HGP.out)
          have hq17 := hk7.cell hq1 (by simpa using HGP.out)
          have hcb7 := hk7.cell hcb (by rw [HADK.out]; simpa using HADB.out)
          have HV7 := Lib.hid (Q1.out.kp hk7 (by intro x hx hm; simp only [List.mem_singleton] at hm; subst hm; exact Q4.out hx))
          have HR7 := Lib.hid hr7
          have HB7 := Lib.hid (HB.out.kp hk7 (by simpa using HGP.out))
          have H27 := Lib.hid (H2.out.kp hk7 (by intro x hx; simp only [List.mem_singleton] at hx; subst hx; exact QR.out.2.1))
          have HK7 := Lib.hid (QR.out.2.2.2.2.2.trans' hk7 (fun x hx => by simp only [List.mem_singleton] at hx; subst hx; exact .inr QR.out.2.1))
          have HSZ7 := Lib.hid hk7.size
          clear hk7 hk7' hr7 hq1 hq2 hcb))
      go_wp2_with fail
      exact ⟨⟨k + 1, by go_num, by omega, Lib.hid ⟨S, c, HV7.out, (by rw [Nat.mul_succ, ← Nat.add_assoc]; exact HR7.out), (by rw [Nat.mul_succ, ← Nat.add_assoc]; exact HAN.out), Q4.out, QR.out.1, QR.out.2.1, QR.out.2.2.1, QR.out.2.2.2.1, fun x hx => Nat.lt_of_lt_of_le (QR.out.2.2.2.2.1 x hx) HSZ7.out, HK7.out⟩, HB7, H27⟩, by simp [intOf]; omega⟩
    · obtain rfl : m2 = k := by omega
      go_wp2_with fail
      go_ret
      obtain ⟨S, c, q1, q2, q3, q4, q5, q6, q7, q8, q9, q10⟩ := HRB.out
      exact ⟨rfl, S, c, q1, q2, q3, q4, q5, q6, by simp, by simp, by simp, q10⟩
theorem drop_gam {L r : List Bool} {l : List Int} {a k : Nat} {x : Int} (h : L.drop a = gamsL l ++ r) (hx : l[k]? = some x) : L.drop (a + (gamsL (l.take k)).length) = gamL x.toNat ++ (gamsL (l.drop (k + 1)) ++ r) := by
  obtain ⟨g1, e1⟩ := List.getElem?_eq_some_iff.1 hx
  have e : gamsL l = gamsL (l.take k) ++ (gamL x.toNat ++ gamsL (l.drop (k + 1))) := by
    have h1 : l = l.take k ++ (x :: l.drop (k + 1)) := by rw [← e1, ← List.drop_eq_getElem_cons g1, List.take_append_drop]
    have h2 := congrArg gamsL h1
    rw [show gamsL (l.take k ++ (x :: l.drop (k + 1))) = gamsL (l.take k) ++ gamsL (x :: l.drop (k + 1)) by simp [gamsL]] at h2
    rw [h2, gamsL_cons]
  rw [← List.drop_drop, h, e, List.append_assoc, List.drop_left, List.append_assoc]
set_option maxRecDepth 100000 in
set_option maxHeartbeats 4000000 in
theorem back2_any (w0 : World) (p q a N m1 m2 c2 c3 : Nat) (what wide : Int) (A2 A3 : Option Addr) (nums : List Int) (bs r : List Bool) (w : World) (ht : Tab64 w0) (h : RB w0 w [] p q N bs a) (hN : bs.length = N) (h2 : Rd w w0.heap.size A3 (nums.map (.int .i64))) (hm2 : nums.length = m2) (hb1 : m2 ≤ 1000000) (hok : nums.all okG = true) (hs : ∀ x ∈ nums, x ≤ 9223372036854775807) (hp : pickI what 3 = 2) (hd : bs.drop a = gamsL nums ++ r) :
    Calls Tryd.prog 39 #[.pointer (some ⟨p, 0, none⟩), .agg #[.int .i64 what, .int .i64 wide, .slice A2 m1 c2, .slice A3 m2 c3]] w fun e w' => e = .returned (.bool true) ∧ RB w0 w' [] p q N bs (a + (gamsL nums).length) := by
  have HPK := Lib.hid (show ∀ w, Calls Tryd.prog 11 #[.int .i64 what, .int .i64 3] w fun e w' => e = .returned (.int .i64 2) ∧ w = w' from fun w => by rw [← hp]; exact pick_any what 3 w (by omega))
  obtain ⟨w1, hw1⟩ : ∃ w1, w1 = w.alloc (.cells #[.int .i64 what, .int .i64 wide, .slice A2 m1 c2, .slice A3 m2 c3] 39) := ⟨_, rfl⟩
  obtain ⟨g, hg⟩ : ∃ g, g = w.heap.size := ⟨_, rfl⟩
  have hk : Kp [] w w1 := by rw [hw1]; exact (Kp.refl [] w).alloc _
  have hB : Blk w1 g 39 [.int .i64 what, .int .i64 wide, .slice A2 m1 c2, .slice A3 m2 c3] := by rw [hw1, hg]; exact Blk.new w 39 [.int .i64 what, .int .i64 wide, .slice A2 m1 c2, .slice A3 m2 c3]
  have HRB := Lib.hid (show RB w0 w1 [g] p q N bs a by
    obtain ⟨S, c, q1, q2, q3, q4, q5, q6, q7, q8, q9, q10⟩ := h
    exact ⟨S, c, q1.kp0 hk, q2.kp0 hk, q3, q4, q5, q6, fun x hx hm => by simp only [List.mem_singleton] at hm; have := q1.lt x hx; omega, fun hm => by simp only [List.mem_singleton] at hm; have := Blk.lt q2; omega, fun x hx => by simp only [List.mem_singleton] at hx; subst hx; exact hB.lt, q10.trans hk⟩)
  have hq0 : w1.cell? ⟨g, 0, none⟩ = some (.int .i64 what) := by rw [hB.cell]; rfl
  have HB := Lib.hid hB
  have H2 := Lib.hid (h2.kp0 hk)
  have HW1 := Lib.hid hw1
  have HG := Lib.hid hg
  have HN := Lib.hid hN; clear hN
  have HM2 := Lib.hid hm2; clear hm2
  have HD := Lib.hid hd; clear hd
  have HOK := Lib.hid hok; clear hok
  have HS := Lib.hid hs; clear hs
  have HT := Lib.hid ht; clear ht
  clear h h2 hk hB hp hw1 hg
  go_enter Tryd.func39, Tryd.ntmps39
  go_wp2_with fail
  rw [← HW1.out, ← HG.out]
  go_wp2_with fail
  refine (HPK.out _).mono ?_
  rintro e w2 ⟨rfl, rfl⟩
  clear HW1 HG hq0
  go_wp2_with fail
  go_loopw [7] (fun x wr => ∃ k : Nat, x = .int .i64 (k : Int) ∧ k ≤ m2 ∧ Hid (RB w0 wr [g] p q N bs (a + (gamsL (nums.take k)).length)) ∧ Hid (Blk wr g 39 [.int .i64 what, .int .i64 wide, .slice A2 m1 c2, .slice A3 m2 c3]) ∧ Hid (Rd wr w0.heap.size A3 (nums.map (.int .i64)))) (fun x _ => m2 - (intOf x).toNat)
  case atStart => exact ⟨0, rfl, by omega, HRB, HB, H2⟩
  case round =>
    clear HRB HB H2
    obtain ⟨k, rfl, hk, HRB, HB, H2⟩ := hrel
    have hq2 : wr.cell? ⟨g, 3, none⟩ = some (.slice A3 m2 c3) := by rw [HB.out.cell]; rfl
    by_cases hlt : k < m2
    · obtain ⟨x, ad, hb, rfl, hadb, hcb⟩ := H2.out.ix (i := k) (by rw [HM2.out]; exact hlt)
      obtain ⟨z, rfl, hz0, hzb⟩ := okG_nat (List.all_eq_true.1 HOK.out x (List.mem_of_getElem? hb))
      have hz60 : z < 2 ^ 60 := by
        have h1 := HS.out _ (List.mem_of_getElem? hb)
        exact (bl_le_iff (by omega) (by omega)).1 hzb
      have HGT := Lib.hid (show (gamsL (nums.take (k + 1))).length = (gamsL (nums.take k)).length + (gamL z).length by rw [take_succ_of hb, gamsL_snoc, List.length_append, Int.toNat_natCast])
      have hdk := drop_gam HD.out hb
      rw [Int.toNat_natCast] at hdk
      obtain ⟨S, c, q1, q2, q3, q4, q5, q6, q7, q8, q9, q10⟩ := HRB.out
      have HRV := Lib.hid (rGam_back hdk hz60 hz0)
      have HAN := Lib.hid (show a + (gamsL (nums.take k)).length + (gamL z).length ≤ N by
        have := drop_le hdk (by rw [HN.out]; exact q3)
        rwa [HN.out] at this)
      have HADW := Lib.hid hadb
      have HADB := Lib.hid (show ad.block ≠ p from fun e => by omega)
      have HADK := Lib.hid (show (ad.add k).block = ad.block from addr_add_block _ _)
      have HGP := Lib.hid (show g ≠ p from fun e => q8 (by simp [e]))
      have Q1 := Lib.hid q1
      have Q2 := Lib.hid q2
      have Q4 := Lib.hid q4
      have QR := Lib.hid (And.intro q5 (And.intro q6 (And.intro q7 (And.intro q8 (And.intro q9 q10)))))
      have Q3 := Lib.hid q3
      clear q1 q2 q3 q4 q5 q6 q7 q8 q9 q10 hb hdk HRB hadb
      have hk0 : (0 : Int) ≤ (k : Int) := by omega
      have hk1 : (k : Int) < (m2 : Int) := by omega
      go_wp2_with fail
      go_region_held3 (fun w' => w'.cell? ⟨g, 3, none⟩ = some (.slice (some ad) m2 c3) ∧ w'.cell? (ad.add k) = some (.int .i64 (z : Int))) (go_keep)
        ((go_at_call 16
          refine (rgam_any S p q (a + (gamsL (nums.take k)).length) N false bs c _ (Q2.out.kp0 ((Kp.refl [] wr).drew)) (Q1.out.kp0 ((Kp.refl [] wr).drew)) HN.out Q3.out Q4.out (HT.out.kp0 (QR.out.2.2.2.2.2.trans ((Kp.refl [] wr).drew))) (fun h => by have h1 := QR.out.1 _ h; have h2 := HT.out.lt; omega) (fun h => by have h1 := QR.out.2.1; have h2 := HT.out.lt; omega)).mono ?_
          rw [HRV.out]
          rintro e w7 ⟨rfl, hr7, S7, c7, hv7, hk7', hg7'⟩
          have hk7 : Kp (p :: S) wr w7 := ((Kp.refl (p :: S) wr).drew).trans hk7'
          have hg7 : Grow wr S S7 := fun x hx => (hg7' x hx).imp id (fun h => Nat.le_trans (by simp) h)
          have hgn : g ∉ p :: S := fun hm => by
            simp only [List.mem_cons] at hm
            rcases hm with h | h
            · exact HGP.out h
            · exact QR.out.2.2.1 _ h (by simp)
          have hadn : (ad.add k).block ∉ p :: S := fun hm => by
            rw [HADK.out] at hm
            simp only [List.mem_cons] at hm
            rcases hm with h | h
            · exact HADB.out h
            · have := QR.out.1 _ h; have := HADW.out; omega
          have hall : ∀ x ∈ p :: S, w0.heap.size ≤ x := fun x hx => by
            simp only [List.mem_cons] at hx
            rcases hx with rfl | hx
            · exact QR.out.2.1
            · exact QR.out.1 x hx
          have hq27 := hk7.cell hq2 hgn
          have hcb7 := hk7.cell hcb hadn
          have HV7 := Lib.hid hv7
          have HR7 := Lib.hid hr7
          have HB7 := Lib.hid (HB.out.kp hk7 hgn)
          have H27 := Lib.hid (H2.out.kp hk7 hall)
          have HK7 := Lib.hid (QR.out.2.2.2.2.2.trans' hk7 (fun x hx => .inr (hall x hx)))
          have HSZ7 := Lib.hid hk7.size
          have HS7 := Lib.hid (hg7.ge QR.out.1 QR.out.2.2.2.2.2.size)
          have HP7 := Lib.hid (show p ∉ S7 from fun hm => by
            rcases hg7 _ hm with h | h
            · exact Q4.out h
            · have := Blk.lt Q2.out; omega)
          have HG7 := Lib.hid (show ∀ x ∈ S7, x ∉ [g] from fun x hx hm => by
            simp only [List.mem_singleton] at hm
            subst hm
            rcases hg7 _ hx with h | h
            · exact QR.out.2.2.1 _ h (by simp)
            · have := HB.out.lt; omega)
          clear hk7 hk7' hr7 hv7 hg7 hg7' hgn hadn hall hq2 hcb))
      go_wp2_with fail
      exact ⟨⟨k + 1, by go_num, by omega, Lib.hid ⟨S7, c7, HV7.out, (by rw [HGT.out, ← Nat.add_assoc]; exact HR7.out), (by rw [HGT.out, ← Nat.add_assoc]; exact HAN.out), HP7.out, HS7.out, QR.out.2.1, HG7.out, QR.out.2.2.2.1, fun x hx => Nat.lt_of_lt_of_le (QR.out.2.2.2.2.1 x hx) HSZ7.out, HK7.out⟩, HB7, H27⟩, by simp [intOf]; omega⟩
    · obtain rfl : m2 = k := by omega
      go_wp2_with fail
      go_ret
      obtain ⟨S, c, q1, q2, q3, q4, q5, q6, q7, q8, q9, q10⟩ := HRB.out
      rw [show nums.take m2 = nums from List.take_of_length_le (by rw [HM2.out]; exact Nat.le_refl _)] at q2 q3
      exact ⟨rfl, S, c, q1, q2, q3, q4, q5, q6, by simp, by simp, by simp, q10⟩
end Go.Proofs.YtddmioaeehgkbaaDoor
