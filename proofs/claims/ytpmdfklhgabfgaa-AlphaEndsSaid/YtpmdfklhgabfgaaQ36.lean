/-
  LAYER 6 (alpha), the law's same: a code is the document's: its words, a text's bits, what is got out of bits.
  CONDITIONS: the code and the document's code of one tree in memory; a text, bits of no more than 600.
-/
import Derived.Test.YtpmdfklhgabfgaaQ35
namespace Go.Proofs.Ytpmdfklhgabfgaa
open Go.RowKit

theorem wordv_row {w : World} {P : Nat → Prop} {hi : Nat} {T : CT} {k : Int} {v : Value} (h : WordV w P hi (wdI T k) v) : ∃ (A : Option Addr) (c : Nat), v = .slice A (wdL T k).length c ∧ Rd w hi A ((wdL T k).map .bool) := by
  unfold wdL
  cases hw : wdI T k with
  | none =>
    rw [hw] at h
    exact ⟨none, 0, h, Rd.nil _ _ _⟩
  | some u =>
    rw [hw] at h
    obtain ⟨ad, c, h1, _, _, _, h5⟩ := h
    exact ⟨some ad, c, h1, h5⟩
set_option maxRecDepth 100000 in
set_option maxHeartbeats 4000000 in
theorem cword_vals6 (lo hi p : Nat) (k : Int) (nu : Nat) (u : List Bool) (T : CT) (sg : List Nat) (ls : List Int) (w : World) (h : CodeM w lo hi p T sg ls) (hu : wdL T k = u) (hn : u.length = nu) :
    Calls Try.prog 12 #[.pointer (some ⟨p, 0, none⟩), .int .i64 k] w fun e w' => (∃ (A : Option Addr) (c : Nat), e = .returned (.slice A nu c) ∧ nu ≤ c ∧ Rd w' w'.heap.size A (u.map .bool)) ∧ Kp [] w w' := by
  refine (cword_any lo hi p k T sg ls w h).mono ?_
  rw [hu]
  rintro e w' ⟨A', n, c', hn', rfl, hown, hk⟩
  obtain ⟨A3, c3, he, hle, _⟩ := own_form hown
  injection he with e1 e2 e3
  subst e1 e3
  obtain rfl : n = nu := by omega
  exact ⟨⟨_, _, rfl, hle, own_rd hown⟩, hk⟩
set_option maxRecDepth 100000 in
set_option maxHeartbeats 4000000 in
theorem csigns_vals (lo hi p n : Nat) (T : CT) (sg : List Nat) (ls : List Int) (w : World) (h : CodeM w lo hi p T sg ls) (hn : n = sg.length) :
    Calls Try.prog 11 #[.pointer (some ⟨p, 0, none⟩)] w fun e w' => (∃ (A : Option Addr) (c : Nat), e = .returned (.slice A n c) ∧ n ≤ c ∧ Rd w' w'.heap.size A (sg.map fun (x : Nat) => .int .i64 (x : Int))) ∧ Kp [] w w' := by
  refine (csigns_any lo hi p T sg ls w h).mono ?_
  rintro e w' ⟨A', n', c', hn', rfl, hown, hk⟩
  obtain ⟨A3, c3, he, hle, _⟩ := own_form hown
  injection he with e1 e2 e3
  subst e1 e3
  obtain rfl : n' = n := by omega
  exact ⟨⟨_, _, rfl, hle, own_rd hown⟩, hk⟩
set_option maxRecDepth 100000 in
set_option maxHeartbeats 4000000 in
theorem clengths_vals (lo hi p n : Nat) (T : CT) (sg : List Nat) (ls : List Int) (w : World) (h : CodeM w lo hi p T sg ls) (hn : n = ls.length) :
    Calls Try.prog 15 #[.pointer (some ⟨p, 0, none⟩)] w fun e w' => (∃ (A : Option Addr) (c : Nat), e = .returned (.slice A n c) ∧ n ≤ c ∧ Rd w' w'.heap.size A (ls.map (.int .i64))) ∧ Kp [] w w' := by
  refine (clengths_any lo hi p T sg ls w h).mono ?_
  rintro e w' ⟨A', n', c', hn', rfl, hown, hk⟩
  obtain ⟨A3, c3, he, hle, _⟩ := own_form hown
  injection he with e1 e2 e3
  subst e1 e3
  obtain rfl : n' = n := by omega
  exact ⟨⟨_, _, rfl, hle, own_rd hown⟩, hk⟩
theorem nat_int_ (sg : List Nat) : (sg.map fun (x : Nat) => Value.int .i64 (x : Int)) = (sg.map fun (x : Nat) => (x : Int)).map (.int .i64) := by rw [List.map_map]; rfl
theorem vget_q {S : List Nat} {p : Nat} {bs : List Bool} {c : Bool} {w : World} (i : Int) (h : VecM w S p bs c) {b : Bool} (hb : getB bs i = b) (n : Nat) :
    Calls Try.prog 55 #[.pointer (some ⟨p, 0, none⟩), .int .i64 i] (w.drewN n) fun e w' => e = .returned (.bool b) ∧ w.drewN n = w' := by
  refine (vget_any S p i bs c (w.drewN n) (h.kp0 (((Dr.refl w).drewN n).kp []))).mono fun e w' hh => ?_
  rw [hb] at hh
  exact hh
set_option maxRecDepth 100000 in
set_option maxHeartbeats 4000000 in
theorem same6_any (lo hi p lo' hi' p' N cA B : Nat) (A : Option Addr) (s : ByteArray) (bs : List Bool) (T : CT) (sg : List Nat) (ls : List Int) (w : World) (h : CodeM w lo hi p T sg ls) (h' : RCode w lo' hi' p' T sg ls) (hs : s.size ≤ 600) (hx : Rd w B A (bs.map .bool)) (hN : bs.length = N) (hc : N ≤ cA) (hN24 : N ≤ 1000000) (hhi : hi ≤ w.heap.size) (hhi' : hi' ≤ w.heap.size) (hB : B ≤ w.heap.size) :
    Calls Try.prog 32 #[.pointer (some ⟨p, 0, none⟩), .pointer (some ⟨p', 0, none⟩), .string s, .slice A N cA] w fun e w' => e = .returned (.bool true) ∧ Kp [] w w' := by
  obtain ⟨n, S1, S2, S3, d1, d2, d3, lw, hsn, hsl, _, q0, q1, _, _, _, _, r1, r2, _, _⟩ := h'.cells
  have hnb : n ≤ 257 := by rw [hsn]; exact codeT_len h.1
  have HSN := Lib.hid (show sg.length = n from hsn.symm)
  have HLN := Lib.hid (show ls.length = n from hsl.symm)
  have HR1 := Lib.hid r1
  have HR2 := Lib.hid r2
  have HC := Lib.hid h
  have HC' := Lib.hid h'
  have HX := Lib.hid hx
  have HN := Lib.hid hN
  clear h h' hx hN hsn hsl r1 r2
  go_enter Try.func32, Try.ntmps32
  go_wp2_with fail
  refine wp_region_facts (by kernel_rfl) 125 [19, 20, 21, 22, 23, 24, 25, 26, 27, 28, 29, 30, 31, 32, 33, 34, 35, 36] [[], [19], [], [21], [22], [23], [20, 24], [25], [26], [27], [28, 27], [27], [30, 27], [31, 27], [32, 27], [29, 33, 27], [34, 27], [27, 35]] (by kernel_rfl) (by kernel_rfl) rfl (factOf [(19, .eq (.pointer (some ⟨p, 0, none⟩))), (20, SFact.vals n (sg.map fun (x : Nat) => .int .i64 (x : Int))), (21, .eq (.pointer (some ⟨p', 0, none⟩))), (22, .eq (.pointer (some ⟨p', 0, none⟩))), (23, .eq (.pointer (some ⟨p', 0, none⟩))), (24, .eq (.slice (some S1) n d1)), (25, .eq (.bool true)), (26, .eq (.bool false)), (27, .eq (.bool false)), (28, .eq (.pointer (some ⟨p, 0, none⟩))), (29, SFact.vals n (ls.map (.int .i64))), (30, .eq (.pointer (some ⟨p', 0, none⟩))), (31, .eq (.pointer (some ⟨p', 0, none⟩))), (32, .eq (.pointer (some ⟨p', 1, none⟩))), (33, .eq (.slice (some S2) n d2)), (34, .eq (.bool true)), (35, .eq (.bool false)), (36, .eq (.bool false))]) (factOf_stable _) _ (fun x => by simp only [fillL, Nat.reduceAdd, Nat.reduceEqDiff, ↓reduceIte]; rfl) ?_ ?_
  · refine ⟨?_, ?_, ?_, ?_, ?_, ?_, ?_, ?_, ?_, ?_, ?_, ?_, ?_, ?_, ?_, ?_, ?_, ?_, trivial⟩
    · intro fx w' fa hk hd ev  -- 19 = Op.move (Operand.tmp 0)
      have e0 : fa.tmps[0]?.getD undef = .pointer (some ⟨p, 0, none⟩) := ev.old 0 rfl
      refine stepF_un rfl (fun K hK => ?_)
      exact stepF_val _ hK (run_move rfl e0 _) rfl
    · intro fx w' fa hk hd ev  -- 20 = Op.call { callee := Callee.value (Operand.func 11), args := 
      have h19 : fx 19 = .pointer (some ⟨p, 0, none⟩) := hd.1
      have e19 : fa.tmps[19]?.getD undef = .pointer (some ⟨p, 0, none⟩) := (ev.new 19 rfl).trans h19
      refine stepF_un rfl (fun K hK => ?_)
      go_simp
      refine (csigns_vals lo hi p n T sg ls w' (HC.out.kp0 hk) HSN.out.symm).mono ?_
      rintro e w2 ⟨⟨A2, c2, rfl, hle2, hr2⟩, hk2⟩
      exact hK _ _ ⟨A2, c2, rfl, hle2, hr2⟩ hk2
    · intro fx w' fa hk hd ev  -- 21 = Op.move (Operand.tmp 1)
      have e1 : fa.tmps[1]?.getD undef = .pointer (some ⟨p', 0, none⟩) := ev.old 1 rfl
      refine stepF_un rfl (fun K hK => ?_)
      exact stepF_val _ hK (run_move rfl e1 _) rfl
    · intro fx w' fa hk hd ev  -- 22 = Op.nilCheck (Operand.tmp 21)
      have h21 : fx 21 = .pointer (some ⟨p', 0, none⟩) := hd.1
      have e21 : fa.tmps[21]?.getD undef = .pointer (some ⟨p', 0, none⟩) := (ev.new 21 rfl).trans h21
      refine stepF_un rfl (fun K hK => ?_)
      go_simp
      exact hK _ _ rfl (Kp.refl _ _)
    · intro fx w' fa hk hd ev  -- 23 = Op.fieldAddr 109 (Operand.tmp 22) 0
      have h22 : fx 22 = .pointer (some ⟨p', 0, none⟩) := hd.1
      have e22 : fa.tmps[22]?.getD undef = .pointer (some ⟨p', 0, none⟩) := (ev.new 22 rfl).trans h22
      refine stepF_un rfl (fun K hK => ?_)
      go_simp
      exact hK _ _ rfl (Kp.refl _ _)
    · intro fx w' fa hk hd ev  -- 24 = Op.load 23 (Operand.tmp 23)
      have h23 : fx 23 = .pointer (some ⟨p', 0, none⟩) := hd.1
      have e23 : fa.tmps[23]?.getD undef = .pointer (some ⟨p', 0, none⟩) := (ev.new 23 rfl).trans h23
      refine stepF_un rfl (fun K hK => ?_)
      have q9 := hk.cell q0 (by simp)
      go_simp
      exact hK _ _ rfl (Kp.refl _ _)
    · intro fx w' fa hk hd ev  -- 25 = Op.call { callee := Callee.value (Operand.func 18), args := 
      have h20 : (SFact.vals n (sg.map fun (x : Nat) => .int .i64 (x : Int)) : SFact).p (fx 20) w' := hd.1
      obtain ⟨A20, c20, v20, hc20, hr20⟩ := h20
      have e20 : fa.tmps[20]?.getD undef = .slice A20 n c20 := (ev.new 20 rfl).trans v20
      have h24 : fx 24 = .slice (some S1) n d1 := hd.2.1
      have e24 : fa.tmps[24]?.getD undef = .slice (some S1) n d1 := (ev.new 24 rfl).trans h24
      refine stepF_un rfl (fun K hK => ?_)
      go_simp
      refine (sameI A20 (some S1) n n c20 d1 _ _ (sg.map fun (x : Nat) => (x : Int)) (sg.map fun (x : Nat) => (x : Int)) w' (by rw [← nat_int_]; exact hr20) (by rw [← nat_int_]; exact HR1.out.kp0 hk) (by rw [List.length_map]; exact HSN.out) (by rw [List.length_map]; exact HSN.out) (by omega) (by omega)).mono ?_
      rw [decide_eq_true (rfl : (sg.map fun (x : Nat) => (x : Int)) = _)]
      rintro e w2 ⟨rfl, hd2⟩
      exact hK _ _ rfl (hd2.kp [])
    · intro fx w' fa hk hd ev  -- 26 = Op.unOp UnOp.not 4 (Operand.tmp 25)
      have h25 : fx 25 = .bool true := hd.1
      have e25 : fa.tmps[25]?.getD undef = .bool true := (ev.new 25 rfl).trans h25
      refine stepF_un rfl (fun K hK => ?_)
      go_simp
      exact hK _ _ rfl (Kp.refl _ _)
    · intro fx w' fa hk hd ev  -- 27 = Op.move (Operand.tmp 26)
      have h26 : fx 26 = .bool false := hd.1
      have e26 : fa.tmps[26]?.getD undef = .bool false := (ev.new 26 rfl).trans h26
      refine stepF_un rfl (fun K hK => ?_)
      exact stepF_val _ hK (run_move rfl e26 _) rfl
    · intro fx w' fa hk hd ev  -- 28 = Op.move (Operand.tmp 0)
      have h27 : fx 27 = .bool false := hd.1
      have e27 : fa.tmps[27]?.getD undef = .bool false := (ev.new 27 rfl).trans h27
      have e0 : fa.tmps[0]?.getD undef = .pointer (some ⟨p, 0, none⟩) := ev.old 0 rfl
      refine stepF_yes (i := 8) (g := 27) (b := false) rfl rfl rfl e27 (fun K hK => ?_)
      exact stepF_val _ hK (run_move rfl e0 _) rfl
    · intro fx w' fa hk hd ev  -- 29 = Op.call { callee := Callee.value (Operand.func 15), args := 
      have h28 : fx 28 = .pointer (some ⟨p, 0, none⟩) := hd.1
      have e28 : fa.tmps[28]?.getD undef = .pointer (some ⟨p, 0, none⟩) := (ev.new 28 rfl).trans h28
      have h27 : fx 27 = .bool false := hd.2.1
      have e27 : fa.tmps[27]?.getD undef = .bool false := (ev.new 27 rfl).trans h27
      refine stepF_yes (i := 8) (g := 27) (b := false) rfl rfl rfl e27 (fun K hK => ?_)
      go_simp
      refine (clengths_vals lo hi p n T sg ls w' (HC.out.kp0 hk) HLN.out.symm).mono ?_
      rintro e w2 ⟨⟨A2, c2, rfl, hle2, hr2⟩, hk2⟩
      exact hK _ _ ⟨A2, c2, rfl, hle2, hr2⟩ hk2
    · intro fx w' fa hk hd ev  -- 30 = Op.move (Operand.tmp 1)
      have h27 : fx 27 = .bool false := hd.1
      have e27 : fa.tmps[27]?.getD undef = .bool false := (ev.new 27 rfl).trans h27
      have e1 : fa.tmps[1]?.getD undef = .pointer (some ⟨p', 0, none⟩) := ev.old 1 rfl
      refine stepF_yes (i := 8) (g := 27) (b := false) rfl rfl rfl e27 (fun K hK => ?_)
      exact stepF_val _ hK (run_move rfl e1 _) rfl
    · intro fx w' fa hk hd ev  -- 31 = Op.nilCheck (Operand.tmp 30)
      have h30 : fx 30 = .pointer (some ⟨p', 0, none⟩) := hd.1
      have e30 : fa.tmps[30]?.getD undef = .pointer (some ⟨p', 0, none⟩) := (ev.new 30 rfl).trans h30
      have h27 : fx 27 = .bool false := hd.2.1
      have e27 : fa.tmps[27]?.getD undef = .bool false := (ev.new 27 rfl).trans h27
      refine stepF_yes (i := 8) (g := 27) (b := false) rfl rfl rfl e27 (fun K hK => ?_)
      go_simp
      exact hK _ _ rfl (Kp.refl _ _)
    · intro fx w' fa hk hd ev  -- 32 = Op.fieldAddr 109 (Operand.tmp 31) 1
      have h31 : fx 31 = .pointer (some ⟨p', 0, none⟩) := hd.1
      have e31 : fa.tmps[31]?.getD undef = .pointer (some ⟨p', 0, none⟩) := (ev.new 31 rfl).trans h31
      have h27 : fx 27 = .bool false := hd.2.1
      have e27 : fa.tmps[27]?.getD undef = .bool false := (ev.new 27 rfl).trans h27
      refine stepF_yes (i := 8) (g := 27) (b := false) rfl rfl rfl e27 (fun K hK => ?_)
      go_simp
      exact hK _ _ rfl (Kp.refl _ _)
    · intro fx w' fa hk hd ev  -- 33 = Op.load 23 (Operand.tmp 32)
      have h32 : fx 32 = .pointer (some ⟨p', 1, none⟩) := hd.1
      have e32 : fa.tmps[32]?.getD undef = .pointer (some ⟨p', 1, none⟩) := (ev.new 32 rfl).trans h32
      have h27 : fx 27 = .bool false := hd.2.1
      have e27 : fa.tmps[27]?.getD undef = .bool false := (ev.new 27 rfl).trans h27
      refine stepF_yes (i := 8) (g := 27) (b := false) rfl rfl rfl e27 (fun K hK => ?_)
      have q9 := hk.cell q1 (by simp)
      go_simp
      exact hK _ _ rfl (Kp.refl _ _)
    · intro fx w' fa hk hd ev  -- 34 = Op.call { callee := Callee.value (Operand.func 18), args := 
      have h29 : (SFact.vals n (ls.map (.int .i64)) : SFact).p (fx 29) w' := hd.1
      obtain ⟨A29, c29, v29, hc29, hr29⟩ := h29
      have e29 : fa.tmps[29]?.getD undef = .slice A29 n c29 := (ev.new 29 rfl).trans v29
      have h33 : fx 33 = .slice (some S2) n d2 := hd.2.1
      have e33 : fa.tmps[33]?.getD undef = .slice (some S2) n d2 := (ev.new 33 rfl).trans h33
      have h27 : fx 27 = .bool false := hd.2.2.1
      have e27 : fa.tmps[27]?.getD undef = .bool false := (ev.new 27 rfl).trans h27
      refine stepF_yes (i := 8) (g := 27) (b := false) rfl rfl rfl e27 (fun K hK => ?_)
      go_simp
      refine (sameI A29 (some S2) n n c29 d2 _ _ ls ls w' hr29 (HR2.out.kp0 hk) HLN.out HLN.out (by omega) (by omega)).mono ?_
      rw [decide_eq_true (rfl : ls = ls)]
      rintro e w2 ⟨rfl, hd2⟩
      exact hK _ _ rfl (hd2.kp [])
    · intro fx w' fa hk hd ev  -- 35 = Op.unOp UnOp.not 4 (Operand.tmp 34)
      have h34 : fx 34 = .bool true := hd.1
      have e34 : fa.tmps[34]?.getD undef = .bool true := (ev.new 34 rfl).trans h34
      have h27 : fx 27 = .bool false := hd.2.1
      have e27 : fa.tmps[27]?.getD undef = .bool false := (ev.new 27 rfl).trans h27
      refine stepF_yes (i := 8) (g := 27) (b := false) rfl rfl rfl e27 (fun K hK => ?_)
      go_simp
      exact hK _ _ rfl (Kp.refl _ _)
    · intro fx w' fa hk hd ev  -- 36 = Op.pick (Operand.tmp 27) (Operand.const (Value.bool true)) (
      have h27 : fx 27 = .bool false := hd.1
      have e27 : fa.tmps[27]?.getD undef = .bool false := (ev.new 27 rfl).trans h27
      have h35 : fx 35 = .bool false := hd.2.1
      have e35 : fa.tmps[35]?.getD undef = .bool false := (ev.new 35 rfl).trans h35
      refine stepF_un rfl (fun K hK => ?_)
      go_simp
      exact hK _ _ rfl (Kp.refl _ _)
  · intro fx w' hk hd
    have h36 : fx 36 = .bool false := hd.2.2.2.2.2.2.2.2.2.2.2.2.2.2.2.2.2.1
    rw [h36]
    obtain ⟨w1, rfl⟩ : ∃ w1, w1 = w' := ⟨_, rfl⟩
    have HK := Lib.hid hk
    clear hk hd q0 q1 HR1 HR2 hnb HSN HLN
    go_wp2_with fail
    go_loopw [9] (fun x wr => ∃ k : Nat, x = .int .i64 ((k : Int) - 1) ∧ k ≤ 260 ∧ Hid (Kp [] w wr)) (fun x _ => 260 - (intOf x + 1).toNat)
    case atStart => exact ⟨0, rfl, by omega, HK⟩
    case round =>
      clear HK
      obtain ⟨k, rfl, hk, HK⟩ := hrel
      by_cases hlt : k < 260
      · have hb1 : (k : Int) - 1 < 259 := by omega
        obtain ⟨z, hz⟩ : ∃ z, z = (k : Int) - 1 := ⟨_, rfl⟩
        have HZE := Lib.hid hz
        rw [← hz] at hb1 ⊢
        have hz0 : -1 ≤ z := by omega
        clear hz
        obtain ⟨u, hu⟩ : ∃ u, u = wdL T z := ⟨_, rfl⟩
        obtain ⟨nu, hnu⟩ : ∃ nu, u.length = nu := ⟨_, rfl⟩
        have hub : nu ≤ 256 := by rw [← hnu, hu]; exact wdI_len HC.out.1 _
        have HNU := Lib.hid hnu
        have HU := Lib.hid hu
        clear hu hnu
        go_wp2_with fail
        refine (cword_vals6 lo hi p z nu u T sg ls wr (HC.out.kp0 HK.out) HU.out.symm HNU.out).mono ?_
        rintro e w2 ⟨⟨A2, c2, rfl, _, hr2⟩, hk2⟩
        have HR2 := Lib.hid hr2
        have HK2 := Lib.hid (HK.out.trans hk2)
        clear hr2 hk2 HK
        go_wp2_with fail
        refine (rword_any lo' hi' p' z T sg ls w2 (HC'.out.kp0 HK2.out)).mono ?_
        rintro e w3 ⟨⟨v, rfl, hv⟩, rfl⟩
        obtain ⟨A3, c3, rfl, hr3⟩ := wordv_row hv
        rw [← HU.out] at hr3 ⊢
        rw [HNU.out]
        have HR3 := Lib.hid hr3
        clear hv hr3
        go_wp2_with fail
        refine (sameT A2 A3 nu nu c2 c3 _ _ u u w2 HR2.out HR3.out HNU.out HNU.out (by omega) (by omega)).mono ?_
        rw [decide_eq_true (rfl : u = u)]
        rintro e w4 ⟨rfl, hd4⟩
        have HK4 := Lib.hid (HK2.out.trans (hd4.kp []))
        clear hd4 HK2 HR2 HR3
        go_wp2_with fail
        exact ⟨⟨k + 1, by have := HZE.out; go_num, by omega, HK4⟩, by have := HZE.out; simp [intOf]; omega⟩
      · obtain rfl : k = 260 := by omega
        have hb1 : ¬ ((((260 : Nat) : Int)) - 1 < 259) := by omega
        have HKL := HK
        clear hk hlt
        go_wp2_with fail
        refine (wnew_any wr).mono ?_
        rintro e w3 ⟨S, q, rfl, hw3, hS, hk3⟩
        have HW := Lib.hid hw3
        have HS := Lib.hid hS
        have HK3 := Lib.hid (HKL.out.trans hk3)
        have HZR := Lib.hid HKL.out.size
        have HKS := Lib.hid hk3
        clear hw3 hS hk3 HKL HK hb1
        go_wp2_with fail
        refine (cput_any lo hi p q 0 S ([], 0) T sg ls s w3 (HC.out.kp0 HK3.out) HW.out rfl (by omega) (Nat.le_trans hhi HK3.out.size)).mono ?_
        rintro e w4 ⟨rfl, S4, hw4, hk4, _⟩
        have HW4 := Lib.hid hw4
        have HK4 := Lib.hid (HK3.out.trans' hk4 (fun x hx => .inr (Nat.le_trans HZR.out (HS.out x hx))))
        clear hw4 hk4 HW HS HK3 HKS HZR
        cases ho : encT T s with
        | none =>
          have HPE := Lib.hid (show putE T s ([], 0) = 2 from by unfold putE; rw [ho])
          have HPS := Lib.hid (show putS T s ([], 0) = ([], 0) from by unfold putS; rw [ho])
          have HLE := Lib.hid (show longE T s = 2 ∧ longN T s = 0 from by unfold longE longN; rw [ho]; exact ⟨rfl, rfl⟩)
          rw [HPE.out]
          rw [HPS.out] at HW4
          go_wp2_with fail
          refine (rbits6_any lo' hi' p' T sg ls s w4 (HC'.out.kp0 HK4.out) (by omega)).mono ?_
          rw [ho]
          rintro e w5 ⟨⟨v5, rfl⟩, hk5⟩
          replace HW4 := Lib.hid (HW4.out.kp0 hk5)
          have HK5 := Lib.hid (HK4.out.trans hk5)
          clear hk5 HK4 ho
          go_wp2_with fail
          refine (clong_any lo hi p T sg ls s w5 (HC.out.kp0 HK5.out) (by omega) (Nat.le_trans hhi HK5.out.size)).mono ?_
          rw [HLE.out.1, HLE.out.2, show ((0 : Nat) : Int) = 0 from rfl]
          rintro e w6 ⟨rfl, hk6⟩
          replace HW4 := Lib.hid (HW4.out.kp0 hk6)
          have HK6 := Lib.hid (HK5.out.trans hk6)
          clear hk6 HK5
          go_wp2_with fail
          refine (wlen_any S4 q ([], 0) 0 w6 HW4.out rfl).mono ?_
          rintro e w7 ⟨rfl, rfl⟩
          rw [show ((0 : Nat) : Int) = 0 from rfl]
          go_wp2_with fail
          refine (gets_any lo hi p lo' hi' p' N cA B A bs T sg ls w6 (HC.out.kp0 HK6.out) (HC'.out.kp0 HK6.out) (HX.out.kp0 HK6.out) HN.out hc hN24 (Nat.le_trans hhi HK6.out.size) (Nat.le_trans hhi' HK6.out.size) (Nat.le_trans hB HK6.out.size)).mono ?_
          rintro e w8 ⟨rfl, hk8⟩
          have HK8 := Lib.hid (HK6.out.trans hk8)
          clear hk8
          go_wp2_with fail
          go_ret
          exact ⟨rfl, HK8.out⟩
        | some r =>
          have hrb := encT_len HC.out.1 ho
          obtain ⟨M, hM⟩ : ∃ M, r.length = M := ⟨_, rfl⟩
          rw [hM] at hrb
          obtain ⟨hpe, hps⟩ := put_text (L := []) ho (by rw [hM]; simp; omega)
          have HLE := Lib.hid (show longE T s = 0 ∧ longN T s = M from by unfold longE longN; rw [ho]; exact ⟨rfl, hM⟩)
          rw [hpe]
          rw [hps, List.nil_append] at HW4
          have HM := Lib.hid hM
          clear hpe hps hM
          go_wp2_with fail
          refine (rbits6_any lo' hi' p' T sg ls s w4 (HC'.out.kp0 HK4.out) (by omega)).mono ?_
          rw [ho]
          rintro e w5 ⟨A5, m5, c5, hm5, rfl, hown5, hk5⟩
          obtain rfl : m5 = M := by rw [hm5]; exact HM.out
          have HR5 := Lib.hid (own_rd hown5)
          replace HW4 := Lib.hid (HW4.out.kp0 hk5)
          have HK5 := Lib.hid (HK4.out.trans hk5)
          clear hk5 HK4 ho hown5 hm5
          go_wp2_with fail
          refine (clong_any lo hi p T sg ls s w5 (HC.out.kp0 HK5.out) (by omega) (Nat.le_trans hhi HK5.out.size)).mono ?_
          rw [HLE.out.1, HLE.out.2]
          rintro e w6 ⟨rfl, hk6⟩
          replace HW4 := Lib.hid (HW4.out.kp0 hk6)
          replace HR5 := Lib.hid (HR5.out.kp0 hk6)
          have HK6 := Lib.hid (HK5.out.trans hk6)
          clear hk6 HK5
          go_wp2_with fail
          refine (wvec_ok S4 q r w6 HW4.out).mono ?_
          rintro e w7 ⟨V, v, rfl, hv, hV, hk7⟩
          have HV := Lib.hid hv
          replace HR5 := Lib.hid (HR5.out.kp0 hk7)
          have HK7 := Lib.hid (HK6.out.trans hk7)
          clear hk7 hv hV HK6 HW4
          go_wp2_with fail
          refine (vlen_any V v m5 r false w7 HV.out HM.out).mono ?_
          rintro e w8 ⟨rfl, rfl⟩
          go_wp2_with fail
          go_loopw [18] (fun x wr => ∃ k : Nat, x = .int .i64 (k : Int) ∧ k ≤ m5 ∧ Hid (Kp [] w7 wr)) (fun x _ => m5 - (intOf x).toNat)
          case atStart => exact ⟨0, rfl, by omega, Lib.hid (Kp.refl _ _)⟩
          case round =>
            obtain ⟨k, rfl, hk, HKR⟩ := hrel
            by_cases hlt : k < m5
            · obtain ⟨b, ad, hb, rfl, _, hcb⟩ := (HR5.out.kp0 HKR.out).bl (k := k) (by rw [HM.out]; exact hlt)
              have HG := Lib.hid (show getB r (k : Int) = b by unfold getB; rw [if_neg (by omega), Int.toNat_natCast, List.getD_eq_getElem?_getD, hb]; rfl)
              have hb0 : (0 : Int) ≤ (k : Int) := by omega
              have hb1 : (k : Int) < (m5 : Int) := by omega
              have HGQ := Lib.hid (vget_q (k : Int) (HV.out.kp0 HKR.out) HG.out)
              clear hb
              go_wp2_with fail
              go_quiet ((go_at_call 55; exact quiet_eq (HGQ.out _)))
              go_wp2_with fail
              exact ⟨⟨k + 1, by go_num, by omega, Lib.hid (HKR.out.trans ((Dr.refl _).drewN _ |>.kp []))⟩, by simp [intOf]; omega⟩
            · obtain rfl : k = m5 := by omega
              have HKE := Lib.hid (HK7.out.trans HKR.out)
              clear HK7 HKR hk hlt
              go_wp2_with fail
              refine (gets_any lo hi p lo' hi' p' N cA B A bs T sg ls wr (HC.out.kp0 HKE.out) (HC'.out.kp0 HKE.out) (HX.out.kp0 HKE.out) HN.out hc hN24 (Nat.le_trans hhi HKE.out.size) (Nat.le_trans hhi' HKE.out.size) (Nat.le_trans hB HKE.out.size)).mono ?_
              rintro e w8 ⟨rfl, hk8⟩
              have HK8 := Lib.hid (HKE.out.trans hk8)
              clear hk8
              go_wp2_with fail
              go_ret
              exact ⟨rfl, HK8.out⟩
end Go.Proofs.Ytpmdfklhgabfgaa
