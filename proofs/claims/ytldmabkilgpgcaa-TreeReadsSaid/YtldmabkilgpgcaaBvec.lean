/-
  LAYER 1's vector in memory; its counts.
  CONDITIONS: av each says.
-/
import Derived.Test.YtldmabkilgpgcaaBones
namespace Go.Proofs.Ytldmabkilgpgcaa
open Go.RowKit

theorem Try.info_int_ : (Try.prog.info? 3).map (fun i => (i.zero, i.size, i.bytes)) = some (some (.int .i64 0), 1, 8) := by kernel_rfl
/-- How many ones stand below a place. -/
def cntI (bs : List Bool) (i : Nat) : Nat := (bs.take i).count true
theorem cntI_add (bs : List Bool) (i j : Nat) : cntI bs (i + j) = cntI bs i + ((bs.drop i).take j).count true := by
  unfold cntI
  rw [List.take_add, List.count_append]
theorem cntI_le (bs : List Bool) (i : Nat) : cntI bs i ≤ bs.length := by
  unfold cntI
  have h1 := (List.take_sublist i bs).count_le true
  have h2 := List.count_le_length (a := true) (l := bs)
  omega
theorem cntI_all {bs : List Bool} {i : Nat} (h : bs.length ≤ i) : cntI bs i = bs.count true := by
  unfold cntI
  rw [List.take_of_length_le h]
theorem cntI_mono (bs : List Bool) {i j : Nat} (h : i ≤ j) : cntI bs i ≤ cntI bs j := count_take_le bs h
/-- The counts ahead of rows of 512 bits. -/
def aheadK (bs : List Bool) (j : Nat) : List Int := (List.range j).map fun i => ((cntI bs (512 * i) : Nat) : Int)
theorem aheadK_len (bs : List Bool) (j : Nat) : (aheadK bs j).length = j := by simp [aheadK]
theorem aheadK_succ (bs : List Bool) (j : Nat) : aheadK bs (j + 1) = aheadK bs j ++ [((cntI bs (512 * j) : Nat) : Int)] := by simp [aheadK, List.range_succ]
theorem aheadK_get {bs : List Bool} {j i : Nat} (h : i < j) : (aheadK bs j)[i]? = some ((cntI bs (512 * i) : Nat) : Int) := by simp [aheadK, h]
def rowsOf (n : Nat) : Nat := (n + 511) / 512 + 1
/-- A word is 64 of the bits. -/
theorem word_bits {ws : List Nat} {bs : List Bool} {k x : Nat} (hw : ∀ x ∈ ws, x < 2 ^ 64) (hn : num ws = bitN bs) (hx : ws[k]? = some x) : x = bitN ((bs.drop (64 * k)).take 64) := by
  have h := num_get (q := k) (r := 0) (wd := 64) hw hx (by omega)
  rw [Nat.add_zero, Nat.pow_zero, Nat.div_one, Nat.mod_eq_of_lt (hw x (List.mem_of_getElem? hx)), hn, bitN_div, bitN_mod] at h
  exact h.symm
theorem word_pop {ws : List Nat} {bs : List Bool} {k x : Nat} (hw : ∀ x ∈ ws, x < 2 ^ 64) (hn : num ws = bitN bs) (hx : ws[k]? = some x) : cntI bs (64 * (k + 1)) = cntI bs (64 * k) + popN 64 x := by
  rw [show 64 * (k + 1) = 64 * k + 64 by omega, cntI_add, word_bits hw hn hx, popN_bitN 64 _ (by rw [List.length_take]; omega)]

/-- A vector in memory: its blocks S, its place, its bits, whether they are counted. -/
def VecM (w : World) (S : List Nat) (p : Nat) (bs : List Bool) (c : Bool) : Prop :=
  ∃ (g : Nat) (ws : List Nat) (A : Option Addr) (na ca : Nat) (av : List Int),
    Blk w p 105 [.slice (some ⟨g, 0, none⟩) ws.length ws.length, .slice A na ca, .bool c, .int .i64 (bs.length : Int), .bool true] ∧
    Blk w g 100 (wordsV ws) ∧ (∀ x ∈ ws, x < 2 ^ 64) ∧ ws.length = (bs.length + 63) / 64 ∧ num ws = bitN bs ∧ bs.length ≤ 16777216 ∧
    w.ownsRow 0 3 1 (.slice A na ca) na (av.map (.int .i64)) ∧ (c = true → av = aheadK bs (rowsOf bs.length)) ∧ S = p :: g :: ownL (.slice A na ca)
/-- A set of blocks grows by new ones alone. -/
def Grow (w : World) (S S' : List Nat) : Prop := ∀ g ∈ S', g ∈ S ∨ w.heap.size ≤ g
theorem Grow.refl (w : World) (S : List Nat) : Grow w S S := fun _ h => .inl h
theorem Grow.trans {w w' : World} {S T U : List Nat} (h : Grow w S T) (h' : Grow w' T U) (hs : w.heap.size ≤ w'.heap.size) : Grow w S U := fun g hg => by
  rcases h' g hg with h1 | h1
  · exact h g h1
  · exact .inr (by omega)
theorem VecM.lt {w : World} {S : List Nat} {p : Nat} {bs : List Bool} {c : Bool} (h : VecM w S p bs c) : ∀ g ∈ S, g < w.heap.size := by
  obtain ⟨g, ws, A, na, ca, av, h1, h2, _, _, _, _, h7, _, rfl⟩ := h
  intro x hx
  simp only [List.mem_cons] at hx
  rcases hx with rfl | rfl | hx
  · exact h1.lt
  · exact h2.lt
  · exact (own_ge h7 (mem_ownL.1 hx)).2
theorem VecM.kp {w w' : World} {S T : List Nat} {p : Nat} {bs : List Bool} {c : Bool} (h : VecM w S p bs c) (hk : Kp T w w') (hd : ∀ g ∈ S, g ∉ T) : VecM w' S p bs c := by
  obtain ⟨g, ws, A, na, ca, av, h1, h2, h3, h4, h5, h6, h7, h8, rfl⟩ := h
  exact ⟨g, ws, A, na, ca, av, h1.kp hk (hd p (by simp)), h2.kp hk (hd g (by simp)), h3, h4, h5, h6, own_kp h7 hk (fun x hx => hd x (by simp [mem_ownL, hx])), h8, rfl⟩
theorem VecM.kp0 {w w' : World} {S : List Nat} {p : Nat} {bs : List Bool} {c : Bool} (h : VecM w S p bs c) (hk : Kp [] w w') : VecM w' S p bs c := h.kp hk (by simp)
theorem own_zero {w : World} {base : Nat} {e : TypeId} {A : Option Addr} {n c : Nat} {xs : List Value} (h : w.ownsRow base e 1 (.slice A n c) n xs) : w.ownsRow base e 1 (.slice A 0 c) 0 [] := by
  rcases own_blk h with ⟨hv, _, _⟩ | ⟨g, cap, rest, hv, hb, hB, h1, h2, h3, h4⟩
  · injection hv with hv _ hc
    subst hv hc
    exact ⟨rfl, .inl ⟨rfl, rfl⟩⟩
  · injection hv with hv _ hc
    subst hv hc
    exact own_of_blk (xs := []) (rest := xs ++ rest) hB hb (Nat.zero_le _) h2 rfl h4
theorem own_blk_some {w : World} {base : Nat} {e : TypeId} {n : Nat} {v : Value} {xs : List Value} (h : w.ownsRow base e 1 v n xs) {b : Nat} (hb : v.ownBlock = some b) : ∃ l, Blk w b e l := by
  rcases own_blk h with ⟨rfl, _, _⟩ | ⟨g, cap, rest, rfl, _, hB, _⟩
  · cases hb
  · have hb' : some g = some b := hb
    injection hb' with hb'
    subst hb'
    exact ⟨_, hB⟩
theorem ownBlock_len (A : Option Addr) (n m c : Nat) : (Value.slice A n c).ownBlock = (Value.slice A m c).ownBlock := by rcases A with _ | ⟨b, o, s⟩ <;> rfl

set_option maxRecDepth 100000 in
set_option maxHeartbeats 4000000 in
theorem count_any (S : List Nat) (p : Nat) (bs : List Bool) (c : Bool) (w : World) (h : VecM w S p bs c) :
    Calls Try.prog 68 #[.pointer (some ⟨p, 0, none⟩)] w fun e w' => e = .returned (.tuple #[]) ∧ ∃ S', VecM w' S' p bs true ∧ Kp S w w' ∧ Grow w S S' ∧ (c = true → w = w' ∧ S = S') := by
  obtain ⟨i0, hi, hz0, hz1, hz2⟩ := info_parts Try.info_int_
  cases c with
  | true =>
    have HH := Lib.hid h
    have c2 : w.cell? ⟨p, 2, none⟩ = some (.bool true) := by
      obtain ⟨g, ws, A, na, ca, av, h1, _⟩ := h
      rw [h1.cell]; rfl
    clear h
    go_enter Try.func68, Try.ntmps68
    go_wp2_with fail
    refine bodyPost_ret (results_none rfl _ _ _) rfl ?_
    exact ⟨rfl, S, HH.out, Kp.refl _ _, Grow.refl _ _, fun _ => ⟨rfl, rfl⟩⟩
  | false =>
    obtain ⟨g, ws, A, na, ca, av, h1, h2, h3, h4, h5, h6, h7, _, hS⟩ := h
    obtain ⟨m, hm⟩ : ∃ m, m = ws.length := ⟨_, rfl⟩
    obtain ⟨n, hn⟩ : ∃ n, n = bs.length := ⟨_, rfl⟩
    rw [← hm, ← hn] at h1 h4
    have hpg : p ≠ g := h1.ne h2 (by decide)
    have c0 := h1.cell 0
    have c1 := h1.cell 1
    have c2 := h1.cell 2
    have cf1 := h1.free 1
    simp only [List.getElem?_cons_zero, List.getElem?_cons_succ] at c0 c1 c2
    have HP0 := Lib.hid (h1.set_ 1 (.slice A 0 ca))
    have HW0 := Lib.hid (h2.far (p := ⟨p, 1, none⟩) (Ne.symm hpg) (.slice A 0 ca))
    have hpA : ∀ b, (Value.slice A 0 ca).ownBlock = some b → b ≠ p := fun b hb e => by
      rcases own_blk h7 with ⟨hv, _⟩ | ⟨g', cap, rest, hv, _, hB, _⟩
      · injection hv with hv; subst hv; cases hb
      · injection hv with hv
        subst hv
        have hb' : some g' = some b := hb
        injection hb' with hb'
        subst hb' e
        exact absurd rfl (hB.ne h1 (by decide))
    have HO0 := Lib.hid (own_kp (own_zero h7) ((Kp.refl [p] w).setCell (p := ⟨p, 1, none⟩) (.inl (by simp)) (.slice A 0 ca)) (fun b hb hm => hpA b hb (by simpa using hm)))
    have HSP := Lib.hid (show p ∈ S ∧ g ∈ S ∧ (∀ b, (Value.slice A 0 ca).ownBlock = some b → b ∈ S) from ⟨by rw [hS]; simp, by rw [hS]; simp, fun b hb => by
      rw [ownBlock_len A 0 na ca] at hb
      rw [hS]
      exact List.mem_cons_of_mem _ (List.mem_cons_of_mem _ (mem_ownL.2 hb))⟩)
    have HK0 := Lib.hid ((Kp.refl S w).setCell (p := ⟨p, 1, none⟩) (.inl HSP.out.1) (.slice A 0 ca))
    have hca : 0 ≤ ca := Nat.zero_le _
    have HLT := Lib.hid h3
    have HM := Lib.hid hm
    have HN := Lib.hid hn
    have HML := Lib.hid h4
    have HNUM := Lib.hid h5
    have hmb : m ≤ 262144 := by omega
    have HNB := Lib.hid h6
    clear h1 h2 h3 h4 h5 h6 h7 hm hn hS hpg hpA
    go_enter Try.func68, Try.ntmps68
    go_wp2_with fail
    go_loopw [2, 22] (fun y x wr => ∃ (k j ca' : Nat) (A' : Option Addr), x = .int .i64 (k : Int) ∧ y = .int .i64 ((cntI bs (64 * k) : Nat) : Int) ∧ k ≤ m ∧ j = (k + 7) / 8 ∧
      Hid (Blk wr p 105 [.slice (some ⟨g, 0, none⟩) m m, .slice A' j ca', .bool false, .int .i64 (n : Int), .bool true]) ∧ Hid (Blk wr g 100 (wordsV ws)) ∧
      Hid (wr.ownsRow 0 3 1 (.slice A' j ca') j ((aheadK bs j).map (.int .i64))) ∧ Hid (∀ b, (Value.slice A' j ca').ownBlock = some b → b ∈ S ∨ w.heap.size ≤ b) ∧ Hid (Kp S w wr)) (fun _ x _ => m - (intOf x).toNat)
    case atStart => exact ⟨0, 0, ca, A, rfl, by simp [cntI], by omega, by omega, HP0, HW0, HO0, Lib.hid (fun b hb => .inl (HSP.out.2.2 b hb)), HK0⟩
    case round =>
      clear HP0 HW0 HO0 HK0 c0 c1 c2 cf1
      obtain ⟨k, j, ca', A', rfl, rfl, hk, hj, HP, HW, HO, HA, HK⟩ := hrel
      have c0 := HP.out.cell 0
      have c1 := HP.out.cell 1
      simp only [List.getElem?_cons_zero, List.getElem?_cons_succ] at c0 c1
      have hcb := cntI_le bs (64 * k)
      rw [← HN.out] at hcb
      have HNB2 := Lib.hid (show n ≤ 16777216 by rw [HN.out]; exact HNB.out)
      by_cases hlt : k < m
      · obtain ⟨x, hx⟩ : ∃ x, ws[k]? = some x := ⟨_, List.getElem?_eq_getElem (by rw [← HM.out]; exact hlt)⟩
        have cx : wr.cell? ⟨g, k, none⟩ = some (.int .u64 (x : Int)) := by rw [HW.out.cell]; exact wordsV_get hx
        have HXB := Lib.hid (HLT.out x (List.mem_of_getElem? hx))
        have hpop := word_pop HLT.out HNUM.out hx
        have hcb2 := cntI_le bs (64 * (k + 1))
        rw [← HN.out] at hcb2
        obtain ⟨q, hq⟩ : ∃ q, q = cntI bs (64 * k) := ⟨_, rfl⟩
        obtain ⟨q2, hq2⟩ : ∃ q2, q2 = cntI bs (64 * (k + 1)) := ⟨_, rfl⟩
        obtain ⟨pp, hpp⟩ : ∃ pp, pp = popN 64 x := ⟨_, rfl⟩
        rw [← hq, ← hq2, ← hpp] at hpop
        rw [← hq2] at hcb2
        rw [← hq]
        have hwq : IntKind.i64.wrap ((q : Int) + (pp : Int)) = (q2 : Int) := by rw [IntKind.wrap_i64]; have := HNB2.out; omega
        have hq9 : q ≤ 16777216 := by have := HNB2.out; omega
        have HQ := Lib.hid hq
        have HQ2 := Lib.hid hq2
        have HPP := Lib.hid hpp
        obtain ⟨r, hr⟩ : ∃ r, r = k % 8 := ⟨_, rfl⟩
        have hmod : (k : Int).tmod 8 = (r : Int) := by rw [Int.tmod_eq_emod_of_nonneg (by omega)]; omega
        have hwr : IntKind.i64.wrap (r : Int) = (r : Int) := by rw [IntKind.wrap_i64]; omega
        clear hx hpop hcb2 hq hq2 hpp hcb
        by_cases hr0 : r = 0
        · subst hr0
          have hj8 : j = k / 8 := by omega
          have HJK := Lib.hid (show 64 * k = 512 * j by omega)
          have HJ2 := Lib.hid (show j + 1 = (k + 1 + 7) / 8 by omega)
          have hjb : j ≤ 40000 := by omega
          clear hj hr hj8
          have hmod0 : (k : Int).tmod 8 = 0 := hmod
          clear hmod hwr
          have HRX := Lib.hid (show Rd (wr.alloc (.cells #[.int .i64 (q : Int)] 3)) (wr.heap.size + 1) (some ⟨wr.heap.size, 0, none⟩) [.int .i64 (q : Int)] from Rd.new wr #[.int .i64 (q : Int)] 3 (0, 0))
          go_wp2_with (at_builtin; go_loud (refine wpList_append_rd rfl (.tmp 34) (.tmp 36) 83 rfl 0 3 i0 (.int .i64 0) 1 8 Try.underlying83 hi hz0 hz1 hz2 rfl (by decide) (.slice A' j ca') j _ rfl (own_kp0 HO.out ((Kp.refl [] _).alloc _)) _ _ 1 1 [.int .i64 (q : Int)] rfl rfl HRX.out (by simp [Value.oneCell']) (by unfold maxLen; omega) (by omega) (Nat.zero_le _) ?_); intro v2 w2 hown2 hgrow2 hat2
                       obtain ⟨A2, c2', rfl, _⟩ := own_form hown2
                       have hkg : Kp (ownL (.slice A' j ca')) wr w2 := ((Kp.refl _ wr).alloc (.cells #[.int .i64 (q : Int)] 3)).grown hgrow2 (fun b hb => .inl (mem_ownL.2 hb))
                       have hpn : ∀ b, (Value.slice A' j ca').ownBlock = some b → ∃ l, Blk wr b 3 l := fun b hb => own_blk_some HO.out hb
                       have HP2 := Lib.hid (HP.out.kp hkg (fun hm => by obtain ⟨l, hl⟩ := hpn p (mem_ownL.1 hm); exact absurd rfl (hl.ne HP.out (by decide))))
                       have HW2 := Lib.hid (HW.out.kp hkg (fun hm => by obtain ⟨l, hl⟩ := hpn g (mem_ownL.1 hm); exact absurd rfl (hl.ne HW.out (by decide))))
                       have HK2 := Lib.hid ((HK.out.alloc (.cells #[.int .i64 (q : Int)] 3)).grown hgrow2 (fun b hb => HA.out b hb))
                       have HA2 := Lib.hid (show ∀ b, (Value.slice A2 (j + 1) c2').ownBlock = some b → b ∈ S ∨ w.heap.size ≤ b from fun b hb => by
                         rcases hat2 with e | e
                         · exact HA.out b (by rw [← e]; exact hb)
                         · rw [e] at hb
                           injection hb with hb
                           subst hb
                           have := HK.out.size
                           simp
                           exact .inr (by omega))
                       have HO2 := Lib.hid hown2
                       have cf2 := HP2.out.free 1
                       have cp2 : w2.cell? ⟨p, 1, none⟩ = some (.slice A' j ca') := by rw [HP2.out.cell]; rfl
                       clear hown2 hgrow2 hat2 hkg hpn)
          refine (ones_any x _ HXB.out).mono ?_
          rintro e w3 ⟨rfl, rfl⟩
          rw [← HPP.out]
          have HP3 := Lib.hid (HP2.out.set_ 1 (.slice A2 (j + 1) c2'))
          have HW3 := Lib.hid (HW2.out.far (p := ⟨p, 1, none⟩) (fun e => by subst e; exact absurd rfl (HW2.out.ne HP2.out (by decide))) (.slice A2 (j + 1) c2'))
          have HO3 := Lib.hid (own_kp HO2.out ((Kp.refl [p] w2).setCell (p := ⟨p, 1, none⟩) (.inl (by simp)) (.slice A2 (j + 1) c2')) (fun b hb hm => by
            simp only [List.mem_singleton] at hm
            subst hm
            obtain ⟨l, hl⟩ := own_blk_some HO2.out hb
            exact absurd rfl (hl.ne HP2.out (by decide))))
          have HK3 := Lib.hid (HK2.out.setCell (p := ⟨p, 1, none⟩) (.inl HSP.out.1) (.slice A2 (j + 1) c2'))
          clear cf2 cp2
          go_wp2_with fail
          exact ⟨⟨k + 1, j + 1, c2', A2, by go_num, by rw [HQ2.out], by omega, HJ2.out, HP3, HW3, Lib.hid (by rw [aheadK_succ, List.map_append, ← HJK.out, ← HQ.out]; exact HO3.out), HA2, HK3⟩, by simp [intOf]; omega⟩
        · have HJ2 := Lib.hid (show j = (k + 1 + 7) / 8 by omega)
          go_wp2_with fail
          refine (ones_any x wr HXB.out).mono ?_
          rintro e w3 ⟨rfl, rfl⟩
          rw [← HPP.out]
          go_wp2_with fail
          exact ⟨⟨k + 1, j, ca', A', by go_num, by rw [HQ2.out], by omega, HJ2.out, HP, HW, HO, HA, HK⟩, by simp [intOf]; omega⟩
      · obtain rfl : m = k := by omega
        obtain ⟨q, hq⟩ : ∃ q, q = cntI bs (64 * m) := ⟨_, rfl⟩
        rw [← hq] at hcb ⊢
        have HJ := Lib.hid hj
        have hjb : j ≤ 40000 := by omega
        have HQ := Lib.hid (show q = cntI bs (512 * j) by
          rw [hq, cntI_all (by have := HML.out; have := HN.out; omega), cntI_all (by have := HML.out; have := HN.out; omega)])
        have HJR := Lib.hid (show j + 1 = rowsOf bs.length by unfold rowsOf; have := HML.out; have := HN.out; omega)
        clear hj hq hcb
        have HRX := Lib.hid (show Rd (wr.alloc (.cells #[.int .i64 (q : Int)] 3)) (wr.heap.size + 1) (some ⟨wr.heap.size, 0, none⟩) [.int .i64 (q : Int)] from Rd.new wr #[.int .i64 (q : Int)] 3 (0, 0))
        go_wp2_with (at_builtin; go_loud (refine wpList_append_rd rfl (.tmp 49) (.tmp 51) 83 rfl 0 3 i0 (.int .i64 0) 1 8 Try.underlying83 hi hz0 hz1 hz2 rfl (by decide) (.slice A' j ca') j _ rfl (own_kp0 HO.out ((Kp.refl [] _).alloc _)) _ _ 1 1 [.int .i64 (q : Int)] rfl rfl HRX.out (by simp [Value.oneCell']) (by unfold maxLen; omega) (by omega) (Nat.zero_le _) ?_); intro v2 w2 hown2 hgrow2 hat2
                     obtain ⟨A2, c2', rfl, _⟩ := own_form hown2
                     have hkg : Kp (ownL (.slice A' j ca')) wr w2 := ((Kp.refl _ wr).alloc (.cells #[.int .i64 (q : Int)] 3)).grown hgrow2 (fun b hb => .inl (mem_ownL.2 hb))
                     have hpn : ∀ b, (Value.slice A' j ca').ownBlock = some b → ∃ l, Blk wr b 3 l := fun b hb => own_blk_some HO.out hb
                     have HP2 := Lib.hid (HP.out.kp hkg (fun hm => by obtain ⟨l, hl⟩ := hpn p (mem_ownL.1 hm); exact absurd rfl (hl.ne HP.out (by decide))))
                     have HW2 := Lib.hid (HW.out.kp hkg (fun hm => by obtain ⟨l, hl⟩ := hpn g (mem_ownL.1 hm); exact absurd rfl (hl.ne HW.out (by decide))))
                     have HK2 := Lib.hid ((HK.out.alloc (.cells #[.int .i64 (q : Int)] 3)).grown hgrow2 (fun b hb => HA.out b hb))
                     have HA2 := Lib.hid (show ∀ b, (Value.slice A2 (j + 1) c2').ownBlock = some b → b ∈ S ∨ w.heap.size ≤ b from fun b hb => by
                       rcases hat2 with e | e
                       · exact HA.out b (by rw [← e]; exact hb)
                       · rw [e] at hb
                         injection hb with hb
                         subst hb
                         have := HK.out.size
                         simp
                         exact .inr (by omega))
                     have HO2 := Lib.hid hown2
                     have cf2 := HP2.out.free 1
                     have cp2 : w2.cell? ⟨p, 1, none⟩ = some (.slice A' j ca') := by rw [HP2.out.cell]; rfl
                     have cf3 := HP2.out.free 2
                     have cp3 : w2.cell? ⟨p, 2, none⟩ = some (.bool false) := by rw [HP2.out.cell]; rfl
                     clear hown2 hgrow2 hat2 hkg hpn)
        go_end0
        have hp3 := (HP2.out.set_ 1 (.slice A2 (j + 1) c2')).set_ 2 (.bool true)
        have hpw : ∀ i : Nat, g ≠ (⟨p, i, none⟩ : Addr).block := fun i e => by
          have e' : g = p := e
          subst e'
          exact absurd rfl (HW2.out.ne HP2.out (by decide))
        have hw3 := (HW2.out.far (hpw 1) (.slice A2 (j + 1) c2')).far (hpw 2) (.bool true)
        have hkk : Kp [p] w2 ((w2.setCell ⟨p, 1, none⟩ (.slice A2 (j + 1) c2')).setCell ⟨p, 2, none⟩ (.bool true)) := ((Kp.refl [p] w2).setCell (.inl (by simp)) _).setCell (.inl (by simp)) _
        have ho3 := own_kp HO2.out hkk (fun b hb hm => by
          simp only [List.mem_singleton] at hm
          subst hm
          obtain ⟨l, hl⟩ := own_blk_some HO2.out hb
          exact absurd rfl (hl.ne HP2.out (by decide)))
        refine ⟨rfl, p :: g :: ownL (.slice A2 (j + 1) c2'), ?_, HK2.out.trans (hkk.mono (fun x hx => by simp only [List.mem_singleton] at hx; subst hx; exact HSP.out.1)), ?_, fun h => by cases h⟩
        · refine ⟨g, ws, A2, j + 1, c2', aheadK bs (j + 1), by rw [← HM.out, ← HN.out]; exact hp3, hw3, HLT.out, by rw [← HM.out, ← HN.out]; exact HML.out, HNUM.out, HNB.out, by rw [aheadK_succ, List.map_append, ← HQ.out]; exact ho3, fun _ => by rw [HJR.out], rfl⟩
        · intro x hx
          simp only [List.mem_cons] at hx
          rcases hx with rfl | rfl | hx
          · exact .inl HSP.out.1
          · exact .inl HSP.out.2.1
          · exact HA2.out x (mem_ownL.1 hx)
end Go.Proofs.Ytldmabkilgpgcaa
