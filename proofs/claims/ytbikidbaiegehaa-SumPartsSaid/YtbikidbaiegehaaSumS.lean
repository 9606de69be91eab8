/-
  THE STATEMENT SumSeals OF LAYER 4, its walk: for every bytes, place and 32 bits, the call returns true and writes to nothing that was there.
  CONDITIONS: the slice takes at most 2^47 bytes.
-/
import Derived.Test.YtbikidbaiegehaaSumL
import Derived.Test.YtbikidbaiegehaaPick
import Derived.Test.YtbikidbaiegehaaMSeal
import Derived.Test.YtbikidbaiegehaaRegion
namespace Go.Proofs.Ytbikidbaiegehaa
open Go.RowKit

theorem take_sealed (b : List Int) : (sealed b).take b.length = b := List.take_left
theorem openE_sealed {b : List Int} : openE (sealed b) = 0 := by
  unfold openE
  rw [if_neg (by rw [sealed_length]; omega), if_pos]
  rw [sealed_length, Nat.add_sub_cancel, take_sealed]
theorem openL_sealed {b : List Int} : openL (sealed b) = b := by
  unfold openL
  rw [if_pos openE_sealed, sealed_length, Nat.add_sub_cancel, take_sealed]
theorem own_cap {w : World} {base : Nat} {e : TypeId} {size n m c : Nat} {A : Option Addr} {xs : List Value} (h : w.ownsRow base e size (.slice A m c) n xs) : m ≤ c := by
  obtain ⟨_, _, hv, hc, _⟩ := own_form h
  injection hv with _ h1 h2
  omega
theorem xor_u8_nat {x m : Nat} (hx : x < 256) (hm : m < 8) : bits .xor .u8 (x : Int) (2 ^ m % 256) = ((x ^^^ 2 ^ m : Nat) : Int) := by
  have h : 2 ^ m < 256 := by
    have := Nat.pow_lt_pow_right (show 1 < 2 by omega) (show m < 8 by omega)
    simpa using this
  have e : ((2 : Int) ^ m % 256) = ((2 ^ m : Nat) : Int) := by
    have h3 : ((2 ^ m : Nat) : Int) = (2 : Int) ^ m := by norm_cast
    rw [← h3]
    generalize 2 ^ m = y at h ⊢
    omega
  rw [e]
  have hlt : x ^^^ 2 ^ m < 2 ^ 8 := Nat.xor_lt_two_pow hx h
  generalize 2 ^ m = y at h hlt ⊢
  have h1 : (BitVec.ofInt 8 (x : Int)).toNat = x := by
    rw [BitVec.ofInt_natCast, BitVec.toNat_ofNat]; exact Nat.mod_eq_of_lt (by omega)
  have h2 : (BitVec.ofInt 8 (y : Int)).toNat = y := by
    rw [BitVec.ofInt_natCast, BitVec.toNat_ofNat]; exact Nat.mod_eq_of_lt (by omega)
  show IntKind.u8.wrap ((BitVec.ofInt 8 (x : Int) ^^^ BitVec.ofInt 8 (y : Int)).toNat : Int) = _
  rw [BitVec.toNat_xor, h1, h2]
  show ((x ^^^ y : Nat) : Int) % 256 = _
  omega
/-- What the turning keeps. -/
structure Turned (s l : List Int) (p j : Nat) (any : Bool) : Prop where
  len : l.length = s.length
  byt : Byt l
  far : ∀ k, k < p ∨ p + j ≤ k → bitAt l k = bitAt s k
  some_ : any = true → ∃ k, k < 8 * s.length ∧ bitAt l k ≠ bitAt s k
theorem Turned.same {s l : List Int} {p j : Nat} {any : Bool} (h : Turned s l p j any) : Turned s l p (j + 1) any := ⟨h.len, h.byt, fun k hk => h.far k (by omega), h.some_⟩
theorem Turned.flip {s l : List Int} {p j : Nat} {any : Bool} (h : Turned s l p j any) {q m a : Nat} (hq : q = (p + j) / 8) (hm : m = (p + j) % 8) (hx : l[q]? = some (a : Int)) (ha : a < 256) (hlt : p + j < 8 * s.length) :
    Turned s (l.set q ((a ^^^ 2 ^ m : Nat) : Int)) p (j + 1) true := by
  obtain ⟨h1, h2⟩ := bitAt_flip hq hm hx
  refine ⟨by rw [List.length_set]; exact h.len, ?_, ?_, ?_⟩
  · intro x hx
    rcases List.mem_or_eq_of_mem_set hx with h3 | h3
    · exact h.byt x h3
    · subst h3
      have h4 : 2 ^ m < 256 := by
        have := Nat.pow_lt_pow_right (show 1 < 2 by omega) (show m < 8 by omega)
        simpa using this
      have := Nat.xor_lt_two_pow (n := 8) ha h4
      omega
  · intro k hk
    rw [h1 k (by omega)]
    exact h.far k (by omega)
  · intro _
    exact ⟨p + j, hlt, fun e => h2 (e.trans (h.far _ (by omega)).symm)⟩
theorem turned_open {b l : List Int} {p : Nat} {any : Bool} (hb : Byt b) (h : Turned (sealed b) l p 32 any) : any = true → openE l = 7 ∧ openL l = [] := by
  intro ha
  have he : openE l = 7 := by
    unfold openE
    have hl := h.len
    rw [sealed_length] at hl
    rw [if_neg (by omega), if_neg]
    intro e
    refine turned_told (s := sealed b) (t := l) rfl e.symm hb (fun z hz => h.byt z (List.mem_of_mem_take hz)) h.len p (fun k hk => h.far k (by omega)) (fun k hk => h.far k (by omega)) (h.some_ ha)
  exact ⟨he, by unfold openL; rw [if_neg (by rw [he]; decide)]⟩

set_option maxHeartbeats 4000000 in
theorem sumSeals_any (A : Option Addr) (m c : Nat) (at_ : Int) (X : Nat) (b : List Int) (w : World) (hy : Rd w w.heap.size A (b.map (.int .u8))) (hm : b.length = m) (hmc : m ≤ c) (hmb : m ≤ 140737488355328) (hyb : Byt b)
    (hX : X < 4294967296) :
    Calls Try.prog 5 #[.slice A m c, .int .i64 at_, .int .u32 X] w fun e w' => e = .returned (.bool true) ∧ Kp [] w w' := by
  obtain ⟨i0, hi, hz0, hz1, hz2⟩ := info_parts Try.info_u8
  have HY := Lib.hid hy; clear hy
  have HM := Lib.hid hm; clear hm
  have HYB := Lib.hid hyb; clear hyb
  go_enter Try.func5, Try.ntmps5
  go_wp2_with fail
  refine (awake4_any _).mono ?_
  rintro e w1 ⟨rfl, hk1⟩
  have HK1 := Lib.hid hk1; clear hk1
  by_cases hs : 3000 < m
  · go_wp2
    go_ret
    exact ⟨rfl, HK1.out⟩
  · have hs' : m ≤ 3000 := by omega
    clear hs hmb
    have hbl := HM.out
    clear HM
    subst hbl
    have hf : [b].flatten = b := by simp
    go_wp2_with fail
    refine (seal_any _ 1 1 (w1.heap.size + 1) [b] _ (RdRows.one (heap_alloc_new w1 _) (Nat.lt_succ_self _) hmc ((HY.out.kp0 HK1.out).kp0 ((Kp.refl [] w1).alloc _) |>.bound (by have := HK1.out.size; omega))) (by simp) rfl (by omega) (by rw [hf]; omega) (by intro xs hx; simp at hx; subst hx; exact HYB.out)).mono ?_
    rintro e w2 ⟨A2, c2, rfl, hown2, hk2⟩
    rw [hf] at hown2 ⊢
    clear hf
    obtain ⟨s, hs⟩ : ∃ s, s = sealed b := ⟨_, rfl⟩
    have hsl : s.length = b.length + 4 := by rw [hs, sealed_length]
    have hsb : Byt s := by rw [hs]; exact sealed_byte HYB.out
    rw [← hs] at hown2
    have hk2' := (HK1.out.alloc _).trans hk2
    have hsz2 : w.heap.size ≤ w2.heap.size := hk2'.size
    obtain ⟨n, hn⟩ : ∃ n, n = b.length + 4 := ⟨_, rfl⟩
    rw [← hn] at hown2 hsl ⊢
    have hnle : 4 ≤ n ∧ n ≤ 3004 := by omega
    have HS := Lib.hid hs; clear hs
    have HSL := Lib.hid hsl; clear hsl
    have HSB := Lib.hid hsb; clear hsb
    have HO2 := Lib.hid hown2; clear hown2
    have HK2 := Lib.hid hk2'; clear hk2' hk2
    have HN := Lib.hid hn; clear hn
    go_wp2_with fail
    refine (open_any A2 n c2 _ s _ (own_rd HO2.out) HSL.out (own_cap HO2.out) (by omega) HSB.out).mono ?_
    rintro e w3 ⟨A3, c3, rfl, hown3, hk3⟩
    have hos : openE s = 0 := by rw [HS.out]; exact openE_sealed
    have hol : openL s = b := by rw [HS.out]; exact openL_sealed
    rw [hol] at hown3 ⊢
    rw [hos]
    clear hos hol
    have HO3 := Lib.hid hown3
    have HK3 := Lib.hid (HK2.out.trans hk3)
    have HP3 := Lib.hid (own_kp0 HO2.out hk3)
    clear hown3 hk3 HO2 HK2
    have hne : ((n : Int) != (b.length : Int) + 4) = false := by have := HN.out; simp; omega
    go_wp2_with fail
    refine (sameB A3 A b.length b.length c3 c _ _ b b _ (own_rd HO3.out) (HY.out.kp0 HK3.out) rfl rfl (by omega) (by omega)).mono ?_
    rintro e w4 ⟨rfl, hd4⟩
    rw [show decide (b = b) = true from by simp]
    have HK4 := Lib.hid (HK3.out.trans (hd4.kp []))
    have HP4 := Lib.hid (own_kp0 HP3.out (hd4.kp []))
    clear hd4 HK3 HP3 HO3
    by_cases hX0 : X = 0
    · subst hX0
      go_wp2
      go_ret
      exact ⟨rfl, HK4.out⟩
    · have hx0 : ((X : Int) == 0) = false := by rw [beq_eq_false_iff_ne]; omega
      go_wp2_with fail
      refine (pick_any at_ (8 * (n : Int)) _ (by omega)).mono ?_
      rintro e w' ⟨rfl, rfl⟩
      obtain ⟨p, hp, hpn⟩ : ∃ p : Nat, pickI at_ (8 * (n : Int)) = p ∧ p < 8 * n := by
        have := pickI_bound (x := at_) (n := 8 * (n : Int)) (by omega)
        exact ⟨(pickI at_ (8 * (n : Int))).toNat, by omega, by omega⟩
      rw [hp]
      clear hp
      clear hne
      have hsz4 := HK4.out.size
      go_wp2_with (at_builtin; go_loud (refine wpList_append_rd rfl (.tmp 53) (.tmp 54) 23 rfl w4.heap.size 5 i0 (.int .u8 0) 1 1 Try.underlying23 hi hz0 hz1 hz2 rfl (by decide) (.slice (some ⟨w4.heap.size, 0, none⟩) 0 0) 0 [] rfl (World.ownsRow_made w4 #[] 0 (Nat.le_refl _) (Nat.zero_le _) rfl) _ A2 n c2 (s.map (.int .u8)) rfl (by simpa using HSL.out) ((own_rd HP4.out).kp0 ((Kp.refl [] w4).alloc _)) (by simp [Value.oneCell']) (by unfold maxLen; omega) (by omega) (by simp) ?_); intro v5 w5 hown5 hgrow5 hat5)
      rw [Nat.zero_add, List.nil_append] at hown5
      rcases own_blk hown5 with ⟨_, h0, _⟩ | ⟨g, cap, rest, rfl, hg5, hb5, hnc, hcm, _⟩
      · omega
      have hk5 : Kp [] w w5 := (HK4.out.alloc _).grown hgrow5 (by simp [Value.ownBlock]; omega)
      have hgw : w.heap.size ≤ g := by omega
      clear hown5 hgrow5 hat5 HP4
      have HK5 := Lib.hid hk5; clear hk5
      have HB5 := Lib.hid hb5; clear hb5
      go_wp2_with fail
      go_loopw [12, 13] (fun y i wr => ∃ (j : Nat) (a : Bool) (l : List Int), j ≤ 32 ∧ i = .int .i64 j ∧ y = .bool a ∧ Hid (Turned s l p j a) ∧ Hid (Kp [] w wr) ∧ Hid (Blk wr g 5 (l.map (.int .u8) ++ rest))) (fun _ i _ => 32 - (intOf i).toNat)
      case atStart => exact ⟨0, false, s, by omega, rfl, rfl, Lib.hid ⟨rfl, HSB.out, fun _ _ => rfl, fun h => by cases h⟩, HK5, HB5⟩
      case round =>
        obtain ⟨j, a, l, hj, rfl, rfl, HT, HK, HB⟩ := hrel
        by_cases hlt : j < 32
        · have hjp : (32 : Nat) - (j + 1) < 32 - j := by omega
          by_cases hk : p + j < 8 * n
          · obtain ⟨q, hq, hqe⟩ : ∃ q : Nat, ((p : Int) + (j : Int)).tdiv 8 = (q : Int) ∧ q = (p + j) / 8 := ⟨(p + j) / 8, by rw [Int.tdiv_eq_ediv_of_nonneg (by omega)]; omega, rfl⟩
            obtain ⟨m, hm, hme⟩ : ∃ m : Nat, ((p : Int) + (j : Int)).tmod 8 = (m : Int) ∧ m = (p + j) % 8 := ⟨(p + j) % 8, by rw [Int.tmod_eq_emod_of_nonneg (by omega)]; omega, rfl⟩
            have hqn : q < n := by omega
            have hm8 : m < 8 := by omega
            have HQE := Lib.hid hqe; clear hqe
            have HME := Lib.hid hme; clear hme
            have hln : l.length = n := by rw [HT.out.len, HSL.out]
            obtain ⟨z, hz⟩ : ∃ z, l[q]? = some z := ⟨l[q], List.getElem?_eq_getElem (by omega)⟩
            obtain ⟨x, rfl, hx⟩ : ∃ x : Nat, z = (x : Int) ∧ x < 256 := by
              have := HT.out.byt z (List.mem_of_getElem? hz)
              exact ⟨z.toNat, by omega, by omega⟩
            have hcell : wr.cell? ⟨g, q, none⟩ = some (.int .u8 (x : Int)) := by
              rw [HB.out.cell, List.getElem?_append_left (by rw [List.length_map]; omega), List.getElem?_map, hz]
              rfl
            have hfree := HB.out.free q
            have HZ := Lib.hid hz; clear hz
            have HL := Lib.hid hln; clear hln
            go_wp2_with fail
            · go_region
              rw [xor_u8_nat hx hm8]
              have hb := (HB.out.set_ q (.int .u8 ((x ^^^ 2 ^ m : Nat) : Int))).drew
              rw [List.set_append_left _ _ (by rw [List.length_map, HL.out]; exact hqn), ← List.map_set] at hb
              have hk9 : Kp [] w (wr.setCell ⟨g, q, none⟩ (.int .u8 ((x ^^^ 2 ^ m : Nat) : Int))).drew := (HK.out.setCell (.inr hgw) _).drew
              have HK9 := Lib.hid hk9; clear hk9
              have HB9 := Lib.hid hb; clear hb hcell hfree
              have hT := HT.out.flip HQE.out HME.out HZ.out hx (by rw [HSL.out]; exact hk)
              have HT9 := Lib.hid hT; clear hT
              go_wp2
              go_roundw
              case rel => exact ⟨j + 1, true, _, by omega, by go_num, rfl, HT9, HK9, HB9⟩
              case measure => simp [intOf]; omega
            · refine ⟨⟨j + 1, a, l, by omega, by go_num, rfl, Lib.hid HT.out.same, HK, HB⟩, by simp [intOf]; omega⟩
          · go_wp2_with fail
            all_goals (refine ⟨⟨j + 1, a, l, by omega, by go_num, rfl, Lib.hid HT.out.same, HK, HB⟩, by simp [intOf]; omega⟩)
        · obtain rfl : j = 32 := by omega
          clear hlt hX0 hx0
          have hln : l.length = n := by rw [HT.out.len, HSL.out]
          have hto := turned_open HYB.out (HS.out ▸ HT.out)
          have HTO := Lib.hid hto; clear hto
          go_wp2_with fail
          refine (open_any (some ⟨g, 0, none⟩) n cap _ l _ (by
            have h := (HB.out.rd HB.out.lt).take n
            rwa [List.take_append_of_le_length (by rw [List.length_map]; omega), List.take_of_length_le (by rw [List.length_map]; omega)] at h) hln hnc (by omega) HT.out.byt).mono ?_
          rintro e w6 ⟨A6, c6, rfl, hown6, hk6⟩
          have HK6 := Lib.hid (HK.out.trans hk6); clear hk6 hown6 hln
          obtain ⟨r, hr⟩ : ∃ r, r = (openL l).length := ⟨_, rfl⟩
          obtain ⟨y, hy⟩ : ∃ y, y = openE l := ⟨_, rfl⟩
          rw [← hr, ← hy]
          cases a with
          | false =>
            go_wp2
            go_ret
            exact ⟨rfl, HK6.out⟩
          | true =>
            obtain ⟨h7, h0⟩ := HTO.out rfl
            rw [h7] at hy
            rw [h0] at hr
            subst hr hy
            go_wp2
            go_ret
            exact ⟨rfl, HK6.out⟩
end Go.Proofs.Ytbikidbaiegehaa
