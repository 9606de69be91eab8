/-
  The document's layer 12: Read.
  CONDITIONS: a code and bits in memory.
-/
import Derived.Test.YtlaionhlejmjdaaGreatDoorQ42
import Derived.Test.YtlaionhlejmjdaaGreatDoorQ39
import Derived.Test.YtlaionhlejmjdaaGreatDoorQ38
namespace Go.Proofs.YtlaionhlejmjdaaGreatDoor
open Go.RowKit

set_option maxRecDepth 100000 in
set_option maxHeartbeats 4000000 in
theorem rsame_any (A A' : Option Addr) (n m c c' B B' : Nat) (a b : List Bool) (w : World) (hx : Rd w B A (a.map .bool)) (hy : Rd w B' A' (b.map .bool)) (hn : a.length = n) (hm : b.length = m) (hb : n ≤ 1000000000) :
    Calls Tryz.prog 55 #[.slice A n c, .slice A' m c'] w fun e w' => e = .returned (.bool (decide (a = b))) ∧ Dr w w' := by
  have HX := Lib.hid hx; clear hx
  have HY := Lib.hid hy; clear hy
  have HN := Lib.hid hn; clear hn
  have HM := Lib.hid hm; clear hm
  go_enter Tryz.func55, Tryz.ntmps55
  go_wp2_with fail
  go_loopw [5] (fun x wr => ∃ k : Nat, x = .int .i64 (k : Int) ∧ k ≤ n ∧ k ≤ m ∧ Hid (a.take k = b.take k) ∧ Dr w wr) (fun x _ => n - (intOf x).toNat)
  case atStart => exact ⟨0, rfl, by omega, by omega, Lib.hid rfl, Dr.refl w⟩
  case round =>
    obtain ⟨k, rfl, hk, hkm, HE, hd⟩ := hrel
    by_cases hlt : k < n
    · have h1 : (k : Int) < (n : Int) := by omega
      have h0 : (0 : Int) ≤ (k : Int) := by omega
      by_cases hlm : k < m
      · have h2 : (k : Int) < (m : Int) := by omega
        obtain ⟨x, ad, hxk, rfl, _, hcx⟩ := (HX.out.kp0 (hd.kp [])).bl (k := k) (by rw [HN.out]; exact hlt)
        obtain ⟨y, ad', hyk, rfl, _, hcy⟩ := (HY.out.kp0 (hd.kp [])).bl (k := k) (by rw [HM.out]; exact hlm)
        have HXK := Lib.hid hxk
        have HYK := Lib.hid hyk
        clear hxk hyk
        by_cases hxy : x = y
        · subst hxy
          have HE2 := Lib.hid (show a.take (k + 1) = b.take (k + 1) from by rw [List.take_add_one, List.take_add_one, HXK.out, HYK.out, HE.out])
          go_wp2_with fail
          go_quiet (fail)
          go_wp2_with fail
          exact ⟨⟨k + 1, by go_num, by omega, by omega, HE2, hd.drewN _⟩, by simp [intOf]; omega⟩
        · have HNE := Lib.hid (show decide (a = b) = false from decide_eq_false (fun e => by
            have h3 := HXK.out
            rw [e, HYK.out] at h3
            injection h3 with h3
            exact hxy h3.symm))
          have hxy2 : (x == y) = false := by simpa using hxy
          go_wp2_with fail
          go_quiet (fail)
          go_wp2_with fail
          go_ret
          exact ⟨by rw [HNE.out]; rfl, hd.drewN _⟩
      · have hlm2 : decide (k < m) = false := by simp; omega
        have hnm : ((n : Int) == (m : Int)) = false := by
          have : (n : Int) ≠ (m : Int) := by omega
          simpa using this
        have HNE := Lib.hid (show decide (a = b) = false from decide_eq_false (fun e => by
          have h3 := HN.out
          rw [e, HM.out] at h3
          omega))
        go_wp2_with fail
        go_ret
        exact ⟨by rw [HNE.out]; rfl, hd⟩
    · obtain rfl : k = n := by omega
      by_cases hnm : k = m
      · subst hnm
        have HNE := Lib.hid (show decide (a = b) = true from decide_eq_true (by
          have h3 := HE.out
          rwa [List.take_of_length_le (by rw [HN.out]; exact Nat.le_refl _), List.take_of_length_le (by rw [HM.out]; exact Nat.le_refl _)] at h3))
        go_wp2_with fail
        go_ret
        exact ⟨by rw [HNE.out]; rfl, hd⟩
      · have hnm2 : ((k : Int) == (m : Int)) = false := by
          have : (k : Int) ≠ (m : Int) := by omega
          simpa using this
        have HNE := Lib.hid (show decide (a = b) = false from decide_eq_false (fun e => by
          have h3 := HN.out
          rw [e, HM.out] at h3
          omega))
        go_wp2_with fail
        go_ret
        exact ⟨by rw [HNE.out]; rfl, hd⟩
theorem nextF_first (T : CT) (L : List Bool) (a : Nat) (ahead : List Nat) : nextF T L a false ahead true = (((getF T L a false).1, (getF T L a false).2.1), (a + (getF T L a false).2.2.1, (getF T L a false).2.2.2)) := by
  unfold nextF gamR
  simp only [if_true]
  rw [if_neg (by simp)]
  simp
theorem nextF_bad (T : CT) (L : List Bool) (a g a2 : Nat) (bad2 : Bool) (ahead : List Nat) (h : rGam L a false = (g, a2, bad2)) (hb : bad2 = true ∨ (ahead.length : Int) < (g : Int) - 1) : (nextF T L a false ahead false).1.2 = 4 := by
  unfold nextF gamR
  rw [h]
  simp only [Bool.false_eq_true, if_false]
  rw [if_pos hb]
theorem nextF_go (T : CT) (L : List Bool) (a g a2 : Nat) (bad2 : Bool) (ahead : List Nat) (h : rGam L a false = (g, a2, bad2)) (hb : bad2 = false) (hg : ¬ (ahead.length : Int) < (g : Int) - 1) : nextF T L a false ahead false = ((ahead.take ((g : Int) - 1).toNat ++ (getF T L a2 false).1, (getF T L a2 false).2.1), (a2 + (getF T L a2 false).2.2.1, (getF T L a2 false).2.2.2)) := by
  unfold nextF gamR
  rw [h]
  subst hb
  simp only [Bool.false_eq_true, if_false]
  rw [if_neg (by simp only [false_or]; exact hg)]
theorem lastT {ts : List ByteArray} {k : Nat} {t : ByteArray} (hl : ts.length = k + 1) (h : ts[k]? = some t) : (ts.map txt).getLastD [] = txt t := by
  rw [List.getLastD_eq_getLast?, List.getLast?_eq_getElem?, List.length_map, hl, Nat.add_sub_cancel, List.getElem?_map, h]
  rfl
/-- What the document's Read leaves. -/
def RfreadP (w : World) (T : CT) (L : List Bool) (n : Nat) (e : Ending) (w' : World) : Prop := Kp [] w w' ∧ ((readT T L n = none ∧ e = .returned (.tuple #[.pointer none, .int .i64 4])) ∨
  (∃ (ts : List ByteArray) (f : Nat) (At Ab As : Option Addr) (ct cb cs n' N' m' : Nat), readT T L n = some ts ∧ e = .returned (.tuple #[.pointer (some ⟨f, 0, none⟩), .int .i64 0]) ∧ RfM w' w.heap.size w'.heap.size f T ts At Ab As ct cb cs n' N' m'))
theorem RfM.low {w : World} {lo lo' hi f ct cb cs n N m : Nat} {T : CT} {ss : List ByteArray} {At Ab As : Option Addr} (h : RfM w lo hi f T ss At Ab As ct cb cs n N m) (hl : lo' ≤ lo) : RfM w lo' hi f T ss At Ab As ct cb cs n N m :=
  ⟨h.blk, h.rt, h.rb, h.rs, ⟨Nat.le_trans hl h.bf.1, h.bf.2⟩, fun ad e => Nat.le_trans hl (h.bt ad e), fun ad e => Nat.le_trans hl (h.bb ad e), fun ad e => Nat.le_trans hl (h.bs ad e), h.nt, h.nb, h.ns, h.hcb, h.ob, fun g hg => ⟨Nat.le_trans hl (h.og g hg).1, (h.og g hg).2⟩⟩
set_option maxRecDepth 100000 in
set_option maxHeartbeats 4000000 in
theorem rfread_any (lo hi p n N cA : Nat) (A0 : Option Addr) (T : CT) (sg : List Nat) (ls : List Int) (L : List Bool) (w : World) (h : RCode w lo hi p T sg ls) (hx : Rd w w.heap.size A0 (L.map .bool)) (hN : L.length = N) (hc : N ≤ cA) (hN24 : N ≤ 16777216) (hall : ∀ k ts a, k ≤ n → readK T L k = some (ts, a) → ReadB T L k ts a) (hn : n ≤ 1000000000) (hhi : hi ≤ w.heap.size) :
    Calls Tryz.prog 19 #[.pointer (some ⟨p, 0, none⟩), .int .i64 (n : Int), .slice A0 N cA] w (RfreadP w T L n) := by
  obtain ⟨i0, hi0, hz0, hz1, hz2⟩ := info_parts Tryz.info_str17
  have H := Lib.hid h; clear h
  have HX := Lib.hid hx; clear hx
  have HN := Lib.hid hN; clear hN
  have HHI := Lib.hid hhi; clear hhi
  have HALL := Lib.hid hall; clear hall
  have hn0 : decide ((n : Int) < 0) = false := by simp
  go_enter Tryz.func19, Tryz.ntmps19
  go_wp2_with fail
  obtain ⟨wB, hwB⟩ : ∃ wB, wB = w.alloc (.cells #[.slice A0 N cA, .int .i64 0, .bool false] 107) := ⟨_, rfl⟩
  obtain ⟨rb, hrb⟩ : ∃ rb, rb = w.heap.size := ⟨_, rfl⟩
  rw [← hwB, ← hrb]
  have hkB : Kp [] w wB := by rw [hwB]; exact (Kp.refl [] w).alloc _
  have HRR := Lib.hid (show RrM wB rb A0 N cA 0 false from by rw [hwB, hrb]; exact Blk.new w 107 [.slice A0 N cA, .int .i64 0, .bool false])
  have HK := Lib.hid hkB
  have HBS := Lib.hid (show wB.heap.size = rb + 1 from by rw [hwB, hrb]; simp)
  have HRB := Lib.hid hrb
  clear hwB hkB hrb
  go_loopw [9, 10] (fun v x wr => ∃ (k a c : Nat) (A : Option Addr) (ts : List ByteArray), v = .slice A k c ∧ x = .int .i64 (k : Int) ∧ k ≤ n ∧ Hid (readK T L k = some (ts, a)) ∧ Hid (wr.ownsRow (rb + 1) 9 1 (.slice A k c) k (ts.map .string)) ∧ Hid (RrM wr rb A0 N cA a false) ∧ Hid (Kp [] w wr)) (fun _ x _ => n - (intOf x).toNat)
  case atStart => exact ⟨0, 0, 0, none, [], rfl, rfl, by omega, Lib.hid rfl, Lib.hid (World.ownsRow_nil _ _ _ 1), HRR, HK⟩
  case round =>
    clear HRR HK
    obtain ⟨k, a, c, A, ts, rfl, rfl, hk, HRK, HO, HRR, HK⟩ := hrel
    have HOK := Lib.hid (HALL.out _ _ _ hk HRK.out)
    have hkb : k ≤ 30000 := HOK.out.kb
    have haN : a ≤ N := by have := HOK.out.le; rw [HN.out] at this; exact this
    by_cases hlt : k < n
    · have hltI : (k : Int) < (n : Int) := by omega
      obtain ⟨rm, hrm⟩ : ∃ rm, rm = k % 8 := ⟨_, rfl⟩
      have HRM := Lib.hid hrm
      have htm : Int.tmod (k : Int) 8 = (rm : Int) := by rw [Int.tmod_eq_emod_of_nonneg (by omega)]; omega
      clear hrm
      by_cases hz : rm = 0
      · have htm0 : Int.tmod (k : Int) 8 = 0 := by rw [htm, hz]; rfl
        have HRN := Lib.hid (show readK T L (k + 1) = if (getF T L a false).2.1 = 0 then some (ts ++ [strN (getF T L a false).1], a + (getF T L a false).2.2.1) else none from by
          rw [readK, HRK.out]
          simp only
          rw [show decide (k % 8 = 0) = true from by simp; have := HRM.out; omega, nextF_first])
        clear htm
        go_wp2_with fail
        refine (rget6_any lo hi p rb N cA a _ A0 false L T sg ls wr (H.out.kp0 HK.out) HRR.out (HX.out.kp0 HK.out) HN.out hc haN hN24 (by rw [HRB.out]; exact Nat.le_refl _) (by rw [HRB.out]; exact HHI.out)).mono ?_
        intro e w5 hp
        have HBK := Lib.hid (fun h => getF_back H.out.1 (L := L) (a := a) (by rw [HN.out]; exact haN) h)
        have HOL := Lib.hid (getF_out T L a)
        obtain ⟨F, hF⟩ : ∃ F, F = getF T L a false := ⟨_, rfl⟩
        rw [← hF] at hp HRN HBK HOL
        clear hF
        obtain ⟨ob, er, na, bad5⟩ := F
        unfold RGetP at hp
        dsimp only at hp HRN HBK HOL
        obtain ⟨rfl, hr5, hk5⟩ := hp
        have HKX := Lib.hid ((Kp.refl [rb] wr).trans hk5)
        by_cases her : er = 0
        · subst her
          obtain ⟨_, _, _, _, _, hbad, _⟩ := HBK.out rfl
          subst hbad
          have HRX := Lib.hid hr5
          clear hr5 hk5 HBK
          obtain ⟨st, hst⟩ : ∃ st, st = strN ob := ⟨_, rfl⟩
          have HST := Lib.hid hst
          rw [← hst]
          clear hst
          rw [← HST.out] at HRN
          clear htm0
          have HRN5 := Lib.hid (show readK T L (k + 1) = some (ts ++ [st], (a + na)) from by rw [HRN.out]; simp)
          have HO5 := Lib.hid (own_kp HO.out HKX.out (fun g hg hm => by have h1 := (own_ge HO.out hg).1; have h2 := List.mem_singleton.1 hm; omega))
          have HSZ5 := Lib.hid (show rb + 1 ≤ w5.heap.size from Nat.le_trans (Blk.lt HRR.out) HKX.out.size)
          have HK5 := Lib.hid (HK.out.trans' HKX.out (fun x hx => .inr (by rw [List.mem_singleton.1 hx, HRB.out]; exact Nat.le_refl _)))
          clear HRR HK HO
          go_wp2_with (at_builtin; go_loud (refine wpList_append_rd rfl (.tmp 65) (.tmp 67) 22 rfl (rb + 1) 9 i0 (.string ⟨#[]⟩) 1 16 Tryz.underlying22 hi0 hz0 hz1 hz2 rfl (by decide) (.slice A k c) (k) _ rfl (own_kp0 HO5.out ((Kp.refl [] _).alloc _)) _ _ 1 1 [.string st] rfl rfl (Rd.new w5 #[.string st] 9 (0, 0)) (by intro u hu; simp at hu; subst hu; rfl) (by unfold maxLen; omega) (by omega) (by have := HSZ5.out; simp; omega) ?_); intro v3 w3 hown3 hgrow3 hat3; obtain ⟨hka3, hga3⟩ := app_facts hgrow3 hat3; obtain ⟨A3', c3', rfl, _⟩ := own_form hown3)
          have HO3 := Lib.hid (show w3.ownsRow (rb + 1) 9 1 (.slice A3' (k + 1) c3') (k + 1) ((ts ++ [st]).map .string) from by rw [List.map_append]; exact hown3)
          have HR3 := Lib.hid (HRX.out.kp hka3 (fun hm => by have h1 := (own_ge HO5.out (mem_ownL.1 hm)).1; omega))
          have HK3 := Lib.hid (HK5.out.trans' hka3 (fun x hx => .inr (by have h1 := (own_ge HO5.out (mem_ownL.1 hx)).1; have h2 := HRB.out; omega)))
          exact ⟨⟨k + 1, (a + na), c3', A3', ts ++ [st], rfl, by go_num, by omega, HRN5, HO3, HR3, HK3⟩, by simp [intOf]; omega⟩
        · have hez : (er == 0) = false := by simpa using her
          have HNO := Lib.hid (show readT T L n = none from by
            have h1 : readK T L (k + 1) = none := by rw [HRN.out, if_neg her]
            unfold readT
            rw [readK_mono h1 (by omega)]
            rfl)
          have HK5 := Lib.hid (HK.out.trans' HKX.out (fun x hx => .inr (by rw [List.mem_singleton.1 hx, HRB.out]; exact Nat.le_refl _)))
          clear her hr5 hk5 HBK
          go_wp2_with fail
          go_ret2
          exact ⟨HK5.out, .inl ⟨HNO.out, rfl⟩⟩
      · have hrm0 : 0 < rm := by omega
        obtain ⟨j, hj⟩ : ∃ j, k = j + 1 := ⟨k - 1, by have := HRM.out; omega⟩
        have HJ := Lib.hid hj
        have hkj : (k : Int) - 1 = (j : Int) := by omega
        have hfd : decide (k % 8 = 0) = false := by simp; have := HRM.out; omega
        have HFD := Lib.hid hfd
        have hj0 : (0 : Int) ≤ (j : Int) := by omega
        have hj1 : (j : Int) < (k : Int) := by omega
        clear hfd hj
        go_wp2_with fail
        refine (rrgam_any rb N cA a _ A0 false L wr HRR.out (HX.out.kp0 HK.out) HN.out hc haN hN24 (by rw [HRB.out]; exact Nat.le_refl _)).mono ?_
        rintro e w2 ⟨rfl, hr2, hk2⟩
        obtain ⟨g, hg⟩ : ∃ g, g = (rGam L a false).1 := ⟨_, rfl⟩
        obtain ⟨a2, ha2⟩ : ∃ a2, a2 = (rGam L a false).2.1 := ⟨_, rfl⟩
        obtain ⟨bad2, hb2⟩ : ∃ bad2, bad2 = (rGam L a false).2.2 := ⟨_, rfl⟩
        have GR := Lib.hid (show rGam L a false = (g, a2, bad2) from by rw [hg, ha2, hb2])
        have ha2N : a2 ≤ N := by rw [ha2, ← HN.out]; exact rGam_le (by rw [HN.out]; exact haN)
        have hgb : g ≤ 2305843009213693952 := by
          rw [hg]
          unfold rGam
          split
          · simp
          · split
            · simp
            · rename_i h1 h2
              have h3 := valL_lt ((L.drop (a + zer (L.drop a))).take (zer (L.drop a) + 1))
              have h4 : ((L.drop (a + zer (L.drop a))).take (zer (L.drop a) + 1)).length ≤ 60 := by rw [List.length_take]; omega
              have h5 := Nat.pow_le_pow_right (show 1 ≤ 2 by omega) h4
              have h6 : (2 : Nat) ^ 60 ≤ 2305843009213693952 := by decide
              simp only
              omega
        rw [← hg]
        rw [← ha2, ← hb2] at hr2
        have HR2 := Lib.hid hr2
        have HK2 := Lib.hid hk2
        have hxr : ∀ x, (Value.slice A k c).ownBlock = some x → x ∉ [rb] := fun x hx hm => by have h1 := (own_ge HO.out hx).1; have h2 := List.mem_singleton.1 hm; omega
        have HO2 := Lib.hid (own_kp HO.out hk2 hxr)
        have HKW := Lib.hid (HK.out.trans' hk2 (fun x hx => .inr (by rw [List.mem_singleton.1 hx, HRB.out]; exact Nat.le_refl _)))
        obtain ⟨hb0, hb1, hb2'⟩ := hr2.cells
        obtain ⟨t, ad, ht, rfl, _, hct⟩ := (own_rd HO2.out).str (k := j) (by rw [HOK.out.len, HJ.out]; omega)
        have htz : t.size ≤ 30000 := HOK.out.sz t (List.mem_of_getElem? ht)
        have HLT := Lib.hid (show (ts.map txt).getLastD [] = txt t from lastT (by rw [HOK.out.len, HJ.out]) ht)
        have HNX := Lib.hid (show readK T L (k + 1) = if (nextF T L a false (txt t) false).1.2 = 0 then some (ts ++ [strN (nextF T L a false (txt t) false).1.1], (nextF T L a false (txt t) false).2.1) else none from by rw [readK, HRK.out]; simp only; rw [HFD.out, HLT.out])
        clear hg ha2 hb2 hr2 hk2 hxr ht hb0 hb1
        cases bad2 with
        | true =>
          have HNO := Lib.hid (show readT T L n = none from by
            have h1 : readK T L (k + 1) = none := by
              rw [HNX.out, if_neg (by rw [nextF_bad T L a g a2 true (txt t) GR.out (.inl rfl)]; decide)]
            unfold readT
            rw [readK_mono h1 (by omega)]
            rfl)
          go_wp2_with fail
          go_ret2
          exact ⟨HKW.out, .inl ⟨HNO.out, rfl⟩⟩
        | false =>
          rcases g with _ | K
          · have hq : decide ((t.size : Int) < -1) = false := decide_eq_false (by omega)
            have HRN := Lib.hid (show readK T L (k + 1) = if (getF T L a2 false).2.1 = 0 then some (ts ++ [strN ((txt t).take 0 ++ (getF T L a2 false).1)], a2 + (getF T L a2 false).2.2.1) else none from by
              rw [HNX.out, nextF_go T L a 0 a2 false (txt t) GR.out rfl (by rw [txt_len]; omega), show (((0 : Nat) : Int) - 1).toNat = 0 from by omega])
            clear HNX
            go_wp2_with fail
            refine (rget6_any lo hi p rb N cA a2 _ A0 false L T sg ls w2 (H.out.kp0 HKW.out) HR2.out (HX.out.kp0 HKW.out) HN.out hc ha2N hN24 (by rw [HRB.out]; exact Nat.le_refl _) (by rw [HRB.out]; exact HHI.out)).mono ?_
            intro e w5 hp
            have HBK := Lib.hid (fun h => getF_back H.out.1 (L := L) (a := a2) (by rw [HN.out]; exact ha2N) h)
            have HOL := Lib.hid (getF_out T L a2)
            obtain ⟨F, hF⟩ : ∃ F, F = getF T L a2 false := ⟨_, rfl⟩
            rw [← hF] at hp HRN HBK HOL
            clear hF
            obtain ⟨ob, er, na, bad5⟩ := F
            unfold RGetP at hp
            dsimp only at hp HRN HBK HOL
            obtain ⟨rfl, hr5, hk5⟩ := hp
            have HKX := Lib.hid (HK2.out.trans hk5)
            by_cases her : er = 0
            · subst her
              obtain ⟨_, _, _, _, _, hbad, _⟩ := HBK.out rfl
              subst hbad
              have HRX := Lib.hid hr5
              clear hr5 hk5 HBK
              obtain ⟨st, hst⟩ : ∃ st, st = strN ob := ⟨_, rfl⟩
              have HST := Lib.hid hst
              rw [← hst]
              clear hst
              rw [List.take_zero, List.nil_append, ← HST.out] at HRN
              clear hct hb2'
              have HRN5 := Lib.hid (show readK T L (k + 1) = some (ts ++ [st], (a2 + na)) from by rw [HRN.out]; simp)
              have HO5 := Lib.hid (own_kp HO.out HKX.out (fun g hg hm => by have h1 := (own_ge HO.out hg).1; have h2 := List.mem_singleton.1 hm; omega))
              have HSZ5 := Lib.hid (show rb + 1 ≤ w5.heap.size from Nat.le_trans (Blk.lt HRR.out) HKX.out.size)
              have HK5 := Lib.hid (HK.out.trans' HKX.out (fun x hx => .inr (by rw [List.mem_singleton.1 hx, HRB.out]; exact Nat.le_refl _)))
              clear HRR HK HO
              go_wp2_with (at_builtin; go_loud (refine wpList_append_rd rfl (.tmp 65) (.tmp 67) 22 rfl (rb + 1) 9 i0 (.string ⟨#[]⟩) 1 16 Tryz.underlying22 hi0 hz0 hz1 hz2 rfl (by decide) (.slice (some ad) k c) (k) _ rfl (own_kp0 HO5.out ((Kp.refl [] _).alloc _)) _ _ 1 1 [.string st] rfl rfl (Rd.new w5 #[.string st] 9 (0, 0)) (by intro u hu; simp at hu; subst hu; rfl) (by unfold maxLen; omega) (by omega) (by have := HSZ5.out; simp; omega) ?_); intro v3 w3 hown3 hgrow3 hat3; obtain ⟨hka3, hga3⟩ := app_facts hgrow3 hat3; obtain ⟨A3', c3', rfl, _⟩ := own_form hown3)
              have HO3 := Lib.hid (show w3.ownsRow (rb + 1) 9 1 (.slice A3' (k + 1) c3') (k + 1) ((ts ++ [st]).map .string) from by rw [List.map_append]; exact hown3)
              have HR3 := Lib.hid (HRX.out.kp hka3 (fun hm => by have h1 := (own_ge HO5.out (mem_ownL.1 hm)).1; omega))
              have HK3 := Lib.hid (HK5.out.trans' hka3 (fun x hx => .inr (by have h1 := (own_ge HO5.out (mem_ownL.1 hx)).1; have h2 := HRB.out; omega)))
              exact ⟨⟨k + 1, (a2 + na), c3', A3', ts ++ [st], rfl, by go_num, by omega, HRN5, HO3, HR3, HK3⟩, by simp [intOf]; omega⟩
            · have hez : (er == 0) = false := by simpa using her
              have HNO := Lib.hid (show readT T L n = none from by
                have h1 : readK T L (k + 1) = none := by rw [HRN.out, if_neg her]
                unfold readT
                rw [readK_mono h1 (by omega)]
                rfl)
              have HK5 := Lib.hid (HK.out.trans' HKX.out (fun x hx => .inr (by rw [List.mem_singleton.1 hx, HRB.out]; exact Nat.le_refl _)))
              clear her hr5 hk5 HBK
              go_wp2_with fail
              go_ret2
              exact ⟨HK5.out, .inl ⟨HNO.out, rfl⟩⟩
          · by_cases hbig : t.size < K
            · have hq : (t.size : Int) < (K : Int) := by omega
              have HWY := Lib.hid (show ((txt t).length : Int) < ((K + 1 : Nat) : Int) - 1 from by rw [txt_len]; omega)
              have HNO := Lib.hid (show readT T L n = none from by
                have h1 : readK T L (k + 1) = none := by
                  rw [HNX.out, if_neg (by rw [nextF_bad T L a (K + 1) a2 false (txt t) GR.out (.inr HWY.out)]; decide)]
                unfold readT
                rw [readK_mono h1 (by omega)]
                rfl)
              go_wp2_with fail
              go_ret2
              exact ⟨HKW.out, .inl ⟨HNO.out, rfl⟩⟩
            · have hq : decide (t.size < K) = false := by simp; omega
              have HRN := Lib.hid (show readK T L (k + 1) = if (getF T L a2 false).2.1 = 0 then some (ts ++ [strN ((txt t).take K ++ (getF T L a2 false).1)], a2 + (getF T L a2 false).2.2.1) else none from by
                rw [HNX.out, nextF_go T L a (K + 1) a2 false (txt t) GR.out rfl (by rw [txt_len]; omega), show ((((K + 1) : Nat) : Int) - 1).toNat = K from by omega])
              clear HNX
              go_wp2_with fail
              refine (rget6_any lo hi p rb N cA a2 _ A0 false L T sg ls w2 (H.out.kp0 HKW.out) HR2.out (HX.out.kp0 HKW.out) HN.out hc ha2N hN24 (by rw [HRB.out]; exact Nat.le_refl _) (by rw [HRB.out]; exact HHI.out)).mono ?_
              intro e w5 hp
              have HBK := Lib.hid (fun h => getF_back H.out.1 (L := L) (a := a2) (by rw [HN.out]; exact ha2N) h)
              have HOL := Lib.hid (getF_out T L a2)
              obtain ⟨F, hF⟩ : ∃ F, F = getF T L a2 false := ⟨_, rfl⟩
              rw [← hF] at hp HRN HBK HOL
              clear hF
              obtain ⟨ob, er, na, bad5⟩ := F
              unfold RGetP at hp
              dsimp only at hp HRN HBK HOL
              obtain ⟨rfl, hr5, hk5⟩ := hp
              have HKX := Lib.hid (HK2.out.trans hk5)
              by_cases her : er = 0
              · subst her
                obtain ⟨_, _, _, _, _, hbad, _⟩ := HBK.out rfl
                subst hbad
                have HRX := Lib.hid hr5
                clear hr5 hk5 HBK
                obtain ⟨st, hst⟩ : ∃ st, st = strN ob := ⟨_, rfl⟩
                have HST := Lib.hid hst
                rw [← hst]
                clear hst
                clear hct hb2'
                by_cases hK0 : K = 0
                · subst hK0
                  rw [List.take_zero, List.nil_append, ← HST.out] at HRN
                  have HRN5 := Lib.hid (show readK T L (k + 1) = some (ts ++ [st], (a2 + na)) from by rw [HRN.out]; simp)
                  have HO5 := Lib.hid (own_kp HO.out HKX.out (fun g hg hm => by have h1 := (own_ge HO.out hg).1; have h2 := List.mem_singleton.1 hm; omega))
                  have HSZ5 := Lib.hid (show rb + 1 ≤ w5.heap.size from Nat.le_trans (Blk.lt HRR.out) HKX.out.size)
                  have HK5 := Lib.hid (HK.out.trans' HKX.out (fun x hx => .inr (by rw [List.mem_singleton.1 hx, HRB.out]; exact Nat.le_refl _)))
                  clear HRR HK HO
                  go_wp2_with (at_builtin; go_loud (refine wpList_append_rd rfl (.tmp 65) (.tmp 67) 22 rfl (rb + 1) 9 i0 (.string ⟨#[]⟩) 1 16 Tryz.underlying22 hi0 hz0 hz1 hz2 rfl (by decide) (.slice (some ad) k c) (k) _ rfl (own_kp0 HO5.out ((Kp.refl [] _).alloc _)) _ _ 1 1 [.string st] rfl rfl (Rd.new w5 #[.string st] 9 (0, 0)) (by intro u hu; simp at hu; subst hu; rfl) (by unfold maxLen; omega) (by omega) (by have := HSZ5.out; simp; omega) ?_); intro v3 w3 hown3 hgrow3 hat3; obtain ⟨hka3, hga3⟩ := app_facts hgrow3 hat3; obtain ⟨A3', c3', rfl, _⟩ := own_form hown3)
                  have HO3 := Lib.hid (show w3.ownsRow (rb + 1) 9 1 (.slice A3' (k + 1) c3') (k + 1) ((ts ++ [st]).map .string) from by rw [List.map_append]; exact hown3)
                  have HR3 := Lib.hid (HRX.out.kp hka3 (fun hm => by have h1 := (own_ge HO5.out (mem_ownL.1 hm)).1; omega))
                  have HK3 := Lib.hid (HK5.out.trans' hka3 (fun x hx => .inr (by have h1 := (own_ge HO5.out (mem_ownL.1 hx)).1; have h2 := HRB.out; omega)))
                  exact ⟨⟨k + 1, (a2 + na), c3', A3', ts ++ [st], rfl, by go_num, by omega, HRN5, HO3, HR3, HK3⟩, by simp [intOf]; omega⟩
                · obtain ⟨t', ad', ht', e', _, hct⟩ := (own_rd (own_kp HO.out HKX.out (fun g hg hm => by have h1 := (own_ge HO.out hg).1; have h2 := List.mem_singleton.1 hm; omega))).str (k := j) (by rw [HOK.out.len, HJ.out]; omega)
                  injection e' with e'
                  subst e'
                  have htt : t' = t := by
                    have h1 := HLT.out
                    rw [lastT (by rw [HOK.out.len, HJ.out]) ht'] at h1
                    exact txt_inj h1
                  subst htt
                  have hKp : 0 < K := by omega
                  have hKi : (K : Int) ≤ (t'.size : Int) := by omega
                  have hKi0 : (0 : Int) ≤ (K : Int) := by omega
                  have HSS := Lib.hid (show t'.extract 0 K ++ st = strN ((txt t').take K ++ ob) from by
                    rw [strN_app, HST.out, strN_of (show txt (t'.extract 0 K) = (txt t').take K from by rw [txt_extract, List.drop_zero, Nat.sub_zero])])
                  rw [← HSS.out] at HRN
                  have hsz : st.size ≤ 16777216 := by rw [HST.out, strN_size]; have := HOL.out; have := HN.out; omega
                  have hex : (t'.extract 0 K).size ≤ 1000000 := by
                    rw [← txt_len, txt_extract, List.length_take]
                    have := txt_len t'
                    rw [List.drop_zero]
                    omega
                  clear ht'
                  have HRN5 := Lib.hid (show readK T L (k + 1) = some (ts ++ [(t'.extract 0 K ++ st)], (a2 + na)) from by rw [HRN.out]; simp)
                  have HO5 := Lib.hid (own_kp HO.out HKX.out (fun g hg hm => by have h1 := (own_ge HO.out hg).1; have h2 := List.mem_singleton.1 hm; omega))
                  have HSZ5 := Lib.hid (show rb + 1 ≤ w5.heap.size from Nat.le_trans (Blk.lt HRR.out) HKX.out.size)
                  have HK5 := Lib.hid (HK.out.trans' HKX.out (fun x hx => .inr (by rw [List.mem_singleton.1 hx, HRB.out]; exact Nat.le_refl _)))
                  clear HRR HK HO
                  go_wp2_with (at_builtin; go_loud (refine wpList_append_rd rfl (.tmp 65) (.tmp 67) 22 rfl (rb + 1) 9 i0 (.string ⟨#[]⟩) 1 16 Tryz.underlying22 hi0 hz0 hz1 hz2 rfl (by decide) (.slice (some ad) k c) (k) _ rfl (own_kp0 HO5.out ((Kp.refl [] _).alloc _)) _ _ 1 1 [.string (t'.extract 0 K ++ st)] rfl rfl (Rd.new w5 #[.string (t'.extract 0 K ++ st)] 9 (0, 0)) (by intro u hu; simp at hu; subst hu; rfl) (by unfold maxLen; omega) (by omega) (by have := HSZ5.out; simp; omega) ?_); intro v3 w3 hown3 hgrow3 hat3; obtain ⟨hka3, hga3⟩ := app_facts hgrow3 hat3; obtain ⟨A3', c3', rfl, _⟩ := own_form hown3)
                  have HO3 := Lib.hid (show w3.ownsRow (rb + 1) 9 1 (.slice A3' (k + 1) c3') (k + 1) ((ts ++ [(t'.extract 0 K ++ st)]).map .string) from by rw [List.map_append]; exact hown3)
                  have HR3 := Lib.hid (HRX.out.kp hka3 (fun hm => by have h1 := (own_ge HO5.out (mem_ownL.1 hm)).1; omega))
                  have HK3 := Lib.hid (HK5.out.trans' hka3 (fun x hx => .inr (by have h1 := (own_ge HO5.out (mem_ownL.1 hx)).1; have h2 := HRB.out; omega)))
                  exact ⟨⟨k + 1, (a2 + na), c3', A3', ts ++ [(t'.extract 0 K ++ st)], rfl, by go_num, by omega, HRN5, HO3, HR3, HK3⟩, by simp [intOf]; omega⟩
              · have hez : (er == 0) = false := by simpa using her
                have HNO := Lib.hid (show readT T L n = none from by
                  have h1 : readK T L (k + 1) = none := by rw [HRN.out, if_neg her]
                  unfold readT
                  rw [readK_mono h1 (by omega)]
                  rfl)
                have HK5 := Lib.hid (HK.out.trans' HKX.out (fun x hx => .inr (by rw [List.mem_singleton.1 hx, HRB.out]; exact Nat.le_refl _)))
                clear her hr5 hk5 HBK
                go_wp2_with fail
                go_ret2
                exact ⟨HK5.out, .inl ⟨HNO.out, rfl⟩⟩
    · obtain rfl : k = n := by omega
      have HRD := Lib.hid (own_rd HO.out)
      have HLN := Lib.hid HOK.out.len
      have HCR := Lib.hid (H.out.kp0 HK.out)
      go_wp2_with fail
      refine (rfof_any lo hi p k c _ A ts T sg ls wr HCR.out HRD.out HLN.out hkb HOK.out.sz HOK.out.fb).mono ?_
      rintro e w6 ⟨hk6, ⟨hr6, rfl⟩ | ⟨_, ⟨s, hs, hno⟩, _⟩ | ⟨hr6, _, f, At, Ab, As, ct, cb, cs, n', N', m', rfl, hrf⟩⟩
      · have HNO := Lib.hid (show readT T L k = none from by unfold readT; rw [HRK.out]; simp [hr6])
        have HK6 := Lib.hid (HK.out.trans hk6)
        clear hr6 hk6
        go_wp2_with fail
        go_ret2
        exact ⟨HK6.out, .inl ⟨HNO.out, rfl⟩⟩
      · obtain ⟨r, hr⟩ := HOK.out.en s hs
        rw [hr] at hno
        cases hno
      · have HR6 := Lib.hid hr6
        have HK6 := Lib.hid (HK.out.trans hk6)
        have HRF := Lib.hid hrf
        have HLW := Lib.hid (show w.heap.size ≤ wr.heap.size from HK.out.size)
        have hc1 : w6.cell? ⟨f, 1, none⟩ = some (.slice Ab N' cb) := hrf.cells.2.1
        have hN'b : N' ≤ 1000000000 := by
          rw [← hrf.nb]
          have h1 := HOK.out.fb ts.length
          rw [List.take_of_length_le (Nat.le_refl _)] at h1
          omega
        clear hr6 hk6 hrf
        go_wp2_with fail
        refine (rsame_any Ab A0 N' N cb cA _ _ (frontB T ts) L w6 HRF.out.rb (HX.out.kp0 HK6.out) HRF.out.nb HN.out hN'b).mono ?_
        obtain ⟨D, hD⟩ : ∃ D, decide (frontB T ts = L) = D := ⟨_, rfl⟩
        rw [hD]
        rintro e w7 ⟨rfl, hd7⟩
        have HK7 := Lib.hid (HK6.out.trans (hd7.kp []))
        have HF7 := Lib.hid (show RfM w7 w.heap.size w7.heap.size f T ts At Ab As ct cb cs n' N' m' from by
          have h1 := (HRF.out.kp0 (hd7.kp [])).low HLW.out
          rwa [show w6.heap.size = w7.heap.size from hd7.size.symm] at h1)
        clear hd7 hc1
        cases D with
        | false =>
          have HNO := Lib.hid (show readT T L k = none from by
            unfold readT
            rw [HRK.out]
            have h1 : ¬ frontB T ts = L := of_decide_eq_false hD
            simp [h1])
          clear hD
          go_wp2_with fail
          go_ret2
          exact ⟨HK7.out, .inl ⟨HNO.out, rfl⟩⟩
        | true =>
          have HYES := Lib.hid (show readT T L k = some ts from by
            unfold readT
            rw [HRK.out]
            have h1 : frontB T ts = L := of_decide_eq_true hD
            simp [h1, HR6.out])
          clear hD
          go_wp2_with fail
          go_ret2
          exact ⟨HK7.out, .inr ⟨ts, f, At, Ab, As, ct, cb, cs, n', N', m', HYES.out, rfl, HF7.out⟩⟩
end Go.Proofs.YtlaionhlejmjdaaGreatDoor
