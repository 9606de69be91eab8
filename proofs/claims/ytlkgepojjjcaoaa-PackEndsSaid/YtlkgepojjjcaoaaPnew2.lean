/-
  THE CONTRACTS OF LAYER 2, fourth part: New.
  CONDITIONS: numbers of 64 bits; rows of at most 10^9 numbers.
-/
import Derived.Test.YtlkgepojjjcaoaaPnew
namespace Go.Proofs.Ytlkgepojjjcaoaa
open Go.RowKit

/-- Numbers side by side, as one number. -/
def packN (wd : Nat) : List Nat → Nat
  | [] => 0
  | x :: l => x + 2 ^ wd * packN wd l
theorem packN_snoc (wd : Nat) : ∀ (l : List Nat) (x : Nat), packN wd (l ++ [x]) = packN wd l + x * 2 ^ (wd * l.length)
  | [], x => by show x + 2 ^ wd * 0 = 0 + x * 2 ^ (wd * 0); simp
  | y :: l, x => by
    show y + 2 ^ wd * packN wd (l ++ [x]) = y + 2 ^ wd * packN wd l + x * 2 ^ (wd * (l.length + 1))
    rw [packN_snoc, Nat.mul_add, Nat.mul_add wd, Nat.mul_one, Nat.pow_add]
    have : 2 ^ wd * (x * 2 ^ (wd * l.length)) = x * (2 ^ (wd * l.length) * 2 ^ wd) := by rw [Nat.mul_comm, Nat.mul_assoc]
    omega
theorem packN_lt {wd : Nat} : ∀ {l : List Nat}, (∀ x ∈ l, x < 2 ^ wd) → packN wd l < 2 ^ (wd * l.length)
  | [], _ => by show 0 < 2 ^ (wd * 0); exact Nat.two_pow_pos _
  | x :: l, h => by
    have h1 := packN_lt (l := l) (fun y hy => h y (by simp [hy]))
    have h2 := h x (by simp)
    show x + 2 ^ wd * packN wd l < 2 ^ (wd * (l.length + 1))
    rw [Nat.mul_add, Nat.mul_one, Nat.add_comm (wd * l.length), Nat.pow_add]
    have h3 : 2 ^ wd * (packN wd l + 1) ≤ 2 ^ wd * 2 ^ (wd * l.length) := Nat.mul_le_mul_left _ h1
    rw [Nat.mul_add, Nat.mul_one] at h3
    omega
theorem packN_get {wd : Nat} : ∀ {l : List Nat} {i x : Nat}, (∀ x ∈ l, x < 2 ^ wd) → l[i]? = some x → packN wd l / 2 ^ (wd * i) % 2 ^ wd = x
  | [], i, x, _, hx => by simp at hx
  | y :: l, 0, x, h, hx => by
    simp at hx
    subst hx
    show (y + 2 ^ wd * packN wd l) / 2 ^ (wd * 0) % 2 ^ wd = y
    rw [Nat.mul_zero, Nat.pow_zero, Nat.div_one, Nat.add_mul_mod_self_left]
    exact Nat.mod_eq_of_lt (h y (by simp))
  | y :: l, i + 1, x, h, hx => by
    show (y + 2 ^ wd * packN wd l) / 2 ^ (wd * (i + 1)) % 2 ^ wd = x
    rw [Nat.mul_add, Nat.mul_one, Nat.add_comm (wd * i), Nat.pow_add, ← Nat.div_div_eq_div_mul, Nat.add_mul_div_left _ _ (Nat.two_pow_pos _), Nat.div_eq_of_lt (h y (by simp)), Nat.zero_add]
    exact packN_get (fun z hz => h z (by simp [hz])) (by simpa using hx)
theorem wideF_ge {l : List Int} : ∀ (w : Nat), w ≤ wideF w l ∧ ∀ x ∈ l, dgt x.toNat ≤ wideF w l := by
  induction l with
  | nil => intro w; exact ⟨Nat.le_refl _, fun x hx => by cases hx⟩
  | cons y l ih =>
    intro w
    have h := ih (max w (dgt y.toNat))
    show w ≤ wideF (max w (dgt y.toNat)) l ∧ _
    refine ⟨by omega, fun x hx => ?_⟩
    show _ ≤ wideF (max w (dgt y.toNat)) l
    rcases List.mem_cons.1 hx with rfl | hx
    · omega
    · exact h.2 x hx
theorem errRow_ok {wd n : Nat} (h : errRow wd n = 0) : 1 ≤ wd ∧ wd ≤ 60 ∧ wd * n ≤ 16777216 := by
  have hb : 1 ≤ wd ∧ wd ≤ 60 := by
    unfold errRow at h
    by_cases h1 : (wd : Int) < 1 ∨ 60 < (wd : Int) ∨ (n : Int) < 0
    · rw [if_pos h1] at h; cases h
    · omega
  obtain ⟨q, hq⟩ : ∃ q, q = 16777216 / wd := ⟨_, rfl⟩
  have hqi : (16777216 : Int) / (wd : Int) = (q : Int) := by rw [hq]; simp
  have hnq : n ≤ q := by
    unfold errRow at h
    rw [if_neg (by omega), hqi] at h
    by_cases h5 : (q : Int) < (n : Int)
    · rw [if_pos h5] at h; cases h
    · omega
  refine ⟨hb.1, hb.2, Nat.le_trans (Nat.mul_le_mul_left _ hnq) ?_⟩
  rw [hq]
  exact Nat.mul_div_le _ _
theorem num_zero (m : Nat) : num (List.replicate m 0) = 0 := by
  induction m with
  | zero => rfl
  | succ m ih => rw [List.replicate_succ]; show 0 + 2 ^ 64 * num _ = 0; rw [ih]
/-- Numbers that a width is enough for. -/
def fitN (wd : Int) (l : List Int) : Prop := okN l ∧ ((wideF 1 l : Nat) : Int) ≤ wd
/-- A row in memory. -/
def RowM (w : World) (b p wd : Nat) (ls : List Nat) : Prop :=
  ∃ g ws, Blk w p 63 [.slice (some ⟨g, 0, none⟩) ws.length ws.length, .int .i64 (wd : Int), .int .i64 (ls.length : Int)] ∧ Blk w g 64 (wordsV ws) ∧ (∀ x ∈ ws, x < 2 ^ 64) ∧ ws.length = (wd * ls.length + 63) / 64 ∧
    num ws = packN wd ls ∧ (∀ x ∈ ls, x < 2 ^ wd) ∧ errRow wd ls.length = 0 ∧ b ≤ p ∧ b ≤ g
open Classical in
noncomputable def newE (wd : Int) (l : List Int) : Int := if fitN wd l then errRow wd l.length else 2

open Classical in
set_option maxRecDepth 100000 in
set_option maxHeartbeats 2000000 in
theorem new_any (wd : Int) (A : Option Addr) (n c B : Nat) (l : List Int) (w : World) (hx : Rd w B A (l.map (.int .i64))) (hn : l.length = n) (hb : n ≤ 1000000000) (hs : Small l) :
    Calls Try.prog 11 #[.int .i64 wd, .slice A n c] w fun e w' => Kp [] w w' ∧ ((newE wd l ≠ 0 ∧ e = .returned (.tuple #[.pointer none, .int .i64 (newE wd l)])) ∨
      (newE wd l = 0 ∧ fitN wd l ∧ ∃ p, e = .returned (.tuple #[.pointer (some ⟨p, 0, none⟩), .int .i64 0]) ∧ RowM w' w.heap.size p wd.toNat (l.map Int.toNat))) := by
  have HX := Lib.hid hx; clear hx
  have HN := Lib.hid hn; clear hn
  have HS := Lib.hid hs; clear hs
  go_enter Try.func11, Try.ntmps11
  go_wp2_with fail
  refine (width_any A n c B l w HX.out HN.out hb HS.out).mono ?_
  rintro e w1 ⟨rfl, rfl⟩
  by_cases hok : okN l
  · rw [wideL_ok hok, wideE_ok hok]
    obtain ⟨W, hW⟩ : ∃ W, W = wideF 1 l := ⟨_, rfl⟩
    have hWb := wideF_le hok
    rw [← hW] at hWb ⊢
    by_cases hfit : (W : Int) ≤ wd
    · obtain ⟨D, rfl⟩ : ∃ D : Nat, wd = (D : Int) := ⟨wd.toNat, by omega⟩
      have HFT := Lib.hid (show fitN (D : Int) l from ⟨hok, by rw [← hW]; exact hfit⟩)
      have HE := Lib.hid (show newE (D : Int) l = errRow D n by unfold newE; rw [if_pos HFT.out, HN.out])
      clear hok hW
      by_cases he0 : errRow D n = 0
      · have HE0 := Lib.hid he0; clear he0
        go_wp2_with fail
        refine (empty_ok D n w HE0.out).mono ?_
        rintro e w2 ⟨g, p, m, rfl, hm, hg, hp, hbg, hbp, hk2⟩
        obtain ⟨hD1, hD2, hDn⟩ := errRow_ok HE0.out
        have hgp : g ≠ p := hbg.ne hbp (by decide)
        have HGP := Lib.hid (show g ≠ p ∧ w.heap.size ≤ g ∧ w.heap.size ≤ p from ⟨hgp, hg, hp⟩)
        have hlv : ∀ x ∈ l, 0 ≤ x ∧ x.toNat < 2 ^ D := fun x hx => by
          have h1 := HFT.out.1 x hx
          have h2 := (wideF_ge (l := l) 1).2 x hx
          have h3 := HFT.out.2
          have h4 := HS.out x hx
          exact ⟨h1.1, Nat.lt_of_lt_of_le (dgt_lt (by omega)) (Nat.pow_le_pow_right (by omega) (by omega))⟩
        have HLV := Lib.hid hlv; clear hlv
        have HM := Lib.hid hm
        have HDN := Lib.hid hDn
        have hmb : m ≤ 1000000 := by omega
        have HB0 := Lib.hid hbg; clear hbg
        have HP0 := Lib.hid hbp; clear hbp
        have HK := Lib.hid hk2; clear hk2
        clear hm hDn hgp hg hp
        go_wp2_with fail
        go_loopw [36] (fun x wr => ∃ (k : Nat) (ws : List Nat), x = .int .i64 (k : Int) ∧ k ≤ n ∧ Hid (Blk wr g 64 (wordsV ws)) ∧ Hid (ws.length = m) ∧ Hid (∀ x ∈ ws, x < 2 ^ 64) ∧ Hid (num ws = packN D ((l.take k).map Int.toNat)) ∧ Hid (Blk wr p 63 [.slice (some ⟨g, 0, none⟩) m m, .int .i64 (D : Int), .int .i64 (n : Int)]) ∧ Hid (Kp [] w wr)) (fun x _ => n - (intOf x).toNat)
        case atStart => exact ⟨0, List.replicate m 0, rfl, by omega, HB0, Lib.hid List.length_replicate, Lib.hid (fun x hx => by rw [List.eq_of_mem_replicate hx]; decide), Lib.hid (by rw [num_zero]; rfl), HP0, HK⟩
        case round =>
          clear HB0 HP0 HK
          obtain ⟨k, ws, rfl, hk, HB, HL, HLT, HNM, HP, HK⟩ := hrel
          by_cases hlt : k < n
          · obtain ⟨x, ad, hxk, rfl, _, hcx⟩ := (HX.out.kp0 HK.out).ix (i := k) (by have := HN.out; omega)
            have hxl := HLV.out x (List.mem_of_getElem? hxk)
            obtain ⟨X, rfl⟩ : ∃ X : Nat, x = (X : Int) := ⟨x.toNat, by omega⟩
            rw [Int.toNat_natCast] at hxl
            have hX64 : X < 2 ^ 60 := Nat.lt_of_lt_of_le hxl.2 (Nat.pow_le_pow_right (by omega) hD2)
            have hwX : IntKind.u64.wrap (X : Int) = (X : Int) := by rw [u64_wrap_nat]; omega
            obtain ⟨T, hT⟩ : ∃ T, T = k * D := ⟨_, rfl⟩
            have hkD : (k + 1) * D ≤ n * D := Nat.mul_le_mul_right _ hlt
            have hTD : T + D ≤ D * n := by rw [hT, Nat.mul_comm D n]; rw [Nat.add_mul, Nat.one_mul] at hkD; exact hkD
            have hmul : (k : Int) * (D : Int) = (T : Int) := by rw [hT]; exact (Int.natCast_mul k D).symm
            have hwT : IntKind.i64.wrap ((k : Int) * (D : Int)) = (T : Int) := by rw [hmul, IntKind.wrap_i64]; have := HDN.out; omega
            have c0 := HP.out.cell 0
            simp only [List.getElem?_cons_zero] at c0
            have hTm : T + D ≤ 64 * m := by have := HM.out; omega
            have hz : num ws < 2 ^ T := by
              rw [HNM.out]
              have h1 := packN_lt (wd := D) (l := (l.take k).map Int.toNat) (fun z hz => by
                obtain ⟨z', hz', rfl⟩ := List.mem_map.1 hz
                exact (HLV.out z' (List.mem_of_mem_take hz')).2)
              rw [List.length_map, List.length_take, Nat.min_eq_left (by rw [HN.out]; omega), Nat.mul_comm D k, ← hT] at h1
              exact h1
            have HZ := Lib.hid hz
            have HXL := Lib.hid hxl.2
            have HXK := Lib.hid hxk
            have HTT := Lib.hid hT
            clear hz hxl hxk hT hmul hkD hTD
            go_wp2_with fail
            refine (put_any g m m T D X ws wr HB.out HL.out HLT.out HZ.out HXL.out hTm hD1 hD2 (by omega)).mono ?_
            rintro e w3 ⟨ws', rfl, hb3, hl3, hlt3, hn3, hk3⟩
            have HB3 := Lib.hid hb3
            have HP3 := Lib.hid (HP.out.kp hk3 (by simp only [List.mem_singleton]; exact Ne.symm HGP.out.1))
            have HK3 := Lib.hid (HK.out.trans' hk3 (by intro z hz; simp only [List.mem_singleton] at hz; subst hz; exact .inr HGP.out.2.1))
            have HN3 := Lib.hid (show num ws' = packN D ((l.take (k + 1)).map Int.toNat) by
              rw [take_succ_of HXK.out, List.map_append, hn3, HNM.out]
              show _ = packN D ((l.take k).map Int.toNat ++ [X])
              rw [packN_snoc, List.length_map, List.length_take, Nat.min_eq_left (by rw [HN.out]; omega), Nat.mul_comm D k, ← HTT.out])
            clear hb3 hn3 hk3 HB HP HK
            go_wp2_with fail
            exact ⟨⟨k + 1, ws', by go_num, by omega, HB3, Lib.hid hl3, Lib.hid hlt3, HN3, HP3, HK3⟩, by simp [intOf]; omega⟩
          · obtain rfl : n = k := by omega
            have HROW := Lib.hid (show RowM wr w.heap.size p D (l.map Int.toNat) from by
              refine ⟨g, ws, ?_, HB.out, HLT.out, ?_, ?_, ?_, ?_, HGP.out.2.2, HGP.out.2.1⟩
              · rw [List.length_map, HN.out, HL.out]; exact HP.out
              · rw [List.length_map, HN.out, HL.out, HM.out]
              · rw [HNM.out, List.take_of_length_le (by rw [HN.out]; exact Nat.le_refl _)]
              · intro z hz
                obtain ⟨z', hz', rfl⟩ := List.mem_map.1 hz
                exact (HLV.out z' hz').2
              · rw [List.length_map, HN.out]; exact HE0.out)
            go_wp2_with fail
            go_ret2
            exact ⟨HK.out, .inr ⟨by rw [HE.out]; exact HE0.out, HFT.out, p, rfl, by rw [Int.toNat_natCast]; exact HROW.out⟩⟩
      · have HNE := Lib.hid he0; clear he0
        go_wp2_with fail
        refine (empty_no D n w HNE.out).mono ?_
        rintro e w2 ⟨rfl, rfl⟩
        obtain ⟨E, hE⟩ : ∃ E, E = errRow D n := ⟨_, rfl⟩
        have hE0 : (E != 0) = true := by rw [hE]; simpa using HNE.out
        rw [← hE]
        have HEE := Lib.hid hE; clear hE
        go_wp2_with fail
        go_ret2
        exact ⟨Kp.refl [] w, .inl ⟨by rw [HE.out]; exact HNE.out, by rw [HE.out, ← HEE.out]; rfl⟩⟩
    · have HNF := Lib.hid (show newE wd l = 2 by unfold newE; rw [if_neg (fun h => hfit (by have := h.2; rw [← hW] at this; exact this))])
      clear hok hW
      go_wp2_with fail
      go_ret2
      exact ⟨Kp.refl [] w, .inl ⟨by rw [HNF.out]; decide, by rw [HNF.out]; rfl⟩⟩
  · rw [wideL_no hok, wideE_no hok]
    have HNF := Lib.hid (show newE wd l = 2 by unfold newE; rw [if_neg (fun h => hok h.1)])
    clear hok
    go_wp2_with fail
    go_ret2
    exact ⟨Kp.refl [] w, .inl ⟨by rw [HNF.out]; decide, by rw [HNF.out]; rfl⟩⟩
end Go.Proofs.Ytlkgepojjjcaoaa
