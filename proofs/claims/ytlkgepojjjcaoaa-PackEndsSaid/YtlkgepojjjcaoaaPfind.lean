/-
  sort.Search over a predicate that draws at most; LAYER 2's Find, the program's and the reference's.
  CONDITIONS: as each says.
-/
import Derived.Test.YtlkgepojjjcaoaaPback
namespace Go.Proofs.Ytlkgepojjjcaoaa
open Go.RowKit

/-- A call of a function that has a body enters it. -/
theorem enters_fn {P : Program} {f : FuncId} {fn : Func} {c : Code} (hf : P.funcs[f]? = some fn) (hname : (fn.name == "runtime.NumGoroutine") = false) (hb : fn.body = some c) (args : Array Value) (w : World) : (callFunc f args).run P w = .ok (.enter f args) w := by
  have h1 : fn.name ≠ "runtime.NumGoroutine" := by simpa using hname
  simp [callFunc, hf, h1, hb, mark]

set_option maxRecDepth 100000 in
set_option maxHeartbeats 2000000 in
theorem search_any (g n : Nat) (lb : Array Value) (p : Nat → Bool) (w : World) (eg : ∀ args w, (callFunc g args).run Try.prog w = .ok (.enter g args) w) (hsz : n < 4611686018427387904)
    (hf : ∀ (w' : World) (i : Nat), Dr w w' → i < n → Calls Try.prog g (#[.int .i64 i] ++ lb) w' fun e w'' => e = .returned (.bool (p i)) ∧ Dr w' w'')
    (hmono : ∀ a b, a ≤ b → b < n → p a = true → p b = true) :
    Calls Try.prog 46 #[.int .i64 n, .func (.func g) #[] lb] w fun e w' => ∃ k : Nat, e = .returned (.int .i64 (k : Int)) ∧ k ≤ n ∧ (∀ t, t < k → p t = false) ∧ (∀ t, k ≤ t → t < n → p t = true) ∧ Dr w w' := by
  have HF := Lib.hid hf; clear hf
  have HMO := Lib.hid hmono; clear hmono
  go_enter Try.func46, Try.ntmps46
  go_wp2_with fail
  go_loopw [5, 6] (fun x y wr => ∃ lo hi : Nat, x = .int .i64 (lo : Int) ∧ y = .int .i64 (hi : Int) ∧ lo ≤ hi ∧ hi ≤ n ∧ Hid (∀ t, t < lo → p t = false) ∧ Hid (∀ t, hi ≤ t → t < n → p t = true) ∧ Hid (Dr w wr)) (fun x y _ => (intOf y).toNat - (intOf x).toNat)
  case atStart => exact ⟨0, n, rfl, rfl, by omega, by omega, Lib.hid (fun t ht => absurd ht (Nat.not_lt_zero _)), Lib.hid (fun t h1 h2 => absurd h2 (by omega)), Lib.hid (Dr.refl w)⟩
  case round =>
    obtain ⟨lo, hi, rfl, rfl, hlh, hhn, HLO, HHI, HD⟩ := hrel
    by_cases hlt : lo < hi
    · obtain ⟨h, hh⟩ : ∃ h, h = (lo + hi) / 2 := ⟨_, rfl⟩
      have hw1 : IntKind.i64.wrap ((lo : Int) + (hi : Int)) = ((lo + hi : Nat) : Int) := by rw [IntKind.wrap_i64]; omega
      have hw2 : IntKind.u64.wrap ((lo : Int) + (hi : Int)) = ((lo + hi : Nat) : Int) := by
        have : IntKind.u64.wrap ((lo : Int) + (hi : Int)) = ((lo : Int) + (hi : Int)) % 18446744073709551616 := by simp [IntKind.wrap, IntKind.signed, IntKind.bits]
        rw [this]; omega
      have hdv : ((lo : Int) + (hi : Int)) / 2 = (h : Int) := by omega
      have hwh : IntKind.i64.wrap (h : Int) = (h : Int) := by rw [IntKind.wrap_i64]; omega
      have hwu : IntKind.u64.wrap (h : Int) = (h : Int) := by
        have : IntKind.u64.wrap (h : Int) = (h : Int) % 18446744073709551616 := by simp [IntKind.wrap, IntKind.signed, IntKind.bits]
        rw [this]; omega
      have hhb : lo ≤ h ∧ h < hi := by omega
      have hc := HF.out wr h HD.out (by omega)
      clear hh
      cases hp : p h <;> rw [hp] at hc
      · have HP := Lib.hid hp; clear hp
        go_wp2_with fail
        refine hc.mono ?_
        rintro e w' ⟨rfl, hd⟩
        have HD2 := Lib.hid (HD.out.trans hd); clear hd
        go_wp2_with fail
        refine ⟨⟨h + 1, hi, by go_num, rfl, by omega, hhn, Lib.hid (fun t ht => ?_), HHI, HD2⟩, by simp [intOf]; omega⟩
        cases h2 : p t with
        | false => rfl
        | true =>
          have := HMO.out t h (by omega) (by omega) h2
          rw [HP.out] at this
          cases this
      · have HP := Lib.hid hp; clear hp
        go_wp2_with fail
        refine hc.mono ?_
        rintro e w' ⟨rfl, hd⟩
        have HD2 := Lib.hid (HD.out.trans hd); clear hd
        go_wp2_with fail
        exact ⟨⟨lo, h, rfl, rfl, by omega, by omega, HLO, Lib.hid (fun t h1 h2 => HMO.out h t h1 h2 HP.out), HD2⟩, by simp [intOf]; omega⟩
    · obtain rfl : hi = lo := by omega
      go_wp2_with fail
      go_ret
      exact ⟨hi, rfl, hhn, HLO.out, HHI.out, HD.out⟩

/-- The first place of a number, or of a greater one. -/
def findK (l : List Int) (n : Int) : Nat := (l.takeWhile (fun x => decide (x < n))).length
theorem findK_le (l : List Int) (n : Int) : findK l n ≤ l.length := by
  unfold findK
  induction l with
  | nil => simp
  | cons x l ih =>
    rw [List.takeWhile_cons]
    split <;> simp <;> omega
theorem findK_lt {l : List Int} {n : Int} : ∀ {i : Nat} {x : Int}, i < findK l n → l[i]? = some x → x < n := by
  induction l with
  | nil => intro i x h; simp [findK] at h
  | cons y l ih =>
    intro i x h hx
    unfold findK at h
    rw [List.takeWhile_cons] at h
    by_cases hy : y < n
    · rw [if_pos (by simpa using hy)] at h
      cases i with
      | zero => simp at hx; omega
      | succ i => exact ih (i := i) (by unfold findK; simp at h; omega) (by simpa using hx)
    · rw [if_neg (by simpa using hy)] at h
      simp at h
theorem findK_at {l : List Int} {n : Int} : ∀ {x : Int}, l[findK l n]? = some x → n ≤ x := by
  induction l with
  | nil => intro x h; simp at h
  | cons y l ih =>
    intro x h
    unfold findK at h
    rw [List.takeWhile_cons] at h
    by_cases hy : y < n
    · rw [if_pos (by simpa using hy)] at h
      exact ih (by unfold findK; simpa using h)
    · rw [if_neg (by simpa using hy)] at h
      simp at h
      omega
def Up (l : List Int) : Prop := ∀ (i j : Nat) (x y : Int), i ≤ j → l[i]? = some x → l[j]? = some y → x ≤ y

theorem findc_any (b p wd i x c1 c2 : Nat) (n : Int) (ls : List Nat) (w : World) (h : RowM w b p wd ls) (hx : ls[i]? = some x) (h1 : w.cell? ⟨c1, 0, none⟩ = some (.pointer (some ⟨p, 0, none⟩))) (h2 : w.cell? ⟨c2, 0, none⟩ = some (.int .i64 n)) :
    Calls Try.prog 47 #[.int .i64 i, .pointer (some ⟨c1, 0, none⟩), .pointer (some ⟨c2, 0, none⟩)] w fun e w' => e = .returned (.bool (decide (n ≤ (x : Int)))) ∧ Dr w w' := by
  have HG := Lib.hid (show ∀ nq, Calls Try.prog 45 #[.pointer (some ⟨p, 0, none⟩), .int .i64 i] (w.drewN nq) fun e w' => e = .returned (.int .i64 (x : Int)) ∧ Dr (w.drewN nq) w' from fun nq => rat_any b p wd i x ls _ (h.kp0 (Kp.of_drewN w nq)) hx)
  clear h hx
  go_enter Try.func47, Try.ntmps47
  go_wp2_with fail
  go_quiet ((go_at_call 45; exact quiet_dr (HG.out _)))
  go_wp2_with fail
  go_ret
  exact ⟨rfl, (Dr.refl w).drewN _⟩

set_option maxRecDepth 100000 in
set_option maxHeartbeats 2000000 in
theorem find_any (b p wd : Nat) (n : Int) (ls : List Nat) (w : World) (h : RowM w b p wd ls) (hup : Up (intsN ls)) :
    Calls Try.prog 33 #[.pointer (some ⟨p, 0, none⟩), .int .i64 n] w fun e w' => e = .returned (.tuple #[.int .i64 ((findK (intsN ls) n : Nat) : Int), .bool (decide ((intsN ls)[findK (intsN ls) n]? = some n))]) ∧ Kp [] w w' := by
  obtain ⟨m, hm⟩ : ∃ m, ls.length = m := ⟨_, rfl⟩
  obtain ⟨_, _, d1, d2, d3⟩ := h.cells
  have hmb : m ≤ 16777216 := by
    rw [← hm]
    exact Nat.le_trans (Nat.le_mul_of_pos_left _ d1) d3
  have HM := Lib.hid hm; clear hm
  have HH := Lib.hid h; clear h
  have HUP := Lib.hid hup; clear hup
  clear d1 d2 d3
  obtain ⟨F, hF⟩ : ∃ F, F = findK (intsN ls) n := ⟨_, rfl⟩
  rw [← hF]
  have HFK := Lib.hid hF; clear hF
  have HIL := Lib.hid (show (intsN ls).length = m by rw [intsN, List.length_map, HM.out])
  go_enter Try.func33, Try.ntmps33
  go_wp2_with fail
  refine (rlen_any b p wd m ls _ (HH.out.kp0 (((Kp.refl [] w).alloc _).alloc _)) HM.out).mono ?_
  rintro e w1 ⟨rfl, hw⟩
  obtain ⟨c, hc⟩ : ∃ c, c = w.heap.size := ⟨_, rfl⟩
  have HK1 := Lib.hid (show Kp [] w w1 by rw [← hw]; exact ((Kp.refl [] w).alloc _).alloc _)
  have c1 : w1.cell? ⟨c, 0, none⟩ = some (.pointer (some ⟨p, 0, none⟩)) := by
    rw [← hw, hc]
    exact (((Kp.refl [] _).alloc (.cells #[.int .i64 n] 3)).cell ((Blk.new w 27 [.pointer (some ⟨p, 0, none⟩)]).cell 0) (by simp))
  have c2 : w1.cell? ⟨c + 1, 0, none⟩ = some (.int .i64 n) := by
    rw [← hw, hc]
    have h := (Blk.new (w.alloc (.cells [.pointer (some ⟨p, 0, none⟩)].toArray 27)) 3 [.int .i64 n]).cell 0
    rw [show (w.alloc (.cells [.pointer (some ⟨p, 0, none⟩)].toArray 27)).heap.size = w.heap.size + 1 by simp] at h
    exact h
  have HR1 := Lib.hid (HH.out.kp0 HK1.out)
  rw [← hc]
  clear hc hw
  go_wp2_with fail
  refine (search_any 47 m _ (fun i => decide (n ≤ ((ls.getD i 0 : Nat) : Int))) w1 (enters_fn Try.func47 (by kernel_rfl) rfl) (by omega) (fun w' i hd hi => ?_) (fun a b' hab hbn hp => ?_)).mono ?_
  · have hx : ls[i]? = some (ls.getD i 0) := by
      rw [List.getD_eq_getElem?_getD, List.getElem?_eq_getElem (by rw [HM.out]; exact hi)]
      rfl
    exact findc_any b p wd i _ _ _ n ls w' (HR1.out.kp0 (hd.kp [])) hx (by rw [hd.cell]; exact c1) (by rw [hd.cell]; exact c2)
  · simp only [decide_eq_true_eq] at hp ⊢
    refine Int.le_trans hp (HUP.out a b' _ _ hab ?_ ?_)
    · simp only [intsN, List.getElem?_map, List.getD_eq_getElem?_getD, List.getElem?_eq_getElem (show a < ls.length by rw [HM.out]; omega)]
      rfl
    · simp only [intsN, List.getElem?_map, List.getD_eq_getElem?_getD, List.getElem?_eq_getElem (show b' < ls.length by rw [HM.out]; omega)]
      rfl
  rintro e w2 ⟨k, rfl, hk, hlo, hhi, hd⟩
  have hget : ∀ t, t < m → (intsN ls)[t]? = some ((ls.getD t 0 : Nat) : Int) := fun t ht => by
    simp only [intsN, List.getElem?_map, List.getD_eq_getElem?_getD, List.getElem?_eq_getElem (show t < ls.length by rw [HM.out]; omega)]
    rfl
  have hkF : k = F := by
    rcases Nat.lt_trichotomy k F with h1 | h1 | h1
    · have hkm : k < m := by have := findK_le (intsN ls) n; rw [← HFK.out, HIL.out] at this; omega
      have h2 := findK_lt (by rw [← HFK.out]; exact h1) (hget k hkm)
      have h3 := of_decide_eq_true (hhi k (Nat.le_refl _) hkm)
      omega
    · exact h1
    · have hFm : F < m := by omega
      have h2 := findK_at (l := intsN ls) (n := n) (by rw [← HFK.out]; exact hget F hFm)
      have h3 := of_decide_eq_false (hlo F h1)
      omega
  subst hkF
  have HK2 := Lib.hid (HK1.out.trans (hd.kp []))
  have HR2 := Lib.hid (HR1.out.kp0 (hd.kp []))
  have d1 : w2.cell? ⟨c, 0, none⟩ = some (.pointer (some ⟨p, 0, none⟩)) := by rw [hd.cell]; exact c1
  have d2 : w2.cell? ⟨c + 1, 0, none⟩ = some (.int .i64 n) := by rw [hd.cell]; exact c2
  clear hlo hhi hd c1 c2 hget
  by_cases hkm : k < m
  · obtain ⟨x, hx⟩ : ∃ x, ls[k]? = some x := ⟨_, List.getElem?_eq_getElem (by rw [HM.out]; exact hkm)⟩
    have HXX := Lib.hid hx; clear hx
    obtain ⟨q, hq⟩ : ∃ q, ((x : Int) == n) = q := ⟨_, rfl⟩
    have HDQ := Lib.hid (show decide ((intsN ls)[k]? = some n) = q by
      rw [show (intsN ls)[k]? = some (x : Int) by simp [intsN, HXX.out], ← hq]
      by_cases he : (x : Int) = n <;> simp [he])
    go_wp2_with fail
    refine (rAt_any b p wd k x ls w2 HR2.out HXX.out).mono ?_
    rintro e w3 ⟨rfl, hd3⟩
    have HK3 := Lib.hid (HK2.out.trans (hd3.kp []))
    have d3 : w3.cell? ⟨c, 0, none⟩ = some (.pointer (some ⟨p, 0, none⟩)) := by rw [hd3.cell]; exact d1
    have d4 : w3.cell? ⟨c + 1, 0, none⟩ = some (.int .i64 n) := by rw [hd3.cell]; exact d2
    clear hd3 d1 d2
    go_wp2_with fail
    go_region
    go_wp2_with fail
    go_ret2
    exact ⟨by rw [HDQ.out]; rfl, HK3.out.drew⟩
  · obtain rfl : k = m := by omega
    clear hkm
    have HDQ := Lib.hid (show decide ((intsN ls)[k]? = some n) = false by
      rw [List.getElem?_eq_none (by rw [HIL.out]; exact Nat.le_refl _)]
      simp)
    go_wp2_with fail
    refine (rAt_out b p wd k (k : Int) ls w2 HR2.out HM.out (.inr (by omega))).mono ?_
    rintro e w3 ⟨rfl, rfl⟩
    go_wp2_with fail
    go_region
    go_wp2_with fail
    go_ret2
    exact ⟨by rw [HDQ.out]; rfl, HK2.out.drew⟩

set_option maxRecDepth 100000 in
set_option maxHeartbeats 2000000 in
theorem refFind_any (b p : Nat) (wd n : Int) (l : List Int) (w : World) (h : RowR w b p wd l) (hb : l.length ≤ 1000000000) :
    Calls Try.prog 34 #[.pointer (some ⟨p, 0, none⟩), .int .i64 n] w fun e w' => e = .returned (.tuple #[.int .i64 ((findK l n : Nat) : Int), .bool (decide (l[findK l n]? = some n))]) ∧ Dr w w' := by
  obtain ⟨A, c, h1, h2, h3, _⟩ := h
  obtain ⟨m, hm⟩ : ∃ m, l.length = m := ⟨_, rfl⟩
  rw [hm] at h1 h3 hb
  have HM := Lib.hid hm; clear hm
  have HR := Lib.hid h1; clear h1
  have HX := Lib.hid h2; clear h2
  have c1 : w.cell? ⟨p, 1, none⟩ = some (.slice A m c) := by rw [HR.out.cell]; rfl
  obtain ⟨F, hF⟩ : ∃ F, F = findK l n := ⟨_, rfl⟩
  have HFM := Lib.hid (show F ≤ m by rw [hF, ← HM.out]; exact findK_le l n)
  rw [← hF]
  have HFK := Lib.hid hF; clear hF
  go_enter Try.func34, Try.ntmps34
  go_wp2_with fail
  go_loopw [6] (fun x wr => ∃ k : Nat, x = .int .i64 (k : Int) ∧ Hid (k ≤ F) ∧ w = wr) (fun x _ => F - (intOf x).toNat)
  case atStart => exact ⟨0, rfl, Lib.hid (Nat.zero_le _), rfl⟩
  case round =>
    obtain ⟨k, rfl, HKF, rfl⟩ := hrel
    by_cases hkm : k < m
    · obtain ⟨x, hx⟩ : ∃ x, l[k]? = some x := ⟨_, List.getElem?_eq_getElem (by rw [HM.out]; exact hkm)⟩
      obtain ⟨ad, rfl, _, cx⟩ := HX.out.at_ (i := k) (u := .int .i64 x) (by rw [List.getElem?_map, hx]; rfl)
      have HXX := Lib.hid hx; clear hx
      by_cases hxn : x < n
      · have hkF : k < F := by
          rcases Nat.lt_or_ge k F with h | h
          · exact h
          · obtain rfl : k = F := by have := HKF.out; omega
            have := findK_at (l := l) (n := n) (by rw [← HFK.out]; exact HXX.out)
            omega
        have HK2 := Lib.hid (show k + 1 ≤ F by omega)
        clear hkF
        go_wp2_with fail
        exact ⟨⟨k + 1, by go_num, HK2, trivial⟩, by have := HK2.out; simp [intOf]; omega⟩
      · have hkF : k = F := by
          rcases Nat.lt_or_ge k F with h | h
          · have := findK_lt (by rw [← HFK.out]; exact h) HXX.out
            omega
          · have := HKF.out; omega
        subst hkF
        obtain ⟨q, hq⟩ : ∃ q, ((x : Int) == n) = q := ⟨_, rfl⟩
        have HDQ := Lib.hid (show decide (l[k]? = some n) = q by
          rw [HXX.out, ← hq]
          by_cases he : (x : Int) = n <;> simp [he])
        go_wp2_with fail
        go_region
        go_wp2_with fail
        go_ret2
        exact ⟨by rw [HDQ.out]; rfl, (Dr.refl w).drew⟩
    · have hkF : k = F := by have := HKF.out; have := HFM.out; omega
      subst hkF
      have HDQ := Lib.hid (show decide (l[k]? = some n) = false by
        rw [List.getElem?_eq_none (by rw [HM.out]; omega)]
        simp)
      go_wp2_with fail
      go_region
      go_wp2_with fail
      go_ret2
      exact ⟨by rw [HDQ.out]; rfl, (Dr.refl w).drew⟩
end Go.Proofs.Ytlkgepojjjcaoaa
