/-
  PLAIN MATHEMATICS OF LAYER 6, fifth part: texts stand as their bytes do; texts put one behind the other are got again.
  LAYER 6 (alpha), the law's bitsOf: a text's bits by a code.
  LAYER 6 (alpha): AlphaOrder, the walk.
  CONDITIONS: as each lemma says.
-/
import Derived.Test.YtpmdfklhgabfgaaQ32
import Derived.Test.YtpmdfklhgabfgaaQ29
import Derived.Test.YtpmdfklhgabfgaaQ26
import Derived.Test.YtpmdfklhgabfgaaQ09
namespace Go.Proofs.Ytpmdfklhgabfgaa

theorem toL (s : ByteArray) : s.toList = s.data.toList := ByteArray.toList_eq s
theorem lex_bytes : ∀ (x y : List UInt8), Op.bytesLess x y = lexN (x.map UInt8.toNat) (y.map UInt8.toNat)
  | [], [] => rfl
  | _ :: _, [] => rfl
  | [], _ :: _ => rfl
  | a :: x, b :: y => by
    rw [Op.bytesLess, lex_bytes x y]
    show _ = (decide (a.toNat < b.toNat) || (decide (a.toNat = b.toNat) && lexN (x.map UInt8.toNat) (y.map UInt8.toNat)))
    have h1 : decide (a < b) = decide (a.toNat < b.toNat) := by simp [UInt8.lt_iff_toNat_lt]
    have h2 : (a == b) = decide (a.toNat = b.toNat) := by
      by_cases h : a = b
      · subst h; simp
      · have : a.toNat ≠ b.toNat := fun e => h (UInt8.toNat_inj.1 e)
        simp [h, this]
    rw [h1, h2]
theorem less_txt (s t : ByteArray) : Op.bytesLess s.toList t.toList = lexN (txt s) (txt t) := by rw [toL, toL, lex_bytes]; rfl
theorem txt_inj {s t : ByteArray} (h : txt s = txt t) : s = t := by
  unfold txt at h
  have h2 : s.data.toList = t.data.toList := by
    have inj : ∀ (x y : List UInt8), x.map UInt8.toNat = y.map UInt8.toNat → x = y := by
      intro x
      induction x with
      | nil => intro y h; cases y with
        | nil => rfl
        | cons _ _ => simp at h
      | cons a x ih => intro y h; cases y with
        | nil => simp at h
        | cons b y =>
          simp only [List.map_cons, List.cons.injEq] at h
          rw [UInt8.toNat_inj.1 h.1, ih y h.2]
    exact inj _ _ h
  cases s; cases t
  simp only at h2
  congr 1
  exact Array.toList_inj.1 h2
theorem strN_txt (s : ByteArray) : strN (txt s) = s := by
  have e : ∀ l : List UInt8, (l.map UInt8.toNat).map UInt8.ofNat = l := by
    intro l
    induction l with
    | nil => rfl
    | cons a l ih => simp only [List.map_cons, ih, UInt8.ofNat_toNat]
  cases s with
  | mk d =>
    unfold strN txt
    rw [e]
/-- Texts' bits, one behind the other. -/
def encs (T : CT) (ss : List ByteArray) : List Bool := ss.flatMap fun s => (encT T s).getD []
theorem encs_snoc (T : CT) (ss : List ByteArray) (s : ByteArray) : encs T (ss ++ [s]) = encs T ss ++ (encT T s).getD [] := by unfold encs; simp
theorem encs_len {T : CT} : ∀ (ss : List ByteArray), (encs T ss).length = sumT T ss
  | [] => rfl
  | s :: ss => by
    have := encs_len (T := T) ss
    unfold encs sumT at this ⊢
    rw [List.flatMap_cons, List.length_append, List.map_cons, List.sum_cons, this]
    congr 1
    unfold longN
    cases encT T s <;> rfl
theorem encs_drop {T : CT} {ss : List ByteArray} {k : Nat} {s : ByteArray} (h : ss[k]? = some s) : (encs T ss).drop (encs T (ss.take k)).length = (encT T s).getD [] ++ encs T (ss.drop (k + 1)) := by
  obtain ⟨hk, rfl⟩ := List.getElem?_eq_some_iff.1 h
  have e : ss = ss.take k ++ (ss[k] :: ss.drop (k + 1)) := by rw [← List.drop_eq_getElem_cons hk, List.take_append_drop]
  have e2 : encs T ss = encs T (ss.take k) ++ ((encT T ss[k]).getD [] ++ encs T (ss.drop (k + 1))) := by
    conv => lhs; rw [e]
    unfold encs
    rw [List.flatMap_append, List.flatMap_cons]
  rw [e2, List.drop_left]
/-- What is got at a text's place. -/
theorem get_text {T : CT} {sg : List Nat} {ls : List Int} (h : CodeT T sg ls) {ss : List ByteArray} {k : Nat} {s : ByteArray} {r : List Bool} (hs : ss[k]? = some s) (hr : encT T s = some r) :
    getF T (encs T ss) (encs T (ss.take k)).length false = (txt s, 0, r.length, false) := by
  unfold getF
  rw [if_neg (by simp), encs_drop hs, hr]
  have := getC_enc h (txt s) [] r (encs T (ss.drop (k + 1))) hr
  simpa using this
theorem put_text {T : CT} {s : ByteArray} {r L : List Bool} (hr : encT T s = some r) (hl : L.length + r.length ≤ 16777216) : putE T s (L, 0) = 0 ∧ putS T s (L, 0) = (L ++ r, 0) := by
  unfold putE putS wPut
  rw [hr]
  simp only
  rw [if_neg (by simp), if_neg (by omega)]
  exact ⟨rfl, rfl⟩
/-- How two texts and their bits stand. -/
theorem two_texts {T : CT} {sg : List Nat} {ls : List Int} (h : CodeT T sg ls) {s t : ByteArray} {u v : List Bool} (hu : encT T s = some u) (hv : encT T t = some v) :
    Op.bytesLess s.toList t.toList = decide (cmpB u v < 0) ∧ (s = t ↔ cmpB u v = 0) ∧ (cmpB u v ≠ 0 → begB u v = false) := by
  obtain ⟨h1, h2, h3⟩ := cmp_texts h (a := txt s) (b := txt t) hu hv
  refine ⟨?_, ⟨fun e => h2.2 (by rw [e]), fun e => txt_inj (h2.1 e)⟩, h3⟩
  rw [less_txt]
  cases hl : lexN (txt s) (txt t) with
  | true => rw [decide_eq_true (h1.2 hl)]
  | false => rw [decide_eq_false (fun e => by rw [h1.1 e] at hl; cases hl)]
end Go.Proofs.Ytpmdfklhgabfgaa
namespace Go.Proofs.Ytpmdfklhgabfgaa
open Go.RowKit

def BitsP (w : World) (r : List Bool) (n : Nat) (e : Ending) (w' : World) : Prop := (∃ (A : Option Addr) (c : Nat), e = .returned (.tuple #[.slice A n c, .bool true]) ∧ n ≤ c ∧ Rd w' w'.heap.size A (r.map .bool)) ∧ Kp [] w w'
set_option maxRecDepth 100000 in
set_option maxHeartbeats 4000000 in
theorem bitsof_any (lo hi p n : Nat) (T : CT) (sg : List Nat) (ls : List Int) (s : ByteArray) (r : List Bool) (w : World) (h : CodeM w lo hi p T sg ls) (hr : encT T s = some r) (hn : r.length = n) (hs : s.size ≤ 60000) (hhi : hi ≤ w.heap.size) :
    Calls Try.prog 27 #[.pointer (some ⟨p, 0, none⟩), .string s] w (BitsP w r n) := by
  obtain ⟨i0, hi0, hz0, hz1, hz2⟩ := info_parts Try.info_abool
  have hnb : n ≤ 16000000 := by have := encT_len h.1 hr; omega
  have HPT := Lib.hid (put_text (L := []) hr (by rw [hn]; simp; omega))
  have HC := Lib.hid h
  have HN := Lib.hid hn
  have HHI := Lib.hid hhi
  clear h hr hn hhi
  go_enter Try.func27, Try.ntmps27
  go_wp2_with fail
  refine (wnew_any w).mono ?_
  rintro e w1 ⟨S, q, rfl, hw1, hS, hk1⟩
  have HW := Lib.hid hw1
  have HS := Lib.hid hS
  have HK := Lib.hid hk1
  replace HC := Lib.hid (HC.out.kp0 hk1)
  clear hk1
  clear hw1 hS
  go_wp2_with fail
  refine (cput_any lo hi p q 0 S ([], 0) T sg ls s w1 HC.out HW.out rfl (by omega) (Nat.le_trans HHI.out HK.out.size)).mono ?_
  rintro e w2 ⟨rfl, S2, hw2, hk2, _⟩
  rw [HPT.out.1]
  rw [HPT.out.2, List.nil_append] at hw2
  replace HW := Lib.hid hw2
  replace HK := Lib.hid (HK.out.trans' hk2 (fun x hx => .inr (HS.out x hx)))
  clear hw2 hk2 HC HHI HS HPT
  go_wp2_with fail
  refine (wvec_ok S2 q r w2 HW.out).mono ?_
  rintro e w3 ⟨V, v, rfl, hv, hV, hk3⟩
  have HV := Lib.hid hv
  replace HK := Lib.hid (HK.out.trans hk3)
  clear hv hV hk3 HW
  go_wp2_with fail
  go_loopw [10, 11] (fun y x wr => ∃ (k c : Nat) (A : Option Addr), x = .int .i64 (k : Int) ∧ y = .slice A k c ∧ k ≤ n ∧ Hid (wr.ownsRow w3.heap.size 4 1 (.slice A k c) k ((r.take k).map .bool)) ∧ Hid (VecM wr V v r false) ∧ Hid (Kp [] w3 wr)) (fun _ x _ => n - (intOf x).toNat)
  case atStart => exact ⟨0, 0, none, rfl, rfl, by omega, Lib.hid (World.ownsRow_nil _ _ _ 1), HV, Lib.hid (Kp.refl _ _)⟩
  case round =>
    have HVL := Lib.hid HV.out.lt
    have HK3 := HK
    clear HV HK
    obtain ⟨k, c, A, rfl, rfl, hk, HO, HV, HK⟩ := hrel
    go_wp2_with fail
    refine (vlen_any V v n r false wr HV.out HN.out).mono ?_
    rintro e w' ⟨rfl, rfl⟩
    by_cases hlt : k < n
    · obtain ⟨b, hb⟩ : ∃ b, r[k]? = some b := ⟨_, List.getElem?_eq_getElem (by rw [HN.out]; exact hlt)⟩
      have HB := Lib.hid (take_succ_of hb)
      have HG := Lib.hid (show getB r (k : Int) = b by unfold getB; rw [if_neg (by omega), Int.toNat_natCast, List.getD_eq_getElem?_getD, hb]; rfl)
      have hb0 : (0 : Int) ≤ (k : Int) := by omega
      have hb1 : (k : Int) < (n : Int) := by omega
      have HSZ := Lib.hid HK.out.size
      clear hb
      go_wp2_with fail
      refine (qget (k : Int) HV.out HG.out).mono ?_
      rintro e w4 ⟨rfl, hk4⟩
      replace HO := Lib.hid (own_kp0 HO.out hk4)
      replace HV := Lib.hid (HV.out.kp0 hk4)
      replace HK := Lib.hid (HK.out.trans hk4)
      replace HSZ := Lib.hid HK.out.size
      clear hk4
      go_wp2_with (at_builtin; go_loud (refine wpList_append_rd rfl (.tmp 34) (.tmp 38) 31 rfl (w3.heap.size) 4 i0 (.bool false) 1 1 Try.underlying31 hi0 hz0 hz1 hz2 rfl (by decide) (.slice A k c) (k) _ rfl (own_kp0 HO.out ((Kp.refl [] _).alloc _)) _ _ 1 1 [.bool b] rfl rfl (Rd.new w4 #[.bool b] 4 (0, 0)) (by intro u hu; simp at hu; subst hu; rfl) (by unfold maxLen; omega) (by omega) (by have := HSZ.out; simp; omega) ?_); intro v3 w3 hown3 hgrow3 hat3; obtain ⟨hka3, hga3⟩ := app_facts hgrow3 hat3; obtain ⟨A3', c3', rfl, _⟩ := own_form hown3)
      exact ⟨⟨k + 1, c3', A3', by go_num, rfl, by omega, Lib.hid (by rw [HB.out, List.map_append]; exact hown3), Lib.hid (HV.out.kp hka3 (fun g hg hm => by have h1 := HVL.out g hg; have h2 := (own_ge HO.out (mem_ownL.1 hm)).1; omega)), Lib.hid (HK.out.trans' hka3 (fun x hx => .inr (own_ge HO.out (mem_ownL.1 hx)).1))⟩, by simp [intOf]; omega⟩
    · obtain rfl : k = n := by omega
      have HX := Lib.hid (show Rd wr wr.heap.size A (r.map .bool) from by
        have := own_rd HO.out
        rwa [List.take_of_length_le (by rw [HN.out]; exact Nat.le_refl _)] at this)
      have HLE := Lib.hid (show k ≤ c from by
        obtain ⟨A3, c3, he, hle, _⟩ := own_form HO.out
        injection he with _ _ e3
        subst e3
        exact hle)
      clear HO HV
      go_wp2_with fail
      go_ret2
      exact ⟨⟨A, c, rfl, HLE.out, HX.out⟩, HK3.out.trans HK.out⟩
end Go.Proofs.Ytpmdfklhgabfgaa
namespace Go.Proofs.Ytpmdfklhgabfgaa
open Go.RowKit

theorem decF {p : Prop} [Decidable p] (h : ¬ p) : decide p = false := decide_eq_false h
set_option maxRecDepth 100000 in
set_option maxHeartbeats 4000000 in
theorem aorder_any (A : Option Addr) (n c B : Nat) (ss : List ByteArray) (w : World) (hx : Rd w B A (ss.map .string)) (hn : ss.length = n) (hB : B ≤ w.heap.size) (hb : n ≤ 140737488351232) (hl : ∀ s ∈ ss, s.size ≤ 140737488351232) :
    Calls Try.prog 4 #[.slice A n c] w fun e w' => e = .returned (.bool true) ∧ Kp [] w w' := by
  have HX := Lib.hid hx; clear hx
  have HN := Lib.hid hn; clear hn
  have HB := Lib.hid hB; clear hB
  have HL := Lib.hid hl; clear hl
  go_enter Try.func4, Try.ntmps4
  go_wp2_with fail
  refine (awake_a w).mono ?_
  rintro e w1 ⟨rfl, hk1⟩
  have HK := Lib.hid hk1
  replace HX := Lib.hid (HX.out.kp0 hk1)
  clear hk1
  go_wp2_with fail
  refine (asize_any A n c B ss w1 HX.out HN.out hb HL.out).mono ?_
  rintro e w1' ⟨⟨Z, rfl, hZ, hnZ, hZs⟩, rfl⟩
  by_cases hZ6 : 600 < Z
  · have hzd : decide ((600 : Int) < (Z : Int)) = true := by simp; omega
    go_wp2_with fail
    go_ret
    exact ⟨rfl, HK.out⟩
  have HZS := Lib.hid (hZs (by omega))
  have hzd : decide ((600 : Int) < (Z : Int)) = false := by simp; omega
  have hn6 : n ≤ 600 := by omega
  clear hZs
  by_cases hn0 : n = 0
  · subst hn0
    go_wp2_with fail
    go_ret
    exact ⟨rfl, HK.out⟩
  have hn0' : ((n : Int) == 0) = false := by simp; omega
  have hn1 : 1 ≤ n := by omega
  have HSL := Lib.hid (show (symL ss).length ≤ 600 from Nat.le_trans HZS.out (by omega))
  go_wp2_with fail
  refine (aof_any A n c B ss w1 HX.out HN.out hn1 (by have := HSL.out; omega) (Nat.le_trans HB.out HK.out.size)).mono ?_
  rintro e w2 ⟨p, rfl, hcode, hk2⟩
  obtain ⟨lo, hlo⟩ : ∃ lo, lo = w1.heap.size := ⟨_, rfl⟩
  obtain ⟨hi, hhi⟩ : ∃ hi, hi = w2.heap.size := ⟨_, rfl⟩
  rw [← hlo, ← hhi] at hcode
  have HHI := Lib.hid (show hi ≤ w2.heap.size by omega)
  clear hlo hhi
  obtain ⟨L, hL⟩ : ∃ L, L = lensL (wtO (symL ss)) := ⟨_, rfl⟩
  obtain ⟨T, hT⟩ : ∃ T, T = treeC (smO (symL ss)) L := ⟨_, rfl⟩
  rw [toNat_smO] at hcode
  have HAL := Lib.hid (show ∀ t ∈ ss, ∃ r, encT T t = some r from fun t ht => by
    have h0 : 0 ∈ symL ss := by
      match ss, HN.out with
      | [], e => simp at e; omega
      | s :: t, _ => rw [symL_cons]; unfold symT; simp
    have c1 := treeC_code (okMake_of h0 (by have := HSL.out; omega))
    rw [toNat_smO, ← hL, ← hT] at c1
    refine enc_all c1 (fun s hs => ?_)
    have hm : s ∈ symL ss := List.mem_flatMap.2 ⟨t, ht, hs⟩
    exact mem_sgK hm (symL_lt ss s hm))
  obtain ⟨sg, hsg⟩ : ∃ sg, sg = sgK (symL ss) 257 := ⟨_, rfl⟩
  rw [← hL] at hcode
  rw [← hT, ← hsg] at hcode
  have HC := Lib.hid hcode
  clear hcode hT hsg hL HZS
  have HBT := Lib.hid (show ∀ k, (encs T (ss.take k)).length ≤ 153600 from fun k => by
    rw [encs_len]
    have h1 := sumT_bound HC.out.1 (ss.take k)
    have h3 : (symL (ss.take k)).length ≤ (symL ss).length := by
      conv => rhs; rw [← List.take_append_drop k ss]
      unfold symL
      rw [List.flatMap_append, List.length_append]
      omega
    have := HSL.out
    omega)
  have HSZS := Lib.hid (show ∀ s ∈ ss, s.size ≤ 600 from fun s hs => by
    have h1 : (symT s).length ≤ (symL ss).length := by
      obtain ⟨l1, l2, e⟩ := List.append_of_mem hs
      rw [e]
      unfold symL
      rw [List.flatMap_append, List.flatMap_cons, List.length_append, List.length_append]
      omega
    rw [symT_len] at h1
    have := HSL.out
    omega)
  replace HK := Lib.hid (HK.out.trans hk2)
  replace HX := Lib.hid (HX.out.kp0 hk2)
  clear hk2
  go_wp2_with fail
  refine (wnew_any w2).mono ?_
  rintro e w3 ⟨S0, q, rfl, hw3, hS3, hk3⟩
  have HS3 := Lib.hid hS3
  have HW3 := Lib.hid hw3
  have HK3 := Lib.hid hk3
  clear hw3 hS3 hk3
  go_wp2_with fail
  go_loopw [6] (fun i wr => ∃ (k : Nat) (S : List Nat), i = .int .i64 (k : Int) ∧ k ≤ n ∧ Hid (WrM wr S q (encs T (ss.take k), 0)) ∧ Hid (∀ x ∈ S, w2.heap.size ≤ x) ∧ Hid (Kp [] w2 wr)) (fun i _ => n - (intOf i).toNat)
  case atStart => exact ⟨0, S0, rfl, by omega, HW3, HS3, HK3⟩
  case round =>
    clear HW3 HS3 HK3
    obtain ⟨k, S, rfl, hk, HW, HS, HKR⟩ := hrel
    by_cases hlt : k < n
    · obtain ⟨s, ad, hs, rfl, _, hcs⟩ := (HX.out.kp0 HKR.out).str (k := k) (by rw [HN.out]; exact hlt)
      have hmem := List.mem_of_getElem? hs
      obtain ⟨r, hr⟩ := HAL.out s hmem
      have hsz := HSZS.out s hmem
      have HTK := Lib.hid (show encs T (ss.take (k + 1)) = encs T (ss.take k) ++ r by rw [take_succ_of hs, encs_snoc, hr]; rfl)
      obtain ⟨N, hN⟩ : ∃ N, (encs T (ss.take k)).length = N := ⟨_, rfl⟩
      have HPT := Lib.hid (put_text (L := encs T (ss.take k)) hr (by
        have := HBT.out (k + 1)
        rw [HTK.out, List.length_append] at this
        omega))
      have HCR := Lib.hid (HC.out.kp0 HKR.out)
      have hb0 : (0 : Int) ≤ (k : Int) := by omega
      have hb1 : (k : Int) < (n : Int) := by omega
      clear hs hmem hr
      go_wp2_with fail
      refine (cput_any lo hi p q N S (encs T (ss.take k), 0) T sg L s wr HCR.out HW.out hN (by omega) (Nat.le_trans HHI.out HKR.out.size)).mono ?_
      rintro e w4 ⟨rfl, S4, hw4, hk4, hg4⟩
      rw [HPT.out.1]
      rw [HPT.out.2, ← HTK.out] at hw4
      have HW4 := Lib.hid hw4
      have HS4 := Lib.hid (show ∀ x ∈ S4, w2.heap.size ≤ x from fun x hx => by
        rcases hg4 x hx with h | h
        · exact HS.out x h
        · exact Nat.le_trans HKR.out.size h)
      have HK4 := Lib.hid (HKR.out.trans' hk4 (fun x hx => .inr (HS.out x hx)))
      clear hw4 hk4 hg4 HW HS HKR hcs hN
      go_wp2_with fail
      exact ⟨⟨k + 1, S4, by go_num, by omega, HW4, HS4, HK4⟩, by simp [intOf]; omega⟩
    · obtain rfl : k = n := by omega
      have HLN := Lib.hid (show encs T (ss.take k) = encs T ss by rw [List.take_of_length_le (by rw [HN.out]; exact Nat.le_refl _)])
      have hw := HW.out
      rw [HLN.out] at hw
      replace HW := Lib.hid hw
      clear hw
      replace HHI := Lib.hid (Nat.le_trans HHI.out HKR.out.size)
      replace HX := Lib.hid (HX.out.kp0 HKR.out)
      replace HC := Lib.hid (HC.out.kp0 HKR.out)
      replace HK := Lib.hid (HK.out.trans HKR.out)
      clear HKR HS hlt hk
      obtain ⟨N, hN⟩ : ∃ N, (encs T ss).length = N := ⟨_, rfl⟩
      have hNb : N ≤ 153600 := by
        have := HBT.out k
        rw [HLN.out, hN] at this
        exact this
      have HNN := Lib.hid hN
      clear hN
      obtain ⟨wk, rfl⟩ : ∃ wk, wk = wr := ⟨_, rfl⟩
      go_wp2_with fail
      refine (wvec_ok S q (encs T ss) wk HW.out).mono ?_
      rintro e w6 ⟨V, v, rfl, hv, hV, hk6⟩
      have HV := Lib.hid hv
      have HVB := Lib.hid hV
      have HK6 := Lib.hid hk6
      clear hv hV HW hk6
      go_wp2_with fail
      refine (rnew_yes V v N 0 (encs T ss) false w6 HV.out HNN.out (by omega)).mono ?_
      rintro e w7 ⟨rp, rfl, hr7, hv7, hrp, hrpV, hk7⟩
      have HRP := Lib.hid (show wk.heap.size ≤ rp from Nat.le_trans HK6.out.size hrp)
      have HRV := Lib.hid hrpV
      have HR7 := Lib.hid hr7
      have HV7 := Lib.hid hv7
      have HK7 := Lib.hid (HK6.out.trans' hk7 (fun x hx => .inr (HVB.out x hx)))
      clear hr7 hv7 hrp hrpV hk7 HK6 HV HVB
      go_wp2_with fail
      go_loopw [11] (fun i wr => ∃ (j : Nat), i = .int .i64 (j : Int) ∧ j ≤ k ∧ Hid (RdM wr rp v (encs T (ss.take j)).length false) ∧ Hid (VecM wr V v (encs T ss) false) ∧ Hid (Kp [] wk wr)) (fun i _ => k - (intOf i).toNat)
      case atStart => exact ⟨0, rfl, by omega, HR7, HV7, HK7⟩
      case round =>
        clear HR7 HV7 HK7
        obtain ⟨j, rfl, hj, HR, HV, HKR⟩ := hrel
        by_cases hlt : j < k
        · obtain ⟨s, ad, hs, rfl, _, _⟩ := (HX.out.kp0 HKR.out).str (k := j) (by rw [HN.out]; exact hlt)
          have hmem := List.mem_of_getElem? hs
          obtain ⟨r, hr⟩ := HAL.out s hmem
          have HTK := Lib.hid (show (encs T (ss.take j)).length + r.length = (encs T (ss.take (j + 1))).length by rw [take_succ_of hs, encs_snoc, hr, List.length_append]; rfl)
          have HGT := Lib.hid (get_text HC.out.1 hs hr)
          have HIX := Lib.hid (show ∀ w', Kp [] wk w' → w'.cell? (ad.add j) = some (.string s) from fun w' hk' => by
            obtain ⟨ad2, e1, _, e2⟩ := (HX.out.kp0 hk').at_ (i := j) (u := .string s) (by rw [List.getElem?_map, hs]; rfl)
            injection e1 with e1
            rw [e1]
            exact e2)
          have HAN := Lib.hid (show (encs T (ss.take j)).length ≤ N from by
            have h1 := congrArg List.length (encs_drop (T := T) hs)
            rw [List.length_drop, HNN.out, hr, List.length_append] at h1
            obtain ⟨w9, rfl⟩ : ∃ w9, w9 = r := ⟨_, rfl⟩
            have h2 : (encs T ss).length = sumT T ss := encs_len ss
            have h3 : (encs T (ss.take j)).length = sumT T (ss.take j) := encs_len _
            have h4 : sumT T (ss.take j) ≤ sumT T ss := by
              conv => rhs; rw [← List.take_append_drop j ss]
              unfold sumT
              rw [List.map_append, List.sum_append]
              omega
            rw [HNN.out] at h2
            omega)
          have hb0 : (0 : Int) ≤ (j : Int) := by omega
          have hb1 : (j : Int) < (k : Int) := by omega
          have HCR := Lib.hid (HC.out.kp0 HKR.out)
          clear hs hmem hr
          go_wp2_with fail
          refine (cget_any lo hi p rp v (encs T (ss.take j)).length N V false false (encs T ss) T sg L wr HCR.out HR.out HV.out HNN.out HAN.out HRV.out (by omega) (Nat.le_trans HHI.out HRP.out)).mono ?_
          intro e w8 hg
          rw [HGT.out] at hg
          unfold GetP at hg
          dsimp only at hg
          rw [strN_txt, HTK.out] at hg
          obtain ⟨rfl, hr8, hk8⟩ := hg
          have HR8 := Lib.hid hr8
          have HV8 := Lib.hid (HV.out.kp hk8 (fun g hg hm => by simp only [List.mem_singleton] at hm; subst hm; exact HRV.out hg))
          have HK8 := Lib.hid (HKR.out.trans' hk8 (fun x hx => by simp only [List.mem_singleton] at hx; subst hx; exact .inr HRP.out))
          have hc8 := HIX.out w8 HK8.out
          clear hr8 hk8 HR HV HKR HCR
          go_wp2_with fail
          exact ⟨⟨j + 1, by go_num, by omega, HR8, HV8, HK8⟩, by simp [intOf]; omega⟩
        · obtain rfl : j = k := by omega
          have hrr := HR.out
          rw [HLN.out, HNN.out] at hrr
          replace HR := Lib.hid hrr
          clear hrr
          replace HX := Lib.hid (HX.out.kp0 HKR.out)
          replace HC := Lib.hid (HC.out.kp0 HKR.out)
          replace HK := Lib.hid (HK.out.trans HKR.out)
          replace HHI := Lib.hid (Nat.le_trans HHI.out HKR.out.size)
          clear HKR hlt hj
          go_wp2_with fail
          refine (rat_any rp v N false wr HR.out).mono ?_
          rintro e w9 ⟨rfl, rfl⟩
          go_wp2_with fail
          refine (vlen_any V v N (encs T ss) false wr HV.out HNN.out).mono ?_
          rintro e w9 ⟨rfl, rfl⟩
          go_wp2_with fail
          refine (rerr_any rp v N false wr HR.out).mono ?_
          rintro e w9 ⟨rfl, rfl⟩
          rw [show errB false = 0 from rfl]
          clear HR HV
          go_wp2_with fail
          obtain ⟨wz, rfl⟩ : ∃ wz, wz = wr := ⟨_, rfl⟩
          go_loopw [14] (fun i wr => ∃ k : Nat, i = .int .i64 ((k : Int) + 1) ∧ k + 1 ≤ j ∧ Hid (Kp [] wz wr)) (fun i _ => j - (intOf i).toNat)
          case atStart => exact ⟨0, rfl, by omega, Lib.hid (Kp.refl _ _)⟩
          case round =>
            obtain ⟨k, rfl, hk, HKR⟩ := hrel
            by_cases hlt : k + 1 < j
            · obtain ⟨s, ad, hs, rfl, _, hcs⟩ := (HX.out.kp0 HKR.out).str (k := k) (by rw [HN.out]; omega)
              obtain ⟨t, ad', ht, e', _, hct⟩ := (HX.out.kp0 HKR.out).str (k := k + 1) (by rw [HN.out]; omega)
              injection e' with e'
              subst e'
              obtain ⟨u, hu⟩ := HAL.out s (List.mem_of_getElem? hs)
              obtain ⟨v2, hv2⟩ := HAL.out t (List.mem_of_getElem? ht)
              obtain ⟨h1, h2, h3⟩ := two_texts HC.out.1 hu hv2
              have hs6 := HSZS.out s (List.mem_of_getElem? hs)
              have ht6 := HSZS.out t (List.mem_of_getElem? ht)
              have hub := encT_len HC.out.1 hu
              have hvb := encT_len HC.out.1 hv2
              obtain ⟨bd, hbd⟩ : ∃ bd, bd = ad.add (k + 1) := ⟨_, rfl⟩
              rw [← hbd] at hct
              obtain ⟨nu, hnu⟩ : ∃ nu, u.length = nu := ⟨_, rfl⟩
              obtain ⟨nv, hnv⟩ : ∃ nv, v2.length = nv := ⟨_, rfl⟩
              rw [hnu] at hub
              rw [hnv] at hvb
              obtain ⟨z, hz⟩ : ∃ z, cmpB u v2 = z := ⟨_, rfl⟩
              rw [hz] at h1 h2 h3
              have HZ := Lib.hid hz
              have HNU := Lib.hid hnu
              have HNV := Lib.hid hnv
              have HBD := Lib.hid hbd
              have HU := Lib.hid hu
              have HV2 := Lib.hid hv2
              have H1 := Lib.hid h1
              have H2 := Lib.hid (show (s.toList == t.toList) = decide (z = 0) from by
                by_cases hz0 : z = 0
                · rw [decide_eq_true hz0, h2.2 hz0]; simp
                · rw [decide_eq_false hz0]
                  have : s ≠ t := fun e => hz0 (h2.1 e)
                  have h5 : s.toList ≠ t.toList := fun e => this (txt_inj (by unfold txt; rw [← toL, ← toL, e]))
                  simpa using h5)
              have H3 := Lib.hid h3
              have HCR := Lib.hid (HC.out.kp0 HKR.out)
              have hb0 : (0 : Int) ≤ (k : Int) := by omega
              have hb1 : (k : Int) < (j : Int) := by omega
              have hb2 : (k : Int) + 1 < (j : Int) := by omega
              have hb3 : (0 : Int) ≤ (k : Int) + 1 := by omega
              clear hs ht hu hv2 h1 h2 h3 hz hnu hnv hbd
              go_wp2_with fail
              refine (bitsof_any lo hi p nu T sg L s u wr HCR.out HU.out HNU.out (by omega) (Nat.le_trans HHI.out HKR.out.size)).mono ?_
              rintro e w4 ⟨⟨A4, c4, rfl, _, hr4⟩, hk4⟩
              have HR4 := Lib.hid hr4
              replace HKR := Lib.hid (HKR.out.trans hk4)
              replace HCR := Lib.hid (HCR.out.kp0 hk4)
              have hct4 := hk4.cell hct (by simp)
              have hcs4 := hk4.cell hcs (by simp)
              have hctp : w4.cell? ⟨ad.block, ad.off + (k + 1), none⟩ = some (.string t) := by have := hct4; rw [HBD.out] at this; exact this
              clear hr4 hk4 hct hcs
              go_wp2_with fail
              refine (bitsof_any lo hi p nv T sg L t v2 w4 HCR.out HV2.out HNV.out (by omega) (Nat.le_trans HHI.out HKR.out.size)).mono ?_
              rintro e w5 ⟨⟨A5, c5, rfl, _, hr5⟩, hk5⟩
              have HR5 := Lib.hid hr5
              replace HR4 := Lib.hid (HR4.out.kp0 hk5)
              replace HKR := Lib.hid (HKR.out.trans hk5)
              have hct := hk5.cell hct4 (by simp)
              have hcs := hk5.cell hcs4 (by simp)
              clear hr5 hk5 hct4 hcs4 HCR hctp
              go_wp2_with fail
              refine (compare_any A4 A5 nu nv c4 c5 _ _ u v2 w5 HR4.out HR5.out HNU.out HNV.out (by omega) (by omega)).mono ?_
              rintro e w6 ⟨rfl, hd6⟩
              rw [HZ.out]
              have hk6 := hd6.kp []
              replace HR4 := Lib.hid (HR4.out.kp0 hk6)
              replace HR5 := Lib.hid (HR5.out.kp0 hk6)
              replace HKR := Lib.hid (HKR.out.trans hk6)
              replace hct := hk6.cell hct (by simp)
              replace hcs := hk6.cell hcs (by simp)
              clear hd6 hk6
              by_cases hz0 : z = 0
              · subst hz0
                rw [decide_eq_true (rfl : (0 : Int) = 0)] at H2
                rw [show decide ((0 : Int) < 0) = false from rfl] at H1
                go_wp2_with fail
                refine wp_region_facts (by kernel_rfl) 167 [122, 123, 124, 125, 126, 127, 128, 129, 130, 131, 132, 133, 134, 135, 136, 137, 138, 139, 140, 141, 142, 143, 144, 145, 146, 147, 148, 149, 150, 151, 152, 153, 154, 155, 156, 157, 158, 159, 160, 161, 162, 163, 164, 165, 166] [[], [122], [123], [124], [125, 124], [124, 126], [127], [128], [129, 128], [128], [128], [132, 128], [131, 133, 128], [134, 128], [128], [128], [136, 137, 128], [138, 128], [135, 139, 128], [130, 140, 128], [128, 141], [142], [143], [144, 143], [143], [143], [147, 143], [146, 148, 143], [149, 143], [143], [143], [151, 152, 143], [153, 143], [150, 154, 143], [145, 155, 143], [143, 156], [157], [158], [159, 158], [160, 158], [161], [161], [162, 163, 161], [161, 164, 158], [158, 165]] (by kernel_rfl) (by kernel_rfl) rfl (factOf [(122, .eq (.bool true)), (123, .eq (.bool false)), (124, .eq (.bool false)), (125, .eq (.bool true)), (126, .eq (.bool false)), (127, .eq (.bool false)), (128, .eq (.bool false)), (129, .eq (.int .i64 0)), (130, .eq (.bool false)), (131, .eq (.slice (some ad) j c)), (132, .eq (.int .i64 ((k : Int) + 1))), (133, .eq (.int .i64 (k : Int))), (134, .eq (.pointer (some (ad.add k)))), (135, .eq (.string s)), (136, .eq (.slice (some ad) j c)), (137, .eq (.int .i64 ((k : Int) + 1))), (138, .eq (.pointer (some bd))), (139, .eq (.string t)), (140, .eq (.bool false)), (141, .eq (.bool false)), (142, .eq (.bool false)), (143, .eq (.bool false)), (144, .eq (.int .i64 0)), (145, .eq (.bool true)), (146, .eq (.slice (some ad) j c)), (147, .eq (.int .i64 ((k : Int) + 1))), (148, .eq (.int .i64 (k : Int))), (149, .eq (.pointer (some (ad.add k)))), (150, .eq (.string s)), (151, .eq (.slice (some ad) j c)), (152, .eq (.int .i64 ((k : Int) + 1))), (153, .eq (.pointer (some bd))), (154, .eq (.string t)), (155, .eq (.bool true)), (156, .eq (.bool false)), (157, .eq (.bool false)), (158, .eq (.bool false)), (159, .eq (.int .i64 0)), (160, .eq (.bool false)), (161, .eq (.bool false)), (162, .eq (undef)), (163, .eq (undef)), (164, .eq (undef)), (165, .eq (.bool false)), (166, .eq (.bool false))]) (factOf_stable _) _ (fun x => by simp only [fillL, Nat.reduceAdd, Nat.reduceEqDiff, ↓reduceIte]; rfl) ?_ ?_
                · refine ⟨?_, ?_, ?_, ?_, ?_, ?_, ?_, ?_, ?_, ?_, ?_, ?_, ?_, ?_, ?_, ?_, ?_, ?_, ?_, ?_, ?_, ?_, ?_, ?_, ?_, ?_, ?_, ?_, ?_, ?_, ?_, ?_, ?_, ?_, ?_, ?_, ?_, ?_, ?_, ?_, ?_, ?_, ?_, ?_, ?_, trivial⟩
                  · intro fx w' fa hk hd ev  -- 122 = Op.move (Operand.tmp 16)
                    have e16 : fa.tmps[16]?.getD undef = .bool true := ev.old 16 rfl
                    refine stepF_un rfl (fun K hK => ?_)
                    exact stepF_val _ hK (run_move rfl e16 _) rfl
                  · intro fx w' fa hk hd ev  -- 123 = Op.unOp UnOp.not 4 (Operand.tmp 122)
                    have h122 : fx 122 = .bool true := hd.1
                    have e122 : fa.tmps[122]?.getD undef = .bool true := (ev.new 122 rfl).trans h122
                    refine stepF_un rfl (fun K hK => ?_)
                    go_simp
                    exact hK _ _ rfl (Kp.refl _ _)
                  · intro fx w' fa hk hd ev  -- 124 = Op.move (Operand.tmp 123)
                    have h123 : fx 123 = .bool false := hd.1
                    have e123 : fa.tmps[123]?.getD undef = .bool false := (ev.new 123 rfl).trans h123
                    refine stepF_un rfl (fun K hK => ?_)
                    exact stepF_val _ hK (run_move rfl e123 _) rfl
                  · intro fx w' fa hk hd ev  -- 125 = Op.move (Operand.tmp 18)
                    have h124 : fx 124 = .bool false := hd.1
                    have e124 : fa.tmps[124]?.getD undef = .bool false := (ev.new 124 rfl).trans h124
                    have e18 : fa.tmps[18]?.getD undef = .bool true := ev.old 18 rfl
                    refine stepF_yes (i := 2) (g := 124) (b := false) rfl rfl rfl e124 (fun K hK => ?_)
                    exact stepF_val _ hK (run_move rfl e18 _) rfl
                  · intro fx w' fa hk hd ev  -- 126 = Op.unOp UnOp.not 4 (Operand.tmp 125)
                    have h125 : fx 125 = .bool true := hd.1
                    have e125 : fa.tmps[125]?.getD undef = .bool true := (ev.new 125 rfl).trans h125
                    have h124 : fx 124 = .bool false := hd.2.1
                    have e124 : fa.tmps[124]?.getD undef = .bool false := (ev.new 124 rfl).trans h124
                    refine stepF_yes (i := 2) (g := 124) (b := false) rfl rfl rfl e124 (fun K hK => ?_)
                    go_simp
                    exact hK _ _ rfl (Kp.refl _ _)
                  · intro fx w' fa hk hd ev  -- 127 = Op.pick (Operand.tmp 124) (Operand.const (Value.bool true)) 
                    have h124 : fx 124 = .bool false := hd.1
                    have e124 : fa.tmps[124]?.getD undef = .bool false := (ev.new 124 rfl).trans h124
                    have h126 : fx 126 = .bool false := hd.2.1
                    have e126 : fa.tmps[126]?.getD undef = .bool false := (ev.new 126 rfl).trans h126
                    refine stepF_un rfl (fun K hK => ?_)
                    go_simp
                    exact hK _ _ rfl (Kp.refl _ _)
                  · intro fx w' fa hk hd ev  -- 128 = Op.move (Operand.tmp 127)
                    have h127 : fx 127 = .bool false := hd.1
                    have e127 : fa.tmps[127]?.getD undef = .bool false := (ev.new 127 rfl).trans h127
                    refine stepF_un rfl (fun K hK => ?_)
                    exact stepF_val _ hK (run_move rfl e127 _) rfl
                  · intro fx w' fa hk hd ev  -- 129 = Op.move (Operand.tmp 19)
                    have h128 : fx 128 = .bool false := hd.1
                    have e128 : fa.tmps[128]?.getD undef = .bool false := (ev.new 128 rfl).trans h128
                    have e19 : fa.tmps[19]?.getD undef = .int .i64 0 := ev.old 19 rfl
                    refine stepF_yes (i := 6) (g := 128) (b := false) rfl rfl rfl e128 (fun K hK => ?_)
                    exact stepF_val _ hK (run_move rfl e19 _) rfl
                  · intro fx w' fa hk hd ev  -- 130 = Op.binOp BinOp.lss 3 (Operand.tmp 129) (Operand.const (Value
                    have h129 : fx 129 = .int .i64 0 := hd.1
                    have e129 : fa.tmps[129]?.getD undef = .int .i64 0 := (ev.new 129 rfl).trans h129
                    have h128 : fx 128 = .bool false := hd.2.1
                    have e128 : fa.tmps[128]?.getD undef = .bool false := (ev.new 128 rfl).trans h128
                    refine stepF_yes (i := 6) (g := 128) (b := false) rfl rfl rfl e128 (fun K hK => ?_)
                    go_simp
                    exact hK _ _ rfl (Kp.refl _ _)
                  · intro fx w' fa hk hd ev  -- 131 = Op.move (Operand.tmp 0)
                    have h128 : fx 128 = .bool false := hd.1
                    have e128 : fa.tmps[128]?.getD undef = .bool false := (ev.new 128 rfl).trans h128
                    have e0 : fa.tmps[0]?.getD undef = .slice (some ad) j c := ev.old 0 rfl
                    refine stepF_yes (i := 6) (g := 128) (b := false) rfl rfl rfl e128 (fun K hK => ?_)
                    exact stepF_val _ hK (run_move rfl e0 _) rfl
                  · intro fx w' fa hk hd ev  -- 132 = Op.move (Operand.tmp 14)
                    have h128 : fx 128 = .bool false := hd.1
                    have e128 : fa.tmps[128]?.getD undef = .bool false := (ev.new 128 rfl).trans h128
                    have e14 : fa.tmps[14]?.getD undef = .int .i64 ((k : Int) + 1) := ev.old 14 rfl
                    refine stepF_yes (i := 6) (g := 128) (b := false) rfl rfl rfl e128 (fun K hK => ?_)
                    exact stepF_val _ hK (run_move rfl e14 _) rfl
                  · intro fx w' fa hk hd ev  -- 133 = Op.binOp BinOp.sub 3 (Operand.tmp 132) (Operand.const (Value
                    have h132 : fx 132 = .int .i64 ((k : Int) + 1) := hd.1
                    have e132 : fa.tmps[132]?.getD undef = .int .i64 ((k : Int) + 1) := (ev.new 132 rfl).trans h132
                    have h128 : fx 128 = .bool false := hd.2.1
                    have e128 : fa.tmps[128]?.getD undef = .bool false := (ev.new 128 rfl).trans h128
                    refine stepF_yes (i := 6) (g := 128) (b := false) rfl rfl rfl e128 (fun K hK => ?_)
                    have q9 : IntKind.wrap .i64 (k : Int) = k := by rw [IntKind.wrap_i64]; omega
                    go_simp
                    exact hK _ _ rfl (Kp.refl _ _)
                  · intro fx w' fa hk hd ev  -- 134 = Op.indexAddr 22 (Operand.tmp 131) (Operand.tmp 133)
                    have h131 : fx 131 = .slice (some ad) j c := hd.1
                    have e131 : fa.tmps[131]?.getD undef = .slice (some ad) j c := (ev.new 131 rfl).trans h131
                    have h133 : fx 133 = .int .i64 (k : Int) := hd.2.1
                    have e133 : fa.tmps[133]?.getD undef = .int .i64 (k : Int) := (ev.new 133 rfl).trans h133
                    have h128 : fx 128 = .bool false := hd.2.2.1
                    have e128 : fa.tmps[128]?.getD undef = .bool false := (ev.new 128 rfl).trans h128
                    refine stepF_yes (i := 6) (g := 128) (b := false) rfl rfl rfl e128 (fun K hK => ?_)
                    go_simp
                    exact hK _ _ rfl (Kp.refl _ _)
                  · intro fx w' fa hk hd ev  -- 135 = Op.load 9 (Operand.tmp 134)
                    have h134 : fx 134 = .pointer (some (ad.add k)) := hd.1
                    have e134 : fa.tmps[134]?.getD undef = .pointer (some (ad.add k)) := (ev.new 134 rfl).trans h134
                    have h128 : fx 128 = .bool false := hd.2.1
                    have e128 : fa.tmps[128]?.getD undef = .bool false := (ev.new 128 rfl).trans h128
                    refine stepF_yes (i := 6) (g := 128) (b := false) rfl rfl rfl e128 (fun K hK => ?_)
                    have q9 := hk.cell hcs (by simp)
                    go_simp
                    exact hK _ _ rfl (Kp.refl _ _)
                  · intro fx w' fa hk hd ev  -- 136 = Op.move (Operand.tmp 0)
                    have h128 : fx 128 = .bool false := hd.1
                    have e128 : fa.tmps[128]?.getD undef = .bool false := (ev.new 128 rfl).trans h128
                    have e0 : fa.tmps[0]?.getD undef = .slice (some ad) j c := ev.old 0 rfl
                    refine stepF_yes (i := 6) (g := 128) (b := false) rfl rfl rfl e128 (fun K hK => ?_)
                    exact stepF_val _ hK (run_move rfl e0 _) rfl
                  · intro fx w' fa hk hd ev  -- 137 = Op.move (Operand.tmp 14)
                    have h128 : fx 128 = .bool false := hd.1
                    have e128 : fa.tmps[128]?.getD undef = .bool false := (ev.new 128 rfl).trans h128
                    have e14 : fa.tmps[14]?.getD undef = .int .i64 ((k : Int) + 1) := ev.old 14 rfl
                    refine stepF_yes (i := 6) (g := 128) (b := false) rfl rfl rfl e128 (fun K hK => ?_)
                    exact stepF_val _ hK (run_move rfl e14 _) rfl
                  · intro fx w' fa hk hd ev  -- 138 = Op.indexAddr 22 (Operand.tmp 136) (Operand.tmp 137)
                    have h136 : fx 136 = .slice (some ad) j c := hd.1
                    have e136 : fa.tmps[136]?.getD undef = .slice (some ad) j c := (ev.new 136 rfl).trans h136
                    have h137 : fx 137 = .int .i64 ((k : Int) + 1) := hd.2.1
                    have e137 : fa.tmps[137]?.getD undef = .int .i64 ((k : Int) + 1) := (ev.new 137 rfl).trans h137
                    have h128 : fx 128 = .bool false := hd.2.2.1
                    have e128 : fa.tmps[128]?.getD undef = .bool false := (ev.new 128 rfl).trans h128
                    refine stepF_yes (i := 6) (g := 128) (b := false) rfl rfl rfl e128 (fun K hK => ?_)
                    go_simp
                    exact hK _ _ (by rw [HBD.out]; rfl) (Kp.refl _ _)
                  · intro fx w' fa hk hd ev  -- 139 = Op.load 9 (Operand.tmp 138)
                    have h138 : fx 138 = .pointer (some bd) := hd.1
                    have e138 : fa.tmps[138]?.getD undef = .pointer (some bd) := (ev.new 138 rfl).trans h138
                    have h128 : fx 128 = .bool false := hd.2.1
                    have e128 : fa.tmps[128]?.getD undef = .bool false := (ev.new 128 rfl).trans h128
                    refine stepF_yes (i := 6) (g := 128) (b := false) rfl rfl rfl e128 (fun K hK => ?_)
                    have q9 := hk.cell hct (by simp)
                    go_simp
                    exact hK _ _ rfl (Kp.refl _ _)
                  · intro fx w' fa hk hd ev  -- 140 = Op.binOp BinOp.lss 9 (Operand.tmp 135) (Operand.tmp 139) 9
                    have h135 : fx 135 = .string s := hd.1
                    have e135 : fa.tmps[135]?.getD undef = .string s := (ev.new 135 rfl).trans h135
                    have h139 : fx 139 = .string t := hd.2.1
                    have e139 : fa.tmps[139]?.getD undef = .string t := (ev.new 139 rfl).trans h139
                    have h128 : fx 128 = .bool false := hd.2.2.1
                    have e128 : fa.tmps[128]?.getD undef = .bool false := (ev.new 128 rfl).trans h128
                    refine stepF_yes (i := 6) (g := 128) (b := false) rfl rfl rfl e128 (fun K hK => ?_)
                    have q9 := H1.out
                    go_simp
                    exact hK _ _ rfl (Kp.refl _ _)
                  · intro fx w' fa hk hd ev  -- 141 = Op.binOp BinOp.neq 4 (Operand.tmp 130) (Operand.tmp 140) 4
                    have h130 : fx 130 = .bool false := hd.1
                    have e130 : fa.tmps[130]?.getD undef = .bool false := (ev.new 130 rfl).trans h130
                    have h140 : fx 140 = .bool false := hd.2.1
                    have e140 : fa.tmps[140]?.getD undef = .bool false := (ev.new 140 rfl).trans h140
                    have h128 : fx 128 = .bool false := hd.2.2.1
                    have e128 : fa.tmps[128]?.getD undef = .bool false := (ev.new 128 rfl).trans h128
                    refine stepF_yes (i := 6) (g := 128) (b := false) rfl rfl rfl e128 (fun K hK => ?_)
                    go_simp
                    exact hK _ _ rfl (Kp.refl _ _)
                  · intro fx w' fa hk hd ev  -- 142 = Op.pick (Operand.tmp 128) (Operand.const (Value.bool true)) 
                    have h128 : fx 128 = .bool false := hd.1
                    have e128 : fa.tmps[128]?.getD undef = .bool false := (ev.new 128 rfl).trans h128
                    have h141 : fx 141 = .bool false := hd.2.1
                    have e141 : fa.tmps[141]?.getD undef = .bool false := (ev.new 141 rfl).trans h141
                    refine stepF_un rfl (fun K hK => ?_)
                    go_simp
                    exact hK _ _ rfl (Kp.refl _ _)
                  · intro fx w' fa hk hd ev  -- 143 = Op.move (Operand.tmp 142)
                    have h142 : fx 142 = .bool false := hd.1
                    have e142 : fa.tmps[142]?.getD undef = .bool false := (ev.new 142 rfl).trans h142
                    refine stepF_un rfl (fun K hK => ?_)
                    exact stepF_val _ hK (run_move rfl e142 _) rfl
                  · intro fx w' fa hk hd ev  -- 144 = Op.move (Operand.tmp 19)
                    have h143 : fx 143 = .bool false := hd.1
                    have e143 : fa.tmps[143]?.getD undef = .bool false := (ev.new 143 rfl).trans h143
                    have e19 : fa.tmps[19]?.getD undef = .int .i64 0 := ev.old 19 rfl
                    refine stepF_yes (i := 21) (g := 143) (b := false) rfl rfl rfl e143 (fun K hK => ?_)
                    exact stepF_val _ hK (run_move rfl e19 _) rfl
                  · intro fx w' fa hk hd ev  -- 145 = Op.binOp BinOp.eql 3 (Operand.tmp 144) (Operand.const (Value
                    have h144 : fx 144 = .int .i64 0 := hd.1
                    have e144 : fa.tmps[144]?.getD undef = .int .i64 0 := (ev.new 144 rfl).trans h144
                    have h143 : fx 143 = .bool false := hd.2.1
                    have e143 : fa.tmps[143]?.getD undef = .bool false := (ev.new 143 rfl).trans h143
                    refine stepF_yes (i := 21) (g := 143) (b := false) rfl rfl rfl e143 (fun K hK => ?_)
                    go_simp
                    exact hK _ _ rfl (Kp.refl _ _)
                  · intro fx w' fa hk hd ev  -- 146 = Op.move (Operand.tmp 0)
                    have h143 : fx 143 = .bool false := hd.1
                    have e143 : fa.tmps[143]?.getD undef = .bool false := (ev.new 143 rfl).trans h143
                    have e0 : fa.tmps[0]?.getD undef = .slice (some ad) j c := ev.old 0 rfl
                    refine stepF_yes (i := 21) (g := 143) (b := false) rfl rfl rfl e143 (fun K hK => ?_)
                    exact stepF_val _ hK (run_move rfl e0 _) rfl
                  · intro fx w' fa hk hd ev  -- 147 = Op.move (Operand.tmp 14)
                    have h143 : fx 143 = .bool false := hd.1
                    have e143 : fa.tmps[143]?.getD undef = .bool false := (ev.new 143 rfl).trans h143
                    have e14 : fa.tmps[14]?.getD undef = .int .i64 ((k : Int) + 1) := ev.old 14 rfl
                    refine stepF_yes (i := 21) (g := 143) (b := false) rfl rfl rfl e143 (fun K hK => ?_)
                    exact stepF_val _ hK (run_move rfl e14 _) rfl
                  · intro fx w' fa hk hd ev  -- 148 = Op.binOp BinOp.sub 3 (Operand.tmp 147) (Operand.const (Value
                    have h147 : fx 147 = .int .i64 ((k : Int) + 1) := hd.1
                    have e147 : fa.tmps[147]?.getD undef = .int .i64 ((k : Int) + 1) := (ev.new 147 rfl).trans h147
                    have h143 : fx 143 = .bool false := hd.2.1
                    have e143 : fa.tmps[143]?.getD undef = .bool false := (ev.new 143 rfl).trans h143
                    refine stepF_yes (i := 21) (g := 143) (b := false) rfl rfl rfl e143 (fun K hK => ?_)
                    have q9 : IntKind.wrap .i64 (k : Int) = k := by rw [IntKind.wrap_i64]; omega
                    go_simp
                    exact hK _ _ rfl (Kp.refl _ _)
                  · intro fx w' fa hk hd ev  -- 149 = Op.indexAddr 22 (Operand.tmp 146) (Operand.tmp 148)
                    have h146 : fx 146 = .slice (some ad) j c := hd.1
                    have e146 : fa.tmps[146]?.getD undef = .slice (some ad) j c := (ev.new 146 rfl).trans h146
                    have h148 : fx 148 = .int .i64 (k : Int) := hd.2.1
                    have e148 : fa.tmps[148]?.getD undef = .int .i64 (k : Int) := (ev.new 148 rfl).trans h148
                    have h143 : fx 143 = .bool false := hd.2.2.1
                    have e143 : fa.tmps[143]?.getD undef = .bool false := (ev.new 143 rfl).trans h143
                    refine stepF_yes (i := 21) (g := 143) (b := false) rfl rfl rfl e143 (fun K hK => ?_)
                    go_simp
                    exact hK _ _ rfl (Kp.refl _ _)
                  · intro fx w' fa hk hd ev  -- 150 = Op.load 9 (Operand.tmp 149)
                    have h149 : fx 149 = .pointer (some (ad.add k)) := hd.1
                    have e149 : fa.tmps[149]?.getD undef = .pointer (some (ad.add k)) := (ev.new 149 rfl).trans h149
                    have h143 : fx 143 = .bool false := hd.2.1
                    have e143 : fa.tmps[143]?.getD undef = .bool false := (ev.new 143 rfl).trans h143
                    refine stepF_yes (i := 21) (g := 143) (b := false) rfl rfl rfl e143 (fun K hK => ?_)
                    have q9 := hk.cell hcs (by simp)
                    go_simp
                    exact hK _ _ rfl (Kp.refl _ _)
                  · intro fx w' fa hk hd ev  -- 151 = Op.move (Operand.tmp 0)
                    have h143 : fx 143 = .bool false := hd.1
                    have e143 : fa.tmps[143]?.getD undef = .bool false := (ev.new 143 rfl).trans h143
                    have e0 : fa.tmps[0]?.getD undef = .slice (some ad) j c := ev.old 0 rfl
                    refine stepF_yes (i := 21) (g := 143) (b := false) rfl rfl rfl e143 (fun K hK => ?_)
                    exact stepF_val _ hK (run_move rfl e0 _) rfl
                  · intro fx w' fa hk hd ev  -- 152 = Op.move (Operand.tmp 14)
                    have h143 : fx 143 = .bool false := hd.1
                    have e143 : fa.tmps[143]?.getD undef = .bool false := (ev.new 143 rfl).trans h143
                    have e14 : fa.tmps[14]?.getD undef = .int .i64 ((k : Int) + 1) := ev.old 14 rfl
                    refine stepF_yes (i := 21) (g := 143) (b := false) rfl rfl rfl e143 (fun K hK => ?_)
                    exact stepF_val _ hK (run_move rfl e14 _) rfl
                  · intro fx w' fa hk hd ev  -- 153 = Op.indexAddr 22 (Operand.tmp 151) (Operand.tmp 152)
                    have h151 : fx 151 = .slice (some ad) j c := hd.1
                    have e151 : fa.tmps[151]?.getD undef = .slice (some ad) j c := (ev.new 151 rfl).trans h151
                    have h152 : fx 152 = .int .i64 ((k : Int) + 1) := hd.2.1
                    have e152 : fa.tmps[152]?.getD undef = .int .i64 ((k : Int) + 1) := (ev.new 152 rfl).trans h152
                    have h143 : fx 143 = .bool false := hd.2.2.1
                    have e143 : fa.tmps[143]?.getD undef = .bool false := (ev.new 143 rfl).trans h143
                    refine stepF_yes (i := 21) (g := 143) (b := false) rfl rfl rfl e143 (fun K hK => ?_)
                    go_simp
                    exact hK _ _ (by rw [HBD.out]; rfl) (Kp.refl _ _)
                  · intro fx w' fa hk hd ev  -- 154 = Op.load 9 (Operand.tmp 153)
                    have h153 : fx 153 = .pointer (some bd) := hd.1
                    have e153 : fa.tmps[153]?.getD undef = .pointer (some bd) := (ev.new 153 rfl).trans h153
                    have h143 : fx 143 = .bool false := hd.2.1
                    have e143 : fa.tmps[143]?.getD undef = .bool false := (ev.new 143 rfl).trans h143
                    refine stepF_yes (i := 21) (g := 143) (b := false) rfl rfl rfl e143 (fun K hK => ?_)
                    have q9 := hk.cell hct (by simp)
                    go_simp
                    exact hK _ _ rfl (Kp.refl _ _)
                  · intro fx w' fa hk hd ev  -- 155 = Op.binOp BinOp.eql 9 (Operand.tmp 150) (Operand.tmp 154) 9
                    have h150 : fx 150 = .string s := hd.1
                    have e150 : fa.tmps[150]?.getD undef = .string s := (ev.new 150 rfl).trans h150
                    have h154 : fx 154 = .string t := hd.2.1
                    have e154 : fa.tmps[154]?.getD undef = .string t := (ev.new 154 rfl).trans h154
                    have h143 : fx 143 = .bool false := hd.2.2.1
                    have e143 : fa.tmps[143]?.getD undef = .bool false := (ev.new 143 rfl).trans h143
                    refine stepF_yes (i := 21) (g := 143) (b := false) rfl rfl rfl e143 (fun K hK => ?_)
                    have q9 := H2.out
                    go_simp
                    exact hK _ _ rfl (Kp.refl _ _)
                  · intro fx w' fa hk hd ev  -- 156 = Op.binOp BinOp.neq 4 (Operand.tmp 145) (Operand.tmp 155) 4
                    have h145 : fx 145 = .bool true := hd.1
                    have e145 : fa.tmps[145]?.getD undef = .bool true := (ev.new 145 rfl).trans h145
                    have h155 : fx 155 = .bool true := hd.2.1
                    have e155 : fa.tmps[155]?.getD undef = .bool true := (ev.new 155 rfl).trans h155
                    have h143 : fx 143 = .bool false := hd.2.2.1
                    have e143 : fa.tmps[143]?.getD undef = .bool false := (ev.new 143 rfl).trans h143
                    refine stepF_yes (i := 21) (g := 143) (b := false) rfl rfl rfl e143 (fun K hK => ?_)
                    go_simp
                    exact hK _ _ rfl (Kp.refl _ _)
                  · intro fx w' fa hk hd ev  -- 157 = Op.pick (Operand.tmp 143) (Operand.const (Value.bool true)) 
                    have h143 : fx 143 = .bool false := hd.1
                    have e143 : fa.tmps[143]?.getD undef = .bool false := (ev.new 143 rfl).trans h143
                    have h156 : fx 156 = .bool false := hd.2.1
                    have e156 : fa.tmps[156]?.getD undef = .bool false := (ev.new 156 rfl).trans h156
                    refine stepF_un rfl (fun K hK => ?_)
                    go_simp
                    exact hK _ _ rfl (Kp.refl _ _)
                  · intro fx w' fa hk hd ev  -- 158 = Op.move (Operand.tmp 157)
                    have h157 : fx 157 = .bool false := hd.1
                    have e157 : fa.tmps[157]?.getD undef = .bool false := (ev.new 157 rfl).trans h157
                    refine stepF_un rfl (fun K hK => ?_)
                    exact stepF_val _ hK (run_move rfl e157 _) rfl
                  · intro fx w' fa hk hd ev  -- 159 = Op.move (Operand.tmp 19)
                    have h158 : fx 158 = .bool false := hd.1
                    have e158 : fa.tmps[158]?.getD undef = .bool false := (ev.new 158 rfl).trans h158
                    have e19 : fa.tmps[19]?.getD undef = .int .i64 0 := ev.old 19 rfl
                    refine stepF_yes (i := 36) (g := 158) (b := false) rfl rfl rfl e158 (fun K hK => ?_)
                    exact stepF_val _ hK (run_move rfl e19 _) rfl
                  · intro fx w' fa hk hd ev  -- 160 = Op.binOp BinOp.neq 3 (Operand.tmp 159) (Operand.const (Value
                    have h159 : fx 159 = .int .i64 0 := hd.1
                    have e159 : fa.tmps[159]?.getD undef = .int .i64 0 := (ev.new 159 rfl).trans h159
                    have h158 : fx 158 = .bool false := hd.2.1
                    have e158 : fa.tmps[158]?.getD undef = .bool false := (ev.new 158 rfl).trans h158
                    refine stepF_yes (i := 36) (g := 158) (b := false) rfl rfl rfl e158 (fun K hK => ?_)
                    go_simp
                    exact hK _ _ rfl (Kp.refl _ _)
                  · intro fx w' fa hk hd ev  -- 161 = Op.move (Operand.tmp 160)
                    have h160 : fx 160 = .bool false := hd.1
                    have e160 : fa.tmps[160]?.getD undef = .bool false := (ev.new 160 rfl).trans h160
                    have h158 : fx 158 = .bool false := hd.2.1
                    have e158 : fa.tmps[158]?.getD undef = .bool false := (ev.new 158 rfl).trans h158
                    refine stepF_yes (i := 36) (g := 158) (b := false) rfl rfl rfl e158 (fun K hK => ?_)
                    exact stepF_val _ hK (run_move rfl e160 _) rfl
                  · intro fx w' fa hk hd ev  -- 162 = Op.move (Operand.tmp 15)
                    have h161 : fx 161 = .bool false := hd.1
                    have e161 : fa.tmps[161]?.getD undef = .bool false := (ev.new 161 rfl).trans h161
                    refine stepF_no (i := 39) (g := 161) (b := true) rfl rfl rfl e161 rfl
                  · intro fx w' fa hk hd ev  -- 163 = Op.move (Operand.tmp 17)
                    have h161 : fx 161 = .bool false := hd.1
                    have e161 : fa.tmps[161]?.getD undef = .bool false := (ev.new 161 rfl).trans h161
                    refine stepF_no (i := 39) (g := 161) (b := true) rfl rfl rfl e161 rfl
                  · intro fx w' fa hk hd ev  -- 164 = Op.call { callee := Callee.value (Operand.func 14), args := 
                    have h161 : fx 161 = .bool false := hd.2.2.1
                    have e161 : fa.tmps[161]?.getD undef = .bool false := (ev.new 161 rfl).trans h161
                    refine stepF_no (i := 39) (g := 161) (b := true) rfl rfl rfl e161 rfl
                  · intro fx w' fa hk hd ev  -- 165 = Op.pick (Operand.tmp 161) (Operand.tmp 164) (Operand.const (
                    have h161 : fx 161 = .bool false := hd.1
                    have e161 : fa.tmps[161]?.getD undef = .bool false := (ev.new 161 rfl).trans h161
                    have h164 : fx 164 = undef := hd.2.1
                    have e164 : fa.tmps[164]?.getD undef = undef := (ev.new 164 rfl).trans h164
                    have h158 : fx 158 = .bool false := hd.2.2.1
                    have e158 : fa.tmps[158]?.getD undef = .bool false := (ev.new 158 rfl).trans h158
                    refine stepF_yes (i := 36) (g := 158) (b := false) rfl rfl rfl e158 (fun K hK => ?_)
                    go_simp
                    exact hK _ _ rfl (Kp.refl _ _)
                  · intro fx w' fa hk hd ev  -- 166 = Op.pick (Operand.tmp 158) (Operand.const (Value.bool true)) 
                    have h158 : fx 158 = .bool false := hd.1
                    have e158 : fa.tmps[158]?.getD undef = .bool false := (ev.new 158 rfl).trans h158
                    have h165 : fx 165 = .bool false := hd.2.1
                    have e165 : fa.tmps[165]?.getD undef = .bool false := (ev.new 165 rfl).trans h165
                    refine stepF_un rfl (fun K hK => ?_)
                    go_simp
                    exact hK _ _ rfl (Kp.refl _ _)
                · intro fx w' hk hd
                  have h166 : fx 166 = .bool false := hd.2.2.2.2.2.2.2.2.2.2.2.2.2.2.2.2.2.2.2.2.2.2.2.2.2.2.2.2.2.2.2.2.2.2.2.2.2.2.2.2.2.2.2.2.1
                  rw [h166]
                  have HKE := Lib.hid (HKR.out.trans hk)
                  clear hk hd hcs hct HKR HR4 HR5
                  go_wp2_with fail
                  exact ⟨⟨k + 1, by go_num, by omega, HKE⟩, by simp [intOf]; omega⟩
              · have HBG := Lib.hid (H3.out hz0)
                rw [decide_eq_false hz0] at H2
                have hzz : (z == 0) = false := by simpa using hz0
                have hzn : (z != 0) = true := by simpa using hz0
                clear hz0
                go_wp2_with fail
                refine wp_region_facts (by kernel_rfl) 167 [122, 123, 124, 125, 126, 127, 128, 129, 130, 131, 132, 133, 134, 135, 136, 137, 138, 139, 140, 141, 142, 143, 144, 145, 146, 147, 148, 149, 150, 151, 152, 153, 154, 155, 156, 157, 158, 159, 160, 161, 162, 163, 164, 165, 166] [[], [122], [123], [124], [125, 124], [124, 126], [127], [128], [129, 128], [128], [128], [132, 128], [131, 133, 128], [134, 128], [128], [128], [136, 137, 128], [138, 128], [135, 139, 128], [130, 140, 128], [128, 141], [142], [143], [144, 143], [143], [143], [147, 143], [146, 148, 143], [149, 143], [143], [143], [151, 152, 143], [153, 143], [150, 154, 143], [145, 155, 143], [143, 156], [157], [158], [159, 158], [160, 158], [161], [161], [162, 163, 161], [161, 164, 158], [158, 165]] (by kernel_rfl) (by kernel_rfl) rfl (factOf [(122, .eq (.bool true)), (123, .eq (.bool false)), (124, .eq (.bool false)), (125, .eq (.bool true)), (126, .eq (.bool false)), (127, .eq (.bool false)), (128, .eq (.bool false)), (129, .eq (.int .i64 z)), (130, .eq (.bool (decide (z < 0)))), (131, .eq (.slice (some ad) j c)), (132, .eq (.int .i64 ((k : Int) + 1))), (133, .eq (.int .i64 (k : Int))), (134, .eq (.pointer (some (ad.add k)))), (135, .eq (.string s)), (136, .eq (.slice (some ad) j c)), (137, .eq (.int .i64 ((k : Int) + 1))), (138, .eq (.pointer (some bd))), (139, .eq (.string t)), (140, .eq (.bool (decide (z < 0)))), (141, .eq (.bool false)), (142, .eq (.bool false)), (143, .eq (.bool false)), (144, .eq (.int .i64 z)), (145, .eq (.bool false)), (146, .eq (.slice (some ad) j c)), (147, .eq (.int .i64 ((k : Int) + 1))), (148, .eq (.int .i64 (k : Int))), (149, .eq (.pointer (some (ad.add k)))), (150, .eq (.string s)), (151, .eq (.slice (some ad) j c)), (152, .eq (.int .i64 ((k : Int) + 1))), (153, .eq (.pointer (some bd))), (154, .eq (.string t)), (155, .eq (.bool false)), (156, .eq (.bool false)), (157, .eq (.bool false)), (158, .eq (.bool false)), (159, .eq (.int .i64 z)), (160, .eq (.bool true)), (161, .eq (.bool true)), (162, .eq (.slice A4 nu c4)), (163, .eq (.slice A5 nv c5)), (164, .eq (.bool false)), (165, .eq (.bool false)), (166, .eq (.bool false))]) (factOf_stable _) _ (fun x => by simp only [fillL, Nat.reduceAdd, Nat.reduceEqDiff, ↓reduceIte]; rfl) ?_ ?_
                · refine ⟨?_, ?_, ?_, ?_, ?_, ?_, ?_, ?_, ?_, ?_, ?_, ?_, ?_, ?_, ?_, ?_, ?_, ?_, ?_, ?_, ?_, ?_, ?_, ?_, ?_, ?_, ?_, ?_, ?_, ?_, ?_, ?_, ?_, ?_, ?_, ?_, ?_, ?_, ?_, ?_, ?_, ?_, ?_, ?_, ?_, trivial⟩
                  · intro fx w' fa hk hd ev  -- 122 = Op.move (Operand.tmp 16)
                    have e16 : fa.tmps[16]?.getD undef = .bool true := ev.old 16 rfl
                    refine stepF_un rfl (fun K hK => ?_)
                    exact stepF_val _ hK (run_move rfl e16 _) rfl
                  · intro fx w' fa hk hd ev  -- 123 = Op.unOp UnOp.not 4 (Operand.tmp 122)
                    have h122 : fx 122 = .bool true := hd.1
                    have e122 : fa.tmps[122]?.getD undef = .bool true := (ev.new 122 rfl).trans h122
                    refine stepF_un rfl (fun K hK => ?_)
                    go_simp
                    exact hK _ _ rfl (Kp.refl _ _)
                  · intro fx w' fa hk hd ev  -- 124 = Op.move (Operand.tmp 123)
                    have h123 : fx 123 = .bool false := hd.1
                    have e123 : fa.tmps[123]?.getD undef = .bool false := (ev.new 123 rfl).trans h123
                    refine stepF_un rfl (fun K hK => ?_)
                    exact stepF_val _ hK (run_move rfl e123 _) rfl
                  · intro fx w' fa hk hd ev  -- 125 = Op.move (Operand.tmp 18)
                    have h124 : fx 124 = .bool false := hd.1
                    have e124 : fa.tmps[124]?.getD undef = .bool false := (ev.new 124 rfl).trans h124
                    have e18 : fa.tmps[18]?.getD undef = .bool true := ev.old 18 rfl
                    refine stepF_yes (i := 2) (g := 124) (b := false) rfl rfl rfl e124 (fun K hK => ?_)
                    exact stepF_val _ hK (run_move rfl e18 _) rfl
                  · intro fx w' fa hk hd ev  -- 126 = Op.unOp UnOp.not 4 (Operand.tmp 125)
                    have h125 : fx 125 = .bool true := hd.1
                    have e125 : fa.tmps[125]?.getD undef = .bool true := (ev.new 125 rfl).trans h125
                    have h124 : fx 124 = .bool false := hd.2.1
                    have e124 : fa.tmps[124]?.getD undef = .bool false := (ev.new 124 rfl).trans h124
                    refine stepF_yes (i := 2) (g := 124) (b := false) rfl rfl rfl e124 (fun K hK => ?_)
                    go_simp
                    exact hK _ _ rfl (Kp.refl _ _)
                  · intro fx w' fa hk hd ev  -- 127 = Op.pick (Operand.tmp 124) (Operand.const (Value.bool true)) 
                    have h124 : fx 124 = .bool false := hd.1
                    have e124 : fa.tmps[124]?.getD undef = .bool false := (ev.new 124 rfl).trans h124
                    have h126 : fx 126 = .bool false := hd.2.1
                    have e126 : fa.tmps[126]?.getD undef = .bool false := (ev.new 126 rfl).trans h126
                    refine stepF_un rfl (fun K hK => ?_)
                    go_simp
                    exact hK _ _ rfl (Kp.refl _ _)
                  · intro fx w' fa hk hd ev  -- 128 = Op.move (Operand.tmp 127)
                    have h127 : fx 127 = .bool false := hd.1
                    have e127 : fa.tmps[127]?.getD undef = .bool false := (ev.new 127 rfl).trans h127
                    refine stepF_un rfl (fun K hK => ?_)
                    exact stepF_val _ hK (run_move rfl e127 _) rfl
                  · intro fx w' fa hk hd ev  -- 129 = Op.move (Operand.tmp 19)
                    have h128 : fx 128 = .bool false := hd.1
                    have e128 : fa.tmps[128]?.getD undef = .bool false := (ev.new 128 rfl).trans h128
                    have e19 : fa.tmps[19]?.getD undef = .int .i64 z := ev.old 19 rfl
                    refine stepF_yes (i := 6) (g := 128) (b := false) rfl rfl rfl e128 (fun K hK => ?_)
                    exact stepF_val _ hK (run_move rfl e19 _) rfl
                  · intro fx w' fa hk hd ev  -- 130 = Op.binOp BinOp.lss 3 (Operand.tmp 129) (Operand.const (Value
                    have h129 : fx 129 = .int .i64 z := hd.1
                    have e129 : fa.tmps[129]?.getD undef = .int .i64 z := (ev.new 129 rfl).trans h129
                    have h128 : fx 128 = .bool false := hd.2.1
                    have e128 : fa.tmps[128]?.getD undef = .bool false := (ev.new 128 rfl).trans h128
                    refine stepF_yes (i := 6) (g := 128) (b := false) rfl rfl rfl e128 (fun K hK => ?_)
                    go_simp
                    exact hK _ _ rfl (Kp.refl _ _)
                  · intro fx w' fa hk hd ev  -- 131 = Op.move (Operand.tmp 0)
                    have h128 : fx 128 = .bool false := hd.1
                    have e128 : fa.tmps[128]?.getD undef = .bool false := (ev.new 128 rfl).trans h128
                    have e0 : fa.tmps[0]?.getD undef = .slice (some ad) j c := ev.old 0 rfl
                    refine stepF_yes (i := 6) (g := 128) (b := false) rfl rfl rfl e128 (fun K hK => ?_)
                    exact stepF_val _ hK (run_move rfl e0 _) rfl
                  · intro fx w' fa hk hd ev  -- 132 = Op.move (Operand.tmp 14)
                    have h128 : fx 128 = .bool false := hd.1
                    have e128 : fa.tmps[128]?.getD undef = .bool false := (ev.new 128 rfl).trans h128
                    have e14 : fa.tmps[14]?.getD undef = .int .i64 ((k : Int) + 1) := ev.old 14 rfl
                    refine stepF_yes (i := 6) (g := 128) (b := false) rfl rfl rfl e128 (fun K hK => ?_)
                    exact stepF_val _ hK (run_move rfl e14 _) rfl
                  · intro fx w' fa hk hd ev  -- 133 = Op.binOp BinOp.sub 3 (Operand.tmp 132) (Operand.const (Value
                    have h132 : fx 132 = .int .i64 ((k : Int) + 1) := hd.1
                    have e132 : fa.tmps[132]?.getD undef = .int .i64 ((k : Int) + 1) := (ev.new 132 rfl).trans h132
                    have h128 : fx 128 = .bool false := hd.2.1
                    have e128 : fa.tmps[128]?.getD undef = .bool false := (ev.new 128 rfl).trans h128
                    refine stepF_yes (i := 6) (g := 128) (b := false) rfl rfl rfl e128 (fun K hK => ?_)
                    have q9 : IntKind.wrap .i64 (k : Int) = k := by rw [IntKind.wrap_i64]; omega
                    go_simp
                    exact hK _ _ rfl (Kp.refl _ _)
                  · intro fx w' fa hk hd ev  -- 134 = Op.indexAddr 22 (Operand.tmp 131) (Operand.tmp 133)
                    have h131 : fx 131 = .slice (some ad) j c := hd.1
                    have e131 : fa.tmps[131]?.getD undef = .slice (some ad) j c := (ev.new 131 rfl).trans h131
                    have h133 : fx 133 = .int .i64 (k : Int) := hd.2.1
                    have e133 : fa.tmps[133]?.getD undef = .int .i64 (k : Int) := (ev.new 133 rfl).trans h133
                    have h128 : fx 128 = .bool false := hd.2.2.1
                    have e128 : fa.tmps[128]?.getD undef = .bool false := (ev.new 128 rfl).trans h128
                    refine stepF_yes (i := 6) (g := 128) (b := false) rfl rfl rfl e128 (fun K hK => ?_)
                    go_simp
                    exact hK _ _ rfl (Kp.refl _ _)
                  · intro fx w' fa hk hd ev  -- 135 = Op.load 9 (Operand.tmp 134)
                    have h134 : fx 134 = .pointer (some (ad.add k)) := hd.1
                    have e134 : fa.tmps[134]?.getD undef = .pointer (some (ad.add k)) := (ev.new 134 rfl).trans h134
                    have h128 : fx 128 = .bool false := hd.2.1
                    have e128 : fa.tmps[128]?.getD undef = .bool false := (ev.new 128 rfl).trans h128
                    refine stepF_yes (i := 6) (g := 128) (b := false) rfl rfl rfl e128 (fun K hK => ?_)
                    have q9 := hk.cell hcs (by simp)
                    go_simp
                    exact hK _ _ rfl (Kp.refl _ _)
                  · intro fx w' fa hk hd ev  -- 136 = Op.move (Operand.tmp 0)
                    have h128 : fx 128 = .bool false := hd.1
                    have e128 : fa.tmps[128]?.getD undef = .bool false := (ev.new 128 rfl).trans h128
                    have e0 : fa.tmps[0]?.getD undef = .slice (some ad) j c := ev.old 0 rfl
                    refine stepF_yes (i := 6) (g := 128) (b := false) rfl rfl rfl e128 (fun K hK => ?_)
                    exact stepF_val _ hK (run_move rfl e0 _) rfl
                  · intro fx w' fa hk hd ev  -- 137 = Op.move (Operand.tmp 14)
                    have h128 : fx 128 = .bool false := hd.1
                    have e128 : fa.tmps[128]?.getD undef = .bool false := (ev.new 128 rfl).trans h128
                    have e14 : fa.tmps[14]?.getD undef = .int .i64 ((k : Int) + 1) := ev.old 14 rfl
                    refine stepF_yes (i := 6) (g := 128) (b := false) rfl rfl rfl e128 (fun K hK => ?_)
                    exact stepF_val _ hK (run_move rfl e14 _) rfl
                  · intro fx w' fa hk hd ev  -- 138 = Op.indexAddr 22 (Operand.tmp 136) (Operand.tmp 137)
                    have h136 : fx 136 = .slice (some ad) j c := hd.1
                    have e136 : fa.tmps[136]?.getD undef = .slice (some ad) j c := (ev.new 136 rfl).trans h136
                    have h137 : fx 137 = .int .i64 ((k : Int) + 1) := hd.2.1
                    have e137 : fa.tmps[137]?.getD undef = .int .i64 ((k : Int) + 1) := (ev.new 137 rfl).trans h137
                    have h128 : fx 128 = .bool false := hd.2.2.1
                    have e128 : fa.tmps[128]?.getD undef = .bool false := (ev.new 128 rfl).trans h128
                    refine stepF_yes (i := 6) (g := 128) (b := false) rfl rfl rfl e128 (fun K hK => ?_)
                    go_simp
                    exact hK _ _ (by rw [HBD.out]; rfl) (Kp.refl _ _)
                  · intro fx w' fa hk hd ev  -- 139 = Op.load 9 (Operand.tmp 138)
                    have h138 : fx 138 = .pointer (some bd) := hd.1
                    have e138 : fa.tmps[138]?.getD undef = .pointer (some bd) := (ev.new 138 rfl).trans h138
                    have h128 : fx 128 = .bool false := hd.2.1
                    have e128 : fa.tmps[128]?.getD undef = .bool false := (ev.new 128 rfl).trans h128
                    refine stepF_yes (i := 6) (g := 128) (b := false) rfl rfl rfl e128 (fun K hK => ?_)
                    have q9 := hk.cell hct (by simp)
                    go_simp
                    exact hK _ _ rfl (Kp.refl _ _)
                  · intro fx w' fa hk hd ev  -- 140 = Op.binOp BinOp.lss 9 (Operand.tmp 135) (Operand.tmp 139) 9
                    have h135 : fx 135 = .string s := hd.1
                    have e135 : fa.tmps[135]?.getD undef = .string s := (ev.new 135 rfl).trans h135
                    have h139 : fx 139 = .string t := hd.2.1
                    have e139 : fa.tmps[139]?.getD undef = .string t := (ev.new 139 rfl).trans h139
                    have h128 : fx 128 = .bool false := hd.2.2.1
                    have e128 : fa.tmps[128]?.getD undef = .bool false := (ev.new 128 rfl).trans h128
                    refine stepF_yes (i := 6) (g := 128) (b := false) rfl rfl rfl e128 (fun K hK => ?_)
                    have q9 := H1.out
                    go_simp
                    exact hK _ _ rfl (Kp.refl _ _)
                  · intro fx w' fa hk hd ev  -- 141 = Op.binOp BinOp.neq 4 (Operand.tmp 130) (Operand.tmp 140) 4
                    have h130 : fx 130 = .bool (decide (z < 0)) := hd.1
                    have e130 : fa.tmps[130]?.getD undef = .bool (decide (z < 0)) := (ev.new 130 rfl).trans h130
                    have h140 : fx 140 = .bool (decide (z < 0)) := hd.2.1
                    have e140 : fa.tmps[140]?.getD undef = .bool (decide (z < 0)) := (ev.new 140 rfl).trans h140
                    have h128 : fx 128 = .bool false := hd.2.2.1
                    have e128 : fa.tmps[128]?.getD undef = .bool false := (ev.new 128 rfl).trans h128
                    refine stepF_yes (i := 6) (g := 128) (b := false) rfl rfl rfl e128 (fun K hK => ?_)
                    go_simp
                    exact hK _ _ rfl (Kp.refl _ _)
                  · intro fx w' fa hk hd ev  -- 142 = Op.pick (Operand.tmp 128) (Operand.const (Value.bool true)) 
                    have h128 : fx 128 = .bool false := hd.1
                    have e128 : fa.tmps[128]?.getD undef = .bool false := (ev.new 128 rfl).trans h128
                    have h141 : fx 141 = .bool false := hd.2.1
                    have e141 : fa.tmps[141]?.getD undef = .bool false := (ev.new 141 rfl).trans h141
                    refine stepF_un rfl (fun K hK => ?_)
                    go_simp
                    exact hK _ _ rfl (Kp.refl _ _)
                  · intro fx w' fa hk hd ev  -- 143 = Op.move (Operand.tmp 142)
                    have h142 : fx 142 = .bool false := hd.1
                    have e142 : fa.tmps[142]?.getD undef = .bool false := (ev.new 142 rfl).trans h142
                    refine stepF_un rfl (fun K hK => ?_)
                    exact stepF_val _ hK (run_move rfl e142 _) rfl
                  · intro fx w' fa hk hd ev  -- 144 = Op.move (Operand.tmp 19)
                    have h143 : fx 143 = .bool false := hd.1
                    have e143 : fa.tmps[143]?.getD undef = .bool false := (ev.new 143 rfl).trans h143
                    have e19 : fa.tmps[19]?.getD undef = .int .i64 z := ev.old 19 rfl
                    refine stepF_yes (i := 21) (g := 143) (b := false) rfl rfl rfl e143 (fun K hK => ?_)
                    exact stepF_val _ hK (run_move rfl e19 _) rfl
                  · intro fx w' fa hk hd ev  -- 145 = Op.binOp BinOp.eql 3 (Operand.tmp 144) (Operand.const (Value
                    have h144 : fx 144 = .int .i64 z := hd.1
                    have e144 : fa.tmps[144]?.getD undef = .int .i64 z := (ev.new 144 rfl).trans h144
                    have h143 : fx 143 = .bool false := hd.2.1
                    have e143 : fa.tmps[143]?.getD undef = .bool false := (ev.new 143 rfl).trans h143
                    refine stepF_yes (i := 21) (g := 143) (b := false) rfl rfl rfl e143 (fun K hK => ?_)
                    go_simp
                    exact hK _ _ rfl (Kp.refl _ _)
                  · intro fx w' fa hk hd ev  -- 146 = Op.move (Operand.tmp 0)
                    have h143 : fx 143 = .bool false := hd.1
                    have e143 : fa.tmps[143]?.getD undef = .bool false := (ev.new 143 rfl).trans h143
                    have e0 : fa.tmps[0]?.getD undef = .slice (some ad) j c := ev.old 0 rfl
                    refine stepF_yes (i := 21) (g := 143) (b := false) rfl rfl rfl e143 (fun K hK => ?_)
                    exact stepF_val _ hK (run_move rfl e0 _) rfl
                  · intro fx w' fa hk hd ev  -- 147 = Op.move (Operand.tmp 14)
                    have h143 : fx 143 = .bool false := hd.1
                    have e143 : fa.tmps[143]?.getD undef = .bool false := (ev.new 143 rfl).trans h143
                    have e14 : fa.tmps[14]?.getD undef = .int .i64 ((k : Int) + 1) := ev.old 14 rfl
                    refine stepF_yes (i := 21) (g := 143) (b := false) rfl rfl rfl e143 (fun K hK => ?_)
                    exact stepF_val _ hK (run_move rfl e14 _) rfl
                  · intro fx w' fa hk hd ev  -- 148 = Op.binOp BinOp.sub 3 (Operand.tmp 147) (Operand.const (Value
                    have h147 : fx 147 = .int .i64 ((k : Int) + 1) := hd.1
                    have e147 : fa.tmps[147]?.getD undef = .int .i64 ((k : Int) + 1) := (ev.new 147 rfl).trans h147
                    have h143 : fx 143 = .bool false := hd.2.1
                    have e143 : fa.tmps[143]?.getD undef = .bool false := (ev.new 143 rfl).trans h143
                    refine stepF_yes (i := 21) (g := 143) (b := false) rfl rfl rfl e143 (fun K hK => ?_)
                    have q9 : IntKind.wrap .i64 (k : Int) = k := by rw [IntKind.wrap_i64]; omega
                    go_simp
                    exact hK _ _ rfl (Kp.refl _ _)
                  · intro fx w' fa hk hd ev  -- 149 = Op.indexAddr 22 (Operand.tmp 146) (Operand.tmp 148)
                    have h146 : fx 146 = .slice (some ad) j c := hd.1
                    have e146 : fa.tmps[146]?.getD undef = .slice (some ad) j c := (ev.new 146 rfl).trans h146
                    have h148 : fx 148 = .int .i64 (k : Int) := hd.2.1
                    have e148 : fa.tmps[148]?.getD undef = .int .i64 (k : Int) := (ev.new 148 rfl).trans h148
                    have h143 : fx 143 = .bool false := hd.2.2.1
                    have e143 : fa.tmps[143]?.getD undef = .bool false := (ev.new 143 rfl).trans h143
                    refine stepF_yes (i := 21) (g := 143) (b := false) rfl rfl rfl e143 (fun K hK => ?_)
                    go_simp
                    exact hK _ _ rfl (Kp.refl _ _)
                  · intro fx w' fa hk hd ev  -- 150 = Op.load 9 (Operand.tmp 149)
                    have h149 : fx 149 = .pointer (some (ad.add k)) := hd.1
                    have e149 : fa.tmps[149]?.getD undef = .pointer (some (ad.add k)) := (ev.new 149 rfl).trans h149
                    have h143 : fx 143 = .bool false := hd.2.1
                    have e143 : fa.tmps[143]?.getD undef = .bool false := (ev.new 143 rfl).trans h143
                    refine stepF_yes (i := 21) (g := 143) (b := false) rfl rfl rfl e143 (fun K hK => ?_)
                    have q9 := hk.cell hcs (by simp)
                    go_simp
                    exact hK _ _ rfl (Kp.refl _ _)
                  · intro fx w' fa hk hd ev  -- 151 = Op.move (Operand.tmp 0)
                    have h143 : fx 143 = .bool false := hd.1
                    have e143 : fa.tmps[143]?.getD undef = .bool false := (ev.new 143 rfl).trans h143
                    have e0 : fa.tmps[0]?.getD undef = .slice (some ad) j c := ev.old 0 rfl
                    refine stepF_yes (i := 21) (g := 143) (b := false) rfl rfl rfl e143 (fun K hK => ?_)
                    exact stepF_val _ hK (run_move rfl e0 _) rfl
                  · intro fx w' fa hk hd ev  -- 152 = Op.move (Operand.tmp 14)
                    have h143 : fx 143 = .bool false := hd.1
                    have e143 : fa.tmps[143]?.getD undef = .bool false := (ev.new 143 rfl).trans h143
                    have e14 : fa.tmps[14]?.getD undef = .int .i64 ((k : Int) + 1) := ev.old 14 rfl
                    refine stepF_yes (i := 21) (g := 143) (b := false) rfl rfl rfl e143 (fun K hK => ?_)
                    exact stepF_val _ hK (run_move rfl e14 _) rfl
                  · intro fx w' fa hk hd ev  -- 153 = Op.indexAddr 22 (Operand.tmp 151) (Operand.tmp 152)
                    have h151 : fx 151 = .slice (some ad) j c := hd.1
                    have e151 : fa.tmps[151]?.getD undef = .slice (some ad) j c := (ev.new 151 rfl).trans h151
                    have h152 : fx 152 = .int .i64 ((k : Int) + 1) := hd.2.1
                    have e152 : fa.tmps[152]?.getD undef = .int .i64 ((k : Int) + 1) := (ev.new 152 rfl).trans h152
                    have h143 : fx 143 = .bool false := hd.2.2.1
                    have e143 : fa.tmps[143]?.getD undef = .bool false := (ev.new 143 rfl).trans h143
                    refine stepF_yes (i := 21) (g := 143) (b := false) rfl rfl rfl e143 (fun K hK => ?_)
                    go_simp
                    exact hK _ _ (by rw [HBD.out]; rfl) (Kp.refl _ _)
                  · intro fx w' fa hk hd ev  -- 154 = Op.load 9 (Operand.tmp 153)
                    have h153 : fx 153 = .pointer (some bd) := hd.1
                    have e153 : fa.tmps[153]?.getD undef = .pointer (some bd) := (ev.new 153 rfl).trans h153
                    have h143 : fx 143 = .bool false := hd.2.1
                    have e143 : fa.tmps[143]?.getD undef = .bool false := (ev.new 143 rfl).trans h143
                    refine stepF_yes (i := 21) (g := 143) (b := false) rfl rfl rfl e143 (fun K hK => ?_)
                    have q9 := hk.cell hct (by simp)
                    go_simp
                    exact hK _ _ rfl (Kp.refl _ _)
                  · intro fx w' fa hk hd ev  -- 155 = Op.binOp BinOp.eql 9 (Operand.tmp 150) (Operand.tmp 154) 9
                    have h150 : fx 150 = .string s := hd.1
                    have e150 : fa.tmps[150]?.getD undef = .string s := (ev.new 150 rfl).trans h150
                    have h154 : fx 154 = .string t := hd.2.1
                    have e154 : fa.tmps[154]?.getD undef = .string t := (ev.new 154 rfl).trans h154
                    have h143 : fx 143 = .bool false := hd.2.2.1
                    have e143 : fa.tmps[143]?.getD undef = .bool false := (ev.new 143 rfl).trans h143
                    refine stepF_yes (i := 21) (g := 143) (b := false) rfl rfl rfl e143 (fun K hK => ?_)
                    have q9 := H2.out
                    go_simp
                    exact hK _ _ rfl (Kp.refl _ _)
                  · intro fx w' fa hk hd ev  -- 156 = Op.binOp BinOp.neq 4 (Operand.tmp 145) (Operand.tmp 155) 4
                    have h145 : fx 145 = .bool false := hd.1
                    have e145 : fa.tmps[145]?.getD undef = .bool false := (ev.new 145 rfl).trans h145
                    have h155 : fx 155 = .bool false := hd.2.1
                    have e155 : fa.tmps[155]?.getD undef = .bool false := (ev.new 155 rfl).trans h155
                    have h143 : fx 143 = .bool false := hd.2.2.1
                    have e143 : fa.tmps[143]?.getD undef = .bool false := (ev.new 143 rfl).trans h143
                    refine stepF_yes (i := 21) (g := 143) (b := false) rfl rfl rfl e143 (fun K hK => ?_)
                    go_simp
                    exact hK _ _ rfl (Kp.refl _ _)
                  · intro fx w' fa hk hd ev  -- 157 = Op.pick (Operand.tmp 143) (Operand.const (Value.bool true)) 
                    have h143 : fx 143 = .bool false := hd.1
                    have e143 : fa.tmps[143]?.getD undef = .bool false := (ev.new 143 rfl).trans h143
                    have h156 : fx 156 = .bool false := hd.2.1
                    have e156 : fa.tmps[156]?.getD undef = .bool false := (ev.new 156 rfl).trans h156
                    refine stepF_un rfl (fun K hK => ?_)
                    go_simp
                    exact hK _ _ rfl (Kp.refl _ _)
                  · intro fx w' fa hk hd ev  -- 158 = Op.move (Operand.tmp 157)
                    have h157 : fx 157 = .bool false := hd.1
                    have e157 : fa.tmps[157]?.getD undef = .bool false := (ev.new 157 rfl).trans h157
                    refine stepF_un rfl (fun K hK => ?_)
                    exact stepF_val _ hK (run_move rfl e157 _) rfl
                  · intro fx w' fa hk hd ev  -- 159 = Op.move (Operand.tmp 19)
                    have h158 : fx 158 = .bool false := hd.1
                    have e158 : fa.tmps[158]?.getD undef = .bool false := (ev.new 158 rfl).trans h158
                    have e19 : fa.tmps[19]?.getD undef = .int .i64 z := ev.old 19 rfl
                    refine stepF_yes (i := 36) (g := 158) (b := false) rfl rfl rfl e158 (fun K hK => ?_)
                    exact stepF_val _ hK (run_move rfl e19 _) rfl
                  · intro fx w' fa hk hd ev  -- 160 = Op.binOp BinOp.neq 3 (Operand.tmp 159) (Operand.const (Value
                    have h159 : fx 159 = .int .i64 z := hd.1
                    have e159 : fa.tmps[159]?.getD undef = .int .i64 z := (ev.new 159 rfl).trans h159
                    have h158 : fx 158 = .bool false := hd.2.1
                    have e158 : fa.tmps[158]?.getD undef = .bool false := (ev.new 158 rfl).trans h158
                    refine stepF_yes (i := 36) (g := 158) (b := false) rfl rfl rfl e158 (fun K hK => ?_)
                    go_simp
                    exact hK _ _ rfl (Kp.refl _ _)
                  · intro fx w' fa hk hd ev  -- 161 = Op.move (Operand.tmp 160)
                    have h160 : fx 160 = .bool true := hd.1
                    have e160 : fa.tmps[160]?.getD undef = .bool true := (ev.new 160 rfl).trans h160
                    have h158 : fx 158 = .bool false := hd.2.1
                    have e158 : fa.tmps[158]?.getD undef = .bool false := (ev.new 158 rfl).trans h158
                    refine stepF_yes (i := 36) (g := 158) (b := false) rfl rfl rfl e158 (fun K hK => ?_)
                    exact stepF_val _ hK (run_move rfl e160 _) rfl
                  · intro fx w' fa hk hd ev  -- 162 = Op.move (Operand.tmp 15)
                    have h161 : fx 161 = .bool true := hd.1
                    have e161 : fa.tmps[161]?.getD undef = .bool true := (ev.new 161 rfl).trans h161
                    have e15 : fa.tmps[15]?.getD undef = .slice A4 nu c4 := ev.old 15 rfl
                    refine stepF_yes (i := 39) (g := 161) (b := true) rfl rfl rfl e161 (fun K hK => ?_)
                    exact stepF_val _ hK (run_move rfl e15 _) rfl
                  · intro fx w' fa hk hd ev  -- 163 = Op.move (Operand.tmp 17)
                    have h161 : fx 161 = .bool true := hd.1
                    have e161 : fa.tmps[161]?.getD undef = .bool true := (ev.new 161 rfl).trans h161
                    have e17 : fa.tmps[17]?.getD undef = .slice A5 nv c5 := ev.old 17 rfl
                    refine stepF_yes (i := 39) (g := 161) (b := true) rfl rfl rfl e161 (fun K hK => ?_)
                    exact stepF_val _ hK (run_move rfl e17 _) rfl
                  · intro fx w' fa hk hd ev  -- 164 = Op.call { callee := Callee.value (Operand.func 14), args := 
                    have h162 : fx 162 = .slice A4 nu c4 := hd.1
                    have e162 : fa.tmps[162]?.getD undef = .slice A4 nu c4 := (ev.new 162 rfl).trans h162
                    have h163 : fx 163 = .slice A5 nv c5 := hd.2.1
                    have e163 : fa.tmps[163]?.getD undef = .slice A5 nv c5 := (ev.new 163 rfl).trans h163
                    have h161 : fx 161 = .bool true := hd.2.2.1
                    have e161 : fa.tmps[161]?.getD undef = .bool true := (ev.new 161 rfl).trans h161
                    refine stepF_yes (i := 39) (g := 161) (b := true) rfl rfl rfl e161 (fun K hK => ?_)
                    go_simp
                    refine (begins_any A4 A5 nu nv c4 c5 _ _ u v2 w' (HR4.out.kp0 hk) (HR5.out.kp0 hk) HNU.out HNV.out (by omega) (by omega)).mono ?_
                    rw [HBG.out]
                    rintro e w2 ⟨rfl, hd2⟩
                    exact hK _ _ rfl (hd2.kp [])
                  · intro fx w' fa hk hd ev  -- 165 = Op.pick (Operand.tmp 161) (Operand.tmp 164) (Operand.const (
                    have h161 : fx 161 = .bool true := hd.1
                    have e161 : fa.tmps[161]?.getD undef = .bool true := (ev.new 161 rfl).trans h161
                    have h164 : fx 164 = .bool false := hd.2.1
                    have e164 : fa.tmps[164]?.getD undef = .bool false := (ev.new 164 rfl).trans h164
                    have h158 : fx 158 = .bool false := hd.2.2.1
                    have e158 : fa.tmps[158]?.getD undef = .bool false := (ev.new 158 rfl).trans h158
                    refine stepF_yes (i := 36) (g := 158) (b := false) rfl rfl rfl e158 (fun K hK => ?_)
                    go_simp
                    exact hK _ _ rfl (Kp.refl _ _)
                  · intro fx w' fa hk hd ev  -- 166 = Op.pick (Operand.tmp 158) (Operand.const (Value.bool true)) 
                    have h158 : fx 158 = .bool false := hd.1
                    have e158 : fa.tmps[158]?.getD undef = .bool false := (ev.new 158 rfl).trans h158
                    have h165 : fx 165 = .bool false := hd.2.1
                    have e165 : fa.tmps[165]?.getD undef = .bool false := (ev.new 165 rfl).trans h165
                    refine stepF_un rfl (fun K hK => ?_)
                    go_simp
                    exact hK _ _ rfl (Kp.refl _ _)
                · intro fx w' hk hd
                  have h166 : fx 166 = .bool false := hd.2.2.2.2.2.2.2.2.2.2.2.2.2.2.2.2.2.2.2.2.2.2.2.2.2.2.2.2.2.2.2.2.2.2.2.2.2.2.2.2.2.2.2.2.1
                  rw [h166]
                  have HKE := Lib.hid (HKR.out.trans hk)
                  clear hk hd hcs hct HKR HR4 HR5
                  go_wp2_with fail
                  exact ⟨⟨k + 1, by go_num, by omega, HKE⟩, by simp [intOf]; omega⟩
            · obtain rfl : k + 1 = j := by omega
              have HKE := Lib.hid (HK.out.trans HKR.out)
              go_wp2_with fail
              go_ret
              exact ⟨rfl, HKE.out⟩
end Go.Proofs.Ytpmdfklhgabfgaa
