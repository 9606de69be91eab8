/-
  LAYER 6 (alpha): no code, no reader, no writer.
  PLAIN MATHEMATICS OF LAYER 6, fifth part: texts stand as their bytes do; texts put one behind the other are got again.
  LAYER 6 (alpha), the law's bitsOf: a text's bits by a code.
  LAYER 6's REFERENCE: Word, Bits, at.
  LAYER 6's REFERENCE: Bits: a text's words.
  LAYER 6's REFERENCE: Get: a text out of the document's reader's bits.
  LAYER 6 (alpha), the law's gets: what is got out of bits, the document's and the code's.
  CONDITIONS: as each lemma says.
-/
import Derived.Test.YtpmdfklhgabfgaaQ29
import Derived.Test.YtpmdfklhgabfgaaQ32
import Derived.Test.YtpmdfklhgabfgaaQ25
import Derived.Test.YtpmdfklhgabfgaaQ09
import Derived.Test.YtpmdfklhgabfgaaQ27
import Derived.Test.YtpmdfklhgabfgaaQ31
namespace Go.Proofs.Ytpmdfklhgabfgaa
open Go.RowKit

/-- No code: the nil pointer, or a code with no root. -/
def NoCode (w : World) (v : Value) : Prop := v = .pointer none ∨ ∃ p, v = .pointer (some ⟨p, 0, none⟩) ∧ w.cell? ⟨p, 0, none⟩ = some (.pointer none)
theorem NoCode.kp0 {w w' : World} {v : Value} (h : NoCode w v) (hk : Kp [] w w') : NoCode w' v := by
  rcases h with h | ⟨p, h1, h2⟩
  · exact .inl h
  · exact .inr ⟨p, h1, hk.cell h2 (by simp)⟩
set_option maxRecDepth 100000 in
set_option maxHeartbeats 4000000 in
theorem nthere_any (v : Value) (w : World) (h : NoCode w v) : Calls Try.prog 40 #[v] w fun e w' => e = .returned (.bool false) ∧ w = w' := by
  rcases h with rfl | ⟨p, rfl, hc⟩
  all_goals
    go_enter Try.func40, Try.ntmps40
    go_wp2_with fail
    go_ret
    exact ⟨rfl, rfl⟩
set_option maxRecDepth 100000 in
set_option maxHeartbeats 4000000 in
theorem nsigns_any (v : Value) (w : World) (h : NoCode w v) : Calls Try.prog 11 #[v] w fun e w' => e = .returned (.slice none 0 0) ∧ w = w' := by
  go_enter Try.func11, Try.ntmps11
  go_wp2_with fail
  refine (nthere_any v w h).mono ?_
  rintro e w1 ⟨rfl, rfl⟩
  go_wp2_with fail
  go_ret
  exact ⟨rfl, rfl⟩
set_option maxRecDepth 100000 in
set_option maxHeartbeats 4000000 in
theorem nlengths_any (v : Value) (w : World) (h : NoCode w v) : Calls Try.prog 15 #[v] w fun e w' => e = .returned (.slice none 0 0) ∧ w = w' := by
  go_enter Try.func15, Try.ntmps15
  go_wp2_with fail
  refine (nthere_any v w h).mono ?_
  rintro e w1 ⟨rfl, rfl⟩
  go_wp2_with fail
  go_ret
  exact ⟨rfl, rfl⟩
set_option maxRecDepth 100000 in
set_option maxHeartbeats 4000000 in
theorem nword_any (v : Value) (k : Int) (w : World) (h : NoCode w v) : Calls Try.prog 12 #[v, .int .i64 k] w fun e w' => e = .returned (.slice none 0 0) ∧ w = w' := by
  go_enter Try.func12, Try.ntmps12
  go_wp2_with fail
  refine (nthere_any v w h).mono ?_
  rintro e w1 ⟨rfl, rfl⟩
  go_wp2_with fail
  go_ret
  exact ⟨rfl, rfl⟩
set_option maxRecDepth 100000 in
set_option maxHeartbeats 4000000 in
theorem nput_any (v q : Value) (s : ByteArray) (w : World) (h : NoCode w v) : Calls Try.prog 20 #[v, q, .string s] w fun e w' => e = .returned (.int .i64 1) ∧ w = w' := by
  go_enter Try.func20, Try.ntmps20
  go_wp2_with fail
  refine (nthere_any v w h).mono ?_
  rintro e w1 ⟨rfl, rfl⟩
  go_wp2_with fail
  go_ret
  exact ⟨rfl, rfl⟩
set_option maxRecDepth 100000 in
set_option maxHeartbeats 4000000 in
theorem nlong_any (v : Value) (s : ByteArray) (w : World) (h : NoCode w v) : Calls Try.prog 17 #[v, .string s] w fun e w' => e = .returned (.tuple #[.int .i64 0, .int .i64 1]) ∧ w = w' := by
  go_enter Try.func17, Try.ntmps17
  go_wp2_with fail
  refine (nthere_any v w h).mono ?_
  rintro e w1 ⟨rfl, rfl⟩
  go_wp2_with fail
  go_ret2
  exact ⟨rfl, rfl⟩
set_option maxRecDepth 100000 in
set_option maxHeartbeats 4000000 in
theorem nget_any (v r : Value) (w : World) (h : NoCode w v) : Calls Try.prog 23 #[v, r] w fun e w' => e = .returned (.tuple #[.string ⟨#[]⟩, .int .i64 1]) ∧ w = w' := by
  go_enter Try.func23, Try.ntmps23
  go_wp2_with fail
  refine (nthere_any v w h).mono ?_
  rintro e w1 ⟨rfl, rfl⟩
  go_wp2_with fail
  go_ret2
  exact ⟨rfl, rfl⟩
set_option maxRecDepth 100000 in
set_option maxHeartbeats 4000000 in
theorem nrthere_any (w : World) : Calls Try.prog 53 #[.pointer none] w fun e w' => e = .returned (.bool false) ∧ w = w' := by
  go_enter Try.func53, Try.ntmps53
  go_wp2_with fail
  go_ret
  exact ⟨rfl, rfl⟩
set_option maxRecDepth 100000 in
set_option maxHeartbeats 4000000 in
theorem nrhas_any (k : Int) (w : World) : Calls Try.prog 80 #[.pointer none, .int .i64 k] w fun e w' => e = .returned (.bool false) ∧ w = w' := by
  go_enter Try.func80, Try.ntmps80
  go_wp2_with fail
  refine (nrthere_any w).mono ?_
  rintro e w1 ⟨rfl, rfl⟩
  go_wp2_with fail
  go_ret
  exact ⟨rfl, rfl⟩
set_option maxRecDepth 100000 in
set_option maxHeartbeats 4000000 in
theorem nrnumber_any (k : Int) (w : World) : Calls Try.prog 73 #[.pointer none, .int .i64 k] w fun e w' => e = .returned (.int .i64 0) ∧ w = w' := by
  go_enter Try.func73, Try.ntmps73
  go_wp2_with fail
  refine (nrhas_any k w).mono ?_
  rintro e w1 ⟨rfl, rfl⟩
  go_wp2_with fail
  go_ret
  exact ⟨rfl, rfl⟩
set_option maxRecDepth 100000 in
set_option maxHeartbeats 4000000 in
theorem nrnext_any (w : World) : Calls Try.prog 52 #[.pointer none] w fun e w' => e = .returned (.bool false) ∧ w = w' := by
  go_enter Try.func52, Try.ntmps52
  go_wp2_with fail
  refine (nrnumber_any 1 w).mono ?_
  rintro e w1 ⟨rfl, rfl⟩
  go_wp2_with fail
  go_ret
  exact ⟨rfl, rfl⟩
set_option maxRecDepth 100000 in
set_option maxHeartbeats 4000000 in
theorem nrerr_any (w : World) : Calls Try.prog 26 #[.pointer none] w fun e w' => e = .returned (.int .i64 1) ∧ w = w' := by
  go_enter Try.func26, Try.ntmps26
  go_wp2_with fail
  refine (nrthere_any w).mono ?_
  rintro e w1 ⟨rfl, rfl⟩
  go_wp2_with fail
  go_ret
  exact ⟨rfl, rfl⟩
set_option maxRecDepth 100000 in
set_option maxHeartbeats 4000000 in
theorem nwthere_any (w : World) : Calls Try.prog 48 #[.pointer none] w fun e w' => e = .returned (.bool false) ∧ w = w' := by
  go_enter Try.func48, Try.ntmps48
  go_wp2_with fail
  go_ret
  exact ⟨rfl, rfl⟩
set_option maxRecDepth 100000 in
set_option maxHeartbeats 4000000 in
theorem nwput_any (A : Option Addr) (n c : Nat) (w : World) : Calls Try.prog 47 #[.pointer none, .slice A n c] w fun e w' => e = .returned (.int .i64 1) ∧ w = w' := by
  go_enter Try.func47, Try.ntmps47
  go_wp2_with fail
  refine (nwthere_any w).mono ?_
  rintro e w1 ⟨rfl, rfl⟩
  go_wp2_with fail
  go_ret
  exact ⟨rfl, rfl⟩
set_option maxRecDepth 100000 in
set_option maxHeartbeats 4000000 in
theorem cgetn_any (lo hi p : Nat) (T : CT) (sg : List Nat) (ls : List Int) (w : World) (h : CodeM w lo hi p T sg ls) :
    Calls Try.prog 23 #[.pointer (some ⟨p, 0, none⟩), .pointer none] w fun e w' => e = .returned (.tuple #[.string ⟨#[]⟩, .int .i64 1]) ∧ w = w' := by
  obtain ⟨g0, hroot, _⟩ := h.root
  have HC := Lib.hid h
  clear h
  go_enter Try.func23, Try.ntmps23
  go_wp2_with fail
  refine (cthere_any lo hi p T sg ls w HC.out).mono ?_
  rintro e w1 ⟨rfl, rfl⟩
  go_wp2_with fail
  go_loopw [6, 7] (fun v x wr => v = .slice none 0 0 ∧ x = .pointer (some ⟨g0, 0, none⟩) ∧ w = wr) (fun _ _ _ => 0)
  case atStart => exact ⟨rfl, rfl, rfl⟩
  case round =>
    obtain ⟨rfl, rfl, rfl⟩ := hrel
    go_wp2_with fail
    refine (nrnext_any w).mono ?_
    rintro e w2 ⟨rfl, rfl⟩
    go_wp2_with fail
    refine (nrerr_any w).mono ?_
    rintro e w3 ⟨rfl, rfl⟩
    go_wp2_with fail
    go_ret2
    exact ⟨rfl, rfl⟩
def putNE (T : CT) (s : ByteArray) : Int := match encT T s with | none => 2 | some _ => 1
set_option maxRecDepth 100000 in
set_option maxHeartbeats 4000000 in
theorem cputn_any (lo hi p : Nat) (T : CT) (sg : List Nat) (ls : List Int) (s : ByteArray) (w : World) (h : CodeM w lo hi p T sg ls) (hs : s.size ≤ 1000000000) (hhi : hi ≤ w.heap.size) :
    Calls Try.prog 20 #[.pointer (some ⟨p, 0, none⟩), .pointer none, .string s] w fun e w' => e = .returned (.int .i64 (putNE T s)) ∧ Kp [] w w' := by
  have HC := Lib.hid h
  clear h
  go_enter Try.func20, Try.ntmps20
  go_wp2_with fail
  refine (cthere_any lo hi p T sg ls w HC.out).mono ?_
  rintro e w1 ⟨rfl, rfl⟩
  go_wp2_with fail
  refine (gall_any lo hi p T sg ls s w HC.out hs hhi).mono ?_
  intro e w1 hp
  obtain ⟨o, ho⟩ : ∃ o, o = encT T s := ⟨_, rfl⟩
  rw [← ho] at hp
  rcases o with _ | r
  · have HE := Lib.hid (show putNE T s = 2 from by unfold putNE; rw [← ho])
    obtain ⟨⟨v, rfl⟩, hk⟩ := hp
    have HK := Lib.hid hk
    clear hk ho
    go_wp2_with fail
    go_ret
    rw [HE.out]
    exact ⟨rfl, HK.out⟩
  · have HE := Lib.hid (show putNE T s = 1 from by unfold putNE; rw [← ho])
    obtain ⟨A, m, c, hm, rfl, hown, hk⟩ := hp
    have HK := Lib.hid hk
    clear hk ho hm hown
    go_wp2_with fail
    refine (nwput_any A m c w1).mono ?_
    rintro e w2 ⟨rfl, rfl⟩
    go_wp2_with fail
    go_ret
    rw [HE.out]
    exact ⟨rfl, HK.out⟩
def sN : ByteArray := ⟨#[97]⟩
def sM : ByteArray := ⟨#[98]⟩
theorem symL_n : symL [sN] = [0, 98] := rfl
theorem smO_n : smO [0, 98] = [0, 98] := by decide +kernel
theorem zero_list : Try.zeroCells78 = (.pointer none :: (List.replicate 257 (.slice none 0 0) ++ [.slice none 0 0, .slice none 0 0])).toArray := by kernel_rfl
theorem zero_code (w : World) (cs : Array Value) (h : cs = Try.zeroCells78) : (w.alloc (.cells cs 78)).cell? ⟨w.heap.size, 0, none⟩ = some (.pointer none) := by
  rw [h, zero_list, (Blk.new w 78 _).cell]
  rfl
set_option maxRecDepth 100000 in
set_option maxHeartbeats 4000000 in
theorem none6_any (w : World) : Calls Try.prog 36 #[] w fun e w' => e = .returned (.bool true) ∧ Kp [] w w' := by
  go_enter Try.func36, Try.ntmps36
  go_wp2_with fail
  refine (aof_any _ 1 1 _ [sN] _ (Rd.new w #[.string sN] 9 (0, 0)) rfl (by omega) (by rw [symL_n]; simp) (by simp)).mono ?_
  rintro e w1 ⟨p, rfl, hcode, hk1⟩
  obtain ⟨lo, hlo⟩ : ∃ lo, lo = (w.alloc (.cells #[.string sN] 9)).heap.size := ⟨_, rfl⟩
  obtain ⟨hi, hhi⟩ : ∃ hi, hi = w1.heap.size := ⟨_, rfl⟩
  have hcode' : CodeM w1 lo hi p (treeC (smO (symL [sN])) (lensL (wtO (symL [sN])))) ((smO (symL [sN])).map Int.toNat) (lensL (wtO (symL [sN]))) := hlo ▸ hhi ▸ hcode
  obtain ⟨L, hL⟩ : ∃ L, L = lensL (wtO (symL [sN])) := ⟨_, rfl⟩
  obtain ⟨T, hT⟩ : ∃ T, T = treeC (smO (symL [sN])) L := ⟨_, rfl⟩
  rw [← hL] at hcode'
  rw [← hT, symL_n, smO_n] at hcode'
  have hsg : ([0, 98] : List Int).map Int.toNat = [0, 98] := rfl
  rw [hsg] at hcode'
  obtain ⟨ra, hra⟩ := enc_all hcode'.1 (t := sN) (by intro s hs; simpa [symT, sN, txt] using hs)
  have hrb : encT T sM = none := enc_none (s := 99) (by decide) (word_none hcode'.1 (by simp))
  have HRA := Lib.hid hra
  have HRB := Lib.hid hrb
  have HC := Lib.hid hcode'
  have HHI := Lib.hid (show hi ≤ w1.heap.size by omega)
  have HK := Lib.hid (((Kp.refl [] w).alloc _).trans hk1)
  clear hcode hcode' hlo hhi hL hT hsg hra hrb hk1
  go_wp2_with fail
  obtain ⟨w2, hw2⟩ : ∃ w2, w2 = w1.alloc (.cells Try.zeroCells78 78) := ⟨_, rfl⟩
  have HNC := Lib.hid (show NoCode w2 (.pointer (some ⟨w1.heap.size, 0, none⟩)) from .inr ⟨_, rfl, by rw [hw2]; exact zero_code w1 _ rfl⟩)
  have hk2 : Kp [] w1 w2 := by rw [hw2]; exact (Kp.refl [] w1).alloc _
  have hsz : w2.heap.size = w1.heap.size + 1 := by rw [hw2]; simp
  rw [← hw2, ← hsz]
  obtain ⟨y, hy⟩ : ∃ y, y = w1.heap.size := ⟨_, rfl⟩
  rw [← hy] at HNC ⊢
  have HK2 := Lib.hid (HK.out.trans hk2)
  replace HC := Lib.hid (HC.out.kp0 hk2)
  replace HHI := Lib.hid (Nat.le_trans HHI.out hk2.size)
  clear hw2 hk2 hsz hy HK
  refine (bof_any _ 1 1 _ [true] _ (Rd.new w2 #[.bool true] 4 (0, 0)) rfl (by omega)).mono ?_
  rintro e w3 ⟨V, v, rfl, hv, hV, hk3⟩
  have hk3' : Kp [] w2 w3 := ((Kp.refl [] w2).alloc _).trans hk3
  have HV := Lib.hid hv
  have HVB := Lib.hid (show ∀ x ∈ V, w2.heap.size ≤ x from fun x hx => Nat.le_trans (by simp) (hV x hx))
  have HK23 := Lib.hid hk3'
  clear hv hV hk3 hk3'
  go_wp2_with fail
  refine (rnew_yes V v 1 0 [true] false w3 HV.out rfl (by omega)).mono ?_
  rintro e w4 ⟨rp, rfl, hr4, hv4, hrp, hrpV, hk4⟩
  have hk4' : Kp [] w2 w4 := HK23.out.trans' hk4 (fun x hx => .inr (HVB.out x hx))
  have HR := Lib.hid hr4
  replace HNC := Lib.hid (HNC.out.kp0 hk4')
  have HK4 := Lib.hid (HK2.out.trans hk4')
  replace HC := Lib.hid (HC.out.kp0 hk4')
  replace HHI := Lib.hid (Nat.le_trans HHI.out hk4'.size)
  have HPA := Lib.hid (show putNE T sN = 1 from by unfold putNE; rw [HRA.out])
  have HPB := Lib.hid (show putNE T sM = 2 from by unfold putNE; rw [HRB.out])
  clear hr4 hv4 hrp hrpV hk4 hk4' HV HVB HK23 HK2 HRA HRB
  go_wp2_with fail
  refine (nget_any (.pointer none) (.pointer (some ⟨rp, 0, none⟩)) w4 (.inl rfl)).mono ?_
  rintro e w5 ⟨rfl, rfl⟩
  go_wp2_with fail
  refine (cgetn_any lo hi p T _ L w4 HC.out).mono ?_
  rintro e w5 ⟨rfl, rfl⟩
  go_wp2_with fail
  refine (nlong_any (.pointer (some ⟨y, 0, none⟩)) ⟨#[]⟩ w4 HNC.out).mono ?_
  rintro e w5 ⟨rfl, rfl⟩
  go_wp2_with fail
  refine (rat_any rp v 0 false w4 HR.out).mono ?_
  rintro e w5 ⟨rfl, rfl⟩
  rw [show ((0 : Nat) : Int) = 0 from rfl]
  clear HR
  go_wp2_with fail
  refine (cputn_any lo hi p T _ L sN w4 HC.out (by decide) HHI.out).mono ?_
  rw [HPA.out]
  rintro e w5 ⟨rfl, hk5⟩
  replace HNC := Lib.hid (HNC.out.kp0 hk5)
  have HK5 := Lib.hid (HK4.out.trans hk5)
  replace HC := Lib.hid (HC.out.kp0 hk5)
  replace HHI := Lib.hid (Nat.le_trans HHI.out hk5.size)
  clear hk5 HK4
  go_wp2_with fail
  refine (cputn_any lo hi p T _ L sM w5 HC.out (by decide) HHI.out).mono ?_
  rw [HPB.out]
  rintro e w6 ⟨rfl, hk6⟩
  replace HNC := Lib.hid (HNC.out.kp0 hk6)
  have HK6 := Lib.hid (HK5.out.trans hk6)
  clear hk6 HK5 HC HHI
  go_wp2_with fail
  refine (wnew_any w6).mono ?_
  rintro e w7 ⟨S, q, rfl, _, _, hk7⟩
  replace HNC := Lib.hid (HNC.out.kp0 hk7)
  have HK7 := Lib.hid (HK6.out.trans hk7)
  clear hk7 HK6
  go_wp2_with fail
  refine (nput_any (.pointer none) (.pointer (some ⟨q, 0, none⟩)) ⟨#[]⟩ w7 (.inl rfl)).mono ?_
  rintro e w8 ⟨rfl, rfl⟩
  go_wp2_with fail
  refine (nsigns_any (.pointer none) w7 (.inl rfl)).mono ?_
  rintro e w8 ⟨rfl, rfl⟩
  go_wp2_with fail
  refine (nlengths_any (.pointer (some ⟨y, 0, none⟩)) w7 HNC.out).mono ?_
  rintro e w8 ⟨rfl, rfl⟩
  go_wp2_with fail
  refine (nword_any (.pointer none) 0 w7 (.inl rfl)).mono ?_
  rintro e w8 ⟨rfl, rfl⟩
  go_wp2_with fail
  refine (nword_any (.pointer (some ⟨y, 0, none⟩)) 0 w7 HNC.out).mono ?_
  rintro e w8 ⟨rfl, rfl⟩
  go_wp2_with fail
  go_ret
  exact ⟨rfl, HK7.out⟩
end Go.Proofs.Ytpmdfklhgabfgaa
namespace Go.Proofs.Ytpmdfklhgabfgaa

theorem toL (s : ByteArray) : s.toList = s.data.toList := ByteArray.toList_eq s
theorem lex_bytes : ∀ (x y : List UInt8), Op.bytesLess x y = lexN (x.map UInt8.toNat) (y.map UInt8.toNat)
  | [], [] => rfl
  | _ :: _, [] => rfl
  | [], _ :: _ => rfl
  | a :: x, b :: y => by
    rw [Op.bytesLess, lex_bytes x y]
    show _ = (decide (a.toNat < b.toNat) || (decide (a.toNat = b.toNat) && lexN (x.map UInt8.toNat) (y.map UInt8.toNat)))
    have h1 : decide (a < b) = decide (a.toNat < b.toNat) := by simp [UInt8.lt_iff_toNat_lt]
    have h2 : (a == b) = decide (a.toNat = b.toNat) := by
      by_cases h : a = b
      · subst h; simp
      · have : a.toNat ≠ b.toNat := fun e => h (UInt8.toNat_inj.1 e)
        simp [h, this]
    rw [h1, h2]
theorem less_txt (s t : ByteArray) : Op.bytesLess s.toList t.toList = lexN (txt s) (txt t) := by rw [toL, toL, lex_bytes]; rfl
theorem txt_inj {s t : ByteArray} (h : txt s = txt t) : s = t := by
  unfold txt at h
  have h2 : s.data.toList = t.data.toList := by
    have inj : ∀ (x y : List UInt8), x.map UInt8.toNat = y.map UInt8.toNat → x = y := by
      intro x
      induction x with
      | nil => intro y h; cases y with
        | nil => rfl
        | cons _ _ => simp at h
      | cons a x ih => intro y h; cases y with
        | nil => simp at h
        | cons b y =>
          simp only [List.map_cons, List.cons.injEq] at h
          rw [UInt8.toNat_inj.1 h.1, ih y h.2]
    exact inj _ _ h
  cases s; cases t
  simp only at h2
  congr 1
  exact Array.toList_inj.1 h2
theorem strN_txt (s : ByteArray) : strN (txt s) = s := by
  have e : ∀ l : List UInt8, (l.map UInt8.toNat).map UInt8.ofNat = l := by
    intro l
    induction l with
    | nil => rfl
    | cons a l ih => simp only [List.map_cons, ih, UInt8.ofNat_toNat]
  cases s with
  | mk d =>
    unfold strN txt
    rw [e]
/-- Texts' bits, one behind the other. -/
def encs (T : CT) (ss : List ByteArray) : List Bool := ss.flatMap fun s => (encT T s).getD []
theorem encs_snoc (T : CT) (ss : List ByteArray) (s : ByteArray) : encs T (ss ++ [s]) = encs T ss ++ (encT T s).getD [] := by unfold encs; simp
theorem encs_len {T : CT} : ∀ (ss : List ByteArray), (encs T ss).length = sumT T ss
  | [] => rfl
  | s :: ss => by
    have := encs_len (T := T) ss
    unfold encs sumT at this ⊢
    rw [List.flatMap_cons, List.length_append, List.map_cons, List.sum_cons, this]
    congr 1
    unfold longN
    cases encT T s <;> rfl
theorem encs_drop {T : CT} {ss : List ByteArray} {k : Nat} {s : ByteArray} (h : ss[k]? = some s) : (encs T ss).drop (encs T (ss.take k)).length = (encT T s).getD [] ++ encs T (ss.drop (k + 1)) := by
  obtain ⟨hk, rfl⟩ := List.getElem?_eq_some_iff.1 h
  have e : ss = ss.take k ++ (ss[k] :: ss.drop (k + 1)) := by rw [← List.drop_eq_getElem_cons hk, List.take_append_drop]
  have e2 : encs T ss = encs T (ss.take k) ++ ((encT T ss[k]).getD [] ++ encs T (ss.drop (k + 1))) := by
    conv => lhs; rw [e]
    unfold encs
    rw [List.flatMap_append, List.flatMap_cons]
  rw [e2, List.drop_left]
/-- What is got at a text's place. -/
theorem get_text {T : CT} {sg : List Nat} {ls : List Int} (h : CodeT T sg ls) {ss : List ByteArray} {k : Nat} {s : ByteArray} {r : List Bool} (hs : ss[k]? = some s) (hr : encT T s = some r) :
    getF T (encs T ss) (encs T (ss.take k)).length false = (txt s, 0, r.length, false) := by
  unfold getF
  rw [if_neg (by simp), encs_drop hs, hr]
  have := getC_enc h (txt s) [] r (encs T (ss.drop (k + 1))) hr
  simpa using this
theorem put_text {T : CT} {s : ByteArray} {r L : List Bool} (hr : encT T s = some r) (hl : L.length + r.length ≤ 16777216) : putE T s (L, 0) = 0 ∧ putS T s (L, 0) = (L ++ r, 0) := by
  unfold putE putS wPut
  rw [hr]
  simp only
  rw [if_neg (by simp), if_neg (by omega)]
  exact ⟨rfl, rfl⟩
/-- How two texts and their bits stand. -/
theorem two_texts {T : CT} {sg : List Nat} {ls : List Int} (h : CodeT T sg ls) {s t : ByteArray} {u v : List Bool} (hu : encT T s = some u) (hv : encT T t = some v) :
    Op.bytesLess s.toList t.toList = decide (cmpB u v < 0) ∧ (s = t ↔ cmpB u v = 0) ∧ (cmpB u v ≠ 0 → begB u v = false) := by
  obtain ⟨h1, h2, h3⟩ := cmp_texts h (a := txt s) (b := txt t) hu hv
  refine ⟨?_, ⟨fun e => h2.2 (by rw [e]), fun e => txt_inj (h2.1 e)⟩, h3⟩
  rw [less_txt]
  cases hl : lexN (txt s) (txt t) with
  | true => rw [decide_eq_true (h1.2 hl)]
  | false => rw [decide_eq_false (fun e => by rw [h1.1 e] at hl; cases hl)]
end Go.Proofs.Ytpmdfklhgabfgaa
namespace Go.Proofs.Ytpmdfklhgabfgaa
open Go.RowKit

def BitsP (w : World) (r : List Bool) (n : Nat) (e : Ending) (w' : World) : Prop := (∃ (A : Option Addr) (c : Nat), e = .returned (.tuple #[.slice A n c, .bool true]) ∧ n ≤ c ∧ Rd w' w'.heap.size A (r.map .bool)) ∧ Kp [] w w'
set_option maxRecDepth 100000 in
set_option maxHeartbeats 4000000 in
theorem bitsof_any (lo hi p n : Nat) (T : CT) (sg : List Nat) (ls : List Int) (s : ByteArray) (r : List Bool) (w : World) (h : CodeM w lo hi p T sg ls) (hr : encT T s = some r) (hn : r.length = n) (hs : s.size ≤ 60000) (hhi : hi ≤ w.heap.size) :
    Calls Try.prog 27 #[.pointer (some ⟨p, 0, none⟩), .string s] w (BitsP w r n) := by
  obtain ⟨i0, hi0, hz0, hz1, hz2⟩ := info_parts Try.info_abool
  have hnb : n ≤ 16000000 := by have := encT_len h.1 hr; omega
  have HPT := Lib.hid (put_text (L := []) hr (by rw [hn]; simp; omega))
  have HC := Lib.hid h
  have HN := Lib.hid hn
  have HHI := Lib.hid hhi
  clear h hr hn hhi
  go_enter Try.func27, Try.ntmps27
  go_wp2_with fail
  refine (wnew_any w).mono ?_
  rintro e w1 ⟨S, q, rfl, hw1, hS, hk1⟩
  have HW := Lib.hid hw1
  have HS := Lib.hid hS
  have HK := Lib.hid hk1
  replace HC := Lib.hid (HC.out.kp0 hk1)
  clear hk1
  clear hw1 hS
  go_wp2_with fail
  refine (cput_any lo hi p q 0 S ([], 0) T sg ls s w1 HC.out HW.out rfl (by omega) (Nat.le_trans HHI.out HK.out.size)).mono ?_
  rintro e w2 ⟨rfl, S2, hw2, hk2, _⟩
  rw [HPT.out.1]
  rw [HPT.out.2, List.nil_append] at hw2
  replace HW := Lib.hid hw2
  replace HK := Lib.hid (HK.out.trans' hk2 (fun x hx => .inr (HS.out x hx)))
  clear hw2 hk2 HC HHI HS HPT
  go_wp2_with fail
  refine (wvec_ok S2 q r w2 HW.out).mono ?_
  rintro e w3 ⟨V, v, rfl, hv, hV, hk3⟩
  have HV := Lib.hid hv
  replace HK := Lib.hid (HK.out.trans hk3)
  clear hv hV hk3 HW
  go_wp2_with fail
  go_loopw [10, 11] (fun y x wr => ∃ (k c : Nat) (A : Option Addr), x = .int .i64 (k : Int) ∧ y = .slice A k c ∧ k ≤ n ∧ Hid (wr.ownsRow w3.heap.size 4 1 (.slice A k c) k ((r.take k).map .bool)) ∧ Hid (VecM wr V v r false) ∧ Hid (Kp [] w3 wr)) (fun _ x _ => n - (intOf x).toNat)
  case atStart => exact ⟨0, 0, none, rfl, rfl, by omega, Lib.hid (World.ownsRow_nil _ _ _ 1), HV, Lib.hid (Kp.refl _ _)⟩
  case round =>
    have HVL := Lib.hid HV.out.lt
    have HK3 := HK
    clear HV HK
    obtain ⟨k, c, A, rfl, rfl, hk, HO, HV, HK⟩ := hrel
    go_wp2_with fail
    refine (vlen_any V v n r false wr HV.out HN.out).mono ?_
    rintro e w' ⟨rfl, rfl⟩
    by_cases hlt : k < n
    · obtain ⟨b, hb⟩ : ∃ b, r[k]? = some b := ⟨_, List.getElem?_eq_getElem (by rw [HN.out]; exact hlt)⟩
      have HB := Lib.hid (take_succ_of hb)
      have HG := Lib.hid (show getB r (k : Int) = b by unfold getB; rw [if_neg (by omega), Int.toNat_natCast, List.getD_eq_getElem?_getD, hb]; rfl)
      have hb0 : (0 : Int) ≤ (k : Int) := by omega
      have hb1 : (k : Int) < (n : Int) := by omega
      have HSZ := Lib.hid HK.out.size
      clear hb
      go_wp2_with fail
      refine (qget (k : Int) HV.out HG.out).mono ?_
      rintro e w4 ⟨rfl, hk4⟩
      replace HO := Lib.hid (own_kp0 HO.out hk4)
      replace HV := Lib.hid (HV.out.kp0 hk4)
      replace HK := Lib.hid (HK.out.trans hk4)
      replace HSZ := Lib.hid HK.out.size
      clear hk4
      go_wp2_with (at_builtin; go_loud (refine wpList_append_rd rfl (.tmp 34) (.tmp 38) 31 rfl (w3.heap.size) 4 i0 (.bool false) 1 1 Try.underlying31 hi0 hz0 hz1 hz2 rfl (by decide) (.slice A k c) (k) _ rfl (own_kp0 HO.out ((Kp.refl [] _).alloc _)) _ _ 1 1 [.bool b] rfl rfl (Rd.new w4 #[.bool b] 4 (0, 0)) (by intro u hu; simp at hu; subst hu; rfl) (by unfold maxLen; omega) (by omega) (by have := HSZ.out; simp; omega) ?_); intro v3 w3 hown3 hgrow3 hat3; obtain ⟨hka3, hga3⟩ := app_facts hgrow3 hat3; obtain ⟨A3', c3', rfl, _⟩ := own_form hown3)
      exact ⟨⟨k + 1, c3', A3', by go_num, rfl, by omega, Lib.hid (by rw [HB.out, List.map_append]; exact hown3), Lib.hid (HV.out.kp hka3 (fun g hg hm => by have h1 := HVL.out g hg; have h2 := (own_ge HO.out (mem_ownL.1 hm)).1; omega)), Lib.hid (HK.out.trans' hka3 (fun x hx => .inr (own_ge HO.out (mem_ownL.1 hx)).1))⟩, by simp [intOf]; omega⟩
    · obtain rfl : k = n := by omega
      have HX := Lib.hid (show Rd wr wr.heap.size A (r.map .bool) from by
        have := own_rd HO.out
        rwa [List.take_of_length_le (by rw [HN.out]; exact Nat.le_refl _)] at this)
      have HLE := Lib.hid (show k ≤ c from by
        obtain ⟨A3, c3, he, hle, _⟩ := own_form HO.out
        injection he with _ _ e3
        subst e3
        exact hle)
      clear HO HV
      go_wp2_with fail
      go_ret2
      exact ⟨⟨A, c, rfl, HLE.out, HX.out⟩, HK3.out.trans HK.out⟩
end Go.Proofs.Ytpmdfklhgabfgaa
namespace Go.Proofs.Ytpmdfklhgabfgaa
open Go.RowKit

/-- The word at a place. -/
theorem words_get {T : CT} {sg : List Nat} {ls : List Int} (h : CodeT T sg ls) {i s : Nat} (hs : sg[i]? = some s) : s < 257 ∧ ∃ u, T.word s = some u ∧ (wordsT T)[i]? = some u ∧ T.sub u = .leaf s ∧ 1 ≤ u.length ∧ u.length ≤ 256 := by
  obtain ⟨u, h1, h2, _⟩ := word_at h hs
  have hb := h.2.2.2.1 s (List.mem_of_getElem? hs)
  refine ⟨by omega, u, h1, by unfold wordsT; rw [List.getElem?_map, h2]; rfl, (word_sub h).1 h1, ?_, word_len h h1⟩
  exact List.length_pos_iff.2 (word_ne h h1)
theorem sub_words {T : CT} {l : List Bool} {s : Nat} (hl : T.sub l = .leaf s) : l ∈ wordsT T := by
  have hm : (s, l) ∈ T.al [] := mem_al.2 ⟨l, rfl, hl⟩
  exact List.mem_map.2 ⟨_, hm, rfl⟩
theorem WRow.get {w : World} {P : Nat → Prop} {hi : Nat} {ws : List (List Bool)} {l : List Value} {B : Nat} {A : Addr} (h : WRow w P hi ws l) (hr : Rd w B (some A) l) {i : Nat} {u : List Bool} (hu : ws[i]? = some u) :
    ∃ (ad : Addr) (c : Nat), w.cell? (A.add i) = some (.slice (some ad) u.length c) ∧ u.length ≤ c ∧ P ad.block ∧ ad.block < hi ∧ Rd w hi (some ad) (u.map .bool) := by
  obtain ⟨ad, c, h1, h2, h3, h4, h5⟩ := h.2 i u hu
  obtain ⟨a2, e1, _, e2⟩ := hr.at_ h1
  injection e1 with e1
  subst e1
  exact ⟨ad, c, e2, h2, h3, h4, h5⟩
theorem natRr {w : World} {B : Nat} {A : Option Addr} {sg : List Nat} (h : Rd w B A (sg.map fun (x : Nat) => .int .i64 (x : Int))) {k : Nat} (hk : k < sg.length) : ∃ s ad, sg[k]? = some s ∧ A = some ad ∧ ad.block < B ∧ w.cell? (ad.add k) = some (.int .i64 (s : Int)) := by
  obtain ⟨ad, h1, h2, h3⟩ := h.at_ (i := k) (u := .int .i64 (sg[k] : Int)) (by rw [List.getElem?_map, List.getElem?_eq_getElem hk]; rfl)
  exact ⟨_, ad, List.getElem?_eq_getElem hk, h1, h2, h3⟩
set_option maxRecDepth 100000 in
set_option maxHeartbeats 4000000 in
theorem rword_any (lo hi p : Nat) (k : Int) (T : CT) (sg : List Nat) (ls : List Int) (w : World) (h : RCode w lo hi p T sg ls) :
    Calls Try.prog 59 #[.pointer (some ⟨p, 0, none⟩), .int .i64 k] w fun e w' => (∃ v, e = .returned v ∧ WordV w (fun g => lo ≤ g) hi (wdI T k) v) ∧ w = w' := by
  obtain ⟨n, A1, A2, A3, c1, c2, c3, l, hn, hsl, hwn, q0, _, q2, hc1, _, hc3, r1, _, r3, hw⟩ := h.cells
  have hnb : n ≤ 257 := by rw [hn]; exact codeT_len h.1
  have HR1 := Lib.hid r1
  have HR3 := Lib.hid r3
  have HW := Lib.hid hw
  have HN := Lib.hid hn
  have HT := Lib.hid h.1
  clear h r1 r3 hw hn hsl hwn
  go_enter Try.func59, Try.ntmps59
  go_wp2_with fail
  go_loopw [5] (fun i wr => ∃ j : Nat, i = .int .i64 (j : Int) ∧ j ≤ n ∧ Hid (∀ i s, i < j → sg[i]? = some s → (s : Int) ≠ k) ∧ w = wr) (fun i _ => n - (intOf i).toNat)
  case atStart => exact ⟨0, rfl, by omega, Lib.hid (fun i s hi => by omega), rfl⟩
  case round =>
    obtain ⟨j, rfl, hj, HA, rfl⟩ := hrel
    by_cases hlt : j < n
    · obtain ⟨s, ad, hs, e, _, hcs⟩ := natRr HR1.out (k := j) (by rw [← HN.out]; exact hlt)
      injection e with e
      subst e
      obtain ⟨hs7, u, hu1, hu2, hu3, hu4, hu5⟩ := words_get HT.out hs
      obtain ⟨ad, cu, hcu, hle, hP, hhi, hru⟩ := HW.out.get HR3.out hu2
      have hb0 : (0 : Int) ≤ (j : Int) := by omega
      have hb1 : (j : Int) < (n : Int) := by omega
      by_cases hk : (s : Int) = k
      · subst hk
        have HV := Lib.hid (show WordV w (fun g => lo ≤ g) hi (wdI T (s : Int)) (.slice (some ad) u.length cu) from by
          unfold wdI
          rw [if_pos (by omega), Int.toNat_natCast, hu1]
          exact ⟨ad, cu, rfl, hle, hP, hhi, hru⟩)
        obtain ⟨nu, hnu⟩ : ∃ nu, nu = u.length := ⟨_, rfl⟩
        rw [← hnu] at hcu HV
        clear hs hu1 hu2 hu3 hnu hru hu4 hu5 hle hP hhi
        go_wp2_with fail
        go_ret
        exact ⟨⟨_, rfl, HV.out⟩, rfl⟩
      · have hkd : ((s : Int) == k) = false := by simpa using hk
        have HA2 := Lib.hid (show ∀ i s, i < j + 1 → sg[i]? = some s → (s : Int) ≠ k from fun i s' hi hs' => by
          by_cases hij : i = j
          · subst hij
            rw [hs] at hs'
            injection hs' with hs'
            subst hs'
            exact hk
          · exact HA.out i s' (by omega) hs')
        clear hs hu1 hu2 hu3 hru hu4 hu5 hle hP hhi hk hcu
        go_wp2_with fail
        exact ⟨⟨j + 1, by go_num, by omega, HA2, trivial⟩, by simp [intOf]; omega⟩
    · obtain rfl : j = n := by omega
      have HV := Lib.hid (show wdI T k = none from by
        unfold wdI
        split
        · rename_i hk
          refine word_none HT.out (fun hm => ?_)
          obtain ⟨i, hi, he⟩ := List.getElem_of_mem hm
          exact HA.out i k.toNat (by rw [HN.out]; exact hi) (by rw [List.getElem?_eq_getElem hi, he]) (by omega)
        · rfl)
      go_wp2_with fail
      go_ret
      exact ⟨⟨_, rfl, by rw [HV.out]; rfl⟩, rfl⟩
def atV (T : CT) (l : List Bool) : Int := match T.sub l with | .leaf s => (s : Int) | _ => -1
set_option maxRecDepth 100000 in
set_option maxHeartbeats 4000000 in
theorem rat6_any (lo hi p nl cl B : Nat) (Al : Option Addr) (l : List Bool) (T : CT) (sg : List Nat) (ls : List Int) (w : World) (h : RCode w lo hi p T sg ls) (hx : Rd w B Al (l.map .bool)) (hn : l.length = nl) (hb : nl ≤ 1000000000) :
    Calls Try.prog 82 #[.pointer (some ⟨p, 0, none⟩), .slice Al nl cl] w fun e w' => e = .returned (.int .i64 (atV T l)) ∧ Dr w w' := by
  obtain ⟨n, A1, A2, A3, c1, c2, c3, lw, hsn, hsl, hwn, q0, _, q2, hc1, _, hc3, r1, _, r3, hw⟩ := h.cells
  have hnb : n ≤ 257 := by rw [hsn]; exact codeT_len h.1
  have HR1 := Lib.hid r1
  have HR3 := Lib.hid r3
  have HW := Lib.hid hw
  have HSN := Lib.hid hsn
  have HWN := Lib.hid hwn
  have HT := Lib.hid h.1
  have HX := Lib.hid hx
  have HN := Lib.hid hn
  have Q0 := Lib.hid q0
  have Q2 := Lib.hid q2
  clear h r1 r3 hw hsn hsl hwn hx hn q0 q2
  go_enter Try.func82, Try.ntmps82
  go_wp2_with fail
  go_loopw [5] (fun i wr => ∃ j : Nat, i = .int .i64 (j : Int) ∧ j ≤ n ∧ Hid (∀ i u, i < j → (wordsT T)[i]? = some u → u ≠ l) ∧ Dr w wr) (fun i _ => n - (intOf i).toNat)
  case atStart => exact ⟨0, rfl, by omega, Lib.hid (fun i s hi => by omega), Dr.refl w⟩
  case round =>
    obtain ⟨j, rfl, hj, HA, hd⟩ := hrel
    have hkd := hd.kp []
    have q0 := hkd.cell Q0.out (by simp)
    have q2 := hkd.cell Q2.out (by simp)
    by_cases hlt : j < n
    · obtain ⟨s, ad1, hs, e, _, hcs⟩ := natRr (HR1.out.kp0 hkd) (k := j) (by rw [← HSN.out]; exact hlt)
      injection e with e
      subst e
      obtain ⟨hs7, u, hu1, hu2, hu3, hu4, hu5⟩ := words_get HT.out hs
      obtain ⟨ad, cu, hcu, hle, _, _, hru⟩ := (HW.out.kp hkd (by simp)).get (HR3.out.kp0 hkd) hu2
      have HU2 := Lib.hid hu2
      have HU3 := Lib.hid hu3
      have HRU := Lib.hid hru
      obtain ⟨nu, hnu⟩ : ∃ nu, u.length = nu := ⟨_, rfl⟩
      rw [hnu] at hcu hle hu5
      have HNU := Lib.hid hnu
      have hb0 : (0 : Int) ≤ (j : Int) := by omega
      have hb1 : (j : Int) < (n : Int) := by omega
      clear hu1 hu2 hu3 hu4 hru hnu hs hkd
      obtain ⟨wj, rfl⟩ : ∃ wj, wj = wr := ⟨_, rfl⟩
      have hdd := hd
      have HD := Lib.hid hdd
      clear hdd hd
      obtain ⟨d0, hd0⟩ : ∃ d0, d0 = decide (nu = nl) := ⟨_, rfl⟩
      have HEQ : ((nu : Int) == (nl : Int)) = d0 := by
        rw [hd0]
        by_cases h : nu = nl
        · subst h; simp
        · have h2 : (nu : Int) ≠ (nl : Int) := by omega
          rw [decide_eq_false h]
          simpa using h2
      have HD0 := Lib.hid hd0
      clear hd0
      go_wp2_with fail
      go_loopw [6, 7] (fun b i wr => ∃ (k : Nat) (d : Bool), i = .int .i64 (k : Int) ∧ b = .bool d ∧ k ≤ nl ∧ Hid (d = true → nu = nl ∧ u.take k = l.take k) ∧ Hid (d = false → u ≠ l) ∧ Dr wj wr) (fun _ i _ => nl - (intOf i).toNat)
      case atStart => exact ⟨0, d0, rfl, rfl, by omega, Lib.hid (fun h => ⟨of_decide_eq_true (HD0.out ▸ h), by simp⟩), Lib.hid (fun h e => by have := of_decide_eq_false (HD0.out ▸ h); rw [e, HN.out] at HNU; exact this HNU.out.symm), Dr.refl _⟩
      case round =>
        clear HEQ
        obtain ⟨k, d, rfl, rfl, hk, HD1, HD2, hdk⟩ := hrel
        have hkk := hdk.kp []
        have q2k := hkk.cell q2 (by simp)
        have q0k := hkk.cell q0 (by simp)
        have hcuk := hkk.cell hcu (by simp)
        have hcsk := hkk.cell hcs (by simp)
        cases d with
        | true =>
          obtain ⟨rfl, htk⟩ := HD1.out rfl
          by_cases hkl : k < nu
          · obtain ⟨x, ad9, hxk, e9, _, hcx⟩ := (HRU.out.kp0 hkk).bl (k := k) (by rw [HNU.out]; exact hkl)
            injection e9 with e9
            subst e9
            obtain ⟨y, bd, hyk, rfl, _, hcy⟩ := (HX.out.kp0 (HD.out.kp [] |>.trans hkk)).bl (k := k) (by rw [HN.out]; exact hkl)
            have hkb0 : (0 : Int) ≤ (k : Int) := by omega
            have hkb1 : (k : Int) < (nu : Int) := by omega
            have HE := Lib.hid (show (x == y) = true → nu = nu ∧ u.take (k + 1) = l.take (k + 1) from fun e => ⟨rfl, by rw [take_succ_of hxk, take_succ_of hyk, htk, eq_of_beq e]⟩)
            have HE2 := Lib.hid (show (x == y) = false → u ≠ l from fun e e2 => by
              rw [e2, hyk] at hxk
              injection hxk with hxk
              subst hxk
              simp at e)
            clear htk hxk hyk hkk
            go_wp2_with fail
            go_quiet (fail)
            go_wp2_with fail
            go_roundw
            case rel => exact ⟨k + 1, x == y, by go_num, rfl, by omega, HE, HE2, hdk.drewN _⟩
            case measure => simp [intOf]; omega
          · obtain rfl : k = nu := by omega
            have HUL := Lib.hid (show u = l from by
              rwa [List.take_of_length_le (by rw [HNU.out]; exact Nat.le_refl _), List.take_of_length_le (by rw [HN.out]; exact Nat.le_refl _)] at htk)
            have HAT := Lib.hid (show atV T l = (s : Int) from by unfold atV; rw [← HUL.out, HU3.out])
            have HDE := Lib.hid (show Dr w wr from HD.out.trans hdk)
            clear htk hkk
            go_wp2_with fail
            go_ret
            exact ⟨by rw [HAT.out]; rfl, HDE.out⟩
        | false =>
          have HA2 := Lib.hid (show ∀ i u, i < j + 1 → (wordsT T)[i]? = some u → u ≠ l from fun i u' hi hu' => by
            by_cases hij : i = j
            · subst hij
              rw [HU2.out] at hu'
              injection hu' with hu'
              subst hu'
              exact HD2.out rfl
            · exact HA.out i u' (by omega) hu')
          have HDE := Lib.hid (show Dr w wr from HD.out.trans hdk)
          clear hkk
          by_cases hkl : k < nl
          · have hkb1 : (k : Int) < (nl : Int) := by omega
            go_wp2_with fail
            exact ⟨⟨j + 1, by go_num, by omega, HA2, HDE.out⟩, by simp [intOf]; omega⟩
          · have hkb1 : ¬ (k : Int) < (nl : Int) := by omega
            go_wp2_with fail
            exact ⟨⟨j + 1, by go_num, by omega, HA2, HDE.out⟩, by simp [intOf]; omega⟩
    · obtain rfl : j = n := by omega
      have HV := Lib.hid (show atV T l = -1 from by
        unfold atV
        cases hsl : T.sub l with
        | leaf s =>
          obtain ⟨i, hi, he⟩ := List.getElem_of_mem (sub_words hsl)
          exact absurd rfl (HA.out i l (by rw [← HWN.out]; exact hi) (by rw [List.getElem?_eq_getElem hi, he]))
        | nil => rfl
        | node _ _ => rfl)
      go_wp2_with fail
      go_ret
      exact ⟨by rw [HV.out]; rfl, hd⟩
end Go.Proofs.Ytpmdfklhgabfgaa
namespace Go.Proofs.Ytpmdfklhgabfgaa
open Go.RowKit

theorem sgs_at {s : ByteArray} {k x : Nat} (h : (txt s)[k]? = some x) : (sgs (txt s))[k]? = some (x + 1) := by
  unfold sgs
  rw [List.getElem?_append_left (by rw [List.length_map]; exact (List.getElem?_eq_some_iff.1 h).1), List.getElem?_map, h]
  rfl
theorem sgs_end (s : ByteArray) : (sgs (txt s))[s.size]? = some 0 := by
  unfold sgs
  rw [List.getElem?_append_right (by rw [List.length_map, txt_len]; exact Nat.le_refl _), List.length_map, txt_len, Nat.sub_self]
  rfl
theorem sgs_len (s : ByteArray) : (sgs (txt s)).length = s.size + 1 := by unfold sgs; rw [List.length_append, List.length_map, txt_len]; rfl
set_option maxRecDepth 100000 in
set_option maxHeartbeats 4000000 in
theorem rbits6_any (lo hi p : Nat) (T : CT) (sg : List Nat) (ls : List Int) (s : ByteArray) (w : World) (h : RCode w lo hi p T sg ls) (hs : s.size ≤ 1000000) :
    Calls Try.prog 60 #[.pointer (some ⟨p, 0, none⟩), .string s] w (AllP w (encT T s)) := by
  obtain ⟨i0, hi0, hz0, hz1, hz2⟩ := info_parts Try.info_abool
  have HC := Lib.hid h
  clear h
  go_enter Try.func60, Try.ntmps60
  go_wp2_with fail
  go_loopw [6, 7] (fun v x wr => ∃ (k m c : Nat) (A : Option Addr) (r : List Bool), x = .int .i64 (k : Int) ∧ v = .slice A m c ∧ k ≤ s.size + 1 ∧ m ≤ 256 * k ∧ Hid (r.length = m) ∧ Hid (T.enc ((sgs (txt s)).take k) = some r) ∧ Hid (wr.ownsRow w.heap.size 4 1 (.slice A m c) m (r.map .bool)) ∧ Hid (Kp [] w wr)) (fun _ x _ => s.size + 1 - (intOf x).toNat)
  case atStart => exact ⟨0, 0, 0, none, [], rfl, rfl, by omega, by omega, Lib.hid rfl, Lib.hid (by simp [CT.enc]), Lib.hid (World.ownsRow_nil w _ _ _), Lib.hid (Kp.refl _ _)⟩
  case round =>
    obtain ⟨k, m, c, A, r, rfl, rfl, hk, hm, HR, HE, HO, HK⟩ := hrel
    have hk0 : (0 : Int) ≤ (k : Int) := by omega
    have hsm : s.size ≤ 9223372036854775807 := by omega
    have HZ := Lib.hid HK.out.size
    by_cases hlt : k < s.size
    · have HT := Lib.hid (txt_get s k hlt)
      obtain ⟨x, hx⟩ : ∃ x, s[k].toNat = x := ⟨_, rfl⟩
      have hx255 : x ≤ 255 := by rw [← hx]; have := s[k].toNat_lt; omega
      obtain ⟨y, hy⟩ : ∃ y, y = x + 1 := ⟨_, rfl⟩
      have HS := Lib.hid (show (sgs (txt s))[k]? = some y from by rw [hy]; exact sgs_at (show (txt s)[k]? = some x from by rw [HT.out, hx]))
      have hx0 : (0 : Int) ≤ (x : Int) := by omega
      have hx1 : (x : Int) ≤ 255 := by omega
      have hb1 : (k : Int) < (s.size : Int) := by omega
      have hb2 : (k : Int) ≤ (s.size : Int) := by omega
      have HY := Lib.hid (show wdI T (1 + (x : Int)) = T.word y from by unfold wdI; rw [if_pos (by omega)]; congr 1; omega)
      clear HT
      go_wp2_with fail
      refine (rword_any lo hi p (1 + (x : Int)) T sg ls wr (HC.out.kp0 HK.out)).mono ?_
      rintro e w2 ⟨⟨v, rfl, hv⟩, rfl⟩
      rw [HY.out] at hv
      cases ho : T.word y with
      | none =>
        rw [ho] at hv
        obtain rfl : v = .slice none 0 0 := hv
        have HN := Lib.hid (show encT T s = none from enc_none (s := y) (List.mem_of_getElem? HS.out) ho)
        clear ho
        go_wp2_with fail
        go_ret2
        rw [HN.out]
        exact ⟨⟨_, rfl⟩, HK.out⟩
      | some u =>
        rw [ho] at hv
        obtain ⟨ad, cc, rfl, hcc, hlo, hhi, hru⟩ := hv
        have hu := word_len HC.out.1 ho
        have hu1 := List.length_pos_iff.2 (word_ne HC.out.1 ho)
        have HEN := Lib.hid (show T.enc ((sgs (txt s)).take (k + 1)) = some (r ++ u) from by
          rw [take_succ_of HS.out]
          exact enc_snoc HE.out ho)
        obtain ⟨n, hn⟩ : ∃ n, n = u.length := ⟨_, rfl⟩
        rw [← hn] at hu hu1 hcc ⊢
        have HUN := Lib.hid hn
        have HRU := Lib.hid hru
        have hnz : ((n : Int) == 0) = false := by simp; omega
        clear hn hru hlo hhi ho
        go_wp2_with (at_builtin; go_loud (refine wpList_append_rd rfl (.tmp 31) (.tmp 32) 31 rfl w.heap.size 4 i0 (.bool false) 1 1 Try.underlying31 hi0 hz0 hz1 hz2 rfl (by decide) (.slice A m c) m _ rfl HO.out _ (some ad) n cc (u.map .bool) rfl (by rw [List.length_map, HUN.out, Nat.mul_one]) HRU.out (oc_bools _) (by unfold maxLen; omega) (by omega) HZ.out ?_); intro v3 w3 hown3 hgrow3 hat3; obtain ⟨A3, c3, rfl, _⟩ := own_form hown3)
        have HO3 := Lib.hid (show w3.ownsRow w.heap.size 4 1 (.slice A3 (m + n) c3) (m + n) ((r ++ u).map .bool) from by rw [List.map_append]; exact hown3)
        have HK3 := Lib.hid (HK.out.trans' ((Kp.refl _ _).grown hgrow3 (fun x hx => .inl (mem_ownL.2 hx))) (fun x hx => .inr (own_ge HO.out (mem_ownL.1 hx)).1))
        clear hown3 hgrow3 hat3
        exact ⟨⟨k + 1, m + n, c3, A3, r ++ u, by go_num, rfl, by omega, by omega, Lib.hid (by rw [List.length_append, HR.out, ← HUN.out]), HEN, HO3, HK3⟩, by first | (simp [intOf]; done) | (simp [intOf]; omega)⟩
    · by_cases hle : k = s.size
      · subst hle
        have HS := Lib.hid (sgs_end s)
        have HY := Lib.hid (show wdI T (0 : Int) = T.word 0 from by unfold wdI; rw [if_pos (by omega)]; rfl)
        have hb2 : ¬ (s.size : Int) < (s.size : Int) := by omega
        have hb3 : (s.size : Int) ≤ (s.size : Int) := by omega
        go_wp2_with fail
        refine (rword_any lo hi p (0 : Int) T sg ls wr (HC.out.kp0 HK.out)).mono ?_
        rintro e w2 ⟨⟨v, rfl, hv⟩, rfl⟩
        rw [HY.out] at hv
        cases ho : T.word 0 with
        | none =>
          rw [ho] at hv
          obtain rfl : v = .slice none 0 0 := hv
          have HN := Lib.hid (show encT T s = none from enc_none (s := 0) (List.mem_of_getElem? HS.out) ho)
          clear ho
          go_wp2_with fail
          go_ret2
          rw [HN.out]
          exact ⟨⟨_, rfl⟩, HK.out⟩
        | some u =>
          rw [ho] at hv
          obtain ⟨ad, cc, rfl, hcc, hlo, hhi, hru⟩ := hv
          have hu := word_len HC.out.1 ho
          have hu1 := List.length_pos_iff.2 (word_ne HC.out.1 ho)
          have HEN := Lib.hid (show T.enc ((sgs (txt s)).take (s.size + 1)) = some (r ++ u) from by
            rw [take_succ_of HS.out]
            exact enc_snoc HE.out ho)
          obtain ⟨n, hn⟩ : ∃ n, n = u.length := ⟨_, rfl⟩
          rw [← hn] at hu hu1 hcc ⊢
          have HUN := Lib.hid hn
          have HRU := Lib.hid hru
          have hnz : ((n : Int) == 0) = false := by simp; omega
          clear hn hru hlo hhi ho
          go_wp2_with (at_builtin; go_loud (refine wpList_append_rd rfl (.tmp 31) (.tmp 32) 31 rfl w.heap.size 4 i0 (.bool false) 1 1 Try.underlying31 hi0 hz0 hz1 hz2 rfl (by decide) (.slice A m c) m _ rfl HO.out _ (some ad) n cc (u.map .bool) rfl (by rw [List.length_map, HUN.out, Nat.mul_one]) HRU.out (oc_bools _) (by unfold maxLen; omega) (by omega) HZ.out ?_); intro v3 w3 hown3 hgrow3 hat3; obtain ⟨A3, c3, rfl, _⟩ := own_form hown3)
          have HO3 := Lib.hid (show w3.ownsRow w.heap.size 4 1 (.slice A3 (m + n) c3) (m + n) ((r ++ u).map .bool) from by rw [List.map_append]; exact hown3)
          have HK3 := Lib.hid (HK.out.trans' ((Kp.refl _ _).grown hgrow3 (fun x hx => .inl (mem_ownL.2 hx))) (fun x hx => .inr (own_ge HO.out (mem_ownL.1 hx)).1))
          clear hown3 hgrow3 hat3
          exact ⟨⟨s.size + 1, m + n, c3, A3, r ++ u, by go_num, rfl, by omega, by omega, Lib.hid (by rw [List.length_append, HR.out, ← HUN.out]), HEN, HO3, HK3⟩, by first | (simp [intOf]; done) | (simp [intOf]; omega)⟩
      · obtain rfl : k = s.size + 1 := by omega
        have HN := Lib.hid (show encT T s = some r from by
          have := HE.out
          rwa [List.take_of_length_le (by rw [sgs_len]; exact Nat.le_refl _)] at this)
        have hb2 : ¬ (((s.size + 1 : Nat)) : Int) ≤ (s.size : Int) := by omega
        go_wp2_with fail
        go_ret2
        rw [HN.out]
        exact ⟨A, m, c, HR.out.symm, rfl, HO.out, HK.out⟩
end Go.Proofs.Ytpmdfklhgabfgaa
namespace Go.Proofs.Ytpmdfklhgabfgaa
open Go.RowKit

/-- TwoR rows of the call's own, of whatever elements, that lie apart. -/
structure TwoR (w : World) (b : Nat) (t1 t2 : TypeId) (y z : Value) (m k : Nat) (v u : List Value) : Prop where
  o1 : w.ownsRow b t1 1 y m v
  o2 : w.ownsRow b t2 1 z k u
  ne : ∀ g, y.ownBlock = some g → z.ownBlock ≠ some g
section
variable {w w' : World} {b m k m' : Nat} {t1 t2 : TypeId} {y z y' : Value} {v u v' : List Value}
theorem TwoR.swap (h : TwoR w b t1 t2 y z m k v u) : TwoR w b t2 t1 z y k m u v := ⟨h.o2, h.o1, fun g h1 h2 => h.ne g h2 h1⟩
theorem TwoR.kp {S : List Nat} (h : TwoR w b t1 t2 y z m k v u) (hk : Kp S w w') (hS : ∀ g ∈ S, g < b) : TwoR w' b t1 t2 y z m k v u :=
  ⟨own_kp h.o1 hk (fun g hg hm => by have := (own_ge h.o1 hg).1; have := hS g hm; omega), own_kp h.o2 hk (fun g hg hm => by have := (own_ge h.o2 hg).1; have := hS g hm; omega), h.ne⟩
theorem TwoR.left {o : Obj} (h : TwoR w b t1 t2 y z m k v u) (hown : w'.ownsRow b t1 1 y' m' v') (hg : (w.alloc o).grownBy w' y.ownBlock) (hat : y'.ownBlock = y.ownBlock ∨ y'.ownBlock = some (w.alloc o).heap.size) : TwoR w' b t1 t2 y' z m' k v' u := by
  have hk : Kp (ownL y) w w' := ((Kp.refl _ w).alloc o).grown hg (fun g hg => .inl (mem_ownL.2 hg))
  refine ⟨hown, own_kp h.o2 hk (fun g hg hm => h.ne g (mem_ownL.1 hm) hg), fun g h1 h2 => ?_⟩
  rcases hat with e | e
  · exact h.ne g (e ▸ h1) h2
  · rw [e] at h1
    injection h1 with h1
    have := (own_ge h.o2 h2).2
    simp at h1
    omega
theorem TwoR.none_right (h : TwoR w b t1 t2 y z m k v u) : TwoR w b t1 t2 y (.slice none 0 0) m 0 v [] := ⟨h.o1, ⟨rfl, .inl ⟨rfl, rfl⟩⟩, fun g _ h2 => by cases h2⟩
end
theorem TwoR.nil (w : World) (b : Nat) (t1 t2 : TypeId) : TwoR w b t1 t2 (.slice none 0 0) (.slice none 0 0) 0 0 [] [] := ⟨⟨rfl, .inl ⟨rfl, rfl⟩⟩, ⟨rfl, .inl ⟨rfl, rfl⟩⟩, fun g h => by cases h⟩
theorem full_sub : ∀ {T : CT}, T.Full → ∀ {l : List Bool} {x y : CT}, T.sub l = .node x y → x.Full ∧ y.Full
  | .leaf s, _, [], x, y, h => by rw [CT.sub_nil] at h; cases h
  | .leaf s, _, b :: l, x, y, h => by rw [CT.sub_leaf] at h; cases h
  | .node a c, hf, [], x, y, h => by rw [CT.sub_nil] at h; injection h with h1 h2; subst h1 h2; exact hf
  | .node a c, hf, false :: l, x, y, h => full_sub hf.1 (show a.sub l = _ from h)
  | .node a c, hf, true :: l, x, y, h => full_sub hf.2 (show c.sub l = _ from h)
theorem kid_sub_ {x1 x2 : CT} (b : Bool) : (CT.node x1 x2).kid b = if b then x2 else x1 := by cases b <;> (show CT.sub _ [] = _; rw [CT.sub_nil]; rfl)
/-- Where a code's bits lead nowhere. -/
theorem kid_nil {T : CT} {sg : List Nat} {ls : List Int} (h : CodeT T sg ls) {l : List Bool} {x1 x2 : CT} (hl : T.sub l = .node x1 x2) (b : Bool) : (CT.node x1 x2).kid b = .nil ↔ sg.length = 1 ∧ b = true := by
  rw [kid_sub_]
  rcases h.2.2.2.2.2 with ⟨a, c, e, ha, hc, h2⟩ | ⟨s, e, hs⟩
  · have hf := full_sub (T := T) (by rw [e]; exact ⟨ha, hc⟩) hl
    refine ⟨fun hn => ?_, fun hn => by omega⟩
    cases b
    · rw [if_neg (by simp)] at hn; rw [hn] at hf; exact hf.1.elim
    · rw [if_pos rfl] at hn; rw [hn] at hf; exact hf.2.elim
  · have hl0 : l = [] := by
      cases l with
      | nil => rfl
      | cons d l =>
        rw [e] at hl
        cases d
        · have : (CT.leaf s).sub l = .node x1 x2 := hl
          cases l with
          | nil => rw [CT.sub_nil] at this; cases this
          | cons d l => rw [CT.sub_leaf] at this; cases this
        · have : CT.nil.sub l = .node x1 x2 := hl
          rw [CT.sub_none] at this
          cases this
    subst hl0
    rw [CT.sub_nil, e] at hl
    injection hl with h1 h2
    subst h1 h2
    rw [hs]
    cases b <;> simp
theorem sub_kid {T : CT} {lb : List Bool} {x1 x2 : CT} (h : T.sub lb = .node x1 x2) (b : Bool) : T.sub (lb ++ [b]) = (CT.node x1 x2).kid b := by rw [CT.sub_app, h]; rfl
/-- What the document's Get answers. -/
def RGetP (rp : Nat) (A : Option Addr) (N c a : Nat) (F : List Nat × Int × Nat × Bool) (w : World) (e : Ending) (w' : World) : Prop := e = .returned (.tuple #[.string (strN F.1), .int .i64 F.2.1]) ∧ RrM w' rp A N c (a + F.2.2.1) F.2.2.2 ∧ Kp [rp] w w'
set_option maxRecDepth 100000 in
set_option maxHeartbeats 4000000 in
theorem rget6_any (lo hi p rp N cA a B : Nat) (A : Option Addr) (bad : Bool) (bs : List Bool) (T : CT) (sg : List Nat) (ls : List Int) (w : World) (h : RCode w lo hi p T sg ls) (hr : RrM w rp A N cA a bad) (hx : Rd w B A (bs.map .bool)) (hN : bs.length = N) (hc : N ≤ cA) (ha : a ≤ N) (hN24 : N ≤ 16777216) (hB : B ≤ rp) (hhi : hi ≤ rp) :
    Calls Try.prog 74 #[.pointer (some ⟨p, 0, none⟩), .pointer (some ⟨rp, 0, none⟩)] w (RGetP rp A N cA a (getF T bs a bad) w) := by
  obtain ⟨i0, hi0, hz0, hz1, hz2⟩ := info_parts Try.info_abool
  obtain ⟨j0, hj0, hy0, hy1, hy2⟩ := info_parts Try.info_au8
  have hrw : rp < w.heap.size := Blk.lt hr
  have HC := Lib.hid h
  have HR := Lib.hid hr
  have HX := Lib.hid hx
  have HN := Lib.hid hN
  have HHI := Lib.hid (show ∀ g ∈ [rp], g < lo ∨ hi ≤ g from fun g hg => .inr (by rw [List.mem_singleton.1 hg]; exact hhi))
  have HRB := Lib.hid (show ∀ g ∈ [rp], B ≤ g from fun g hg => by rw [List.mem_singleton.1 hg]; exact hB)
  have HRW := Lib.hid (show ∀ g ∈ [rp], g < w.heap.size from fun g hg => by rw [List.mem_singleton.1 hg]; exact hrw)
  clear h hr hx hN
  cases bad with
  | true =>
    have HNX := Lib.hid (rrnext_any rp N cA a B A true bs w HR.out HX.out HN.out hc ha hN24 hB)
    rw [show rNum bs a true 1 = (0, a, true) from by unfold rNum; rw [if_pos (.inl rfl)], show ((0 : Nat) == 1) = false from rfl] at HNX
    go_enter Try.func74, Try.ntmps74
    go_wp2_with fail
    go_loopw [6, 7] (fun v x wr => v = .slice none 0 0 ∧ x = .slice none 0 0 ∧ w = wr) (fun _ _ _ => 0)
    case atStart => exact ⟨rfl, rfl, rfl⟩
    case round =>
      obtain ⟨rfl, rfl, rfl⟩ := hrel
      go_wp2_with fail
      refine HNX.out.mono ?_
      rintro e w2 ⟨rfl, hr2, hk2⟩
      have hc2 : w2.cell? ⟨rp, 2, none⟩ = some (.bool true) := hr2.cells.2.2
      have HR2 := Lib.hid hr2
      have HK2 := Lib.hid hk2
      clear hr2 hk2
      go_wp2_with fail
      go_ret2
      exact ⟨rfl, HR2.out, HK2.out⟩
  | false =>
    go_enter Try.func74, Try.ntmps74
    go_wp2_with fail
    go_loopw [6, 7] (fun v x wr => ∃ (j m c kb c2 : Nat) (A1 A2 : Option Addr) (o : List Nat) (lb : List Bool) (x1 x2 : CT), v = .slice A1 m c ∧ x = .slice A2 kb c2 ∧ a + j ≤ N ∧ m ≤ j ∧ kb ≤ j ∧ Hid (o.length = m ∧ ∀ y ∈ o, y < 256) ∧ Hid (lb.length = kb) ∧ Hid (T.sub lb = .node x1 x2) ∧ Hid (GetI (getF T bs a false) T (.node x1 x2) o (bs.drop (a + j)) j) ∧ Hid (RrM wr rp A N cA (a + j) false) ∧ Hid (TwoR wr w.heap.size 5 4 (.slice A1 m c) (.slice A2 kb c2) m kb (o.map fun (y : Nat) => .int .u8 (y : Int)) (lb.map .bool)) ∧ Hid (Kp [rp] w wr)) (fun _ _ wr => N - (match wr.cell? ⟨rp, 1, none⟩ with | some v => (intOf v).toNat | none => 0))
    case atStart =>
      obtain ⟨ta, tb, e⟩ := HC.out.1.node
      exact ⟨0, 0, 0, 0, 0, none, none, [], [], ta, tb, rfl, rfl, by omega, by omega, by omega, Lib.hid ⟨rfl, by simp⟩, Lib.hid rfl, Lib.hid (by rw [CT.sub_nil]; exact e), Lib.hid (by have := GetI.start T bs a; rw [e] at this ⊢; exact this), HR, Lib.hid (TwoR.nil w _ _ _), Lib.hid (Kp.refl _ _)⟩
    case round =>
      obtain ⟨j, m, c, kb, c2, A1, A2, o, lb, x1, x2, rfl, rfl, haj, hmj, hkj, HO, HLB, HSUB, HG, HRR, HTW, HK⟩ := hrel
      have HNX := Lib.hid (rrnext_any rp N cA (a + j) B A false bs wr HRR.out (HX.out.kp HK.out HRB.out) HN.out hc haj hN24 hB)
      have HREL := Lib.hid (show wr.cell? ⟨rp, 1, none⟩ = some (.int .i64 ((a + j : Nat) : Int)) from HRR.out.cells.2.1)
      by_cases hend : N ≤ a + j
      · rw [rNum_end (by rw [HN.out]; exact hend), show ((0 : Nat) == 1) = false from rfl] at HNX
        have HF := Lib.hid (show getF T bs a false = ([], 4, j, true) from by
          have := HG.out
          rw [List.drop_of_length_le (by rw [HN.out]; exact hend)] at this
          exact this.stop)
        go_wp2_with fail
        refine HNX.out.mono ?_
        rintro e w2 ⟨rfl, hr2, hk2⟩
        have hc2 : w2.cell? ⟨rp, 2, none⟩ = some (.bool true) := hr2.cells.2.2
        have HR2 := Lib.hid hr2
        have HK2 := Lib.hid (HK.out.trans hk2)
        clear hr2 hk2
        go_wp2_with fail
        go_ret2
        rw [HF.out]
        exact ⟨rfl, HR2.out, HK2.out⟩
      · obtain ⟨b, hb⟩ : ∃ b, bs[a + j]? = some b := ⟨_, List.getElem?_eq_getElem (by rw [HN.out]; omega)⟩
        have HD := Lib.hid (show bs.drop (a + j) = b :: bs.drop (a + j + 1) from by
          obtain ⟨h1, h2⟩ := List.getElem?_eq_some_iff.1 hb
          rw [List.drop_eq_getElem_cons h1, h2])
        rw [HD.out] at HG
        rw [rNum_at hb, show ((if b then 1 else 0 : Nat) == 1) = b from by cases b <;> rfl] at HNX
        have hlt : a + j + 1 ≤ N := by omega
        clear hb HD hend
        go_wp2_with fail
        refine HNX.out.mono ?_
        rintro e w2 ⟨rfl, hr2, hk2⟩
        have HR2 := Lib.hid (show RrM w2 rp A N cA (a + (j + 1)) false from hr2)
        have HK2 := Lib.hid (HK.out.trans hk2)
        have hc2 : w2.cell? ⟨rp, 2, none⟩ = some (.bool false) := hr2.cells.2.2
        have HTW2 := Lib.hid (HTW.out.kp hk2 HRW.out)
        have HSZ := Lib.hid HK2.out.size
        clear hr2 hk2 HNX HTW HRR HK
        obtain ⟨n, S1, S2, S3, d1, d2, d3, lw, hsn, hsl, _, q0, _, _, _, _, _, _, _, _, _⟩ := (HC.out.kp HK2.out HHI.out).cells
        have HSN := Lib.hid hsn
        have hpo : p ∉ ownL (.slice A2 kb c2) := fun hm => by
          have h1 := (own_ge HTW2.out.o2 (mem_ownL.1 hm)).1
          have h2 := HC.out.2.2.1
          omega
        have hro : ∀ g ∈ ownL (.slice A2 kb c2), w.heap.size ≤ g := fun g hm => (own_ge HTW2.out.o2 (mem_ownL.1 hm)).1
        have HPO := Lib.hid hpo
        have HRO := Lib.hid hro
        clear hsn hsl hpo hro
        have HKN := Lib.hid (kid_nil HC.out.1 HSUB.out b)
        have HSK := Lib.hid (sub_kid HSUB.out b)
        by_cases hkn : n = 1 ∧ b = true
        · obtain ⟨rfl, rfl⟩ := hkn
          have HF := Lib.hid (HG.out.none (HKN.out.2 ⟨HSN.out.symm, rfl⟩))
          have hnn : (((1 : Nat) : Int) == 1) = true := rfl
          go_wp2_with (at_builtin; go_loud (refine wpList_append_rd rfl (.tmp 16) (.tmp 18) 31 rfl (w.heap.size) 4 i0 (.bool false) 1 1 Try.underlying31 hi0 hz0 hz1 hz2 rfl (by decide) (.slice A2 kb c2) (kb) _ rfl (own_kp0 HTW2.out.o2 ((Kp.refl [] _).alloc _)) _ _ 1 1 [.bool true] rfl rfl (Rd.new w2 #[.bool true] 4 (0, 0)) (by intro u hu; simp at hu; subst hu; rfl) (by unfold maxLen; omega) (by omega) (by have := HSZ.out; simp; omega) ?_); intro v3 w3 hown3 hgrow3 hat3; obtain ⟨hka3, hga3⟩ := app_facts hgrow3 hat3; obtain ⟨A3', c3', rfl, _⟩ := own_form hown3; have hp3 : w3.cell? ⟨p, 0, none⟩ = some (.slice (some S1) 1 d1) := hka3.cell q0 HPO.out; have HTW3 := Lib.hid (HTW2.out.swap.left hown3 hgrow3 hat3).swap; have HK3 := Lib.hid (HK2.out.trans' hka3 (fun x hx => .inr (HRO.out x hx))); have HR3 := Lib.hid (HR2.out.kp hka3 (fun hm => by have := HRO.out _ hm; omega)); clear hown3 hgrow3 hat3 hka3 hga3 HR2 HTW2 HK2 q0 hc2)
          go_ret2
          rw [HF.out]
          exact ⟨rfl, HR3.out, HK3.out⟩
        · have HNIL := Lib.hid (show (CT.node x1 x2).kid b ≠ .nil from fun e => hkn (by have := HKN.out.1 e; rw [← HSN.out] at this; exact this))
          have HS255 := Lib.hid (show ∀ s, (CT.node x1 x2).kid b = .leaf s → s ≤ 256 from fun s hs => by
            have h1 : T.sub (lb ++ [b]) = .leaf s := by rw [HSK.out, hs]
            exact HC.out.1.2.2.2.1 _ (word_mem HC.out.1 ((word_sub HC.out.1).2 h1)))
          clear HKN
          by_cases hn1 : n = 1
          · subst hn1
            obtain rfl : b = false := by cases b <;> simp_all
            have hnn : (((1 : Nat) : Int) == 1) = true := rfl
            clear hkn
            go_wp2_with (at_builtin; go_loud (refine wpList_append_rd rfl (.tmp 16) (.tmp 18) 31 rfl (w.heap.size) 4 i0 (.bool false) 1 1 Try.underlying31 hi0 hz0 hz1 hz2 rfl (by decide) (.slice A2 kb c2) (kb) _ rfl (own_kp0 HTW2.out.o2 ((Kp.refl [] _).alloc _)) _ _ 1 1 [.bool false] rfl rfl (Rd.new w2 #[.bool false] 4 (0, 0)) (by intro u hu; simp at hu; subst hu; rfl) (by unfold maxLen; omega) (by omega) (by have := HSZ.out; simp; omega) ?_); intro v3 w3 hown3 hgrow3 hat3; obtain ⟨hka3, hga3⟩ := app_facts hgrow3 hat3; obtain ⟨A3', c3', rfl, _⟩ := own_form hown3; have hp3 : w3.cell? ⟨p, 0, none⟩ = some (.slice (some S1) 1 d1) := hka3.cell q0 HPO.out; have HTW3 := Lib.hid (HTW2.out.swap.left hown3 hgrow3 hat3).swap; have HK3 := Lib.hid (HK2.out.trans' hka3 (fun x hx => .inr (HRO.out x hx))); have HR3 := Lib.hid (HR2.out.kp hka3 (fun hm => by have := HRO.out _ hm; omega)); clear hown3 hgrow3 hat3 hka3 hga3 HR2 HTW2 HK2 q0 hc2)
            refine (rat6_any lo hi p (kb + 1) c3' _ A3' (lb ++ [false]) T sg ls w3 (HC.out.kp HK3.out HHI.out) (by rw [List.map_append]; exact own_rd HTW3.out.o2) (by rw [List.length_append, HLB.out]; rfl) (by omega)).mono ?_
            rintro e w4 ⟨rfl, hd4⟩
            have hk4 := hd4.kp []
            have HTW4 := Lib.hid (HTW3.out.kp hk4 (by simp))
            have HR4 := Lib.hid (HR3.out.kp0 hk4)
            have HK4 := Lib.hid (HK3.out.trans' hk4 (by simp))
            have HSZ4 := Lib.hid HK4.out.size
            have HM4 := Lib.hid (show w4.cell? ⟨rp, 1, none⟩ = some (.int .i64 ((a + (j + 1) : Nat) : Int)) from HR4.out.cells.2.1)
            clear hd4 hk4 HTW3 HR3 HK3 hp3
            cases hX : (CT.node x1 x2).kid false with
            | nil => exact absurd hX HNIL.out
            | leaf s =>
              have HAV := Lib.hid (show atV T (lb ++ [false]) = (s : Int) from by unfold atV; rw [HSK.out, hX])
              cases s with
              | zero =>
                rw [HAV.out, show ((0 : Nat) : Int) = 0 from rfl]
                have HF := Lib.hid (HG.out.fin hX)
                have hcv := run_strN w4 A1 m c _ o HO.out.1 HO.out.2 (own_rd HTW4.out.o1)
                clear hX
                go_wp2_with fail
                go_ret2
                rw [HF.out]
                exact ⟨rfl, HR4.out, HK4.out⟩
              | succ s =>
                rw [HAV.out]
                have HG2 := Lib.hid (HG.out.leaf hX)
                have hs255 : s ≤ 255 := by have := HS255.out _ hX; omega
                obtain ⟨s1, hs1⟩ : ∃ s1, s1 = s + 1 := ⟨_, rfl⟩
                rw [← hs1]
                have hs10 : ((s1 : Int) == 0) = false := by simp; omega
                have hs11 : decide ((0 : Int) < (s1 : Int)) = true := by simp; omega
                have hs12 : decide (0 < s1) = true := by simp; omega
                have hm2 : (m + 1) * 1 ≤ 140737488355328 := by omega
                have hw1 : IntKind.i64.wrap ((s1 : Int) - 1) = (s : Int) := by rw [IntKind.wrap_i64]; omega
                have hw2 : IntKind.u8.wrap (s : Int) = (s : Int) := by
                  simp only [IntKind.wrap, IntKind.signed, IntKind.bits]
                  simp
                  omega
                have HRO2 := Lib.hid (show ∀ g ∈ ownL (.slice A1 m c), w.heap.size ≤ g from fun g hm => (own_ge HTW4.out.o1 (mem_ownL.1 hm)).1)
                clear hX hs1
                obtain ⟨ta, tb, eT⟩ := HC.out.1.node
                have HET := Lib.hid eT
                have HG3 := Lib.hid (show GetI (getF T bs a false) T (.node ta tb) (o ++ [s]) (bs.drop (a + (j + 1))) (j + 1) from by have := HG2.out; rw [eT] at this ⊢; exact this)
                have HS3 := Lib.hid (show T.sub [] = .node ta tb from by rw [CT.sub_nil]; exact eT)
                have HOO := Lib.hid (show (o ++ [s]).length = m + 1 ∧ ∀ y ∈ o ++ [s], y < 256 from ⟨by rw [List.length_append, HO.out.1]; rfl, fun y hy => by
                  rcases List.mem_append.1 hy with h | h
                  · exact HO.out.2 y h
                  · rw [List.mem_singleton.1 h]; omega⟩)
                have hm1 : m + 1 ≤ maxLen := by unfold maxLen; omega
                have HZ4 := Lib.hid (show w.heap.size ≤ (w4.alloc (.cells #[.int .u8 (s : Int)] 5)).heap.size from by have := HSZ4.out; simp; omega)
                have HRN := Lib.hid (show rp ∉ ownL (.slice A1 m c) from fun hm => by have := HRO2.out _ hm; omega)
                have hz1 : a + (j + 1) ≤ N := by omega
                have hz2 : m + 1 ≤ j + 1 := by omega
                have hz3 : 0 ≤ j + 1 := by omega
                clear eT
                go_wp2_with (at_builtin; go_loud (refine wpList_append_rd rfl (.tmp 38) (.tmp 42) 98 rfl (w.heap.size) 5 j0 (.int .u8 0) 1 1 Try.underlying98 hj0 hy0 hy1 hy2 rfl (by decide) (.slice A1 m c) m _ rfl (own_kp0 HTW4.out.o1 ((Kp.refl [] _).alloc _)) _ _ 1 1 [.int .u8 (s : Int)] rfl rfl (Rd.new w4 #[.int .u8 (s : Int)] 5 (0, 0)) (by intro u hu; simp at hu; subst hu; rfl) hm1 hm2 HZ4.out ?_); intro v5 w5 hown5 hgrow5 hat5; obtain ⟨hka5, hga5⟩ := app_facts hgrow5 hat5; obtain ⟨A5', c5', rfl, _⟩ := own_form hown5; have HTW5 := Lib.hid (HTW4.out.left hown5 hgrow5 hat5).none_right; have HK5 := Lib.hid (HK4.out.trans' hka5 (fun x hx => .inr (HRO2.out x hx))); have HR5 := Lib.hid (HR4.out.kp hka5 HRN.out); clear hown5 hgrow5 hat5 hka5 hga5)
                clear hw1 hw2
                refine ⟨⟨j + 1, m + 1, c5', 0, 0, A5', none, o ++ [s], [], ta, tb, rfl, rfl, hz1, hz2, hz3, HOO, Lib.hid rfl, HS3, HG3, HR5, Lib.hid (by rw [List.map_append]; exact HTW5.out), HK5⟩, ?_⟩
                rw [HREL.out, HR5.out.cells.2.1]
                simp only [intOf]
                omega
            | node y1 y2 =>
              have HAV := Lib.hid (show atV T (lb ++ [false]) = -1 from by unfold atV; rw [HSK.out, hX])
              rw [HAV.out]
              have HG2 := Lib.hid (HG.out.node hX)
              have HSUB2 := Lib.hid (show T.sub (lb ++ [false]) = .node y1 y2 from by rw [HSK.out, hX])
              clear hX
              go_wp2_with fail
              refine ⟨⟨j + 1, m, c, kb + 1, c3', A1, A3', o, lb ++ [false], y1, y2, rfl, rfl, by omega, by omega, by omega, HO, Lib.hid (by rw [List.length_append, HLB.out]; rfl), HSUB2, HG2, HR4, Lib.hid (by rw [List.map_append]; exact HTW4.out), HK4⟩, ?_⟩
              rw [HREL.out, HM4.out]
              simp only [intOf]
              omega
          · have hnn : ((n : Int) == 1) = false := by simp; omega
            clear hkn hn1
            go_wp2_with (at_builtin; go_loud (refine wpList_append_rd rfl (.tmp 16) (.tmp 18) 31 rfl (w.heap.size) 4 i0 (.bool false) 1 1 Try.underlying31 hi0 hz0 hz1 hz2 rfl (by decide) (.slice A2 kb c2) (kb) _ rfl (own_kp0 HTW2.out.o2 ((Kp.refl [] _).alloc _)) _ _ 1 1 [.bool b] rfl rfl (Rd.new w2 #[.bool b] 4 (0, 0)) (by intro u hu; simp at hu; subst hu; rfl) (by unfold maxLen; omega) (by omega) (by have := HSZ.out; simp; omega) ?_); intro v3 w3 hown3 hgrow3 hat3; obtain ⟨hka3, hga3⟩ := app_facts hgrow3 hat3; obtain ⟨A3', c3', rfl, _⟩ := own_form hown3; have hp3 : w3.cell? ⟨p, 0, none⟩ = some (.slice (some S1) n d1) := hka3.cell q0 HPO.out; have HTW3 := Lib.hid (HTW2.out.swap.left hown3 hgrow3 hat3).swap; have HK3 := Lib.hid (HK2.out.trans' hka3 (fun x hx => .inr (HRO.out x hx))); have HR3 := Lib.hid (HR2.out.kp hka3 (fun hm => by have := HRO.out _ hm; omega)); clear hown3 hgrow3 hat3 hka3 hga3 HR2 HTW2 HK2 q0 hc2)
            refine (rat6_any lo hi p (kb + 1) c3' _ A3' (lb ++ [b]) T sg ls w3 (HC.out.kp HK3.out HHI.out) (by rw [List.map_append]; exact own_rd HTW3.out.o2) (by rw [List.length_append, HLB.out]; rfl) (by omega)).mono ?_
            rintro e w4 ⟨rfl, hd4⟩
            have hk4 := hd4.kp []
            have HTW4 := Lib.hid (HTW3.out.kp hk4 (by simp))
            have HR4 := Lib.hid (HR3.out.kp0 hk4)
            have HK4 := Lib.hid (HK3.out.trans' hk4 (by simp))
            have HSZ4 := Lib.hid HK4.out.size
            have HM4 := Lib.hid (show w4.cell? ⟨rp, 1, none⟩ = some (.int .i64 ((a + (j + 1) : Nat) : Int)) from HR4.out.cells.2.1)
            clear hd4 hk4 HTW3 HR3 HK3 hp3
            cases hX : (CT.node x1 x2).kid b with
            | nil => exact absurd hX HNIL.out
            | leaf s =>
              have HAV := Lib.hid (show atV T (lb ++ [b]) = (s : Int) from by unfold atV; rw [HSK.out, hX])
              cases s with
              | zero =>
                rw [HAV.out, show ((0 : Nat) : Int) = 0 from rfl]
                have HF := Lib.hid (HG.out.fin hX)
                have hcv := run_strN w4 A1 m c _ o HO.out.1 HO.out.2 (own_rd HTW4.out.o1)
                clear hX
                go_wp2_with fail
                go_ret2
                rw [HF.out]
                exact ⟨rfl, HR4.out, HK4.out⟩
              | succ s =>
                rw [HAV.out]
                have HG2 := Lib.hid (HG.out.leaf hX)
                have hs255 : s ≤ 255 := by have := HS255.out _ hX; omega
                obtain ⟨s1, hs1⟩ : ∃ s1, s1 = s + 1 := ⟨_, rfl⟩
                rw [← hs1]
                have hs10 : ((s1 : Int) == 0) = false := by simp; omega
                have hs11 : decide ((0 : Int) < (s1 : Int)) = true := by simp; omega
                have hs12 : decide (0 < s1) = true := by simp; omega
                have hm2 : (m + 1) * 1 ≤ 140737488355328 := by omega
                have hw1 : IntKind.i64.wrap ((s1 : Int) - 1) = (s : Int) := by rw [IntKind.wrap_i64]; omega
                have hw2 : IntKind.u8.wrap (s : Int) = (s : Int) := by
                  simp only [IntKind.wrap, IntKind.signed, IntKind.bits]
                  simp
                  omega
                have HRO2 := Lib.hid (show ∀ g ∈ ownL (.slice A1 m c), w.heap.size ≤ g from fun g hm => (own_ge HTW4.out.o1 (mem_ownL.1 hm)).1)
                clear hX hs1
                obtain ⟨ta, tb, eT⟩ := HC.out.1.node
                have HET := Lib.hid eT
                have HG3 := Lib.hid (show GetI (getF T bs a false) T (.node ta tb) (o ++ [s]) (bs.drop (a + (j + 1))) (j + 1) from by have := HG2.out; rw [eT] at this ⊢; exact this)
                have HS3 := Lib.hid (show T.sub [] = .node ta tb from by rw [CT.sub_nil]; exact eT)
                have HOO := Lib.hid (show (o ++ [s]).length = m + 1 ∧ ∀ y ∈ o ++ [s], y < 256 from ⟨by rw [List.length_append, HO.out.1]; rfl, fun y hy => by
                  rcases List.mem_append.1 hy with h | h
                  · exact HO.out.2 y h
                  · rw [List.mem_singleton.1 h]; omega⟩)
                have hm1 : m + 1 ≤ maxLen := by unfold maxLen; omega
                have HZ4 := Lib.hid (show w.heap.size ≤ (w4.alloc (.cells #[.int .u8 (s : Int)] 5)).heap.size from by have := HSZ4.out; simp; omega)
                have HRN := Lib.hid (show rp ∉ ownL (.slice A1 m c) from fun hm => by have := HRO2.out _ hm; omega)
                have hz1 : a + (j + 1) ≤ N := by omega
                have hz2 : m + 1 ≤ j + 1 := by omega
                have hz3 : 0 ≤ j + 1 := by omega
                clear eT
                go_wp2_with (at_builtin; go_loud (refine wpList_append_rd rfl (.tmp 38) (.tmp 42) 98 rfl (w.heap.size) 5 j0 (.int .u8 0) 1 1 Try.underlying98 hj0 hy0 hy1 hy2 rfl (by decide) (.slice A1 m c) m _ rfl (own_kp0 HTW4.out.o1 ((Kp.refl [] _).alloc _)) _ _ 1 1 [.int .u8 (s : Int)] rfl rfl (Rd.new w4 #[.int .u8 (s : Int)] 5 (0, 0)) (by intro u hu; simp at hu; subst hu; rfl) hm1 hm2 HZ4.out ?_); intro v5 w5 hown5 hgrow5 hat5; obtain ⟨hka5, hga5⟩ := app_facts hgrow5 hat5; obtain ⟨A5', c5', rfl, _⟩ := own_form hown5; have HTW5 := Lib.hid (HTW4.out.left hown5 hgrow5 hat5).none_right; have HK5 := Lib.hid (HK4.out.trans' hka5 (fun x hx => .inr (HRO2.out x hx))); have HR5 := Lib.hid (HR4.out.kp hka5 HRN.out); clear hown5 hgrow5 hat5 hka5 hga5)
                clear hw1 hw2
                refine ⟨⟨j + 1, m + 1, c5', 0, 0, A5', none, o ++ [s], [], ta, tb, rfl, rfl, hz1, hz2, hz3, HOO, Lib.hid rfl, HS3, HG3, HR5, Lib.hid (by rw [List.map_append]; exact HTW5.out), HK5⟩, ?_⟩
                rw [HREL.out, HR5.out.cells.2.1]
                simp only [intOf]
                omega
            | node y1 y2 =>
              have HAV := Lib.hid (show atV T (lb ++ [b]) = -1 from by unfold atV; rw [HSK.out, hX])
              rw [HAV.out]
              have HG2 := Lib.hid (HG.out.node hX)
              have HSUB2 := Lib.hid (show T.sub (lb ++ [b]) = .node y1 y2 from by rw [HSK.out, hX])
              clear hX
              go_wp2_with fail
              refine ⟨⟨j + 1, m, c, kb + 1, c3', A1, A3', o, lb ++ [b], y1, y2, rfl, rfl, by omega, by omega, by omega, HO, Lib.hid (by rw [List.length_append, HLB.out]; rfl), HSUB2, HG2, HR4, Lib.hid (by rw [List.map_append]; exact HTW4.out), HK4⟩, ?_⟩
              rw [HREL.out, HM4.out]
              simp only [intOf]
              omega
end Go.Proofs.Ytpmdfklhgabfgaa
namespace Go.Proofs.Ytpmdfklhgabfgaa
open Go.RowKit

theorem getF_le (T : CT) (bs : List Bool) (a : Nat) (bad : Bool) (h : a ≤ bs.length) : a + (getF T bs a bad).2.2.1 ≤ bs.length := by
  unfold getF
  cases bad with
  | true => exact h
  | false =>
    have := getC_len T (bs.drop a) T []
    rw [List.length_drop] at this
    show a + (getC T T [] (bs.drop a)).2.2.1 ≤ _
    omega
set_option maxRecDepth 100000 in
set_option maxHeartbeats 4000000 in
theorem gets_any (lo hi p lo' hi' p' N cA B : Nat) (A : Option Addr) (bs : List Bool) (T : CT) (sg : List Nat) (ls : List Int) (w : World) (h : CodeM w lo hi p T sg ls) (h' : RCode w lo' hi' p' T sg ls) (hx : Rd w B A (bs.map .bool)) (hN : bs.length = N) (hc : N ≤ cA) (hN24 : N ≤ 1000000) (hhi : hi ≤ w.heap.size) (hhi' : hi' ≤ w.heap.size) (hB : B ≤ w.heap.size) :
    Calls Try.prog 62 #[.pointer (some ⟨p, 0, none⟩), .pointer (some ⟨p', 0, none⟩), .slice A N cA] w fun e w' => e = .returned (.bool true) ∧ Kp [] w w' := by
  have HC := Lib.hid h
  have HC' := Lib.hid h'
  have HX := Lib.hid hx
  have HN := Lib.hid hN
  clear h h' hx hN
  go_enter Try.func62, Try.ntmps62
  go_wp2_with fail
  refine (bof_any A N cA B bs w HX.out HN.out (by omega)).mono ?_
  rintro e w1 ⟨V, v, rfl, hv, hV, hk1⟩
  have HV := Lib.hid hv
  have HVB := Lib.hid hV
  have HK1 := Lib.hid hk1
  clear hv hV hk1
  go_wp2_with fail
  refine (rnew_yes V v N 0 bs false w1 HV.out HN.out (by omega)).mono ?_
  rintro e w2 ⟨rp, rfl, hr2, hv2, hrp, hrpV, hk2⟩
  have HRP := Lib.hid (show w.heap.size ≤ rp from Nat.le_trans HK1.out.size hrp)
  have HRV := Lib.hid hrpV
  have HK2 := Lib.hid (HK1.out.trans' hk2 (fun x hx => .inr (HVB.out x hx)))
  have HR2 := Lib.hid hr2
  have HV2 := Lib.hid hv2
  clear hr2 hv2 hrp hrpV hk2 HK1 HV HVB
  go_wp2_with fail
  obtain ⟨w4, hw4⟩ : ∃ w4, w4 = w2.alloc (.cells #[.slice A N cA, .int .i64 0, .bool false] 127) := ⟨_, rfl⟩
  obtain ⟨pr, hpr⟩ : ∃ pr, pr = w2.heap.size := ⟨_, rfl⟩
  have hk34 : Kp [] w2 w4 := by rw [hw4]; exact (Kp.refl [] w2).alloc _
  have HRR := Lib.hid (show RrM w4 pr A N cA 0 false from by rw [hw4, hpr]; exact Blk.new w2 127 [.slice A N cA, .int .i64 ((0 : Nat) : Int), .bool false])
  have HR4 := Lib.hid (HR2.out.kp0 hk34)
  have HV4 := Lib.hid (HV2.out.kp0 hk34)
  have HPR := Lib.hid (show w.heap.size ≤ pr from by rw [hpr]; exact HK2.out.size)
  have HPV := Lib.hid (show pr ∉ V from fun hm => by have := HV2.out.lt _ hm; omega)
  have HNE := Lib.hid (show rp ≠ pr from fun e => by have := Blk.lt HR2.out; omega)
  have HK4 := Lib.hid (HK2.out.trans hk34)
  rw [← hw4, ← hpr]
  clear hw4 hpr hk34 HR2 HV2 HK2
  go_loopw [12] (fun x wr => ∃ (k a : Nat) (bad : Bool), x = .int .i64 (k : Int) ∧ k ≤ 9 ∧ a ≤ N ∧ Hid (RdM wr rp v a bad) ∧ Hid (VecM wr V v bs false) ∧ Hid (RrM wr pr A N cA a bad) ∧ Hid (Kp [] w wr)) (fun x _ => 9 - (intOf x).toNat)
  case atStart => exact ⟨0, 0, false, rfl, by omega, by omega, HR4, HV4, HRR, HK4⟩
  case round =>
    clear HR4 HV4 HRR HK4
    obtain ⟨k, a, bad, rfl, hk, ha, HR, HV, HRR, HK⟩ := hrel
    by_cases hlt : k < 9
    · have hb0 : (0 : Int) ≤ (k : Int) := by omega
      have hb1 : (k : Int) < 9 := by omega
      go_wp2_with fail
      refine (cget_any lo hi p rp v a N V bad false bs T sg ls wr (HC.out.kp0 HK.out) HR.out HV.out HN.out ha HRV.out (by omega) (Nat.le_trans hhi HRP.out)).mono ?_
      intro e w5 hg
      obtain ⟨F, hF⟩ : ∃ F, F = getF T bs a bad := ⟨_, rfl⟩
      have HA2 := Lib.hid (getF_le T bs a bad (by rw [HN.out]; exact ha))
      rw [HN.out] at HA2
      have HF := Lib.hid hF
      rw [← hF] at hg HA2
      clear hF
      obtain ⟨ob, er, na, bad2⟩ := F
      unfold GetP at hg
      dsimp only at hg HA2
      obtain ⟨rfl, hr5, hk5⟩ := hg
      obtain ⟨a2, ha2⟩ : ∃ a2, a2 = a + na := ⟨_, rfl⟩
      rw [← ha2] at hr5 HA2
      have ha2N := HA2.out
      have HR5 := Lib.hid hr5
      have HV5 := Lib.hid (HV.out.kp hk5 (fun g hg hm => by simp only [List.mem_singleton] at hm; subst hm; exact HRV.out hg))
      have HRR5 := Lib.hid (HRR.out.kp hk5 (fun hm => by simp only [List.mem_singleton] at hm; exact HNE.out hm.symm))
      have HK5 := Lib.hid (HK.out.trans' hk5 (fun x hx => by simp only [List.mem_singleton] at hx; subst hx; exact .inr HRP.out))
      have HAE := Lib.hid ha2
      clear hr5 hk5 HR HV HRR HK ha2 HA2
      go_wp2_with fail
      refine (rget6_any lo' hi' p' pr N cA a B A bad bs T sg ls w5 (HC'.out.kp0 HK5.out) HRR5.out (HX.out.kp0 HK5.out) HN.out hc ha (by omega) (Nat.le_trans hB HPR.out) (Nat.le_trans hhi' HPR.out)).mono ?_
      intro e w6 hg
      rw [← HF.out] at hg
      unfold RGetP at hg
      dsimp only at hg
      rw [← HAE.out] at hg
      obtain ⟨rfl, hr6, hk6⟩ := hg
      obtain ⟨st, hst⟩ : ∃ st, st = strN ob := ⟨_, rfl⟩
      rw [← hst]
      have HR6 := Lib.hid (HR5.out.kp hk6 (fun hm => by simp only [List.mem_singleton] at hm; exact HNE.out hm))
      have HV6 := Lib.hid (HV5.out.kp hk6 (fun g hg hm => by simp only [List.mem_singleton] at hm; subst hm; exact HPV.out hg))
      have HRR6 := Lib.hid hr6
      have HK6 := Lib.hid (HK5.out.trans' hk6 (fun x hx => by simp only [List.mem_singleton] at hx; subst hx; exact .inr HPR.out))
      have hy1 := hr6.cells.2.1
      have hy2 := hr6.cells.2.2
      clear hr6 hk6 HR5 HV5 HRR5 HK5 hst HAE HF
      go_wp2_with fail
      refine wp_region_facts (by kernel_rfl) 73 [46, 47, 48, 49, 50, 51, 52, 53, 54, 55, 56, 57, 58, 59, 60, 61, 62, 63, 64, 65, 66, 67, 68, 69, 70, 71, 72] [[], [], [46, 47], [48], [49], [49], [50, 51, 49], [49, 52], [53], [54], [55, 54], [54], [57, 54], [58, 54], [59, 54], [56, 60, 54], [54, 61], [62], [63], [64, 63], [65, 63], [63], [67, 63], [68, 63], [69, 63], [66, 70, 63], [63, 71]] (by kernel_rfl) (by kernel_rfl) rfl (factOf [(46, .eq (.string st)), (47, .eq (.string st)), (48, .eq (.bool false)), (49, .eq (.bool false)), (50, .eq (.int .i64 er)), (51, .eq (.int .i64 er)), (52, .eq (.bool false)), (53, .eq (.bool false)), (54, .eq (.bool false)), (55, .eq (.pointer (some ⟨rp, 0, none⟩))), (56, .eq (.int .i64 (a2 : Int))), (57, .eq (.pointer (some ⟨pr, 0, none⟩))), (58, .eq (.pointer (some ⟨pr, 0, none⟩))), (59, .eq (.pointer (some ⟨pr, 1, none⟩))), (60, .eq (.int .i64 (a2 : Int))), (61, .eq (.bool false)), (62, .eq (.bool false)), (63, .eq (.bool false)), (64, .eq (.pointer (some ⟨rp, 0, none⟩))), (65, .eq (.int .i64 (errB bad2))), (66, .eq (.bool bad2)), (67, .eq (.pointer (some ⟨pr, 0, none⟩))), (68, .eq (.pointer (some ⟨pr, 0, none⟩))), (69, .eq (.pointer (some ⟨pr, 2, none⟩))), (70, .eq (.bool bad2)), (71, .eq (.bool false)), (72, .eq (.bool false))]) (factOf_stable _) _ (fun x => by simp only [fillL, Nat.reduceAdd, Nat.reduceEqDiff, ↓reduceIte]; rfl) ?_ ?_
      · refine ⟨?_, ?_, ?_, ?_, ?_, ?_, ?_, ?_, ?_, ?_, ?_, ?_, ?_, ?_, ?_, ?_, ?_, ?_, ?_, ?_, ?_, ?_, ?_, ?_, ?_, ?_, ?_, trivial⟩
        · intro fx w' fa hk hd ev  -- 46 = Op.move (Operand.tmp 13)
          have e13 : fa.tmps[13]?.getD undef = .string st := ev.old 13 rfl
          refine stepF_un rfl (fun K hK => ?_)
          exact stepF_val _ hK (run_move rfl e13 _) rfl
        · intro fx w' fa hk hd ev  -- 47 = Op.move (Operand.tmp 15)
          have e15 : fa.tmps[15]?.getD undef = .string st := ev.old 15 rfl
          refine stepF_un rfl (fun K hK => ?_)
          exact stepF_val _ hK (run_move rfl e15 _) rfl
        · intro fx w' fa hk hd ev  -- 48 = Op.binOp BinOp.neq 9 (Operand.tmp 46) (Operand.tmp 47) 9
          have h46 : fx 46 = .string st := hd.1
          have e46 : fa.tmps[46]?.getD undef = .string st := (ev.new 46 rfl).trans h46
          have h47 : fx 47 = .string st := hd.2.1
          have e47 : fa.tmps[47]?.getD undef = .string st := (ev.new 47 rfl).trans h47
          refine stepF_un rfl (fun K hK => ?_)
          go_simp
          exact hK _ _ rfl (Kp.refl _ _)
        · intro fx w' fa hk hd ev  -- 49 = Op.move (Operand.tmp 48)
          have h48 : fx 48 = .bool false := hd.1
          have e48 : fa.tmps[48]?.getD undef = .bool false := (ev.new 48 rfl).trans h48
          refine stepF_un rfl (fun K hK => ?_)
          exact stepF_val _ hK (run_move rfl e48 _) rfl
        · intro fx w' fa hk hd ev  -- 50 = Op.move (Operand.tmp 14)
          have h49 : fx 49 = .bool false := hd.1
          have e49 : fa.tmps[49]?.getD undef = .bool false := (ev.new 49 rfl).trans h49
          have e14 : fa.tmps[14]?.getD undef = .int .i64 er := ev.old 14 rfl
          refine stepF_yes (i := 3) (g := 49) (b := false) rfl rfl rfl e49 (fun K hK => ?_)
          exact stepF_val _ hK (run_move rfl e14 _) rfl
        · intro fx w' fa hk hd ev  -- 51 = Op.move (Operand.tmp 16)
          have h49 : fx 49 = .bool false := hd.1
          have e49 : fa.tmps[49]?.getD undef = .bool false := (ev.new 49 rfl).trans h49
          have e16 : fa.tmps[16]?.getD undef = .int .i64 er := ev.old 16 rfl
          refine stepF_yes (i := 3) (g := 49) (b := false) rfl rfl rfl e49 (fun K hK => ?_)
          exact stepF_val _ hK (run_move rfl e16 _) rfl
        · intro fx w' fa hk hd ev  -- 52 = Op.binOp BinOp.neq 27 (Operand.tmp 50) (Operand.tmp 51) 27
          have h50 : fx 50 = .int .i64 er := hd.1
          have e50 : fa.tmps[50]?.getD undef = .int .i64 er := (ev.new 50 rfl).trans h50
          have h51 : fx 51 = .int .i64 er := hd.2.1
          have e51 : fa.tmps[51]?.getD undef = .int .i64 er := (ev.new 51 rfl).trans h51
          have h49 : fx 49 = .bool false := hd.2.2.1
          have e49 : fa.tmps[49]?.getD undef = .bool false := (ev.new 49 rfl).trans h49
          refine stepF_yes (i := 3) (g := 49) (b := false) rfl rfl rfl e49 (fun K hK => ?_)
          go_simp
          exact hK _ _ rfl (Kp.refl _ _)
        · intro fx w' fa hk hd ev  -- 53 = Op.pick (Operand.tmp 49) (Operand.const (Value.bool true)) (
          have h49 : fx 49 = .bool false := hd.1
          have e49 : fa.tmps[49]?.getD undef = .bool false := (ev.new 49 rfl).trans h49
          have h52 : fx 52 = .bool false := hd.2.1
          have e52 : fa.tmps[52]?.getD undef = .bool false := (ev.new 52 rfl).trans h52
          refine stepF_un rfl (fun K hK => ?_)
          go_simp
          exact hK _ _ rfl (Kp.refl _ _)
        · intro fx w' fa hk hd ev  -- 54 = Op.move (Operand.tmp 53)
          have h53 : fx 53 = .bool false := hd.1
          have e53 : fa.tmps[53]?.getD undef = .bool false := (ev.new 53 rfl).trans h53
          refine stepF_un rfl (fun K hK => ?_)
          exact stepF_val _ hK (run_move rfl e53 _) rfl
        · intro fx w' fa hk hd ev  -- 55 = Op.move (Operand.tmp 9)
          have h54 : fx 54 = .bool false := hd.1
          have e54 : fa.tmps[54]?.getD undef = .bool false := (ev.new 54 rfl).trans h54
          have e9 : fa.tmps[9]?.getD undef = .pointer (some ⟨rp, 0, none⟩) := ev.old 9 rfl
          refine stepF_yes (i := 8) (g := 54) (b := false) rfl rfl rfl e54 (fun K hK => ?_)
          exact stepF_val _ hK (run_move rfl e9 _) rfl
        · intro fx w' fa hk hd ev  -- 56 = Op.call { callee := Callee.value (Operand.func 24), args := 
          have h55 : fx 55 = .pointer (some ⟨rp, 0, none⟩) := hd.1
          have e55 : fa.tmps[55]?.getD undef = .pointer (some ⟨rp, 0, none⟩) := (ev.new 55 rfl).trans h55
          have h54 : fx 54 = .bool false := hd.2.1
          have e54 : fa.tmps[54]?.getD undef = .bool false := (ev.new 54 rfl).trans h54
          refine stepF_yes (i := 8) (g := 54) (b := false) rfl rfl rfl e54 (fun K hK => ?_)
          go_simp
          refine (rat_any rp v a2 bad2 w' (HR6.out.kp0 hk)).mono ?_
          rintro e w2 ⟨rfl, rfl⟩
          exact hK _ _ rfl (Kp.refl _ _)
        · intro fx w' fa hk hd ev  -- 57 = Op.move (Operand.tmp 11)
          have h54 : fx 54 = .bool false := hd.1
          have e54 : fa.tmps[54]?.getD undef = .bool false := (ev.new 54 rfl).trans h54
          have e11 : fa.tmps[11]?.getD undef = .pointer (some ⟨pr, 0, none⟩) := ev.old 11 rfl
          refine stepF_yes (i := 8) (g := 54) (b := false) rfl rfl rfl e54 (fun K hK => ?_)
          exact stepF_val _ hK (run_move rfl e11 _) rfl
        · intro fx w' fa hk hd ev  -- 58 = Op.nilCheck (Operand.tmp 57)
          have h57 : fx 57 = .pointer (some ⟨pr, 0, none⟩) := hd.1
          have e57 : fa.tmps[57]?.getD undef = .pointer (some ⟨pr, 0, none⟩) := (ev.new 57 rfl).trans h57
          have h54 : fx 54 = .bool false := hd.2.1
          have e54 : fa.tmps[54]?.getD undef = .bool false := (ev.new 54 rfl).trans h54
          refine stepF_yes (i := 8) (g := 54) (b := false) rfl rfl rfl e54 (fun K hK => ?_)
          go_simp
          exact hK _ _ rfl (Kp.refl _ _)
        · intro fx w' fa hk hd ev  -- 59 = Op.fieldAddr 127 (Operand.tmp 58) 1
          have h58 : fx 58 = .pointer (some ⟨pr, 0, none⟩) := hd.1
          have e58 : fa.tmps[58]?.getD undef = .pointer (some ⟨pr, 0, none⟩) := (ev.new 58 rfl).trans h58
          have h54 : fx 54 = .bool false := hd.2.1
          have e54 : fa.tmps[54]?.getD undef = .bool false := (ev.new 54 rfl).trans h54
          refine stepF_yes (i := 8) (g := 54) (b := false) rfl rfl rfl e54 (fun K hK => ?_)
          go_simp
          exact hK _ _ rfl (Kp.refl _ _)
        · intro fx w' fa hk hd ev  -- 60 = Op.load 3 (Operand.tmp 59)
          have h59 : fx 59 = .pointer (some ⟨pr, 1, none⟩) := hd.1
          have e59 : fa.tmps[59]?.getD undef = .pointer (some ⟨pr, 1, none⟩) := (ev.new 59 rfl).trans h59
          have h54 : fx 54 = .bool false := hd.2.1
          have e54 : fa.tmps[54]?.getD undef = .bool false := (ev.new 54 rfl).trans h54
          refine stepF_yes (i := 8) (g := 54) (b := false) rfl rfl rfl e54 (fun K hK => ?_)
          have q9 := hk.cell hy1 (by simp)
          go_simp
          exact hK _ _ rfl (Kp.refl _ _)
        · intro fx w' fa hk hd ev  -- 61 = Op.binOp BinOp.neq 3 (Operand.tmp 56) (Operand.tmp 60) 3
          have h56 : fx 56 = .int .i64 (a2 : Int) := hd.1
          have e56 : fa.tmps[56]?.getD undef = .int .i64 (a2 : Int) := (ev.new 56 rfl).trans h56
          have h60 : fx 60 = .int .i64 (a2 : Int) := hd.2.1
          have e60 : fa.tmps[60]?.getD undef = .int .i64 (a2 : Int) := (ev.new 60 rfl).trans h60
          have h54 : fx 54 = .bool false := hd.2.2.1
          have e54 : fa.tmps[54]?.getD undef = .bool false := (ev.new 54 rfl).trans h54
          refine stepF_yes (i := 8) (g := 54) (b := false) rfl rfl rfl e54 (fun K hK => ?_)
          go_simp
          exact hK _ _ rfl (Kp.refl _ _)
        · intro fx w' fa hk hd ev  -- 62 = Op.pick (Operand.tmp 54) (Operand.const (Value.bool true)) (
          have h54 : fx 54 = .bool false := hd.1
          have e54 : fa.tmps[54]?.getD undef = .bool false := (ev.new 54 rfl).trans h54
          have h61 : fx 61 = .bool false := hd.2.1
          have e61 : fa.tmps[61]?.getD undef = .bool false := (ev.new 61 rfl).trans h61
          refine stepF_un rfl (fun K hK => ?_)
          go_simp
          exact hK _ _ rfl (Kp.refl _ _)
        · intro fx w' fa hk hd ev  -- 63 = Op.move (Operand.tmp 62)
          have h62 : fx 62 = .bool false := hd.1
          have e62 : fa.tmps[62]?.getD undef = .bool false := (ev.new 62 rfl).trans h62
          refine stepF_un rfl (fun K hK => ?_)
          exact stepF_val _ hK (run_move rfl e62 _) rfl
        · intro fx w' fa hk hd ev  -- 64 = Op.move (Operand.tmp 9)
          have h63 : fx 63 = .bool false := hd.1
          have e63 : fa.tmps[63]?.getD undef = .bool false := (ev.new 63 rfl).trans h63
          have e9 : fa.tmps[9]?.getD undef = .pointer (some ⟨rp, 0, none⟩) := ev.old 9 rfl
          refine stepF_yes (i := 17) (g := 63) (b := false) rfl rfl rfl e63 (fun K hK => ?_)
          exact stepF_val _ hK (run_move rfl e9 _) rfl
        · intro fx w' fa hk hd ev  -- 65 = Op.call { callee := Callee.value (Operand.func 26), args := 
          have h64 : fx 64 = .pointer (some ⟨rp, 0, none⟩) := hd.1
          have e64 : fa.tmps[64]?.getD undef = .pointer (some ⟨rp, 0, none⟩) := (ev.new 64 rfl).trans h64
          have h63 : fx 63 = .bool false := hd.2.1
          have e63 : fa.tmps[63]?.getD undef = .bool false := (ev.new 63 rfl).trans h63
          refine stepF_yes (i := 17) (g := 63) (b := false) rfl rfl rfl e63 (fun K hK => ?_)
          go_simp
          refine (rerr_any rp v a2 bad2 w' (HR6.out.kp0 hk)).mono ?_
          rintro e w2 ⟨rfl, rfl⟩
          exact hK _ _ rfl (Kp.refl _ _)
        · intro fx w' fa hk hd ev  -- 66 = Op.binOp BinOp.neq 27 (Operand.tmp 65) (Operand.const (Value
          have h65 : fx 65 = .int .i64 (errB bad2) := hd.1
          have e65 : fa.tmps[65]?.getD undef = .int .i64 (errB bad2) := (ev.new 65 rfl).trans h65
          have h63 : fx 63 = .bool false := hd.2.1
          have e63 : fa.tmps[63]?.getD undef = .bool false := (ev.new 63 rfl).trans h63
          refine stepF_yes (i := 17) (g := 63) (b := false) rfl rfl rfl e63 (fun K hK => ?_)
          have q9 : (errB bad2 != 0) = bad2 := by cases bad2 <;> rfl
          go_simp
          exact hK _ _ rfl (Kp.refl _ _)
        · intro fx w' fa hk hd ev  -- 67 = Op.move (Operand.tmp 11)
          have h63 : fx 63 = .bool false := hd.1
          have e63 : fa.tmps[63]?.getD undef = .bool false := (ev.new 63 rfl).trans h63
          have e11 : fa.tmps[11]?.getD undef = .pointer (some ⟨pr, 0, none⟩) := ev.old 11 rfl
          refine stepF_yes (i := 17) (g := 63) (b := false) rfl rfl rfl e63 (fun K hK => ?_)
          exact stepF_val _ hK (run_move rfl e11 _) rfl
        · intro fx w' fa hk hd ev  -- 68 = Op.nilCheck (Operand.tmp 67)
          have h67 : fx 67 = .pointer (some ⟨pr, 0, none⟩) := hd.1
          have e67 : fa.tmps[67]?.getD undef = .pointer (some ⟨pr, 0, none⟩) := (ev.new 67 rfl).trans h67
          have h63 : fx 63 = .bool false := hd.2.1
          have e63 : fa.tmps[63]?.getD undef = .bool false := (ev.new 63 rfl).trans h63
          refine stepF_yes (i := 17) (g := 63) (b := false) rfl rfl rfl e63 (fun K hK => ?_)
          go_simp
          exact hK _ _ rfl (Kp.refl _ _)
        · intro fx w' fa hk hd ev  -- 69 = Op.fieldAddr 127 (Operand.tmp 68) 2
          have h68 : fx 68 = .pointer (some ⟨pr, 0, none⟩) := hd.1
          have e68 : fa.tmps[68]?.getD undef = .pointer (some ⟨pr, 0, none⟩) := (ev.new 68 rfl).trans h68
          have h63 : fx 63 = .bool false := hd.2.1
          have e63 : fa.tmps[63]?.getD undef = .bool false := (ev.new 63 rfl).trans h63
          refine stepF_yes (i := 17) (g := 63) (b := false) rfl rfl rfl e63 (fun K hK => ?_)
          go_simp
          exact hK _ _ rfl (Kp.refl _ _)
        · intro fx w' fa hk hd ev  -- 70 = Op.load 4 (Operand.tmp 69)
          have h69 : fx 69 = .pointer (some ⟨pr, 2, none⟩) := hd.1
          have e69 : fa.tmps[69]?.getD undef = .pointer (some ⟨pr, 2, none⟩) := (ev.new 69 rfl).trans h69
          have h63 : fx 63 = .bool false := hd.2.1
          have e63 : fa.tmps[63]?.getD undef = .bool false := (ev.new 63 rfl).trans h63
          refine stepF_yes (i := 17) (g := 63) (b := false) rfl rfl rfl e63 (fun K hK => ?_)
          have q9 := hk.cell hy2 (by simp)
          go_simp
          exact hK _ _ rfl (Kp.refl _ _)
        · intro fx w' fa hk hd ev  -- 71 = Op.binOp BinOp.neq 4 (Operand.tmp 66) (Operand.tmp 70) 4
          have h66 : fx 66 = .bool bad2 := hd.1
          have e66 : fa.tmps[66]?.getD undef = .bool bad2 := (ev.new 66 rfl).trans h66
          have h70 : fx 70 = .bool bad2 := hd.2.1
          have e70 : fa.tmps[70]?.getD undef = .bool bad2 := (ev.new 70 rfl).trans h70
          have h63 : fx 63 = .bool false := hd.2.2.1
          have e63 : fa.tmps[63]?.getD undef = .bool false := (ev.new 63 rfl).trans h63
          refine stepF_yes (i := 17) (g := 63) (b := false) rfl rfl rfl e63 (fun K hK => ?_)
          go_simp
          exact hK _ _ rfl (Kp.refl _ _)
        · intro fx w' fa hk hd ev  -- 72 = Op.pick (Operand.tmp 63) (Operand.const (Value.bool true)) (
          have h63 : fx 63 = .bool false := hd.1
          have e63 : fa.tmps[63]?.getD undef = .bool false := (ev.new 63 rfl).trans h63
          have h71 : fx 71 = .bool false := hd.2.1
          have e71 : fa.tmps[71]?.getD undef = .bool false := (ev.new 71 rfl).trans h71
          refine stepF_un rfl (fun K hK => ?_)
          go_simp
          exact hK _ _ rfl (Kp.refl _ _)
      · intro fx w' hk hd
        have h72 : fx 72 = .bool false := hd.2.2.2.2.2.2.2.2.2.2.2.2.2.2.2.2.2.2.2.2.2.2.2.2.2.2.1
        rw [h72]
        have HR7 := Lib.hid (HR6.out.kp0 hk)
        have HV7 := Lib.hid (HV6.out.kp0 hk)
        have HRR7 := Lib.hid (HRR6.out.kp0 hk)
        have HK7 := Lib.hid (HK6.out.trans hk)
        clear hk hd hy1 hy2 HR6 HV6 HRR6 HK6
        go_wp2_with fail
        exact ⟨⟨k + 1, a2, bad2, by go_num, by omega, ha2N, HR7, HV7, HRR7, HK7⟩, by simp [intOf]; omega⟩
    · obtain rfl : k = 9 := by omega
      go_wp2_with fail
      go_ret
      exact ⟨rfl, HK.out⟩
end Go.Proofs.Ytpmdfklhgabfgaa
