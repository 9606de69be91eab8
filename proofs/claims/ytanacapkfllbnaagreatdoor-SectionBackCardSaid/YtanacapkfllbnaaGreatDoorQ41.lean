/-
  LAYER 13 (section): Read.
  LAYER 13 (section): SectionBack, the walk.
  CONDITIONS: as each lemma says.
-/
import Derived.Test.YtanacapkfllbnaaGreatDoorQ40
import Derived.Test.YtanacapkfllbnaaGreatDoorQ25
import Derived.Test.YtanacapkfllbnaaGreatDoorQ06
namespace Go.Proofs.YtanacapkfllbnaaGreatDoor
open Go.RowKit

theorem fourI_val (n : Nat) (h : n ≤ 2147483647) : ∀ x ∈ fourI n, 0 ≤ x ∧ x < 256 := fun x hx => by
  unfold fourI at hx; simp only [List.mem_cons, List.not_mem_nil, or_false] at hx
  omega
theorem pbytesN_val (N m : Nat) : ∀ x ∈ PK.bytesN N m, 0 ≤ x ∧ x < 256 := fun x hx => by
  unfold PK.bytesN at hx; obtain ⟨j, _, rfl⟩ := List.mem_map.1 hx; omega
theorem secB_val {T : CT} {sg : List Nat} {ls : List Int} {ts : List ByteArray} (hn : ts.length ≤ 30000) (hb : (frontB T ts).length ≤ 9000000) (hw : wdS T ts < 256) : ∀ x ∈ secB T sg ls ts, 0 ≤ x ∧ x < 256 := fun x hx => by
  unfold secB secR at hx; obtain ⟨l, hl, hxl⟩ := List.mem_flatten.1 hx; simp only [List.mem_cons, List.not_mem_nil, or_false] at hl
  rcases hl with rfl | rfl | rfl | rfl | rfl | rfl | rfl
  · exact fourI_val _ (by omega) x hxl
  · have := bytesN_val _ _ x hxl; omega
  · obtain ⟨y, _, rfl⟩ := List.mem_map.1 hxl; omega
  · exact fourI_val _ (by omega) x hxl
  · have := bytesN_val _ _ x hxl; omega
  · rw [List.mem_singleton.1 hxl]; omega
  · exact pbytesN_val _ _ x hxl
theorem wdS_le {T : CT} {ts : List ByteArray} (hb : (frontB T ts).length ≤ 9000000) : wdS T ts ≤ 24 := by
  unfold wdS; refine wideF_le24 _ 1 (by omega) (fun x hx => ?_); obtain ⟨y, hy, rfl⟩ := List.mem_map.1 hx; unfold startsN at hy; obtain ⟨k, _, rfl⟩ := List.mem_map.1 hy; have := frontB_mono T ts (8 * k); omega
theorem secBytes_val (ts : List ByteArray) (hn : ts.length ≤ 29000) (hz : ∀ s ∈ ts, s.size ≤ 30000) (hb : (symL (piecesL ts ts.length)).length ≤ 29000) : ∀ x ∈ secBytes ts, 0 ≤ x ∧ x < 256 := by
  by_cases h0 : ts = []
  · subst h0; rw [secBytes_nil]; exact fourI_val 0 (by omega)
  · have hpos : 0 < ts.length := List.length_pos_iff.2 h0; obtain ⟨l, hl⟩ : ∃ l, l = symL (piecesL ts ts.length) := ⟨_, rfl⟩
    have hzero : 0 ∈ l := by
      rw [hl]; obtain ⟨s, t, e⟩ := List.exists_cons_of_ne_nil (show piecesL ts ts.length ≠ [] from fun e => by have := piecesL_len ts ts.length; rw [e] at this; simp at this; omega); rw [e, symL_cons]; unfold symT
      simp
    rw [← hl] at hb; have hcode := treeC_code (okMake_of hzero (by omega)); have h1 := frontB_len2 hcode ts (fun s hs => by have := hz s hs; omega) ts.length (Nat.le_refl _); rw [List.take_length, ← hl] at h1
    have hse : secBytes ts = secB (treeC (smO l) (lensL (wtO l))) (sgK l 257) (lensL (wtO l)) ts := by
      unfold secBytes; rw [if_neg h0, ← hl]
    rw [hse]; have h2 := wdS_le (T := treeC (smO l) (lensL (wtO l))) (ts := ts) (by omega); exact secB_val (by omega) (by omega) (by omega)
/-- The section that stands at the beginning of bytes. -/
noncomputable def secRead (b : List Int) : Option (List ByteArray) := (readTx b).bind fun ts => if b.take (secBytes ts).length = secBytes ts then some ts else none
theorem secRead_none {b : List Int} (h : readTx b = none) : secRead b = none := by unfold secRead; rw [h]; rfl
theorem secRead_no {b : List Int} {ts : List ByteArray} (h : readTx b = some ts) (h1 : b.take (secBytes ts).length ≠ secBytes ts) : secRead b = none := by unfold secRead; rw [h]; exact if_neg h1
theorem secRead_yes {b : List Int} {ts : List ByteArray} (h : readTx b = some ts) (h1 : b.take (secBytes ts).length = secBytes ts) : secRead b = some ts := by unfold secRead; rw [h]; exact if_pos h1
set_option maxRecDepth 100000 in
set_option maxHeartbeats 4000000 in
theorem hasprefix_b (a1 : Option Addr) (a2 : Addr) (B1 B2 n m c d : Nat) (xs ys : List Int) (w : World) (hx : Rd w B1 a1 (xs.map (.int .u8))) (hy : Rd w B2 (some a2) (ys.map (.int .u8))) (hn : xs.length = n) (hm : ys.length = m) (hc : n ≤ c) (h1 : ∀ x ∈ xs, 0 ≤ x ∧ x < 256) (h2 : ∀ x ∈ ys, 0 ≤ x ∧ x < 256) (hm0 : 0 < m) :
    Calls Tryz.prog 54 #[.slice a1 n c, .slice (some a2) m d] w fun e w' => e = .returned (.bool (decide (xs.take m = ys))) ∧ w = w' := by
  by_cases hmn : m ≤ n
  · obtain ⟨ad, rfl⟩ : ∃ ad, a1 = some ad := by
      cases a1 with
      | none =>
                have h9 := hx.none_nil; have h8 : xs = [] := by simpa using h9
                rw [h8] at hn; simp at hn; omega
      | some ad => exact ⟨ad, rfl⟩
    have hd : decide ((m : Int) ≤ (n : Int)) = true := by simp; omega
    have hmc : m ≤ c := by omega
    have HB := Lib.hid (fun w' (hw : w = w') => beq_any ad a2 B1 B2 m m c d (xs.take m) ys w (by rw [List.map_take]; exact hx.take m) hy (by rw [List.length_take, hn]; omega) hm (fun x hx => h1 x (List.mem_of_mem_take hx)) h2); clear hx hy hn hm h1 h2
    go_enter Tryz.func54, Tryz.ntmps54
    go_wp2_with fail
    refine (HB.out w rfl).mono ?_; rintro e w1 ⟨rfl, rfl⟩; obtain ⟨r, hr⟩ : ∃ r, decide (xs.take m = ys) = r := ⟨_, rfl⟩; rw [hr]; have HRR := Lib.hid hr; clear hr
    go_wp2_with fail
    go_ret
    exact ⟨by rw [HRR.out]; rfl, rfl⟩
  · have hd : decide ((m : Int) ≤ (n : Int)) = false := by simp; omega
    have hno : decide (xs.take m = ys) = false := decide_eq_false (fun e => by have := congrArg List.length e; rw [List.length_take] at this; omega); rw [hno]; clear hx hy hn hm h1 h2
    go_enter Tryz.func54, Tryz.ntmps54
    go_wp2_with fail
    go_ret
    exact ⟨rfl, rfl⟩
/-- What section's Read leaves. -/
def SreadP (b : List Int) (w : World) (e : Ending) (w' : World) : Prop := Kp [] w w' ∧ ((secRead b = none ∧ e = .returned (.tuple #[.pointer none, .int .i64 0, .int .i64 4])) ∨
  (∃ ts, secRead b = some ts ∧ ∃ (S : List Nat) (sp : Nat) (v : Value) (g m c : Nat), e = .returned (.tuple #[.pointer (some ⟨sp, 0, none⟩), .int .i64 (m : Int), .int .i64 0]) ∧ SecM w.heap.size w'.heap.size w' S sp v g m c ts ∧ (∀ x ∈ S, w.heap.size ≤ x) ∧ w.heap.size ≤ sp ∧ g ∉ S ∧ (w.heap.size ≤ g ∧ g < w'.heap.size) ∧ (secBytes ts).length = m ∧ m ≤ 1000000000 ∧ Rd w' w'.heap.size (some ⟨g, 0, none⟩) ((secBytes ts).map (.int .u8))))
theorem FV.low {X X' Y : Nat} {w : World} {S : List Nat} {v : Value} {ts : List ByteArray} (h : FV X Y w S v ts) (hX : X' ≤ X) : FV X' Y w S v ts := by
  obtain ⟨h1, h2, h3 | ⟨f, lo, hi, lo', hi', p, T, sg, ls, h3, h4, h5, h6, h7, h8⟩⟩ := h
  · exact ⟨h1, h2, .inl h3⟩
  · exact ⟨h1, h2, .inr ⟨f, lo, hi, lo', hi', p, T, sg, ls, h3, h4, Nat.le_trans hX h5, h6, Nat.le_trans hX h7, h8⟩⟩
set_option maxRecDepth 100000 in
set_option maxHeartbeats 4000000 in
theorem sread_any (A : Option Addr) (n c B : Nat) (b : List Int) (w : World) (hx : Rd w B A (b.map (.int .u8))) (hn : b.length = n) (hc : n ≤ c) (hv : ∀ x ∈ b, 0 ≤ x ∧ x ≤ 255) (hB : B ≤ w.heap.size) (ht : Tab64 w) (hfit : FitB b) :
    Calls Tryz.prog 23 #[.slice A n c] w (SreadP b w) := by
  have HX := Lib.hid hx; have HFIT := Lib.hid hfit; have HN := Lib.hid hn; clear hn; have HV := Lib.hid hv; clear hv; have HT := Lib.hid ht; clear ht; clear hx hfit
  go_enter Tryz.func23, Tryz.ntmps23
  go_wp2_with fail
  obtain ⟨w1, hw1⟩ : ∃ w1, w1 = w.alloc (.cells #[.slice A n c, .bool false] 98) := ⟨_, rfl⟩; obtain ⟨rp, hrp⟩ : ∃ rp, rp = w.heap.size := ⟨_, rfl⟩; rw [← hw1, ← hrp]; have hk1 : Kp [] w w1 := by rw [hw1]; exact (Kp.refl [] w).alloc _
  have HRD := Lib.hid (show RdrM w1 B rp b false from ⟨A, n, c, by rw [hw1, hrp]; exact Blk.new w 98 [.slice A n c, .bool false], HX.out.kp0 hk1, HN.out, hc, by omega⟩); have HRP := Lib.hid hrp; have HK1 := Lib.hid hk1; have HT1 := Lib.hid (HT.out.kp0 hk1); clear hw1 hrp hk1; refine (stexts_any B rp n b w1 HRD.out HN.out HV.out HT1.out (by have := HT.out.lt; rw [HRP.out]; omega) HFIT.out).mono ?_; rintro e w2 ⟨hk2, ⟨hno, v, rfl⟩ | ⟨ts, A2, n2, c2, hyes, rfl, hr2, hl2⟩⟩
  · have HK2 := Lib.hid (show Kp [] w w2 from HK1.out.trans' hk2 (fun x hx => .inr (by rw [List.mem_singleton.1 hx, HRP.out]; exact Nat.le_refl _))); have HNO := Lib.hid (secRead_none hno); clear hk2 hno
    go_wp2_with fail
    go_ret3
    exact ⟨HK2.out, .inl ⟨HNO.out, rfl⟩⟩
  have HK2 := Lib.hid (show Kp [] w w2 from HK1.out.trans' hk2 (fun x hx => .inr (by rw [List.mem_singleton.1 hx, HRP.out]; exact Nat.le_refl _))); obtain ⟨f1, f2, f3, f4⟩ := HFIT.out.res ts hyes; have HFR := Lib.hid (And.intro f1 (And.intro f2 (And.intro f3 f4))); have HYES := Lib.hid hyes; have HR2 := Lib.hid hr2; have HL2 := Lib.hid hl2; have HT2 := Lib.hid (HT.out.kp0 HK2.out); clear hk2 f1 f2 f3 f4 hyes hr2 hl2 HRD HK1 HT1
  go_wp2_with fail
  refine (sof_gen A2 n2 c2 _ ts w2 HR2.out HL2.out HFR.out.2.2.1 (by rw [← HL2.out]; exact HFR.out.2.2.2) (Nat.le_refl _) HT2.out).mono ?_; rintro e w3 ⟨hk3, ⟨hr, _⟩ | ⟨_, S, sp, v, g, m, c3, rfl, hsec, hS, hsp, hgS, hgs, bs, hbl, hm9, hrb, hbs⟩⟩
  · rw [HFR.out.1] at hr; cases hr
  subst hbs; have hcs : w3.cell? ⟨sp, 1, none⟩ = some (.slice (some ⟨g, 0, none⟩) m c3) := hsec.cells.2; have HVAL := Lib.hid (secBytes_val ts HFR.out.2.1 HFR.out.2.2.1 HFR.out.2.2.2)
  have hm0 : 0 < m := by
    rw [← hbl]; unfold secBytes
    split
    · simp [fourI]
    · unfold secB secR; simp [fourI]
  have HSEC := Lib.hid hsec; have HSN := Lib.hid (And.intro hS (And.intro hsp (And.intro hgS hgs))); have HBL := Lib.hid hbl; have HRB := Lib.hid hrb; have HK3 := Lib.hid (HK2.out.trans hk3); have HW2 := Lib.hid HK2.out.size; have HXW := Lib.hid (HX.out.kp0 HK3.out); clear hsec hS hsp hgS hgs hbl hrb hk3
  go_wp2_with fail
  refine (hasprefix_b A ⟨g, 0, none⟩ _ _ n m c c3 b (secBytes ts) w3 HXW.out HRB.out HN.out HBL.out hc (fun x hx => by have := HV.out x hx; omega) HVAL.out hm0).mono ?_
  by_cases hpre : b.take m = secBytes ts
  · rw [decide_eq_true hpre]; rintro e w4 ⟨rfl, rfl⟩; have HY := Lib.hid (secRead_yes HYES.out (by rw [HBL.out]; exact hpre)); clear hpre
    go_wp2_with fail
    go_quiet (fail)
    go_wp2_with fail
    go_ret3
    have hkd := (Kp.refl [] w3).drewN nq; exact ⟨HK3.out.trans hkd, .inr ⟨ts, HY.out, S, sp, v, g, m, c3, rfl, ⟨(HSEC.out.kp0 hkd).1, (HSEC.out.kp0 hkd).2.1.low HW2.out, HSEC.out.2.2⟩, fun x hx => Nat.le_trans HW2.out (HSN.out.1 x hx), Nat.le_trans HW2.out HSN.out.2.1, HSN.out.2.2.1, ⟨Nat.le_trans HW2.out HSN.out.2.2.2.1, HSN.out.2.2.2.2⟩, HBL.out, hm9, HRB.out.kp0 hkd⟩⟩
  · rw [decide_eq_false hpre]; rintro e w4 ⟨rfl, rfl⟩; have HNO := Lib.hid (secRead_no HYES.out (by rw [HBL.out]; exact hpre)); clear hpre
    go_wp2_with fail
    go_ret3
    exact ⟨HK3.out, .inl ⟨HNO.out, rfl⟩⟩
end Go.Proofs.YtanacapkfllbnaaGreatDoor
namespace Go.Proofs.YtanacapkfllbnaaGreatDoor
open Go.RowKit

/-- Two sections of the same texts in memory: what is called on one leaves the other one. -/
structure TwoS (w0 : World) (X1 Y1 X2 Y2 : Nat) (w : World) (S1 S2 : List Nat) (sp1 sp2 : Nat) (v1 v2 : Value) (g1 g2 m c1 c2 : Nat) (ts : List ByteArray) : Prop where
  a : SecM X1 Y1 w S1 sp1 v1 g1 m c1 ts
  b : SecM X2 Y2 w S2 sp2 v2 g2 m c2 ts
  la : ∀ x ∈ S1, X1 ≤ x
  lb : ∀ x ∈ S2, X2 ≤ x
  ab : X1 ≤ Y1 ∧ Y1 ≤ X2 ∧ X2 ≤ Y2 ∧ Y2 ≤ w.heap.size
  d1 : ∀ x ∈ S1, (x < X2 ∨ Y2 ≤ x) ∧ x ≠ sp2
  d2 : ∀ x ∈ S2, x ≠ sp1
  dis : ∀ x ∈ S1, x ∉ S2
  kp : Kp [] w0 w
  nw : w0.heap.size ≤ X1
section
variable {w0 w w' : World} {X1 Y1 X2 Y2 : Nat} {S1 S2 : List Nat} {sp1 sp2 : Nat} {v1 v2 : Value} {g1 g2 m c1 c2 : Nat} {ts : List ByteArray}
theorem TwoS.left (h : TwoS w0 X1 Y1 X2 Y2 w S1 S2 sp1 sp2 v1 v2 g1 g2 m c1 c2 ts) (hp : SecP X1 Y1 w w' S1 sp1 v1 g1 m c1 ts) : ∃ S', TwoS w0 X1 Y1 X2 Y2 w' S' S2 sp1 sp2 v1 v2 g1 g2 m c1 c2 ts := by
  obtain ⟨S', k1, k2, k3⟩ := hp; have hab := h.ab; have hs := k3.size; refine ⟨S', k1, h.b.kp k3 (fun x hx => ⟨h.dis x hx, (h.d1 x hx).1, h.a.2.1.tabS x hx⟩) (fun hm => (h.d1 _ hm).2 rfl), fun x hx => ?_, h.lb, by omega, fun x hx => ?_, h.d2, fun x hx hm => ?_, h.kp.trans' k3 (fun x hx => .inr (Nat.le_trans h.nw (h.la x hx))), h.nw⟩
  · rcases k2 x hx with k | k
    · exact h.la x k
    · omega
  · rcases k2 x hx with k | k
    · exact h.d1 x k
    · have := h.b.1.lt; exact ⟨.inr (by omega), by omega⟩
  · rcases k2 x hx with k | k
    · exact h.dis x k hm
    · have := h.b.2.1.lt x hm; omega
theorem TwoS.right (h : TwoS w0 X1 Y1 X2 Y2 w S1 S2 sp1 sp2 v1 v2 g1 g2 m c1 c2 ts) (hp : SecP X2 Y2 w w' S2 sp2 v2 g2 m c2 ts) : ∃ S', TwoS w0 X1 Y1 X2 Y2 w' S1 S' sp1 sp2 v1 v2 g1 g2 m c1 c2 ts := by
  obtain ⟨S', k1, k2, k3⟩ := hp; have hab := h.ab; have hs := k3.size; refine ⟨S', h.a.kp k3 (fun x hx => ⟨fun hm => h.dis x hm hx, .inr (by have := h.lb x hx; omega), h.b.2.1.tabS x hx⟩) (fun hm => h.d2 _ hm rfl), k1, h.la, fun x hx => ?_, by omega, h.d1, fun x hx => ?_, fun x hx hm => ?_, h.kp.trans' k3 (fun x hx => .inr (by have := h.lb x hx; have := h.nw; omega)), h.nw⟩
  · rcases k2 x hx with k | k
    · exact h.lb x k
    · omega
  · rcases k2 x hx with k | k
    · exact h.d2 x k
    · have := h.a.1.lt; omega
  · rcases k2 x hm with k | k
    · exact h.dis x hx k
    · have := h.a.2.1.lt x hx; omega
theorem TwoS.kp0 (h : TwoS w0 X1 Y1 X2 Y2 w S1 S2 sp1 sp2 v1 v2 g1 g2 m c1 c2 ts) (hk : Kp [] w w') : TwoS w0 X1 Y1 X2 Y2 w' S1 S2 sp1 sp2 v1 v2 g1 g2 m c1 c2 ts :=
  ⟨h.a.kp0 hk, h.b.kp0 hk, h.la, h.lb, by have := h.ab; have := hk.size; omega, h.d1, h.d2, h.dis, h.kp.trans hk, h.nw⟩
end
theorem textV_at {ts : List ByteArray} {k : Nat} {s : ByteArray} (h : ts[k]? = some s) : textV ts ((k : Int) + 1 - 1) = .tuple #[.string s, .bool true] := by
  rw [show (k : Int) + 1 - 1 = (k : Int) by omega]; exact textV_some (by omega) (by rw [Int.toNat_natCast]; exact h)
theorem own_nilB (w : World) : (w.alloc (.cells #[] 5)).ownsRow w.heap.size 5 1 (.slice (some ⟨w.heap.size, 0, none⟩) 0 0) 0 [] :=
  own_of_blk (xs := []) (rest := []) (Blk.new w 5 []) (Nat.le_refl _) (Nat.le_refl _) (Nat.zero_le _) rfl rfl
theorem oc_u8b (l : List Int) : ∀ u ∈ l.map (Value.int .u8), u.oneCell' = true := fun u hu => by
  obtain ⟨x, _, rfl⟩ := List.mem_map.1 hu; rfl
set_option maxRecDepth 100000 in
set_option maxHeartbeats 4000000 in
theorem sectionback_any (A0 B0 : Option Addr) (n c0 q d0 : Nat) (ss : List ByteArray) (mb : List Int) (w : World) (h0 : Rd w w.heap.size A0 (ss.map .string)) (hn : ss.length = n) (h1 : Rd w w.heap.size B0 (mb.map (.int .u8))) (hq : mb.length = q) (hb : n ≤ 140737488351232) (hb' : q ≤ 140737488351232) (hl : ∀ s ∈ ss, s.size ≤ 140737488351232) (hv : ∀ x ∈ mb, 0 ≤ x ∧ x ≤ 255) (ht : Tab64 w) :
    Calls Tryz.prog 7 #[.slice A0 n c0, .slice B0 q d0] w fun e w' => e = .returned (.bool true) ∧ Kp [] w w' := by
  obtain ⟨i0, hi0, hz0, hz1, hz2⟩ := info_parts Tryz.info_byS; have HX := Lib.hid h0; have HY := Lib.hid h1; clear h0 h1; have HN := Lib.hid hn; clear hn; have HQ := Lib.hid hq; clear hq; have HL := Lib.hid hl; clear hl; have HV := Lib.hid hv; clear hv; have HT := Lib.hid ht; clear ht
  go_enter Tryz.func7, Tryz.ntmps7
  go_wp2_with fail
  refine (awake_s w HT.out).mono ?_; rintro e w1 ⟨rfl, hk1⟩; have HK := Lib.hid hk1; have HB := Lib.hid hk1.size; replace HT := Lib.hid (HT.out.kp0 hk1); replace HX := Lib.hid (HX.out.kp0 hk1); replace HY := Lib.hid (HY.out.kp0 hk1); clear hk1
  go_wp2_with fail
  refine (ssize_any A0 n c0 _ ss w1 HX.out HN.out hb HL.out).mono ?_; rintro e w1' ⟨⟨Z, rfl, hZ, hnZ, hZs⟩, rfl⟩; have HZS := Lib.hid hZs; clear hZs
  by_cases hZ6 : 900 < Z + q
  · have hzd : decide ((900 : Int) < (Z : Int) + (q : Int)) = true := by simp; omega
    go_wp2_with fail
    go_ret
    exact ⟨rfl, HK.out⟩
  have HSL := Lib.hid (show (symL ss).length ≤ 900 from Nat.le_trans (HZS.out (by omega)) (by omega)); have hzd : decide ((900 : Int) < (Z : Int) + (q : Int)) = false := by simp; omega
  have hn9 : n ≤ 900 := by omega
  have hq9 : q ≤ 900 := by omega
  go_wp2_with fail
  clear hzd hZ6 hZ hnZ hb hb'; refine (ssorted_any A0 n c0 _ ss w1 HX.out HB.out HN.out (by omega)).mono ?_; rintro e w2 ⟨At, nt, ct, rfl, hown2, hnt, hntn, hk2⟩; obtain ⟨ts, hts⟩ : ∃ ts, sortS ss = ts := ⟨_, rfl⟩; rw [hts] at hown2 hnt; have HTR := Lib.hid (show riseT ts = true from hts ▸ sort_rise ss); have HTS := Lib.hid (show (symL ts).length ≤ 900 from Nat.le_trans (hts ▸ sort_sym ss) HSL.out); have HNT := Lib.hid hnt; have HR := Lib.hid (own_rd hown2); replace HK := Lib.hid (HK.out.trans hk2); replace HT := Lib.hid (HT.out.kp0 hk2); replace HY := Lib.hid (HY.out.kp0 hk2); clear hown2 hnt hts hk2 HX HB; have HSZ := Lib.hid (sym_size HTS.out); have HPC := Lib.hid (sym_pieces HTS.out); have HBK := Lib.hid (readTx_back ts mb HTR.out (by rw [HNT.out]; omega) (fun s hs => by have := HSZ.out s hs; omega) (by have := HPC.out; omega)); have HVL := Lib.hid (secBytes_val ts (by rw [HNT.out]; omega) (fun s hs => by have := HSZ.out s hs; omega) (by have := HPC.out; omega))
  go_wp2_with fail
  refine (sof_any At nt ct _ ts w2 HR.out HNT.out (by have := HTS.out; omega) (Nat.le_refl _) HT.out).mono ?_; rintro e w3 ⟨hk3, ⟨hr, _⟩ | ⟨_, S1, sp1, v1, g1, m, c1, rfl, hsec, hS, hsp, hgS, hgs, bs, hbl, hm9, hrb, hbs⟩⟩
  · rw [HTR.out] at hr; cases hr
  subst hbs; have HS := Lib.hid hsec; have HSN := Lib.hid (And.intro hS (And.intro hsp (And.intro hgS hgs))); have HBL := Lib.hid hbl; have HRB := Lib.hid hrb; have HK3 := Lib.hid hk3; have HT3 := Lib.hid (HT.out.kp0 hk3); have HW23 := Lib.hid hk3.size; replace HY := Lib.hid (HY.out.kp0 hk3); clear hsec hS hsp hgS hgs hbl hrb hk3
  go_wp2_with fail
  refine (slen_any w3 HS.out).mono ?_; rw [HNT.out]; rintro e w4 ⟨rfl, rfl⟩
  go_wp2_with fail
  refine (sbytes_any S1 sp1 g1 m c1 v1 ts (secBytes ts) w3 HS.out HRB.out HBL.out hm9).mono ?_; rintro e w4 ⟨A4, c4, rfl, hown4, hk4⟩; have HR4 := Lib.hid (own_rd hown4); have HK4 := Lib.hid (HK3.out.trans hk4); have HT4 := Lib.hid (HT3.out.kp0 hk4); have HS4 := Lib.hid (HS.out.kp0 hk4); have HRB4 := Lib.hid ((HRB.out.kp0 hk4).bound hk4.size); have HW34 := Lib.hid hk4.size; replace HY := Lib.hid (HY.out.kp0 hk4); clear hown4 hk4 HS HRB HT3 HK3; have HML := Lib.hid (show ((secBytes ts).map (Value.int .u8)).length = m * 1 from by rw [List.length_map, HBL.out, Nat.mul_one]); have HQL := Lib.hid (show (mb.map (Value.int .u8)).length = q * 1 from by rw [List.length_map, HQ.out, Nat.mul_one])
  go_wp2_with first
    | (at_builtin; refine wpList_append_rd rfl (.tmp 52) (.tmp 53) 41 rfl w4.heap.size 5 i0 (.int .u8 0) 1 1 Tryz.underlying41 hi0 hz0 hz1 hz2 rfl (by decide) (.slice (some ⟨w4.heap.size, 0, none⟩) 0 0) 0 [] rfl (own_nilB w4) _ _ m c4 ((secBytes ts).map (.int .u8)) rfl HML.out (HR4.out.kp0 ((Kp.refl [] _).alloc _)) (oc_u8b _) (by unfold maxLen; omega) (by omega) (by simp) ?_; intro v5 w5 hown5 hgrow5 hat5
       rw [Nat.zero_add, List.nil_append] at hown5; obtain ⟨A5, c5, rfl, _⟩ := own_form hown5; have hk5 : Kp [] w4 w5 := ((Kp.refl [] w4).alloc _).grown hgrow5 (fun x hx => .inr (by simp [Value.ownBlock] at hx; omega)); have HO5 := Lib.hid hown5; have HK5 := Lib.hid hk5; have HY5 := Lib.hid (HY.out.kp0 hk5)
       clear hown5 hgrow5 hat5 hk5)
    | (at_builtin; refine wpList_append_rd rfl (.tmp 54) (.tmp 55) 41 rfl w4.heap.size 5 i0 (.int .u8 0) 1 1 Tryz.underlying41 hi0 hz0 hz1 hz2 rfl (by decide) (.slice A5 m c5) m _ rfl HO5.out _ _ q d0 (mb.map (.int .u8)) rfl HQL.out HY5.out (oc_u8b _) (by unfold maxLen; omega) (by omega) HK5.out.size ?_; intro v6 w6 hown6 hgrow6 hat6
       obtain ⟨A6, c6, rfl, hc6, _⟩ := own_form hown6; have hk6 : Kp [] w4 w6 := HK5.out.trans' ((Kp.refl _ _).grown hgrow6 (fun x hx => .inl (mem_ownL.2 hx))) (fun x hx => .inr (own_ge HO5.out (mem_ownL.1 hx)).1); have HR6 := Lib.hid (show Rd w6 w6.heap.size A6 ((secBytes ts ++ mb).map (.int .u8)) from by rw [List.map_append]; exact own_rd hown6); have HK6 := Lib.hid hk6
       clear hown6 hgrow6 hat6 hk6)
  refine (sread_any A6 (m + q) c6 _ (secBytes ts ++ mb) w6 HR6.out (by rw [List.length_append, HBL.out, HQ.out]) hc6 (fun x hx => (List.mem_append.1 hx).elim (fun h => by have := HVL.out x h; omega) (HV.out x)) (Nat.le_refl _) (HT4.out.kp0 HK6.out) HBK.out.2).mono ?_; have HSR := Lib.hid (show secRead (secBytes ts ++ mb) = some ts from secRead_yes HBK.out.1 (by rw [List.take_left])); rintro e w7 ⟨hk7, ⟨hno, _⟩ | ⟨us, hyes, S2, sp2, v2, g2, m2, c2, rfl, hsec2, hS2, hsp2, hgS2, hgs2, hbl2, _, hrb2⟩⟩
  · rw [HSR.out] at hno; cases hno
  obtain rfl : ts = us := by rw [HSR.out] at hyes; injection hyes
  obtain rfl : m = m2 := by rw [← HBL.out, hbl2]
  have HK46 := Lib.hid HK6.out.size
  have HTW := Lib.hid (show TwoS w2 w2.heap.size w3.heap.size w6.heap.size w7.heap.size w7 S1 S2 sp1 sp2 v1 v2 g1 g2 m c1 c2 ts from by
    have hk47 := HK6.out.trans hk7; have ha := HS4.out.kp0 hk47; have z1 := HW23.out; have z2 := HW34.out; have z3 := HK46.out; have z4 := hk7.size; have sz : ∀ x ∈ S1, x < w4.heap.size := HS4.out.2.1.lt; have sb := HS4.out.1.lt
    exact ⟨ha, hsec2, HSN.out.1, hS2, by omega, fun x hx => by have := sz x hx; exact ⟨.inl (by omega), by omega⟩, fun x hx => by have := hS2 x hx; omega, fun x hx hm => by have h1 := sz x hx; have h2 := hS2 x hm; omega, HK4.out.trans hk47, Nat.le_refl _⟩)
  have HRB7 := Lib.hid hrb2; have HR47 := Lib.hid (HR4.out.kp0 (HK6.out.trans hk7)); clear hk7 hyes hsec2 hS2 hsp2 hgS2 hgs2 hrb2 HSR HBK HR6 HK6 HK4 HT4 HS4 HRB4 HY HY5 HO5 HK5
  go_wp2_with fail
  refine (sbytes_any S2 sp2 g2 m c2 v2 ts (secBytes ts) w7 HTW.out.b HRB7.out HBL.out hm9).mono ?_; rintro e w8 ⟨A8, c8, rfl, hown8, hk8⟩; have HR8 := Lib.hid (own_rd hown8); replace HTW := Lib.hid (HTW.out.kp0 hk8); replace HR47 := Lib.hid (HR47.out.kp0 hk8); clear hown8 hk8 HRB7
  go_wp2_with fail
  refine (sameB A8 A4 m m c8 c4 _ _ (secBytes ts) (secBytes ts) w8 HR8.out HR47.out HBL.out HBL.out hm9 hm9).mono ?_; rw [decide_eq_true rfl]; rintro e w9 ⟨rfl, hd9⟩; replace HTW := Lib.hid (HTW.out.kp0 (hd9.kp [])); clear hd9 HR8 HR47
  go_wp2_with fail
  refine (slen_any w9 HTW.out.b).mono ?_; rw [HNT.out]; rintro e w10 ⟨rfl, rfl⟩; have hnt9 : nt ≤ 900 := by have h1 := symL_ge ts; have h2 := HTS.out; rw [HNT.out] at h1; omega
  go_wp2_with fail
  go_loopw [12] (fun x wr => ∃ (k : Nat) (SF SR : List Nat), x = .int .i64 (k : Int) ∧ k ≤ nt ∧ Hid (TwoS w2 w2.heap.size w3.heap.size w6.heap.size w7.heap.size wr SF SR sp1 sp2 v1 v2 g1 g2 m c1 c2 ts)) (fun x _ => nt - (intOf x).toNat)
  case atStart => exact ⟨0, S1, S2, rfl, by omega, HTW⟩
  case round =>
    clear HTW; obtain ⟨k, SF, SR, rfl, hk, HTW⟩ := hrel
    by_cases hlt : k < nt
    · obtain ⟨t, ad, htk, rfl, _, hct⟩ := (HR.out.kp0 HTW.out.kp).str (k := k) (by rw [HNT.out]; exact hlt); have hb0 : (0 : Int) ≤ (k : Int) := by omega
      have hb1 : (k : Int) < (nt : Int) := by omega
      have HTK := Lib.hid htk; have HFI := Lib.hid (find_in HTR.out htk); have HTV := Lib.hid (textV_at htk); clear htk
      go_wp2_with fail
      refine (sfind_any t wr HTW.out.a).mono ?_; rw [HFI.out.2, HFI.out.1, if_pos rfl]; rintro e w11 ⟨rfl, hp⟩; obtain ⟨SF1, ht1⟩ := HTW.out.left hp; replace HTW := Lib.hid ht1; clear hp ht1 hct; obtain ⟨t', ad', htk', e', _, hct1⟩ := (HR.out.kp0 HTW.out.kp).str (k := k) (by rw [HNT.out]; exact hlt); injection e' with e'
      subst e'; rw [HTK.out] at htk'; injection htk' with htk'
      subst htk'
      go_wp2_with fail
      refine (sfind_any t w11 HTW.out.b).mono ?_; rw [HFI.out.2, HFI.out.1, if_pos rfl]; rintro e w12 ⟨rfl, hp⟩; obtain ⟨SR1, ht1⟩ := HTW.out.right hp; replace HTW := Lib.hid ht1; clear hp ht1 hct1
      go_wp2_with fail
      refine (stext_any ((k : Int) + 1) w12 HTW.out.a (by omega)).mono ?_; rw [HTV.out]; rintro e w13 ⟨rfl, hp⟩; obtain ⟨SF2, ht1⟩ := HTW.out.left hp; replace HTW := Lib.hid ht1; clear hp ht1
      go_wp2_with fail
      refine (stext_any ((k : Int) + 1) w13 HTW.out.b (by omega)).mono ?_; rw [HTV.out]; rintro e w14 ⟨rfl, hp⟩; obtain ⟨SR2, ht1⟩ := HTW.out.right hp; replace HTW := Lib.hid ht1; clear hp ht1; obtain ⟨t', ad', htk', e', _, hct2⟩ := (HR.out.kp0 HTW.out.kp).str (k := k) (by rw [HNT.out]; exact hlt); injection e' with e'
      subst e'; rw [HTK.out] at htk'; injection htk' with htk'
      subst htk'
      go_wp2_with fail
      exact ⟨⟨k + 1, SF2, SR2, by go_num, by omega, HTW⟩, by simp [intOf]; omega⟩
    · obtain rfl : k = nt := by omega
      go_wp2_with fail
      refine (stext_any 0 wr HTW.out.a (by omega)).mono ?_; rw [textV_none (.inl (by omega))]; rintro e w11 ⟨rfl, hp⟩; obtain ⟨SF1, ht1⟩ := HTW.out.left hp; replace HTW := Lib.hid ht1; clear hp ht1
      go_wp2_with fail
      refine (stext_any ((k : Int) + 1) w11 HTW.out.a (by omega)).mono ?_; rw [textV_none (.inr (by rw [HNT.out]; omega))]; rintro e w12 ⟨rfl, hp⟩; obtain ⟨SF2, ht1⟩ := HTW.out.left hp; have HEND := Lib.hid (HK.out.trans ht1.kp); clear hp ht1 HTW
      go_wp2_with fail
      go_ret
      exact ⟨rfl, HEND.out⟩
end Go.Proofs.YtanacapkfllbnaaGreatDoor
