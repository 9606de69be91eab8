/-
  LAYER 5: a tree of so many leaves, as numbers choose where each row is parted (grown).
  CONDITIONS: at most 300 leaves.
-/
import Derived.Test.YtbikidbaiegehaaTawake
import Derived.Test.YtbikidbaiegehaaPick
import Derived.Test.YtbikidbaiegehaaMBest
namespace Go.Proofs.Ytbikidbaiegehaa
open Go.RowKit

/-- Rows yet to be parted, the last one last: how long each is, how deep. -/
def totS (st : List (Nat × Int)) : Nat := (st.map (·.1)).sum
def meaS (st : List (Nat × Int)) : Nat := (st.map fun p => 2 * p.1 - 1).sum
def flatS (st : List (Nat × Int)) : List Int := st.flatMap fun p => List.replicate p.1 p.2
def rowC : Nat → List (Nat × Int) → List Value
  | _, [] => []
  | a, p :: st => .int .i64 (a : Int) :: .int .i64 ((a + p.1 : Nat) : Int) :: rowC (a + p.1) st
theorem totS_app (s t : List (Nat × Int)) : totS (s ++ t) = totS s + totS t := by simp [totS]
theorem meaS_app (s t : List (Nat × Int)) : meaS (s ++ t) = meaS s + meaS t := by simp [meaS]
theorem flatS_app (s t : List (Nat × Int)) : flatS (s ++ t) = flatS s ++ flatS t := by simp [flatS]
theorem flatS_len (s : List (Nat × Int)) : (flatS s).length = totS s := by simp [flatS, totS]
theorem meaS_len : ∀ (s : List (Nat × Int)), (∀ p ∈ s, 1 ≤ p.1) → s.length ≤ meaS s
  | [], _ => Nat.le_refl _
  | p :: s, h => by
    have h1 := meaS_len s (fun q hq => h q (by simp [hq]))
    have h2 := h p (by simp)
    simp [meaS] at *
    omega
theorem rowC_app : ∀ (a : Nat) (s t : List (Nat × Int)), rowC a (s ++ t) = rowC a s ++ rowC (a + totS s) t
  | a, [], t => rfl
  | a, p :: s, t => by
    show _ :: _ :: rowC (a + p.1) (s ++ t) = _ :: _ :: (rowC (a + p.1) s ++ rowC (a + totS (p :: s)) t)
    rw [rowC_app, show a + p.1 + totS s = a + totS (p :: s) from by simp [totS]; omega]
theorem rowC_len : ∀ (a : Nat) (s : List (Nat × Int)), (rowC a s).length = s.length * 2
  | _, [] => rfl
  | a, p :: s => by
    show (rowC (a + p.1) s).length + 1 + 1 = (s.length + 1) * 2
    rw [rowC_len]; omega
theorem rowC_oc : ∀ (a : Nat) (s : List (Nat × Int)), ∀ u ∈ rowC a s, u.oneCell' = true
  | _, [], u, h => by cases h
  | a, p :: s, u, h => by
    rcases List.mem_cons.1 h with rfl | h
    · rfl
    · rcases List.mem_cons.1 h with rfl | h
      · rfl
      · exact rowC_oc _ s u h
theorem own_pop2 {w : World} {base m c : Nat} {e : TypeId} {A : Option Addr} {xs : List Value} {x y : Value} (h : w.ownsRow base e 2 (.slice A (m + 1) c) (m + 1) (xs ++ [x, y])) : w.ownsRow base e 2 (.slice A m c) m xs := by
  rcases own_blk h with ⟨_, h0, _⟩ | ⟨g, cap, rest, hv, hb, hg, hn, hm, hx, hc⟩
  · omega
  · injection hv with h1 h2 h3
    subst h1 h3
    rw [List.append_assoc] at hg hc
    rw [List.length_append] at hx
    exact own_of_blk hg hb (by omega) hm (by simp at hx; omega) hc
theorem Try.info_two : (Try.prog.info? 69).map (fun i => (i.zero, i.size, i.bytes)) = some (some (.agg #[.int .i64 0, .int .i64 0]), 2, 16) := by kernel_rfl

/-- How it stands with the rows. -/
structure Grow (w : World) (b O n i m : Nat) (y : Value) (st : List (Nat × Int)) (D : List Int) : Prop where
  own : w.ownsRow b 69 2 y m (rowC 0 st)
  out : Blk w O 3 ((flatS st ++ D).map (.int .i64))
  far : b ≤ O
  dl : Dl 0 (st.map (·.2) ++ D)
  pos : ∀ p ∈ st, 1 ≤ p.1 ∧ 0 ≤ p.2 ∧ p.2 ≤ (i : Int)
  tot : totS st + D.length = n
  mea : i + meaS st ≤ 2 * n
  len : st.length = m
theorem Grow.snoc {w : World} {b O n i m : Nat} {y : Value} {st : List (Nat × Int)} {D : List Int} (h : Grow w b O n i m y st D) (hm : 0 < m) :
    ∃ st' len d, st = st' ++ [(len, d)] ∧ st'.length + 1 = m := by
  have hl := h.len
  have hne : st ≠ [] := fun e => by rw [e] at hl; simp at hl; omega
  refine ⟨st.dropLast, (st.getLast hne).1, (st.getLast hne).2, (List.dropLast_concat_getLast hne).symm, ?_⟩
  rw [List.length_dropLast]
  omega

/-- What is counted while a row goes one deeper. -/
def midL (X D : List Int) (d : Int) (a b k : Nat) : List Int := X ++ List.replicate (k - a) (d + 1) ++ (List.replicate (b - k) d ++ D)
theorem midL_at {X D : List Int} {d : Int} {a b k : Nat} (hX : X.length = a) (h1 : a ≤ k) (h2 : k < b) : (midL X D d a b k)[k]? = some d ∧ (midL X D d a b k).set k (d + 1) = midL X D d a b (k + 1) := by
  unfold midL
  have hl : (X ++ List.replicate (k - a) (d + 1)).length = k := by rw [List.length_append, List.length_replicate]; omega
  obtain ⟨t, ht⟩ : ∃ t, b - k = t + 1 := ⟨b - k - 1, by omega⟩
  rw [ht, List.replicate_succ]
  constructor
  · rw [List.getElem?_append_right (by omega), hl, Nat.sub_self]; rfl
  · rw [List.set_append_right _ _ (by omega), hl, Nat.sub_self, show b - (k + 1) = t from by omega, show k + 1 - a = k - a + 1 from by omega, List.replicate_succ']
    simp
theorem midL_start (X D : List Int) (d : Int) (a b : Nat) : midL X D d a b a = X ++ (List.replicate (b - a) d ++ D) := by unfold midL; rw [Nat.sub_self]; simp
theorem midL_end (X D : List Int) (d : Int) (a b : Nat) : midL X D d a b b = X ++ (List.replicate (b - a) (d + 1) ++ D) := by unfold midL; rw [Nat.sub_self]; simp
set_option maxRecDepth 100000 in
set_option maxHeartbeats 2000000 in
theorem grown_any (A : Option Addr) (n nc c B : Nat) (cuts : List Int) (w : World) (hx : Rd w B A (cuts.map (.int .i64))) (hn : cuts.length = nc) (hb : nc ≤ 1000000000) (h2 : 2 ≤ n) (hn3 : n ≤ 300) :
    Calls Try.prog 37 #[.int .i64 n, .slice A nc c] w fun e w' => ∃ g ls, e = .returned (.slice (some ⟨g, 0, none⟩) n n) ∧ Blk w' g 3 (ls.map (.int .i64)) ∧ ls.length = n ∧ Dl 0 ls ∧ w.heap.size ≤ g ∧ Kp [] w w' := by
  obtain ⟨i0, hi, hz0, hz1, hz2⟩ := info_parts Try.info_two
  obtain ⟨i1, hi', hy0, hy1, hy2⟩ := info_parts Try.info_int
  have hm1 := run_make_list (P := Try.prog) 41 3 i1 (.int .i64 0) Try.underlying41 hi' hy0 hy1 rfl .i64 .i64 n (by rw [hy2]; omega) (by omega)
  clear hi' hy0 hy1 hy2
  have HX := Lib.hid hx; clear hx
  have HN := Lib.hid hn; clear hn
  go_enter Try.func37, Try.ntmps37
  have hnd : decide ((n : Int) ≤ 1) = false := by simp; omega
  have HG0 := Lib.hid (show Grow ((w.alloc (.cells (Array.replicate n (.int .i64 0)) 3)).alloc (.cells #[.int .i64 0, .int .i64 (n : Int)] 69)) w.heap.size w.heap.size n 0 1 (.slice (some ⟨w.heap.size + 1, 0, none⟩) 1 1) [(n, 0)] [] from by
    have b1 := Blk.new w 3 (List.replicate n (.int .i64 0))
    have b2 := Blk.new (w.alloc (.cells (List.replicate n (.int .i64 0)).toArray 3)) 69 [.int .i64 0, .int .i64 (n : Int)]
    have e : (w.alloc (.cells (List.replicate n (.int .i64 0)).toArray 3)).heap.size = w.heap.size + 1 := by simp
    rw [e] at b2
    refine ⟨?_, ?_, Nat.le_refl _, .leaf 0, ?_, by simp [totS], by simp [meaS], rfl⟩
    · have := own_of_blk (base := w.heap.size) (size := 2) (n := 1) (cap := 1) (xs := [.int .i64 0, .int .i64 (n : Int)]) (rest := []) b2 (Nat.le_succ _) (Nat.le_refl _) (by unfold maxLen; omega) rfl rfl
      simpa [rowC] using this
    · have := b1.alloc (.cells #[.int .i64 0, .int .i64 (n : Int)] 69)
      simpa [flatS] using this
    · intro p hp
      simp at hp
      subst hp
      exact ⟨by show 1 ≤ n; omega, Int.le_refl _, Int.le_refl _⟩)
  go_wp2_with fail
  go_loopw [6, 7] (fun y x wr => ∃ (i m c1 : Nat) (A1 : Option Addr) (st : List (Nat × Int)) (D : List Int), x = .int .i64 (i : Int) ∧ y = .slice A1 m c1 ∧ Hid (Grow wr w.heap.size w.heap.size n i m (.slice A1 m c1) st D) ∧ Hid (Kp [] w wr)) (fun _ x _ => 2 * n - (intOf x).toNat)
  case atStart => exact ⟨0, 1, 1, _, _, _, rfl, rfl, HG0, Lib.hid (((Kp.refl [] w).alloc _).alloc _)⟩
  case round =>
    clear HG0
    obtain ⟨i, m, c1, A1, st, D, rfl, rfl, HG, HK⟩ := hrel
    by_cases hm0 : 0 < m
    · have hmd : decide ((0 : Int) < (m : Int)) = true := by simp; omega
      obtain ⟨st', len, d, rfl, hsl⟩ := HG.out.snoc hm0
      obtain ⟨hl1, hd0, hdi⟩ := HG.out.pos (len, d) (by simp)
      have hl1 : 1 ≤ len := hl1
      have hd0 : 0 ≤ d := hd0
      have hdi : d ≤ (i : Int) := hdi
      have htt := HG.out.tot
      rw [totS_app] at htt
      have htl : totS [(len, d)] = len := by simp [totS]
      rw [htl] at htt
      have hmm := HG.out.mea
      rw [meaS_app] at hmm
      have hml : meaS [(len, d)] = 2 * len - 1 := by simp [meaS]
      rw [hml] at hmm
      obtain ⟨a, ha⟩ : ∃ a, a = totS st' := ⟨_, rfl⟩
      obtain ⟨b, hbb⟩ : ∃ b, b = a + len := ⟨_, rfl⟩
      have hown := HG.out.own
      have hrc : rowC 0 (st' ++ [(len, d)]) = rowC 0 st' ++ [.int .i64 (a : Int), .int .i64 (b : Int)] := by
        rw [rowC_app, Nat.zero_add, ← ha, hbb]; rfl
      rw [hrc] at hown
      have hlr : (rowC 0 st').length = st'.length * 2 := rowC_len 0 st'
      have hop : wr.ownsRow w.heap.size 69 2 (.slice A1 st'.length c1) st'.length (rowC 0 st') := own_pop2 (by rw [hsl]; exact hown)
      rcases own_blk hown with ⟨_, h0, _⟩ | ⟨g, cap, rest, hv, hge, hblk, hmc, hcm, hl, hcl⟩
      · omega
      injection hv with hv1 hv2 hv3
      subst hv1 hv3
      obtain ⟨m1, hm1⟩ : ∃ m1, m1 = st'.length := ⟨_, rfl⟩
      rw [← hm1] at hlr hop hsl
      have ca : wr.cell? ⟨g, m1 * 2, none⟩ = some (.int .i64 (a : Int)) := by
        rw [hblk.cell, List.append_assoc, List.getElem?_append_right (by rw [hlr]; exact Nat.le_refl _), hlr, Nat.sub_self]; rfl
      have cb : wr.cell? ⟨g, m1 * 2 + 1, none⟩ = some (.int .i64 (b : Int)) := by
        rw [hblk.cell, List.append_assoc, List.getElem?_append_right (by rw [hlr]; omega), hlr, show m1 * 2 + 1 - m1 * 2 = 1 from by omega]; rfl
      have hmn : m ≤ 2 * n := by
        have h1 := meaS_len _ (fun p hp => (HG.out.pos p hp).1)
        have h2 := HG.out.len
        have h3 := HG.out.mea
        omega
      have hin : i ≤ 2 * n := by omega
      have hwi : IntKind.i64.wrap ((i : Int) + 1) = ((i + 1 : Nat) : Int) := by rw [IntKind.wrap_i64]; omega
      have hwm : IntKind.i64.wrap ((m : Int) - 1) = (m1 : Int) := by rw [IntKind.wrap_i64]; omega
      have hwl : IntKind.i64.wrap ((b : Int) - (a : Int)) = (len : Int) := by rw [IntKind.wrap_i64]; omega
      have hm1m : m1 < m := by omega
      have hm1c : m1 ≤ c1 := by omega
      have HOP := Lib.hid hop
      have HAB := Lib.hid (show a = totS st' ∧ b = a + len ∧ a + len + D.length = n ∧ i + (meaS st' + (2 * len - 1)) ≤ 2 * n ∧ m1 = st'.length ∧ m1 + 1 = m from ⟨ha, hbb, by omega, hmm, hm1, hsl⟩)
      have HBG := Lib.hid hblk
      clear hop hown hrc hlr hblk hcm hl hcl hmm htt ha hbb hm1 hsl
      have HDL := Lib.hid HG.out.dl
      have HOUT := Lib.hid HG.out.out
      have HPOS := Lib.hid (show ∀ p ∈ st', 1 ≤ p.1 ∧ 0 ≤ p.2 ∧ p.2 ≤ (i : Int) from fun p hp => HG.out.pos p (by simp [hp]))
      clear HG
      by_cases hl2 : len < 2
      · obtain rfl : len = 1 := by omega
        have HG2 := Lib.hid (show Grow (wr.alloc (.cells #[.int .i64 (a : Int), .int .i64 (b : Int)] 69)) w.heap.size w.heap.size n (i + 1) m1 (.slice (some ⟨g, 0, none⟩) m1 c1) st' (d :: D) from by
          have hk := (Kp.refl [] wr).alloc (.cells #[.int .i64 (a : Int), .int .i64 (b : Int)] 69)
          refine ⟨own_kp0 HOP.out hk, ?_, Nat.le_refl _, ?_, fun p hp => by have := HPOS.out p hp; omega, ?_, by have := HAB.out; omega, HAB.out.2.2.2.2.1.symm⟩
          · have := HOUT.out.kp0 hk
            rw [flatS_app] at this
            simpa [flatS] using this
          · have := HDL.out
            simpa using this
          · have := HAB.out
            rw [List.length_cons]
            omega)
        have HKA := Lib.hid (HK.out.alloc (.cells #[.int .i64 (a : Int), .int .i64 (b : Int)] 69))
        have HI := Lib.hid (show i < 2 * n by have := HAB.out; omega)
        clear HDL HOUT HPOS HOP HK
        go_wp2_with fail
        exact ⟨⟨i + 1, m1, c1, _, st', d :: D, by go_num, rfl, HG2, HKA⟩, by simp [intOf]; have := HI.out; omega⟩
      · obtain ⟨wa, hwa⟩ : ∃ wa, wa = wr.alloc (.cells #[.int .i64 (a : Int), .int .i64 (b : Int)] 69) := ⟨_, rfl⟩
        obtain ⟨P, hP⟩ : ∃ P, P = wr.heap.size := ⟨_, rfl⟩
        have hbp : Blk wa P 69 [.int .i64 (a : Int), .int .i64 (b : Int)] := by rw [hwa, hP]; exact Blk.new wr 69 [.int .i64 (a : Int), .int .i64 (b : Int)]
        have hka : Kp [] wr wa := by rw [hwa]; exact (Kp.refl [] wr).alloc _
        have hoa : Blk wa w.heap.size 3 ((midL (flatS st') D d a b a).map (.int .i64)) := by
          rw [midL_start, show b - a = len from by have := HAB.out; omega]
          have := HOUT.out.kp0 hka
          rw [flatS_app] at this
          simpa [flatS] using this
        have hxl : (flatS st').length = a := by rw [flatS_len]; exact HAB.out.1.symm
        have hPO : P ≠ w.heap.size := hbp.ne hoa (by decide)
        have hown2 := own_kp0 HOP.out hka
        have hgO : ∀ q, (Value.slice (some ⟨g, 0, none⟩) m1 c1).ownBlock = some q → q ∉ [w.heap.size] := by
          intro q hq hm
          simp only [List.mem_singleton] at hm
          simp [Value.ownBlock] at hq
          have hb1 := HBG.out.kp0 hka
          exact hb1.ne hoa (by decide) (hq.trans hm)
        have HBP := Lib.hid hbp; clear hbp
        have HOA := Lib.hid hoa; clear hoa
        have HXL := Lib.hid hxl; clear hxl
        have HPO := Lib.hid hPO; clear hPO
        have HOW := Lib.hid hown2; clear hown2
        have HGO := Lib.hid hgO; clear hgO
        have HKA := Lib.hid (HK.out.trans hka); clear hka HK
        have hwd : IntKind.i64.wrap (d + 1) = d + 1 := by rw [IntKind.wrap_i64]; omega
        have HI := Lib.hid (show i < 2 * n by have := HAB.out; omega)
        have hbn : b ≤ n := by have := HAB.out; omega
        clear HOUT HOP
        go_upto_region 12 with fail
        rw [← hwa, ← hP]
        clear hwa hP
        have hld : decide ((len : Int) < 2) = false := by simp; omega
        have cp0 := HBP.out.cell 0
        have cp1 := HBP.out.cell 1
        simp only [List.getElem?_cons_zero, List.getElem?_cons_succ] at cp0 cp1
        have HL2 := Lib.hid (show 2 ≤ len by omega)
        clear hl2
        go_wp2_with fail
        go_loopw [10] (fun x w2 => ∃ k : Nat, x = .int .i64 (k : Int) ∧ a ≤ k ∧ k ≤ b ∧ Hid (Blk w2 w.heap.size 3 ((midL (flatS st') D d a b k).map (.int .i64))) ∧ Hid (Kp [w.heap.size] wa w2)) (fun x _ => b - (intOf x).toNat)
        case atStart => exact ⟨a, rfl, Nat.le_refl _, by have := HAB.out; omega, HOA, Lib.hid (Kp.refl _ _)⟩
        case round =>
          clear cp0 cp1 HOA
          obtain ⟨k, rfl, hk1, hk2, HOA, HKW⟩ := hrel
          have HBP2 := Lib.hid (HBP.out.kp HKW.out (by simpa using HPO.out))
          have cp0 := HBP2.out.cell 0
          have cp1 := HBP2.out.cell 1
          simp only [List.getElem?_cons_zero, List.getElem?_cons_succ] at cp0 cp1
          by_cases hkb : k < b
          · obtain ⟨hq1, hq2⟩ := midL_at (D := D) (d := d) HXL.out hk1 hkb
            have co : wr.cell? ⟨w.heap.size, k, none⟩ = some (.int .i64 d) := by rw [HOA.out.cell, List.getElem?_map, hq1]; rfl
            have cf := HOA.out.free k
            have hkn : k < n := by omega
            have HM2 := Lib.hid hq2; clear hq1 hq2
            go_wp2_with fail
            exact ⟨⟨k + 1, by go_num, by omega, by omega, Lib.hid (by rw [← HM2.out, List.map_set]; exact HOA.out.set_ k _), Lib.hid (HKW.out.setCell (.inl (by simp)) _)⟩, by simp [intOf]; omega⟩
          · obtain rfl : b = k := by omega
            have HOW2 := Lib.hid (own_kp HOW.out HKW.out HGO.out)
            have HK2 := Lib.hid (HKA.out.trans' HKW.out (by intro x hx; simp only [List.mem_singleton] at hx; subst hx; exact .inr (Nat.le_refl _)))
            have hwa1 : IntKind.i64.wrap ((a : Int) + 1) = ((a + 1 : Nat) : Int) := by rw [IntKind.wrap_i64]; omega
            by_cases hnc : nc = 0
            · subst hnc
              obtain ⟨q, hq⟩ : ∃ q, q = a + 1 := ⟨_, rfl⟩
              rw [← hq] at hwa1
              have haq : a < q ∧ q < b := by have := HL2.out; have := HAB.out; omega
              have HOA2 := HOA
              clear hq HKW HOA
              have HAQ := Lib.hid (show a < q ∧ q < b by omega)
              have HRX := Lib.hid (show Rd (wr.alloc (.cells #[.int .i64 (a : Int), .int .i64 (q : Int), .int .i64 (q : Int), .int .i64 (b : Int)] 69)) (wr.heap.size + 1) (some ⟨wr.heap.size, 0, none⟩) [.int .i64 (a : Int), .int .i64 (q : Int), .int .i64 (q : Int), .int .i64 (b : Int)] from Rd.new wr #[.int .i64 (a : Int), .int .i64 (q : Int), .int .i64 (q : Int), .int .i64 (b : Int)] 69 (0, 0))
              go_wp2_with (at_builtin; refine wpList_append_rd rfl (.tmp 77) (.tmp 86) 70 rfl w.heap.size 69 i0 (.agg #[.int .i64 0, .int .i64 0]) 2 16 Try.underlying70 hi hz0 hz1 hz2 rfl (by decide) _ m1 _ rfl (own_kp0 HOW2.out ((Kp.refl [] _).alloc _)) _ _ 2 2 [.int .i64 (a : Int), .int .i64 (q : Int), .int .i64 (q : Int), .int .i64 (b : Int)] rfl rfl HRX.out (by simp [Value.oneCell']) (by unfold maxLen; omega) (by omega) (Nat.le_trans HK2.out.size (by simp)) ?_; intro v3 w3 hown3 hgrow3 hat3)
              obtain ⟨A3, c3, rfl, _⟩ := own_form hown3
              have hkg : Kp (ownL (.slice (some ⟨g, 0, none⟩) m1 c1)) wr w3 := ((Kp.refl _ wr).alloc _).grown hgrow3 (fun x hx => .inl (mem_ownL.2 hx))
              have hnot : w.heap.size ∉ ownL (.slice (some ⟨g, 0, none⟩) m1 c1) := fun hm => HGO.out _ (mem_ownL.1 hm) (by simp)
              have HO3 := Lib.hid (HOA2.out.kp hkg hnot)
              have HK3 := Lib.hid ((HK2.out.alloc (.cells #[.int .i64 (a : Int), .int .i64 (q : Int), .int .i64 (q : Int), .int .i64 (b : Int)] 69)).grown hgrow3 (fun x hx => .inr (own_ge HOW2.out hx).1))
              have HG3 := Lib.hid (show Grow w3 w.heap.size w.heap.size n (i + 1) (m1 + 2) (.slice A3 (m1 + 2) c3) (st' ++ [(q - a, d + 1), (b - q, d + 1)]) D from by
                have hab := HAB.out
                have haq := HAQ.out
                refine ⟨?_, ?_, Nat.le_refl _, ?_, ?_, ?_, ?_, ?_⟩
                · rw [rowC_app, Nat.zero_add, ← hab.1]
                  show w3.ownsRow _ _ _ _ _ (rowC 0 st' ++ [.int .i64 (a : Int), .int .i64 ((a + (q - a) : Nat) : Int), .int .i64 ((a + (q - a) : Nat) : Int), .int .i64 ((a + (q - a) + (b - q) : Nat) : Int)])
                  rw [show a + (q - a) = q from by omega, show q + (b - q) = b from by omega]
                  exact hown3
                · have := HO3.out
                  rw [midL_end, show b - a = (q - a) + (b - q) from by omega] at this
                  rw [flatS_app]
                  simpa [flatS, List.replicate_append_replicate] using this
                · have hdl := HDL.out
                  rw [List.map_append, List.append_assoc] at hdl
                  have := hdl.split (d := d) (l1 := st'.map (·.2)) (l2 := D) rfl
                  simpa using this
                · intro x hx
                  rcases List.mem_append.1 hx with hx | hx
                  · have := HPOS.out x hx; omega
                  · simp at hx
                    rcases hx with rfl | rfl
                    · exact ⟨by show 1 ≤ q - a; omega, by show 0 ≤ d + 1; omega, by show d + 1 ≤ ((i + 1 : Nat) : Int); omega⟩
                    · exact ⟨by show 1 ≤ b - q; omega, by show 0 ≤ d + 1; omega, by show d + 1 ≤ ((i + 1 : Nat) : Int); omega⟩
                · rw [totS_app]
                  have : totS [(q - a, d + 1), (b - q, d + 1)] = q - a + (b - q) := by simp [totS]
                  rw [this]
                  omega
                · rw [meaS_app]
                  have : meaS [(q - a, d + 1), (b - q, d + 1)] = (2 * (q - a) - 1) + (2 * (b - q) - 1) := by simp [meaS]
                  rw [this]
                  omega
                · rw [List.length_append, ← hab.2.2.2.2.1]; rfl)
              clear hown3 hgrow3 hat3 hkg hnot
              go_wp2_with fail
              exact ⟨⟨i + 1, m1 + 2, c3, A3, _, D, by go_num, rfl, HG3, HK3⟩, by simp [intOf]; have := HI.out; omega⟩
            · obtain ⟨r, hr⟩ : ∃ r, r = i % nc := ⟨_, rfl⟩
              have hrn : r < nc := by rw [hr]; exact Nat.mod_lt _ (by omega)
              have hmod : (i : Int).tmod (nc : Int) = (r : Int) := by rw [Int.tmod_eq_emod_of_nonneg (by omega), hr]; exact (Int.natCast_emod i nc).symm
              have hncd : decide ((0 : Int) < (nc : Int)) = true := by simp; omega
              have hnc0 : (nc : Int) ≠ 0 := by omega
              have hncz : ((nc : Int) == 0) = false := by simp; omega
              have hrr : IntKind.i64.wrap (r : Int) = (r : Int) := by rw [IntKind.wrap_i64]; omega
              obtain ⟨x, ad, hxk, rfl, _, hcx⟩ := (HX.out.kp0 HK2.out).ix (i := r) (by rw [HN.out]; exact hrn)
              have hab := HAB.out.2.2.1
              have hab2 := HAB.out.2.1
              have hl22 := HL2.out
              obtain ⟨l1, hl1'⟩ : ∃ l1, len = l1 + 1 := ⟨len - 1, by omega⟩
              have hwl1 : IntKind.i64.wrap ((len : Int) - 1) = (l1 : Int) := by rw [IntKind.wrap_i64]; omega
              have hpb := pickI_bound (x := x) (n := (l1 : Int)) (by have := HL2.out; omega)
              obtain ⟨pk, hpk⟩ : ∃ pk : Nat, pickI x (l1 : Int) = (pk : Int) := ⟨(pickI x (l1 : Int)).toNat, by omega⟩
              obtain ⟨q, hq⟩ : ∃ q, q = a + 1 + pk := ⟨_, rfl⟩
              have hwq : IntKind.i64.wrap (((a + 1 : Nat) : Int) + (pk : Int)) = (q : Int) := by rw [IntKind.wrap_i64]; omega
              have hwq' : IntKind.i64.wrap ((a : Int) + 1 + (pk : Int)) = (q : Int) := by rw [IntKind.wrap_i64]; omega
              have haq : a < q ∧ q < b := by have := HL2.out; have := HAB.out; omega
              have hlb : (l1 : Int) ≤ 1099511627776 := by omega
              have HPC := Lib.hid (show ∀ w : World, Calls Try.prog 25 #[.int .i64 x, .int .i64 (l1 : Int)] w fun e w' => e = .returned (.int .i64 (pk : Int)) ∧ w = w' from fun w => by rw [← hpk]; exact pick_any x l1 w hlb)
              clear hq HKW hr hxk hl1' hpb hpk hab hab2 hl22
              go_wp2_with fail
              go_quiet ((go_at_call 25; exact quiet_eq (HPC.out _)))
              have HOA3 := Lib.hid (HOA.out.drewN nq)
              have HOW3 := Lib.hid (own_kp0 HOW2.out ((Kp.refl [] wr).drewN nq))
              have HK2q := Lib.hid (HK2.out.drewN nq)
              have HAQ := Lib.hid (show a < q ∧ q < b by omega)
              have HRX := Lib.hid (show Rd ((wr.drewN nq).alloc (.cells #[.int .i64 (a : Int), .int .i64 (q : Int), .int .i64 (q : Int), .int .i64 (b : Int)] 69)) (wr.heap.size + 1) (some ⟨wr.heap.size, 0, none⟩) [.int .i64 (a : Int), .int .i64 (q : Int), .int .i64 (q : Int), .int .i64 (b : Int)] from Rd.new (wr.drewN nq) #[.int .i64 (a : Int), .int .i64 (q : Int), .int .i64 (q : Int), .int .i64 (b : Int)] 69 (0, 0))
              go_wp2_with (at_builtin; refine wpList_append_rd rfl (.tmp 77) (.tmp 86) 70 rfl w.heap.size 69 i0 (.agg #[.int .i64 0, .int .i64 0]) 2 16 Try.underlying70 hi hz0 hz1 hz2 rfl (by decide) _ m1 _ rfl (own_kp0 HOW3.out ((Kp.refl [] _).alloc _)) _ _ 2 2 [.int .i64 (a : Int), .int .i64 (q : Int), .int .i64 (q : Int), .int .i64 (b : Int)] rfl rfl HRX.out (by simp [Value.oneCell']) (by unfold maxLen; omega) (by omega) (Nat.le_trans HK2q.out.size (by simp)) ?_; intro v3 w3 hown3 hgrow3 hat3)
              obtain ⟨A3, c3, rfl, _⟩ := own_form hown3
              have hkg : Kp (ownL (.slice (some ⟨g, 0, none⟩) m1 c1)) (wr.drewN nq) w3 := ((Kp.refl _ (wr.drewN nq)).alloc _).grown hgrow3 (fun x hx => .inl (mem_ownL.2 hx))
              have hnot : w.heap.size ∉ ownL (.slice (some ⟨g, 0, none⟩) m1 c1) := fun hm => HGO.out _ (mem_ownL.1 hm) (by simp)
              have HO3 := Lib.hid (HOA3.out.kp hkg hnot)
              have HK3 := Lib.hid ((HK2q.out.alloc (.cells #[.int .i64 (a : Int), .int .i64 (q : Int), .int .i64 (q : Int), .int .i64 (b : Int)] 69)).grown hgrow3 (fun x hx => .inr (own_ge HOW3.out hx).1))
              have HG3 := Lib.hid (show Grow w3 w.heap.size w.heap.size n (i + 1) (m1 + 2) (.slice A3 (m1 + 2) c3) (st' ++ [(q - a, d + 1), (b - q, d + 1)]) D from by
                have hab := HAB.out
                have haq := HAQ.out
                refine ⟨?_, ?_, Nat.le_refl _, ?_, ?_, ?_, ?_, ?_⟩
                · rw [rowC_app, Nat.zero_add, ← hab.1]
                  show w3.ownsRow _ _ _ _ _ (rowC 0 st' ++ [.int .i64 (a : Int), .int .i64 ((a + (q - a) : Nat) : Int), .int .i64 ((a + (q - a) : Nat) : Int), .int .i64 ((a + (q - a) + (b - q) : Nat) : Int)])
                  rw [show a + (q - a) = q from by omega, show q + (b - q) = b from by omega]
                  exact hown3
                · have := HO3.out
                  rw [midL_end, show b - a = (q - a) + (b - q) from by omega] at this
                  rw [flatS_app]
                  simpa [flatS, List.replicate_append_replicate] using this
                · have hdl := HDL.out
                  rw [List.map_append, List.append_assoc] at hdl
                  have := hdl.split (d := d) (l1 := st'.map (·.2)) (l2 := D) rfl
                  simpa using this
                · intro x hx
                  rcases List.mem_append.1 hx with hx | hx
                  · have := HPOS.out x hx; omega
                  · simp at hx
                    rcases hx with rfl | rfl
                    · exact ⟨by show 1 ≤ q - a; omega, by show 0 ≤ d + 1; omega, by show d + 1 ≤ ((i + 1 : Nat) : Int); omega⟩
                    · exact ⟨by show 1 ≤ b - q; omega, by show 0 ≤ d + 1; omega, by show d + 1 ≤ ((i + 1 : Nat) : Int); omega⟩
                · rw [totS_app]
                  have : totS [(q - a, d + 1), (b - q, d + 1)] = q - a + (b - q) := by simp [totS]
                  rw [this]
                  omega
                · rw [meaS_app]
                  have : meaS [(q - a, d + 1), (b - q, d + 1)] = (2 * (q - a) - 1) + (2 * (b - q) - 1) := by simp [meaS]
                  rw [this]
                  omega
                · rw [List.length_append, ← hab.2.2.2.2.1]; rfl)
              clear hown3 hgrow3 hat3 hkg hnot
              go_wp2_with fail
              exact ⟨⟨i + 1, m1 + 2, c3, A3, _, D, by go_num, rfl, HG3, HK3⟩, by simp [intOf]; have := HI.out; omega⟩
    · obtain rfl : m = 0 := by omega
      have hst : st = [] := List.eq_nil_of_length_eq_zero HG.out.len
      subst hst
      have HD := Lib.hid HG.out.dl
      have HO := Lib.hid HG.out.out
      have HT := Lib.hid HG.out.tot
      go_wp2_with fail
      go_ret
      exact ⟨w.heap.size, D, rfl, HO.out, by simpa [totS] using HT.out, HD.out, Nat.le_refl _, HK.out⟩
end Go.Proofs.Ytbikidbaiegehaa
