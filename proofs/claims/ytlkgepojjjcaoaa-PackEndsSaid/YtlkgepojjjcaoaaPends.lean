/-
  THE STATEMENT PackEnds OF LAYER 2, its walk: the call returns true and writes to nothing that was there.
  CONDITIONS: none.
-/
import Derived.Test.YtlkgepojjjcaoaaPfinds
import Derived.Test.YtlkgepojjjcaoaaPnone2
import Derived.Test.YtlkgepojjjcaoaaRegA
import Derived.Test.YtlkgepojjjcaoaaOpen
import Derived.OpenShut
namespace Go.Proofs.Ytlkgepojjjcaoaa
open Go.RowKit

theorem one_byte : ∀ x ∈ ([1] : List Int), 0 ≤ x ∧ x ≤ 255 := by intro x hx; simp at hx; subst hx; omega

theorem IsRd.tail8 {w : World} {g m m1 : Nat} {bs : List Int} (h : Blk w g 5 (bs.map (.int .u8))) (hl : bs.length = m) (hm : m = m1 + 1) : IsRd .u8 (bs.drop 1) (.slice (if m = 1 then some ⟨g, 0, none⟩ else some ⟨g, 1, none⟩) m1 m1) w := by
  refine ⟨_, m1, by rw [List.length_drop, hl, hm, Nat.add_sub_cancel], by rw [List.length_drop, hl, hm, Nat.add_sub_cancel]; exact Nat.le_refl _, ?_⟩
  by_cases h1 : m = 1
  · have hd : bs.drop 1 = [] := List.drop_of_length_le (by omega)
    rw [hd]
    exact Rd.nil _ _ _
  · rw [if_neg (by omega), List.map_drop]
    exact h.rd_at h.lt 1

set_option maxRecDepth 100000 in
set_option maxHeartbeats 4000000 in
theorem ends_any (w : World) : Calls Try.prog 8 #[] w fun e w' => e = .returned (.bool true) ∧ Kp [] w w' := by
  obtain ⟨i0, hi, hz0, hz1, hz2⟩ := info_parts Try.info_int
  obtain ⟨i1, hu, hu0, hu1, hu2⟩ := info_parts Try.info_u8
  go_enter Try.func8, Try.ntmps8
  go_wp2_with fail
  go_loopw [1] (fun x wr => ∃ wv : Int, x = .int .i64 wv ∧ -1 ≤ wv ∧ wv ≤ 63 ∧ Hid (Kp [] w wr)) (fun x _ => (63 - intOf x).toNat)
  case atStart => exact ⟨-1, rfl, by omega, by omega, Lib.hid (Kp.refl [] w)⟩
  case round =>
    obtain ⟨wv, rfl, hw1, hw2, HK⟩ := hrel
    by_cases hlt : wv < 63
    · obtain ⟨s, hs⟩ : ∃ s : Nat, max (min wv 62) 0 = (s : Int) := ⟨(max (min wv 62) 0).toNat, by omega⟩
      have hs62 : s ≤ 62 := by omega
      obtain ⟨G1, hG1⟩ : ∃ G1, G1 = 2 ^ s := ⟨_, rfl⟩
      have hGb : 1 ≤ G1 ∧ G1 ≤ 4611686018427387904 := by
        rw [hG1]
        exact ⟨Nat.two_pow_pos _, Nat.pow_le_pow_right (by omega) hs62⟩
      have hsh : IntKind.i64.wrap (2 ^ s) = (G1 : Int) := by rw [show ((2 : Int) ^ s) = (G1 : Int) by rw [hG1]; simp, IntKind.wrap_i64]; omega
      have hsh2 : IntKind.i64.wrap (2 ^ min s 64) = (G1 : Int) := by rw [show min s 64 = s by omega]; exact hsh
      have hsh3 : IntKind.i64.wrap (1 * 2 ^ s) = (G1 : Int) := by rw [Int.one_mul]; exact hsh
      have hwG : IntKind.i64.wrap ((G1 : Int) - 1) = (G1 : Int) - 1 := by rw [IntKind.wrap_i64]; omega
      obtain ⟨G, hG⟩ : ∃ G : Int, (G1 : Int) - 1 = G := ⟨_, rfl⟩
      have hGr : 0 ≤ G ∧ G ≤ 4611686018427387903 := by omega
      clear hG1 hGb
      have hGS : -9223372036854775808 ≤ G ∧ G ≤ 9223372036854775807 := by omega
      obtain ⟨b1, hb1⟩ : ∃ b1, bits .and .i64 1 G = b1 := ⟨_, rfl⟩
      have hb1S := int_wf (Go.wf_bits .and .i64 1 G)
      rw [hb1] at hb1S
      obtain ⟨h2, hh2⟩ : ∃ h2 : Int, h2 = G / 2 := ⟨_, rfl⟩
      obtain ⟨h3, hh3⟩ : ∃ h3 : Int, h3 = G / 3 := ⟨_, rfl⟩
      have hd2 : G.tdiv 2 = h2 := by rw [Int.tdiv_eq_ediv_of_nonneg hGr.1, hh2]
      have hd3 : G.tdiv 3 = h3 := by rw [Int.tdiv_eq_ediv_of_nonneg hGr.1, hh3]
      have hw2' : IntKind.i64.wrap h2 = h2 := by rw [IntKind.wrap_i64]; omega
      have hw3' : IntKind.i64.wrap h3 = h3 := by rw [IntKind.wrap_i64]; omega
      obtain ⟨d3, hd3e⟩ : ∃ d3, G - h3 = d3 := ⟨_, rfl⟩
      have hd3b : 0 ≤ d3 ∧ d3 ≤ 4611686018427387903 := by omega
      have hwd3 : IntKind.i64.wrap d3 = d3 := by rw [IntKind.wrap_i64]; omega
      have HFIVE := Lib.hid (show Small [G, 0, b1, h2, d3] by
        intro x hx
        simp only [List.mem_cons, List.not_mem_nil, or_false] at hx
        rcases hx with rfl | rfl | rfl | rfl | rfl <;> omega)
      have hwp1 : IntKind.i64.wrap (G + 1) = G + 1 := by rw [IntKind.wrap_i64]; omega
      have HG1 := Lib.hid (show Small [G + 1] by intro x hx; simp at hx; subst hx; omega)
      have hwv1 : IntKind.i64.wrap (wv + 1) = wv + 1 := by rw [IntKind.wrap_i64]; omega
      clear hh2 hh3 hGS hb1S
      go_wp2_with fail
      go_loopw [2, 4] (fun y x wr => ∃ (k c1 : Nat) (A1 : Option Addr) (xs : List Int), x = .int .i64 (k : Int) ∧ y = .slice A1 k c1 ∧ k ≤ 67 ∧ Hid (xs.length = k) ∧ Hid (Small xs) ∧ Hid (wr.ownsRow w.heap.size 3 1 (.slice A1 k c1) k (xs.map (.int .i64))) ∧ Hid (Kp [] w wr)) (fun _ x _ => 67 - (intOf x).toNat)
      case atStart => exact ⟨0, 0, none, [], rfl, rfl, by omega, Lib.hid rfl, Lib.hid (fun x hx => by cases hx), Lib.hid ⟨rfl, .inl ⟨rfl, rfl⟩⟩, HK⟩
      case round =>
        clear HK
        obtain ⟨k, c1, A1, xs, rfl, rfl, hk, HXL, HXS, HO, HK⟩ := hrel
        by_cases hlk : k < 67
        · obtain ⟨r, hr⟩ : ∃ r, r = k % 5 := ⟨_, rfl⟩
          have hmod : (k : Int).tmod 5 = (r : Int) := by rw [Int.tmod_eq_emod_of_nonneg (by omega)]; omega
          have hwr : IntKind.i64.wrap (r : Int) = (r : Int) := by rw [IntKind.wrap_i64]; omega
          have hr5 : r < 5 := by omega
          obtain ⟨v, hv⟩ : ∃ v, ([G, 0, b1, h2, d3] : List Int)[r]? = some v := ⟨_, List.getElem?_eq_getElem (by simpa using hr5)⟩
          have hvS := HFIVE.out v (List.mem_of_getElem? hv)
          have cv : (wr.alloc (.cells #[.int .i64 G, .int .i64 0, .int .i64 b1, .int .i64 h2, .int .i64 d3] 3)).cell? ⟨wr.heap.size, r, none⟩ = some (.int .i64 v) := by
            have h := (Blk.new wr 3 ([G, 0, b1, h2, d3].map (.int .i64))).cell r
            rw [List.getElem?_map, hv] at h
            exact h
          have HVS := Lib.hid hvS
          clear hr hv hvS
          have HRX := Lib.hid (show Rd ((wr.alloc (.cells #[.int .i64 G, .int .i64 0, .int .i64 b1, .int .i64 h2, .int .i64 d3] 3)).alloc (.cells #[.int .i64 v] 3)) (wr.heap.size + 1 + 1) (some ⟨wr.heap.size + 1, 0, none⟩) [.int .i64 v] by
            have h := Rd.new (wr.alloc (.cells #[.int .i64 G, .int .i64 0, .int .i64 b1, .int .i64 h2, .int .i64 d3] 3)) #[.int .i64 v] 3 (0, 0)
            rw [show (wr.alloc (.cells #[.int .i64 G, .int .i64 0, .int .i64 b1, .int .i64 h2, .int .i64 d3] 3)).heap.size = wr.heap.size + 1 by simp] at h
            exact h)
          go_wp2_with (at_builtin; go_loud (refine wpList_append_rd rfl (.tmp 29) (.tmp 44) 22 rfl w.heap.size 3 i0 (.int .i64 0) 1 8 Try.underlying22 hi hz0 hz1 hz2 rfl (by decide) _ k _ rfl (own_kp0 HO.out (((Kp.refl [] _).alloc _).alloc _)) _ _ 1 1 [.int .i64 v] rfl rfl HRX.out (by simp [Value.oneCell']) (by unfold maxLen; omega) (by omega) (Nat.le_trans HK.out.size (by simp; omega)) ?_); intro v4 w4 hown4 hgrow4 hat4
                       obtain ⟨A4, c4, rfl, _⟩ := own_form hown4
                       have HK4 := Lib.hid (((HK.out.alloc (.cells #[.int .i64 G, .int .i64 0, .int .i64 b1, .int .i64 h2, .int .i64 d3] 3)).alloc (.cells #[.int .i64 v] 3)).grown hgrow4 (fun g hg => .inr (own_ge HO.out hg).1))
                       have HO4 := Lib.hid hown4
                       clear hown4 hgrow4 hat4)
          exact ⟨⟨k + 1, c4, A4, xs ++ [v], by go_num, rfl, by omega, Lib.hid (by rw [List.length_append, HXL.out]; rfl), Lib.hid (fun z hz => by rcases List.mem_append.1 hz with h | h; exact HXS.out z h; (simp at h; subst h; exact HVS.out)), Lib.hid (by rw [List.map_append]; exact HO4.out), HK4⟩, by simp [intOf]; omega⟩
        · obtain rfl : k = 67 := by omega
          obtain ⟨gl, rfl, hgl, _⟩ := own_some HO.out (by omega)
          obtain ⟨A2', c2', hvf, hc67, hcm, _, _⟩ := own_form HO.out
          injection hvf with hA2 _ hcc2
          subst hA2 hcc2
          have HLR := Lib.hid (own_rd HO.out)
          have hG67 : xs.length = 67 := HXL.out
          have HX67 := Lib.hid hG67
          clear hgl hG67 HO
          go_wp2_with fail
          obtain ⟨W1, hW1⟩ : ∃ W1, W1 = wr.alloc (.cells #[.int .i64 0, .int .i64 1, .int .i64 2, .int .i64 13, .int .i64 64, .int .i64 67] 3) := ⟨_, rfl⟩
          have HKW1 := Lib.hid (show Kp [] w W1 by rw [hW1]; exact HK.out.alloc _)
          have HNS := Lib.hid (show Blk W1 wr.heap.size 3 (([0, 1, 2, 13, 64, 67] : List Int).map (.int .i64)) by rw [hW1]; exact Blk.new wr 3 (([0, 1, 2, 13, 64, 67] : List Int).map (.int .i64)))
          have HLR1 := Lib.hid (show Rd W1 wr.heap.size (some ⟨gl, 0, none⟩) (xs.map (.int .i64)) by rw [hW1]; exact HLR.out.kp0 ((Kp.refl [] wr).alloc _))
          obtain ⟨gs, hgs⟩ : ∃ gs, gs = wr.heap.size := ⟨_, rfl⟩
          rw [← hgs] at HNS HLR1 ⊢
          rw [← hW1]
          clear hW1 hgs HLR HK
          go_loopw [48] (fun x wr => ∃ q : Nat, x = .int .i64 (q : Int) ∧ q ≤ 6 ∧ Hid (Kp [] W1 wr)) (fun x _ => 6 - (intOf x).toNat)
          case atStart => exact ⟨0, rfl, by omega, Lib.hid (Kp.refl [] W1)⟩
          case round =>
            obtain ⟨q, rfl, hq, HKQ⟩ := hrel
            by_cases hlq : q < 6
            · obtain ⟨n, hn, hn67⟩ : ∃ n : Nat, ([0, 1, 2, 13, 64, 67] : List Int)[q]? = some (n : Int) ∧ n ≤ 67 := by
                rcases (show q = 0 ∨ q = 1 ∨ q = 2 ∨ q = 3 ∨ q = 4 ∨ q = 5 by omega) with rfl | rfl | rfl | rfl | rfl | rfl
                · exact ⟨0, rfl, by omega⟩
                · exact ⟨1, rfl, by omega⟩
                · exact ⟨2, rfl, by omega⟩
                · exact ⟨13, rfl, by omega⟩
                · exact ⟨64, rfl, by omega⟩
                · exact ⟨67, rfl, by omega⟩
              have cn : wr.cell? ⟨gs, q, none⟩ = some (.int .i64 (n : Int)) := by rw [(HNS.out.kp0 HKQ.out).cell, List.getElem?_map, hn]; rfl
              have hnc : n ≤ c1 := by omega
              have hwn1 : IntKind.i64.wrap ((n : Int) - 1) = (n : Int) - 1 := by rw [IntKind.wrap_i64]; omega
              obtain ⟨nh, hnh⟩ : ∃ nh : Int, nh = (n : Int) / 2 := ⟨_, rfl⟩
              have hdn : (n : Int).tdiv 2 = nh := by rw [Int.tdiv_eq_ediv_of_nonneg (by omega), hnh]
              have hwnh : IntKind.i64.wrap nh = nh := by rw [IntKind.wrap_i64]; omega
              have HTN := Lib.hid (show (xs.take n).length = n by rw [List.length_take, HX67.out]; omega)
              have HTS := Lib.hid (show Small (xs.take n) from fun z hz => HXS.out z (List.mem_of_mem_take hz))
              have HTR := Lib.hid (show ∀ w' : World, Kp [] W1 w' → Rd w' gs (some ⟨gl, 0, none⟩) ((xs.take n).map (.int .i64)) from fun w' hk => by rw [List.map_take]; exact (HLR1.out.kp0 hk).take n)
              clear hn hnh
              go_upto_region 13 with fail
              go_cut [90] (fun b wx => b = .bool false ∧ Hid (Kp [] W1 wx))
              case first =>
                rcases Nat.eq_zero_or_pos n with hn0 | hn0
                · subst hn0
                  go_wp2_with fail
                  refine (puts_any _ _ _ 0 c1 gs (xs.take 0) _ (HTR.out _ HKQ.out) HTN.out HTS.out).mono ?_
                  rintro e w3 ⟨rfl, hk3⟩
                  have HK3 := Lib.hid (HKQ.out.trans hk3); clear hk3
                  go_wp2_with fail
                  refine (puts_any _ _ _ 0 c1 gs (xs.take 0) _ (HTR.out _ HK3.out) HTN.out HTS.out).mono ?_
                  rintro e w4 ⟨rfl, hk4⟩
                  have HK4 := Lib.hid (HK3.out.trans hk4); clear hk4
                  go_wp2_with fail
                  go_meet
                  exact ⟨rfl, HK4⟩
                · obtain ⟨n1, hn1⟩ : ∃ n1, n = n1 + 1 := ⟨n - 1, by omega⟩
                  have hwn2 : IntKind.i64.wrap ((n : Int) - 1) = (n1 : Int) := by rw [IntKind.wrap_i64]; omega
                  have hn1c : n1 ≤ c1 := by omega
                  have hn1m : n1 ≤ 67 := by omega
                  have HN1 := Lib.hid (show (xs.take n1).length = n1 by rw [List.length_take, HX67.out]; omega)
                  have HR1 := Lib.hid (show ∀ w' : World, Kp [] W1 w' → Rd w' gs (some ⟨gl, 0, none⟩) ((xs.take n1).map (.int .i64)) from fun w' hk => by rw [List.map_take]; exact (HLR1.out.kp0 hk).take n1)
                  have HLA := Lib.hid (show (xs.take n1 ++ [G + 1]).length = n by rw [List.length_append, HN1.out, hn1]; rfl)
                  have HSA := Lib.hid (show Small (xs.take n1 ++ [G + 1]) from fun z hz => by
                    rcases List.mem_append.1 hz with h | h
                    · exact HXS.out z (List.mem_of_mem_take h)
                    · exact HG1.out z h)
                  have HE1 := Lib.hid (show n1 + 1 = n from hn1.symm)
                  clear hn1 hwn1
                  go_wp2_with fail
                  refine (puts_any wv n1 _ n c1 gs (xs.take n) _ (HTR.out _ HKQ.out) HTN.out HTS.out).mono ?_
                  rintro e w3 ⟨rfl, hk3⟩
                  have HK3 := Lib.hid (HKQ.out.trans hk3); clear hk3
                  have HRX := Lib.hid (show Rd (w3.alloc (.cells #[.int .i64 (G + 1)] 3)) (w3.heap.size + 1) (some ⟨w3.heap.size, 0, none⟩) ([G + 1].map (.int .i64)) from Rd.new w3 #[.int .i64 (G + 1)] 3 (0, 0))
                  go_wp2_with (at_builtin; go_loud (refine wpList_append_grow0 (by rfl) (.tmp 70) (.tmp 73) 22 rfl .i64 3 i0 (.int .i64 0) 8 Try.underlying22 hi hz0 hz1 hz2 rfl (some ⟨gl, 0, none⟩) n1 n1 _ _ (xs.take n1) rfl (fun h => by cases h) HN1.out (HR1.out _ (HK3.out.alloc _)) ⟨w3.heap.size, 0, none⟩ 1 1 [G + 1] rfl rfl HRX.out (Nat.lt_succ_self _) (by unfold maxLen; omega) (by omega) ?_); intro v4 w4 hrd4 hk4
                               obtain ⟨A4, c4, rfl, _, hrr4⟩ := hrd4.len HLA.out
                               have HR4 := Lib.hid hrr4
                               have HK4 := Lib.hid ((HK3.out.alloc (.cells #[.int .i64 (G + 1)] 3)).trans hk4)
                               clear hrd4 hk4 hrr4)
                  refine (puts_any wv n _ n c4 _ (xs.take n1 ++ [G + 1]) _ HR4.out HLA.out HSA.out).mono ?_
                  rintro e w5 ⟨rfl, hk5⟩
                  have HK5 := Lib.hid (HK4.out.trans hk5); clear hk5
                  go_wp2_with fail
                  refine (puts_any (wv + 1) nh _ n c1 gs (xs.take n) _ (HTR.out _ HK5.out) HTN.out HTS.out).mono ?_
                  rintro e w6 ⟨rfl, hk6⟩
                  have HK6 := Lib.hid (HK5.out.trans hk6); clear hk6
                  go_wp2_with fail
                  go_meet
                  exact ⟨rfl, HK6⟩
              case rest =>
                obtain ⟨rfl, HKC⟩ := hcut
                have hn9 : n ≤ 1000000000 := by omega
                have HN9 := Lib.hid hn9; clear hn9
                obtain ⟨E, hE⟩ : ∃ E, E = newE wv (xs.take n) := ⟨_, rfl⟩
                have HE := Lib.hid hE; clear hE
                go_wp2_with fail
                refine (rnew_any wv _ n c1 gs (xs.take n) _ (HTR.out _ HKC.out) HTN.out HN9.out HTS.out).mono ?_
                rw [← HE.out]
                rintro e w3 ⟨hk3, ⟨hne, rfl⟩ | ⟨hz, p1, rfl, hrow⟩⟩
                · have hE1 : (E != 0) = true := by simpa using hne
                  have HK3 := Lib.hid (HKC.out.trans hk3); clear hk3 hne
                  go_wp2_with fail
                  exact ⟨⟨q + 1, by go_num, by omega, HK3⟩, by simp [intOf]; omega⟩
                · have HK3 := Lib.hid (HKC.out.trans hk3); clear hk3
                  have HROW := Lib.hid hrow; clear hrow
                  have hfit : fitN wv (xs.take n) ∧ errRow wv (n : Int) = 0 := by
                    have h := HE.out
                    rw [hz] at h
                    unfold newE at h
                    by_cases hf : fitN wv (xs.take n)
                    · rw [if_pos hf, HTN.out] at h; exact ⟨hf, h.symm⟩
                    · rw [if_neg hf] at h; cases h
                  obtain ⟨D, rfl⟩ : ∃ D : Nat, wv = (D : Int) := ⟨wv.toNat, by have := fitN_nonneg hfit.1; omega⟩
                  obtain ⟨hD1, hD2, hDn⟩ := errRow_ok hfit.2
                  obtain ⟨ls, hls⟩ : ∃ ls, ls = (xs.take n).map Int.toNat := ⟨_, rfl⟩
                  have hil : intsN ls = xs.take n := by rw [hls]; exact intsN_toNat hfit.1.1
                  have hlb : ∀ x ∈ ls, x < 2 ^ D := fun x hx => by
                    rw [hls] at hx
                    obtain ⟨z, hz', rfl⟩ := List.mem_map.1 hx
                    have h1 := hfit.1.1 z hz'
                    have h2 := (wideF_ge (l := xs.take n) 1).2 z hz'
                    have h3 := hfit.1.2
                    have h4 := HTS.out z hz'
                    exact Nat.lt_of_lt_of_le (dgt_lt (by omega)) (Nat.pow_le_pow_right (by omega) (by omega))
                  have hll : ls.length = n := by rw [hls, List.length_map, HTN.out]
                  have HLB := Lib.hid hlb
                  have HIL := Lib.hid hil
                  have HER := Lib.hid (show errRow D ls.length = 0 by rw [hll]; exact hfit.2)
                  have HLL := Lib.hid hll
                  clear hz hls hil hlb hll hfit
                  go_wp2_with fail
                  refine (refbytes_any _ p1 D ls w3 (by rw [HIL.out]; exact HROW.out) HLB.out HER.out).mono ?_
                  rintro e w4 ⟨gb, m, hm, rfl, hbb, _, hk4⟩
                  have HK4 := Lib.hid (HK3.out.trans hk4); clear hk4
                  have hmb : m ≤ 3000000 := by rw [HLL.out] at hm; omega
                  obtain ⟨bs, hbs⟩ : ∃ bs, bs = bytesN (packN D ls) m := ⟨_, rfl⟩
                  rw [← hbs] at hbb
                  have HBL := Lib.hid (show bs.length = m by rw [hbs, bytesN_len])
                  have HBV := Lib.hid (show ∀ x ∈ bs, 0 ≤ x ∧ x ≤ 255 from fun x hx => by
                    rw [hbs] at hx
                    obtain ⟨i, _, rfl⟩ := List.mem_map.1 hx
                    omega)
                  have HBB := Lib.hid hbb
                  have HKX := HK4
                  clear hm hbs hbb hDn
                  go_upto_region 18 with fail
                  rcases Nat.eq_zero_or_pos m with hm0 | hm0
                  · have HM0 := Lib.hid hm0
                    subst hm0
                    refine wp_region_facts (by kernel_rfl) 251 [103, 104, 105, 106, 107, 108, 109, 110, 111, 112, 113, 114, 115, 116, 117, 118, 119, 120, 121, 122, 123, 124, 125, 126, 127, 128, 129, 130, 131, 132, 133, 134, 135, 136, 137, 138, 139, 140, 141, 142, 143, 144, 145, 146, 147, 148, 149, 150, 151, 152, 153, 154, 155, 156, 157, 158] [[], [], [], [103, 104, 105], [106], [107], [108], [108], [108], [108], [111, 112, 108], [109, 110, 113, 108], [114, 108], [108, 115], [116], [117], [118, 117], [119, 117], [120, 117], [121], [121], [121], [124, 121], [122, 123, 125, 121], [126, 121], [121, 127, 117], [117, 128], [129], [130], [131, 130], [132, 130], [133, 130], [134], [134], [134], [134], [138, 134], [139, 134], [134], [141, 134], [142, 134], [137, 140, 143, 134], [134], [134], [146, 134], [147, 134], [145, 148, 134], [149, 134], [150, 134], [151, 134], [144, 152, 134], [134], [135, 136, 153, 154, 134], [155, 134], [134, 156, 130], [130, 157]] (by kernel_rfl) (by kernel_rfl) rfl (factOf [(103, .eq (.int .i64 (D : Int))), (104, .eq (.int .i64 (n : Int))), (105, .eq (.slice (some ⟨gb, 0, none⟩) 0 0)), (106, .eq (.bool true)), (107, .eq (.bool false)), (108, .eq (.bool false)), (109, .eq (.int .i64 (D : Int))), (110, .eq (.int .i64 (n : Int))), (111, .eq (.slice (some ⟨gb, 0, none⟩) 0 0)), (112, .rd .u8 ([0])), (113, .rd .u8 (bs ++ [0])), (114, .eq (.bool true)), (115, .eq (.bool false)), (116, .eq (.bool false)), (117, .eq (.bool false)), (118, .eq (.slice (some ⟨gb, 0, none⟩) 0 0)), (119, .eq (.int .i64 0)), (120, .eq (.bool false)), (121, .eq (.bool false)), (122, .eq (undef)), (123, .eq (undef)), (124, .eq (undef)), (125, .eq (undef)), (126, .eq (undef)), (127, .eq (undef)), (128, .eq (.bool false)), (129, .eq (.bool false)), (130, .eq (.bool false)), (131, .eq (.slice (some ⟨gb, 0, none⟩) 0 0)), (132, .eq (.int .i64 0)), (133, .eq (.bool false)), (134, .eq (.bool false)), (135, .eq (undef)), (136, .eq (undef)), (137, .eq (undef)), (138, .eq (undef)), (139, .eq (undef)), (140, .eq (undef)), (141, .eq (undef)), (142, .eq (undef)), (143, .eq (undef)), (144, .eq (undef)), (145, .eq (undef)), (146, .eq (undef)), (147, .eq (undef)), (148, .eq (undef)), (149, .eq (undef)), (150, .eq (undef)), (151, .eq (undef)), (152, .eq (undef)), (153, .eq (undef)), (154, .eq (undef)), (155, .eq (undef)), (156, .eq (undef)), (157, .eq (.bool false)), (158, .eq (.bool false))]) (factOf_stable _) _ (fun x => by simp only [fillL, Nat.reduceAdd, Nat.reduceEqDiff, ↓reduceIte]; rfl) ?_ ?_
                    · refine ⟨?_, ?_, ?_, ?_, ?_, ?_, ?_, ?_, ?_, ?_, ?_, ?_, ?_, ?_, ?_, ?_, ?_, ?_, ?_, ?_, ?_, ?_, ?_, ?_, ?_, ?_, ?_, ?_, ?_, ?_, ?_, ?_, ?_, ?_, ?_, ?_, ?_, ?_, ?_, ?_, ?_, ?_, ?_, ?_, ?_, ?_, ?_, ?_, ?_, ?_, ?_, ?_, ?_, ?_, ?_, ?_, trivial⟩
                      · intro x w' a hk hd ev  -- 103 = Op.move (Operand.tmp 1)
                        have e1 : a.tmps[1]?.getD undef = .int .i64 (D : Int) := ev.old 1 rfl
                        refine stepF_un rfl (fun K hK => ?_)
                        exact stepF_val _ hK (run_move rfl e1 _) rfl
                      · intro x w' a hk hd ev  -- 104 = Op.move (Operand.tmp 6)
                        have e6 : a.tmps[6]?.getD undef = .int .i64 (n : Int) := ev.old 6 rfl
                        refine stepF_un rfl (fun K hK => ?_)
                        exact stepF_val _ hK (run_move rfl e6 _) rfl
                      · intro x w' a hk hd ev  -- 105 = Op.move (Operand.tmp 9)
                        have e9 : a.tmps[9]?.getD undef = .slice (some ⟨gb, 0, none⟩) 0 0 := ev.old 9 rfl
                        refine stepF_un rfl (fun K hK => ?_)
                        exact stepF_val _ hK (run_move rfl e9 _) rfl
                      · intro x w' a hk hd ev  -- 106 = Op.call { callee := Callee.value (Operand.func 5), args := #
                        have h103 : x 103 = .int .i64 (D : Int) := hd.1
                        have e103 : a.tmps[103]?.getD undef = .int .i64 (D : Int) := (ev.new 103 rfl).trans h103
                        have h104 : x 104 = .int .i64 (n : Int) := hd.2.1
                        have e104 : a.tmps[104]?.getD undef = .int .i64 (n : Int) := (ev.new 104 rfl).trans h104
                        have h105 : x 105 = .slice (some ⟨gb, 0, none⟩) 0 0 := hd.2.2.1
                        have e105 : a.tmps[105]?.getD undef = .slice (some ⟨gb, 0, none⟩) 0 0 := (ev.new 105 rfl).trans h105
                        refine stepF_un rfl (fun K hK => ?_)
                        go_simp
                        refine (reads_int (D : Int) n 0 _ 0 0 _ bs _ ((HBB.out.kp0 hk).rd (HBB.out.kp0 hk).lt) HBL.out HBV.out).mono ?_
                        rintro e w1 ⟨rfl, hk1⟩
                        exact hK _ _ rfl hk1
                      · intro x w' a hk hd ev  -- 107 = Op.unOp UnOp.not 4 (Operand.tmp 106)
                        have h106 : x 106 = .bool true := hd.1
                        have e106 : a.tmps[106]?.getD undef = .bool true := (ev.new 106 rfl).trans h106
                        refine stepF_un rfl (fun K hK => ?_)
                        go_simp
                        exact hK _ _ rfl (Kp.refl _ _)
                      · intro x w' a hk hd ev  -- 108 = Op.move (Operand.tmp 107)
                        have h107 : x 107 = .bool false := hd.1
                        have e107 : a.tmps[107]?.getD undef = .bool false := (ev.new 107 rfl).trans h107
                        refine stepF_un rfl (fun K hK => ?_)
                        exact stepF_val _ hK (run_move rfl e107 _) rfl
                      · intro x w' a hk hd ev  -- 109 = Op.move (Operand.tmp 1)
                        have h108 : x 108 = .bool false := hd.1
                        have e108 : a.tmps[108]?.getD undef = .bool false := (ev.new 108 rfl).trans h108
                        have e1 : a.tmps[1]?.getD undef = .int .i64 (D : Int) := ev.old 1 rfl
                        refine stepF_yes (i := 5) (g := 108) (b := false) rfl rfl rfl e108 (fun K hK => ?_)
                        exact stepF_val _ hK (run_move rfl e1 _) rfl
                      · intro x w' a hk hd ev  -- 110 = Op.move (Operand.tmp 6)
                        have h108 : x 108 = .bool false := hd.1
                        have e108 : a.tmps[108]?.getD undef = .bool false := (ev.new 108 rfl).trans h108
                        have e6 : a.tmps[6]?.getD undef = .int .i64 (n : Int) := ev.old 6 rfl
                        refine stepF_yes (i := 5) (g := 108) (b := false) rfl rfl rfl e108 (fun K hK => ?_)
                        exact stepF_val _ hK (run_move rfl e6 _) rfl
                      · intro x w' a hk hd ev  -- 111 = Op.move (Operand.tmp 9)
                        have h108 : x 108 = .bool false := hd.1
                        have e108 : a.tmps[108]?.getD undef = .bool false := (ev.new 108 rfl).trans h108
                        have e9 : a.tmps[9]?.getD undef = .slice (some ⟨gb, 0, none⟩) 0 0 := ev.old 9 rfl
                        refine stepF_yes (i := 5) (g := 108) (b := false) rfl rfl rfl e108 (fun K hK => ?_)
                        exact stepF_val _ hK (run_move rfl e9 _) rfl
                      · intro x w' a hk hd ev  -- 112 = Op.buildSlice 43 1 #[(0, Operand.const (Value.int IntKind.u8
                        have h108 : x 108 = .bool false := hd.1
                        have e108 : a.tmps[108]?.getD undef = .bool false := (ev.new 108 rfl).trans h108
                        refine stepF_yes (i := 5) (g := 108) (b := false) rfl rfl rfl e108 (fun K hK => ?_)
                        go_simp
                        exact hK _ _ (IsRd.new w' .u8 [0] 5 1 rfl) ((Kp.refl _ _).alloc _)
                      · intro x w' a hk hd ev  -- 113 = Op.call { callee := Callee.builtin Builtin.append, args := #
                        have h111 : x 111 = .slice (some ⟨gb, 0, none⟩) 0 0 := hd.1
                        have e111 : a.tmps[111]?.getD undef = .slice (some ⟨gb, 0, none⟩) 0 0 := (ev.new 111 rfl).trans h111
                        have h112 : IsRd .u8 ([0]) (x 112) w' := hd.2.1
                        obtain ⟨A112, c112, v112, hc112, hr112⟩ := h112.len (n := 1) rfl
                        have e112 : a.tmps[112]?.getD undef = .slice A112 (1) c112 := (ev.new 112 rfl).trans v112
                        have h108 : x 108 = .bool false := hd.2.2.1
                        have e108 : a.tmps[108]?.getD undef = .bool false := (ev.new 108 rfl).trans h108
                        refine stepF_yes (i := 5) (g := 108) (b := false) rfl rfl rfl e108 (fun K hK => ?_)
                        obtain ⟨ad112, rfl⟩ := (show ∃ ad, A112 = some ad from by obtain ⟨ad, h, _⟩ := hr112.at_ (i := 0) rfl; exact ⟨ad, h⟩)
                        exact wp_append_grow_rd hK 111 112 43 rfl .u8 5 i1 (.int .u8 0) 1 Try.underlying43 hu hu0 hu1 hu2 rfl _ 0 0 _ _ bs e111 (fun h => by cases h) HBL.out ((HBB.out.kp0 hk).rd (HBB.out.kp0 hk).lt) ad112 1 c112 [0] e112 rfl hr112 (by omega) (by unfold maxLen; omega) (by omega) (fun v' w'' h _ => h)
                      · intro x w' a hk hd ev  -- 114 = Op.call { callee := Callee.value (Operand.func 5), args := #
                        have h109 : x 109 = .int .i64 (D : Int) := hd.1
                        have e109 : a.tmps[109]?.getD undef = .int .i64 (D : Int) := (ev.new 109 rfl).trans h109
                        have h110 : x 110 = .int .i64 (n : Int) := hd.2.1
                        have e110 : a.tmps[110]?.getD undef = .int .i64 (n : Int) := (ev.new 110 rfl).trans h110
                        have h113 : IsRd .u8 (bs ++ [0]) (x 113) w' := hd.2.2.1
                        obtain ⟨A113, c113, v113, hc113, hr113⟩ := h113.len (n := 0 + 1) (by rw [List.length_append, HBL.out]; rfl)
                        have e113 : a.tmps[113]?.getD undef = .slice A113 (0 + 1) c113 := (ev.new 113 rfl).trans v113
                        have h108 : x 108 = .bool false := hd.2.2.2.1
                        have e108 : a.tmps[108]?.getD undef = .bool false := (ev.new 108 rfl).trans h108
                        refine stepF_yes (i := 5) (g := 108) (b := false) rfl rfl rfl e108 (fun K hK => ?_)
                        go_simp
                        refine (reads_int (D : Int) n 0 _ (0 + 1) _ _ (bs ++ [0]) _ hr113 (by rw [List.length_append, HBL.out]; rfl) (fun z hz => by rcases List.mem_append.1 hz with h | h; exact HBV.out z h; (simp at h; omega))).mono ?_
                        rintro e w1 ⟨rfl, hk1⟩
                        exact hK _ _ rfl hk1
                      · intro x w' a hk hd ev  -- 115 = Op.unOp UnOp.not 4 (Operand.tmp 114)
                        have h114 : x 114 = .bool true := hd.1
                        have e114 : a.tmps[114]?.getD undef = .bool true := (ev.new 114 rfl).trans h114
                        have h108 : x 108 = .bool false := hd.2.1
                        have e108 : a.tmps[108]?.getD undef = .bool false := (ev.new 108 rfl).trans h108
                        refine stepF_yes (i := 5) (g := 108) (b := false) rfl rfl rfl e108 (fun K hK => ?_)
                        go_simp
                        exact hK _ _ rfl (Kp.refl _ _)
                      · intro x w' a hk hd ev  -- 116 = Op.pick (Operand.tmp 108) (Operand.const (Value.bool true)) 
                        have h108 : x 108 = .bool false := hd.1
                        have e108 : a.tmps[108]?.getD undef = .bool false := (ev.new 108 rfl).trans h108
                        have h115 : x 115 = .bool false := hd.2.1
                        have e115 : a.tmps[115]?.getD undef = .bool false := (ev.new 115 rfl).trans h115
                        refine stepF_un rfl (fun K hK => ?_)
                        go_simp
                        exact hK _ _ rfl (Kp.refl _ _)
                      · intro x w' a hk hd ev  -- 117 = Op.move (Operand.tmp 116)
                        have h116 : x 116 = .bool false := hd.1
                        have e116 : a.tmps[116]?.getD undef = .bool false := (ev.new 116 rfl).trans h116
                        refine stepF_un rfl (fun K hK => ?_)
                        exact stepF_val _ hK (run_move rfl e116 _) rfl
                      · intro x w' a hk hd ev  -- 118 = Op.move (Operand.tmp 9)
                        have h117 : x 117 = .bool false := hd.1
                        have e117 : a.tmps[117]?.getD undef = .bool false := (ev.new 117 rfl).trans h117
                        have e9 : a.tmps[9]?.getD undef = .slice (some ⟨gb, 0, none⟩) 0 0 := ev.old 9 rfl
                        refine stepF_yes (i := 14) (g := 117) (b := false) rfl rfl rfl e117 (fun K hK => ?_)
                        exact stepF_val _ hK (run_move rfl e9 _) rfl
                      · intro x w' a hk hd ev  -- 119 = Op.call { callee := Callee.builtin Builtin.len, args := #[Op
                        have h118 : x 118 = .slice (some ⟨gb, 0, none⟩) 0 0 := hd.1
                        have e118 : a.tmps[118]?.getD undef = .slice (some ⟨gb, 0, none⟩) 0 0 := (ev.new 118 rfl).trans h118
                        have h117 : x 117 = .bool false := hd.2.1
                        have e117 : a.tmps[117]?.getD undef = .bool false := (ev.new 117 rfl).trans h117
                        refine stepF_yes (i := 14) (g := 117) (b := false) rfl rfl rfl e117 (fun K hK => ?_)
                        go_simp
                        exact hK _ _ rfl (Kp.refl _ _)
                      · intro x w' a hk hd ev  -- 120 = Op.binOp BinOp.gtr 3 (Operand.tmp 119) (Operand.const (Value
                        have h119 : x 119 = .int .i64 0 := hd.1
                        have e119 : a.tmps[119]?.getD undef = .int .i64 0 := (ev.new 119 rfl).trans h119
                        have h117 : x 117 = .bool false := hd.2.1
                        have e117 : a.tmps[117]?.getD undef = .bool false := (ev.new 117 rfl).trans h117
                        refine stepF_yes (i := 14) (g := 117) (b := false) rfl rfl rfl e117 (fun K hK => ?_)
                        go_simp
                        exact hK _ _ rfl (Kp.refl _ _)
                      · intro x w' a hk hd ev  -- 121 = Op.move (Operand.tmp 120)
                        have h120 : x 120 = .bool false := hd.1
                        have e120 : a.tmps[120]?.getD undef = .bool false := (ev.new 120 rfl).trans h120
                        have h117 : x 117 = .bool false := hd.2.1
                        have e117 : a.tmps[117]?.getD undef = .bool false := (ev.new 117 rfl).trans h117
                        refine stepF_yes (i := 14) (g := 117) (b := false) rfl rfl rfl e117 (fun K hK => ?_)
                        exact stepF_val _ hK (run_move rfl e120 _) rfl
                      · intro x w' a hk hd ev  -- 122 = Op.move (Operand.tmp 1)
                        have h121 : x 121 = .bool false := hd.1
                        have e121 : a.tmps[121]?.getD undef = .bool false := (ev.new 121 rfl).trans h121
                        refine stepF_no (i := 18) (g := 121) (b := true) rfl rfl rfl e121 rfl
                      · intro x w' a hk hd ev  -- 123 = Op.move (Operand.tmp 6)
                        have h121 : x 121 = .bool false := hd.1
                        have e121 : a.tmps[121]?.getD undef = .bool false := (ev.new 121 rfl).trans h121
                        refine stepF_no (i := 18) (g := 121) (b := true) rfl rfl rfl e121 rfl
                      · intro x w' a hk hd ev  -- 124 = Op.move (Operand.tmp 9)
                        have h121 : x 121 = .bool false := hd.1
                        have e121 : a.tmps[121]?.getD undef = .bool false := (ev.new 121 rfl).trans h121
                        refine stepF_no (i := 18) (g := 121) (b := true) rfl rfl rfl e121 rfl
                      · intro x w' a hk hd ev  -- 125 = Op.slice 43 (Operand.tmp 124) (some (Operand.const (Value.in
                        have h121 : x 121 = .bool false := hd.2.1
                        have e121 : a.tmps[121]?.getD undef = .bool false := (ev.new 121 rfl).trans h121
                        refine stepF_no (i := 18) (g := 121) (b := true) rfl rfl rfl e121 rfl
                      · intro x w' a hk hd ev  -- 126 = Op.call { callee := Callee.value (Operand.func 5), args := #
                        have h121 : x 121 = .bool false := hd.2.2.2.1
                        have e121 : a.tmps[121]?.getD undef = .bool false := (ev.new 121 rfl).trans h121
                        refine stepF_no (i := 18) (g := 121) (b := true) rfl rfl rfl e121 rfl
                      · intro x w' a hk hd ev  -- 127 = Op.unOp UnOp.not 4 (Operand.tmp 126)
                        have h121 : x 121 = .bool false := hd.2.1
                        have e121 : a.tmps[121]?.getD undef = .bool false := (ev.new 121 rfl).trans h121
                        refine stepF_no (i := 18) (g := 121) (b := true) rfl rfl rfl e121 rfl
                      · intro x w' a hk hd ev  -- 128 = Op.pick (Operand.tmp 121) (Operand.tmp 127) (Operand.const (
                        have h121 : x 121 = .bool false := hd.1
                        have e121 : a.tmps[121]?.getD undef = .bool false := (ev.new 121 rfl).trans h121
                        have h127 : x 127 = undef := hd.2.1
                        have e127 : a.tmps[127]?.getD undef = undef := (ev.new 127 rfl).trans h127
                        have h117 : x 117 = .bool false := hd.2.2.1
                        have e117 : a.tmps[117]?.getD undef = .bool false := (ev.new 117 rfl).trans h117
                        refine stepF_yes (i := 14) (g := 117) (b := false) rfl rfl rfl e117 (fun K hK => ?_)
                        go_simp
                        exact hK _ _ rfl (Kp.refl _ _)
                      · intro x w' a hk hd ev  -- 129 = Op.pick (Operand.tmp 117) (Operand.const (Value.bool true)) 
                        have h117 : x 117 = .bool false := hd.1
                        have e117 : a.tmps[117]?.getD undef = .bool false := (ev.new 117 rfl).trans h117
                        have h128 : x 128 = .bool false := hd.2.1
                        have e128 : a.tmps[128]?.getD undef = .bool false := (ev.new 128 rfl).trans h128
                        refine stepF_un rfl (fun K hK => ?_)
                        go_simp
                        exact hK _ _ rfl (Kp.refl _ _)
                      · intro x w' a hk hd ev  -- 130 = Op.move (Operand.tmp 129)
                        have h129 : x 129 = .bool false := hd.1
                        have e129 : a.tmps[129]?.getD undef = .bool false := (ev.new 129 rfl).trans h129
                        refine stepF_un rfl (fun K hK => ?_)
                        exact stepF_val _ hK (run_move rfl e129 _) rfl
                      · intro x w' a hk hd ev  -- 131 = Op.move (Operand.tmp 9)
                        have h130 : x 130 = .bool false := hd.1
                        have e130 : a.tmps[130]?.getD undef = .bool false := (ev.new 130 rfl).trans h130
                        have e9 : a.tmps[9]?.getD undef = .slice (some ⟨gb, 0, none⟩) 0 0 := ev.old 9 rfl
                        refine stepF_yes (i := 27) (g := 130) (b := false) rfl rfl rfl e130 (fun K hK => ?_)
                        exact stepF_val _ hK (run_move rfl e9 _) rfl
                      · intro x w' a hk hd ev  -- 132 = Op.call { callee := Callee.builtin Builtin.len, args := #[Op
                        have h131 : x 131 = .slice (some ⟨gb, 0, none⟩) 0 0 := hd.1
                        have e131 : a.tmps[131]?.getD undef = .slice (some ⟨gb, 0, none⟩) 0 0 := (ev.new 131 rfl).trans h131
                        have h130 : x 130 = .bool false := hd.2.1
                        have e130 : a.tmps[130]?.getD undef = .bool false := (ev.new 130 rfl).trans h130
                        refine stepF_yes (i := 27) (g := 130) (b := false) rfl rfl rfl e130 (fun K hK => ?_)
                        go_simp
                        exact hK _ _ rfl (Kp.refl _ _)
                      · intro x w' a hk hd ev  -- 133 = Op.binOp BinOp.gtr 3 (Operand.tmp 132) (Operand.const (Value
                        have h132 : x 132 = .int .i64 0 := hd.1
                        have e132 : a.tmps[132]?.getD undef = .int .i64 0 := (ev.new 132 rfl).trans h132
                        have h130 : x 130 = .bool false := hd.2.1
                        have e130 : a.tmps[130]?.getD undef = .bool false := (ev.new 130 rfl).trans h130
                        refine stepF_yes (i := 27) (g := 130) (b := false) rfl rfl rfl e130 (fun K hK => ?_)
                        go_simp
                        exact hK _ _ rfl (Kp.refl _ _)
                      · intro x w' a hk hd ev  -- 134 = Op.move (Operand.tmp 133)
                        have h133 : x 133 = .bool false := hd.1
                        have e133 : a.tmps[133]?.getD undef = .bool false := (ev.new 133 rfl).trans h133
                        have h130 : x 130 = .bool false := hd.2.1
                        have e130 : a.tmps[130]?.getD undef = .bool false := (ev.new 130 rfl).trans h130
                        refine stepF_yes (i := 27) (g := 130) (b := false) rfl rfl rfl e130 (fun K hK => ?_)
                        exact stepF_val _ hK (run_move rfl e133 _) rfl
                      · intro x w' a hk hd ev  -- 135 = Op.move (Operand.tmp 1)
                        have h134 : x 134 = .bool false := hd.1
                        have e134 : a.tmps[134]?.getD undef = .bool false := (ev.new 134 rfl).trans h134
                        refine stepF_no (i := 31) (g := 134) (b := true) rfl rfl rfl e134 rfl
                      · intro x w' a hk hd ev  -- 136 = Op.move (Operand.tmp 6)
                        have h134 : x 134 = .bool false := hd.1
                        have e134 : a.tmps[134]?.getD undef = .bool false := (ev.new 134 rfl).trans h134
                        refine stepF_no (i := 31) (g := 134) (b := true) rfl rfl rfl e134 rfl
                      · intro x w' a hk hd ev  -- 137 = Op.move (Operand.tmp 9)
                        have h134 : x 134 = .bool false := hd.1
                        have e134 : a.tmps[134]?.getD undef = .bool false := (ev.new 134 rfl).trans h134
                        refine stepF_no (i := 31) (g := 134) (b := true) rfl rfl rfl e134 rfl
                      · intro x w' a hk hd ev  -- 138 = Op.move (Operand.tmp 9)
                        have h134 : x 134 = .bool false := hd.1
                        have e134 : a.tmps[134]?.getD undef = .bool false := (ev.new 134 rfl).trans h134
                        refine stepF_no (i := 31) (g := 134) (b := true) rfl rfl rfl e134 rfl
                      · intro x w' a hk hd ev  -- 139 = Op.call { callee := Callee.builtin Builtin.len, args := #[Op
                        have h134 : x 134 = .bool false := hd.2.1
                        have e134 : a.tmps[134]?.getD undef = .bool false := (ev.new 134 rfl).trans h134
                        refine stepF_no (i := 31) (g := 134) (b := true) rfl rfl rfl e134 rfl
                      · intro x w' a hk hd ev  -- 140 = Op.binOp BinOp.sub 3 (Operand.tmp 139) (Operand.const (Value
                        have h134 : x 134 = .bool false := hd.2.1
                        have e134 : a.tmps[134]?.getD undef = .bool false := (ev.new 134 rfl).trans h134
                        refine stepF_no (i := 31) (g := 134) (b := true) rfl rfl rfl e134 rfl
                      · intro x w' a hk hd ev  -- 141 = Op.move (Operand.tmp 9)
                        have h134 : x 134 = .bool false := hd.1
                        have e134 : a.tmps[134]?.getD undef = .bool false := (ev.new 134 rfl).trans h134
                        refine stepF_no (i := 31) (g := 134) (b := true) rfl rfl rfl e134 rfl
                      · intro x w' a hk hd ev  -- 142 = Op.call { callee := Callee.builtin Builtin.len, args := #[Op
                        have h134 : x 134 = .bool false := hd.2.1
                        have e134 : a.tmps[134]?.getD undef = .bool false := (ev.new 134 rfl).trans h134
                        refine stepF_no (i := 31) (g := 134) (b := true) rfl rfl rfl e134 rfl
                      · intro x w' a hk hd ev  -- 143 = Op.binOp BinOp.sub 3 (Operand.tmp 142) (Operand.const (Value
                        have h134 : x 134 = .bool false := hd.2.1
                        have e134 : a.tmps[134]?.getD undef = .bool false := (ev.new 134 rfl).trans h134
                        refine stepF_no (i := 31) (g := 134) (b := true) rfl rfl rfl e134 rfl
                      · intro x w' a hk hd ev  -- 144 = Op.slice 43 (Operand.tmp 137) none (some (Operand.tmp 140)) 
                        have h134 : x 134 = .bool false := hd.2.2.2.1
                        have e134 : a.tmps[134]?.getD undef = .bool false := (ev.new 134 rfl).trans h134
                        refine stepF_no (i := 31) (g := 134) (b := true) rfl rfl rfl e134 rfl
                      · intro x w' a hk hd ev  -- 145 = Op.move (Operand.tmp 9)
                        have h134 : x 134 = .bool false := hd.1
                        have e134 : a.tmps[134]?.getD undef = .bool false := (ev.new 134 rfl).trans h134
                        refine stepF_no (i := 31) (g := 134) (b := true) rfl rfl rfl e134 rfl
                      · intro x w' a hk hd ev  -- 146 = Op.move (Operand.tmp 9)
                        have h134 : x 134 = .bool false := hd.1
                        have e134 : a.tmps[134]?.getD undef = .bool false := (ev.new 134 rfl).trans h134
                        refine stepF_no (i := 31) (g := 134) (b := true) rfl rfl rfl e134 rfl
                      · intro x w' a hk hd ev  -- 147 = Op.call { callee := Callee.builtin Builtin.len, args := #[Op
                        have h134 : x 134 = .bool false := hd.2.1
                        have e134 : a.tmps[134]?.getD undef = .bool false := (ev.new 134 rfl).trans h134
                        refine stepF_no (i := 31) (g := 134) (b := true) rfl rfl rfl e134 rfl
                      · intro x w' a hk hd ev  -- 148 = Op.binOp BinOp.sub 3 (Operand.tmp 147) (Operand.const (Value
                        have h134 : x 134 = .bool false := hd.2.1
                        have e134 : a.tmps[134]?.getD undef = .bool false := (ev.new 134 rfl).trans h134
                        refine stepF_no (i := 31) (g := 134) (b := true) rfl rfl rfl e134 rfl
                      · intro x w' a hk hd ev  -- 149 = Op.indexAddr 43 (Operand.tmp 145) (Operand.tmp 148)
                        have h134 : x 134 = .bool false := hd.2.2.1
                        have e134 : a.tmps[134]?.getD undef = .bool false := (ev.new 134 rfl).trans h134
                        refine stepF_no (i := 31) (g := 134) (b := true) rfl rfl rfl e134 rfl
                      · intro x w' a hk hd ev  -- 150 = Op.load 5 (Operand.tmp 149)
                        have h134 : x 134 = .bool false := hd.2.1
                        have e134 : a.tmps[134]?.getD undef = .bool false := (ev.new 134 rfl).trans h134
                        refine stepF_no (i := 31) (g := 134) (b := true) rfl rfl rfl e134 rfl
                      · intro x w' a hk hd ev  -- 151 = Op.binOp BinOp.or 5 (Operand.tmp 150) (Operand.const (Value.
                        have h134 : x 134 = .bool false := hd.2.1
                        have e134 : a.tmps[134]?.getD undef = .bool false := (ev.new 134 rfl).trans h134
                        refine stepF_no (i := 31) (g := 134) (b := true) rfl rfl rfl e134 rfl
                      · intro x w' a hk hd ev  -- 152 = Op.buildSlice 43 1 #[(0, Operand.tmp 151)]
                        have h134 : x 134 = .bool false := hd.2.1
                        have e134 : a.tmps[134]?.getD undef = .bool false := (ev.new 134 rfl).trans h134
                        refine stepF_no (i := 31) (g := 134) (b := true) rfl rfl rfl e134 rfl
                      · intro x w' a hk hd ev  -- 153 = Op.call { callee := Callee.builtin Builtin.append, args := #
                        have h134 : x 134 = .bool false := hd.2.2.1
                        have e134 : a.tmps[134]?.getD undef = .bool false := (ev.new 134 rfl).trans h134
                        refine stepF_no (i := 31) (g := 134) (b := true) rfl rfl rfl e134 rfl
                      · intro x w' a hk hd ev  -- 154 = Op.move (Operand.tmp 6)
                        have h134 : x 134 = .bool false := hd.1
                        have e134 : a.tmps[134]?.getD undef = .bool false := (ev.new 134 rfl).trans h134
                        refine stepF_no (i := 31) (g := 134) (b := true) rfl rfl rfl e134 rfl
                      · intro x w' a hk hd ev  -- 155 = Op.call { callee := Callee.value (Operand.func 5), args := #
                        have h134 : x 134 = .bool false := hd.2.2.2.2.1
                        have e134 : a.tmps[134]?.getD undef = .bool false := (ev.new 134 rfl).trans h134
                        refine stepF_no (i := 31) (g := 134) (b := true) rfl rfl rfl e134 rfl
                      · intro x w' a hk hd ev  -- 156 = Op.unOp UnOp.not 4 (Operand.tmp 155)
                        have h134 : x 134 = .bool false := hd.2.1
                        have e134 : a.tmps[134]?.getD undef = .bool false := (ev.new 134 rfl).trans h134
                        refine stepF_no (i := 31) (g := 134) (b := true) rfl rfl rfl e134 rfl
                      · intro x w' a hk hd ev  -- 157 = Op.pick (Operand.tmp 134) (Operand.tmp 156) (Operand.const (
                        have h134 : x 134 = .bool false := hd.1
                        have e134 : a.tmps[134]?.getD undef = .bool false := (ev.new 134 rfl).trans h134
                        have h156 : x 156 = undef := hd.2.1
                        have e156 : a.tmps[156]?.getD undef = undef := (ev.new 156 rfl).trans h156
                        have h130 : x 130 = .bool false := hd.2.2.1
                        have e130 : a.tmps[130]?.getD undef = .bool false := (ev.new 130 rfl).trans h130
                        refine stepF_yes (i := 27) (g := 130) (b := false) rfl rfl rfl e130 (fun K hK => ?_)
                        go_simp
                        exact hK _ _ rfl (Kp.refl _ _)
                      · intro x w' a hk hd ev  -- 158 = Op.pick (Operand.tmp 130) (Operand.const (Value.bool true)) 
                        have h130 : x 130 = .bool false := hd.1
                        have e130 : a.tmps[130]?.getD undef = .bool false := (ev.new 130 rfl).trans h130
                        have h157 : x 157 = .bool false := hd.2.1
                        have e157 : a.tmps[157]?.getD undef = .bool false := (ev.new 157 rfl).trans h157
                        refine stepF_un rfl (fun K hK => ?_)
                        go_simp
                        exact hK _ _ rfl (Kp.refl _ _)
                    · intro x w' hk hd
                      have h103 : x 103 = .int .i64 (D : Int) := hd.1
                      have h104 : x 104 = .int .i64 (n : Int) := hd.2.1
                      have h105 : x 105 = .slice (some ⟨gb, 0, none⟩) 0 0 := hd.2.2.1
                      have h106 : x 106 = .bool true := hd.2.2.2.1
                      have h107 : x 107 = .bool false := hd.2.2.2.2.1
                      have h108 : x 108 = .bool false := hd.2.2.2.2.2.1
                      have h109 : x 109 = .int .i64 (D : Int) := hd.2.2.2.2.2.2.1
                      have h110 : x 110 = .int .i64 (n : Int) := hd.2.2.2.2.2.2.2.1
                      have h111 : x 111 = .slice (some ⟨gb, 0, none⟩) 0 0 := hd.2.2.2.2.2.2.2.2.1
                      have h112 : IsRd .u8 ([0]) (x 112) w' := hd.2.2.2.2.2.2.2.2.2.1
                      have h113 : IsRd .u8 (bs ++ [0]) (x 113) w' := hd.2.2.2.2.2.2.2.2.2.2.1
                      have h114 : x 114 = .bool true := hd.2.2.2.2.2.2.2.2.2.2.2.1
                      have h115 : x 115 = .bool false := hd.2.2.2.2.2.2.2.2.2.2.2.2.1
                      have h116 : x 116 = .bool false := hd.2.2.2.2.2.2.2.2.2.2.2.2.2.1
                      have h117 : x 117 = .bool false := hd.2.2.2.2.2.2.2.2.2.2.2.2.2.2.1
                      have h118 : x 118 = .slice (some ⟨gb, 0, none⟩) 0 0 := hd.2.2.2.2.2.2.2.2.2.2.2.2.2.2.2.1
                      have h119 : x 119 = .int .i64 0 := hd.2.2.2.2.2.2.2.2.2.2.2.2.2.2.2.2.1
                      have h120 : x 120 = .bool false := hd.2.2.2.2.2.2.2.2.2.2.2.2.2.2.2.2.2.1
                      have h121 : x 121 = .bool false := hd.2.2.2.2.2.2.2.2.2.2.2.2.2.2.2.2.2.2.1
                      have h122 : x 122 = undef := hd.2.2.2.2.2.2.2.2.2.2.2.2.2.2.2.2.2.2.2.1
                      have h123 : x 123 = undef := hd.2.2.2.2.2.2.2.2.2.2.2.2.2.2.2.2.2.2.2.2.1
                      have h124 : x 124 = undef := hd.2.2.2.2.2.2.2.2.2.2.2.2.2.2.2.2.2.2.2.2.2.1
                      have h125 : x 125 = undef := hd.2.2.2.2.2.2.2.2.2.2.2.2.2.2.2.2.2.2.2.2.2.2.1
                      have h126 : x 126 = undef := hd.2.2.2.2.2.2.2.2.2.2.2.2.2.2.2.2.2.2.2.2.2.2.2.1
                      have h127 : x 127 = undef := hd.2.2.2.2.2.2.2.2.2.2.2.2.2.2.2.2.2.2.2.2.2.2.2.2.1
                      have h128 : x 128 = .bool false := hd.2.2.2.2.2.2.2.2.2.2.2.2.2.2.2.2.2.2.2.2.2.2.2.2.2.1
                      have h129 : x 129 = .bool false := hd.2.2.2.2.2.2.2.2.2.2.2.2.2.2.2.2.2.2.2.2.2.2.2.2.2.2.1
                      have h130 : x 130 = .bool false := hd.2.2.2.2.2.2.2.2.2.2.2.2.2.2.2.2.2.2.2.2.2.2.2.2.2.2.2.1
                      have h131 : x 131 = .slice (some ⟨gb, 0, none⟩) 0 0 := hd.2.2.2.2.2.2.2.2.2.2.2.2.2.2.2.2.2.2.2.2.2.2.2.2.2.2.2.2.1
                      have h132 : x 132 = .int .i64 0 := hd.2.2.2.2.2.2.2.2.2.2.2.2.2.2.2.2.2.2.2.2.2.2.2.2.2.2.2.2.2.1
                      have h133 : x 133 = .bool false := hd.2.2.2.2.2.2.2.2.2.2.2.2.2.2.2.2.2.2.2.2.2.2.2.2.2.2.2.2.2.2.1
                      have h134 : x 134 = .bool false := hd.2.2.2.2.2.2.2.2.2.2.2.2.2.2.2.2.2.2.2.2.2.2.2.2.2.2.2.2.2.2.2.1
                      have h135 : x 135 = undef := hd.2.2.2.2.2.2.2.2.2.2.2.2.2.2.2.2.2.2.2.2.2.2.2.2.2.2.2.2.2.2.2.2.1
                      have h136 : x 136 = undef := hd.2.2.2.2.2.2.2.2.2.2.2.2.2.2.2.2.2.2.2.2.2.2.2.2.2.2.2.2.2.2.2.2.2.1
                      have h137 : x 137 = undef := hd.2.2.2.2.2.2.2.2.2.2.2.2.2.2.2.2.2.2.2.2.2.2.2.2.2.2.2.2.2.2.2.2.2.2.1
                      have h138 : x 138 = undef := hd.2.2.2.2.2.2.2.2.2.2.2.2.2.2.2.2.2.2.2.2.2.2.2.2.2.2.2.2.2.2.2.2.2.2.2.1
                      have h139 : x 139 = undef := hd.2.2.2.2.2.2.2.2.2.2.2.2.2.2.2.2.2.2.2.2.2.2.2.2.2.2.2.2.2.2.2.2.2.2.2.2.1
                      have h140 : x 140 = undef := hd.2.2.2.2.2.2.2.2.2.2.2.2.2.2.2.2.2.2.2.2.2.2.2.2.2.2.2.2.2.2.2.2.2.2.2.2.2.1
                      have h141 : x 141 = undef := hd.2.2.2.2.2.2.2.2.2.2.2.2.2.2.2.2.2.2.2.2.2.2.2.2.2.2.2.2.2.2.2.2.2.2.2.2.2.2.1
                      have h142 : x 142 = undef := hd.2.2.2.2.2.2.2.2.2.2.2.2.2.2.2.2.2.2.2.2.2.2.2.2.2.2.2.2.2.2.2.2.2.2.2.2.2.2.2.1
                      have h143 : x 143 = undef := hd.2.2.2.2.2.2.2.2.2.2.2.2.2.2.2.2.2.2.2.2.2.2.2.2.2.2.2.2.2.2.2.2.2.2.2.2.2.2.2.2.1
                      have h144 : x 144 = undef := hd.2.2.2.2.2.2.2.2.2.2.2.2.2.2.2.2.2.2.2.2.2.2.2.2.2.2.2.2.2.2.2.2.2.2.2.2.2.2.2.2.2.1
                      have h145 : x 145 = undef := hd.2.2.2.2.2.2.2.2.2.2.2.2.2.2.2.2.2.2.2.2.2.2.2.2.2.2.2.2.2.2.2.2.2.2.2.2.2.2.2.2.2.2.1
                      have h146 : x 146 = undef := hd.2.2.2.2.2.2.2.2.2.2.2.2.2.2.2.2.2.2.2.2.2.2.2.2.2.2.2.2.2.2.2.2.2.2.2.2.2.2.2.2.2.2.2.1
                      have h147 : x 147 = undef := hd.2.2.2.2.2.2.2.2.2.2.2.2.2.2.2.2.2.2.2.2.2.2.2.2.2.2.2.2.2.2.2.2.2.2.2.2.2.2.2.2.2.2.2.2.1
                      have h148 : x 148 = undef := hd.2.2.2.2.2.2.2.2.2.2.2.2.2.2.2.2.2.2.2.2.2.2.2.2.2.2.2.2.2.2.2.2.2.2.2.2.2.2.2.2.2.2.2.2.2.1
                      have h149 : x 149 = undef := hd.2.2.2.2.2.2.2.2.2.2.2.2.2.2.2.2.2.2.2.2.2.2.2.2.2.2.2.2.2.2.2.2.2.2.2.2.2.2.2.2.2.2.2.2.2.2.1
                      have h150 : x 150 = undef := hd.2.2.2.2.2.2.2.2.2.2.2.2.2.2.2.2.2.2.2.2.2.2.2.2.2.2.2.2.2.2.2.2.2.2.2.2.2.2.2.2.2.2.2.2.2.2.2.1
                      have h151 : x 151 = undef := hd.2.2.2.2.2.2.2.2.2.2.2.2.2.2.2.2.2.2.2.2.2.2.2.2.2.2.2.2.2.2.2.2.2.2.2.2.2.2.2.2.2.2.2.2.2.2.2.2.1
                      have h152 : x 152 = undef := hd.2.2.2.2.2.2.2.2.2.2.2.2.2.2.2.2.2.2.2.2.2.2.2.2.2.2.2.2.2.2.2.2.2.2.2.2.2.2.2.2.2.2.2.2.2.2.2.2.2.1
                      have h153 : x 153 = undef := hd.2.2.2.2.2.2.2.2.2.2.2.2.2.2.2.2.2.2.2.2.2.2.2.2.2.2.2.2.2.2.2.2.2.2.2.2.2.2.2.2.2.2.2.2.2.2.2.2.2.2.1
                      have h154 : x 154 = undef := hd.2.2.2.2.2.2.2.2.2.2.2.2.2.2.2.2.2.2.2.2.2.2.2.2.2.2.2.2.2.2.2.2.2.2.2.2.2.2.2.2.2.2.2.2.2.2.2.2.2.2.2.1
                      have h155 : x 155 = undef := hd.2.2.2.2.2.2.2.2.2.2.2.2.2.2.2.2.2.2.2.2.2.2.2.2.2.2.2.2.2.2.2.2.2.2.2.2.2.2.2.2.2.2.2.2.2.2.2.2.2.2.2.2.1
                      have h156 : x 156 = undef := hd.2.2.2.2.2.2.2.2.2.2.2.2.2.2.2.2.2.2.2.2.2.2.2.2.2.2.2.2.2.2.2.2.2.2.2.2.2.2.2.2.2.2.2.2.2.2.2.2.2.2.2.2.2.1
                      have h157 : x 157 = .bool false := hd.2.2.2.2.2.2.2.2.2.2.2.2.2.2.2.2.2.2.2.2.2.2.2.2.2.2.2.2.2.2.2.2.2.2.2.2.2.2.2.2.2.2.2.2.2.2.2.2.2.2.2.2.2.2.1
                      have h158 : x 158 = .bool false := hd.2.2.2.2.2.2.2.2.2.2.2.2.2.2.2.2.2.2.2.2.2.2.2.2.2.2.2.2.2.2.2.2.2.2.2.2.2.2.2.2.2.2.2.2.2.2.2.2.2.2.2.2.2.2.2.1
                      have HK7 := Lib.hid (HKX.out.trans hk)
                      rw [h158]
                      clear hk hd
                      go_wp2_with fail
                      exact ⟨⟨q + 1, by go_num, by omega, HK7⟩, by simp [intOf]; omega⟩
                  · obtain ⟨m1, hm1⟩ : ∃ m1, m = m1 + 1 := ⟨m - 1, by omega⟩
                    obtain ⟨y, hy⟩ : ∃ y, bs[m1]? = some y := ⟨_, List.getElem?_eq_getElem (by rw [HBL.out]; omega)⟩
                    have HYB := Lib.hid (show (bs.map (Value.int .u8))[m1]? = some (.int .u8 y) by rw [List.getElem?_map, hy]; rfl)
                    have hm1lt : m1 < m := by omega
                    have hwm1 : IntKind.i64.wrap ((m : Int) - 1) = (m1 : Int) := by rw [IntKind.wrap_i64]; omega
                    have HM1 := Lib.hid hm1
                    clear hy hm1
                    refine wp_region_facts (by kernel_rfl) 251 [103, 104, 105, 106, 107, 108, 109, 110, 111, 112, 113, 114, 115, 116, 117, 118, 119, 120, 121, 122, 123, 124, 125, 126, 127, 128, 129, 130, 131, 132, 133, 134, 135, 136, 137, 138, 139, 140, 141, 142, 143, 144, 145, 146, 147, 148, 149, 150, 151, 152, 153, 154, 155, 156, 157, 158] [[], [], [], [103, 104, 105], [106], [107], [108], [108], [108], [108], [111, 112, 108], [109, 110, 113, 108], [114, 108], [108, 115], [116], [117], [118, 117], [119, 117], [120, 117], [121], [121], [121], [124, 121], [122, 123, 125, 121], [126, 121], [121, 127, 117], [117, 128], [129], [130], [131, 130], [132, 130], [133, 130], [134], [134], [134], [134], [138, 134], [139, 134], [134], [141, 134], [142, 134], [137, 140, 143, 134], [134], [134], [146, 134], [147, 134], [145, 148, 134], [149, 134], [150, 134], [151, 134], [144, 152, 134], [134], [135, 136, 153, 154, 134], [155, 134], [134, 156, 130], [130, 157]] (by kernel_rfl) (by kernel_rfl) rfl (factOf [(103, .eq (.int .i64 (D : Int))), (104, .eq (.int .i64 (n : Int))), (105, .eq (.slice (some ⟨gb, 0, none⟩) m m)), (106, .eq (.bool true)), (107, .eq (.bool false)), (108, .eq (.bool false)), (109, .eq (.int .i64 (D : Int))), (110, .eq (.int .i64 (n : Int))), (111, .eq (.slice (some ⟨gb, 0, none⟩) m m)), (112, .rd .u8 ([0])), (113, .rd .u8 (bs ++ [0])), (114, .eq (.bool true)), (115, .eq (.bool false)), (116, .eq (.bool false)), (117, .eq (.bool false)), (118, .eq (.slice (some ⟨gb, 0, none⟩) m m)), (119, .eq (.int .i64 (m : Int))), (120, .eq (.bool true)), (121, .eq (.bool true)), (122, .eq (.int .i64 (D : Int))), (123, .eq (.int .i64 (n : Int))), (124, .eq (.slice (some ⟨gb, 0, none⟩) m m)), (125, .rd .u8 (bs.drop 1)), (126, .eq (.bool true)), (127, .eq (.bool false)), (128, .eq (.bool false)), (129, .eq (.bool false)), (130, .eq (.bool false)), (131, .eq (.slice (some ⟨gb, 0, none⟩) m m)), (132, .eq (.int .i64 (m : Int))), (133, .eq (.bool true)), (134, .eq (.bool true)), (135, .eq (.int .i64 (D : Int))), (136, .eq (.int .i64 (n : Int))), (137, .eq (.slice (some ⟨gb, 0, none⟩) m m)), (138, .eq (.slice (some ⟨gb, 0, none⟩) m m)), (139, .eq (.int .i64 (m : Int))), (140, .eq (.int .i64 (m1 : Int))), (141, .eq (.slice (some ⟨gb, 0, none⟩) m m)), (142, .eq (.int .i64 (m : Int))), (143, .eq (.int .i64 (m1 : Int))), (144, .eq (.slice (some ⟨gb, 0, none⟩) m1 m1)), (145, .eq (.slice (some ⟨gb, 0, none⟩) m m)), (146, .eq (.slice (some ⟨gb, 0, none⟩) m m)), (147, .eq (.int .i64 (m : Int))), (148, .eq (.int .i64 (m1 : Int))), (149, .eq (.pointer (some ⟨gb, m1, none⟩))), (150, .eq (.int .u8 y)), (151, .eq (.int .u8 (bits .or .u8 y 128))), (152, .rd .u8 ([bits .or .u8 y 128])), (153, .rd .u8 (bs.take m1 ++ [bits .or .u8 y 128])), (154, .eq (.int .i64 (n : Int))), (155, .eq (.bool true)), (156, .eq (.bool false)), (157, .eq (.bool false)), (158, .eq (.bool false))]) (factOf_stable _) _ (fun x => by simp only [fillL, Nat.reduceAdd, Nat.reduceEqDiff, ↓reduceIte]; rfl) ?_ ?_
                    · refine ⟨?_, ?_, ?_, ?_, ?_, ?_, ?_, ?_, ?_, ?_, ?_, ?_, ?_, ?_, ?_, ?_, ?_, ?_, ?_, ?_, ?_, ?_, ?_, ?_, ?_, ?_, ?_, ?_, ?_, ?_, ?_, ?_, ?_, ?_, ?_, ?_, ?_, ?_, ?_, ?_, ?_, ?_, ?_, ?_, ?_, ?_, ?_, ?_, ?_, ?_, ?_, ?_, ?_, ?_, ?_, ?_, trivial⟩
                      · intro x w' a hk hd ev  -- 103 = Op.move (Operand.tmp 1)
                        have e1 : a.tmps[1]?.getD undef = .int .i64 (D : Int) := ev.old 1 rfl
                        refine stepF_un rfl (fun K hK => ?_)
                        exact stepF_val _ hK (run_move rfl e1 _) rfl
                      · intro x w' a hk hd ev  -- 104 = Op.move (Operand.tmp 6)
                        have e6 : a.tmps[6]?.getD undef = .int .i64 (n : Int) := ev.old 6 rfl
                        refine stepF_un rfl (fun K hK => ?_)
                        exact stepF_val _ hK (run_move rfl e6 _) rfl
                      · intro x w' a hk hd ev  -- 105 = Op.move (Operand.tmp 9)
                        have e9 : a.tmps[9]?.getD undef = .slice (some ⟨gb, 0, none⟩) m m := ev.old 9 rfl
                        refine stepF_un rfl (fun K hK => ?_)
                        exact stepF_val _ hK (run_move rfl e9 _) rfl
                      · intro x w' a hk hd ev  -- 106 = Op.call { callee := Callee.value (Operand.func 5), args := #
                        have h103 : x 103 = .int .i64 (D : Int) := hd.1
                        have e103 : a.tmps[103]?.getD undef = .int .i64 (D : Int) := (ev.new 103 rfl).trans h103
                        have h104 : x 104 = .int .i64 (n : Int) := hd.2.1
                        have e104 : a.tmps[104]?.getD undef = .int .i64 (n : Int) := (ev.new 104 rfl).trans h104
                        have h105 : x 105 = .slice (some ⟨gb, 0, none⟩) m m := hd.2.2.1
                        have e105 : a.tmps[105]?.getD undef = .slice (some ⟨gb, 0, none⟩) m m := (ev.new 105 rfl).trans h105
                        refine stepF_un rfl (fun K hK => ?_)
                        go_simp
                        refine (reads_int (D : Int) n 0 _ m m _ bs _ ((HBB.out.kp0 hk).rd (HBB.out.kp0 hk).lt) HBL.out HBV.out).mono ?_
                        rintro e w1 ⟨rfl, hk1⟩
                        exact hK _ _ rfl hk1
                      · intro x w' a hk hd ev  -- 107 = Op.unOp UnOp.not 4 (Operand.tmp 106)
                        have h106 : x 106 = .bool true := hd.1
                        have e106 : a.tmps[106]?.getD undef = .bool true := (ev.new 106 rfl).trans h106
                        refine stepF_un rfl (fun K hK => ?_)
                        go_simp
                        exact hK _ _ rfl (Kp.refl _ _)
                      · intro x w' a hk hd ev  -- 108 = Op.move (Operand.tmp 107)
                        have h107 : x 107 = .bool false := hd.1
                        have e107 : a.tmps[107]?.getD undef = .bool false := (ev.new 107 rfl).trans h107
                        refine stepF_un rfl (fun K hK => ?_)
                        exact stepF_val _ hK (run_move rfl e107 _) rfl
                      · intro x w' a hk hd ev  -- 109 = Op.move (Operand.tmp 1)
                        have h108 : x 108 = .bool false := hd.1
                        have e108 : a.tmps[108]?.getD undef = .bool false := (ev.new 108 rfl).trans h108
                        have e1 : a.tmps[1]?.getD undef = .int .i64 (D : Int) := ev.old 1 rfl
                        refine stepF_yes (i := 5) (g := 108) (b := false) rfl rfl rfl e108 (fun K hK => ?_)
                        exact stepF_val _ hK (run_move rfl e1 _) rfl
                      · intro x w' a hk hd ev  -- 110 = Op.move (Operand.tmp 6)
                        have h108 : x 108 = .bool false := hd.1
                        have e108 : a.tmps[108]?.getD undef = .bool false := (ev.new 108 rfl).trans h108
                        have e6 : a.tmps[6]?.getD undef = .int .i64 (n : Int) := ev.old 6 rfl
                        refine stepF_yes (i := 5) (g := 108) (b := false) rfl rfl rfl e108 (fun K hK => ?_)
                        exact stepF_val _ hK (run_move rfl e6 _) rfl
                      · intro x w' a hk hd ev  -- 111 = Op.move (Operand.tmp 9)
                        have h108 : x 108 = .bool false := hd.1
                        have e108 : a.tmps[108]?.getD undef = .bool false := (ev.new 108 rfl).trans h108
                        have e9 : a.tmps[9]?.getD undef = .slice (some ⟨gb, 0, none⟩) m m := ev.old 9 rfl
                        refine stepF_yes (i := 5) (g := 108) (b := false) rfl rfl rfl e108 (fun K hK => ?_)
                        exact stepF_val _ hK (run_move rfl e9 _) rfl
                      · intro x w' a hk hd ev  -- 112 = Op.buildSlice 43 1 #[(0, Operand.const (Value.int IntKind.u8
                        have h108 : x 108 = .bool false := hd.1
                        have e108 : a.tmps[108]?.getD undef = .bool false := (ev.new 108 rfl).trans h108
                        refine stepF_yes (i := 5) (g := 108) (b := false) rfl rfl rfl e108 (fun K hK => ?_)
                        go_simp
                        exact hK _ _ (IsRd.new w' .u8 [0] 5 1 rfl) ((Kp.refl _ _).alloc _)
                      · intro x w' a hk hd ev  -- 113 = Op.call { callee := Callee.builtin Builtin.append, args := #
                        have h111 : x 111 = .slice (some ⟨gb, 0, none⟩) m m := hd.1
                        have e111 : a.tmps[111]?.getD undef = .slice (some ⟨gb, 0, none⟩) m m := (ev.new 111 rfl).trans h111
                        have h112 : IsRd .u8 ([0]) (x 112) w' := hd.2.1
                        obtain ⟨A112, c112, v112, hc112, hr112⟩ := h112.len (n := 1) rfl
                        have e112 : a.tmps[112]?.getD undef = .slice A112 (1) c112 := (ev.new 112 rfl).trans v112
                        have h108 : x 108 = .bool false := hd.2.2.1
                        have e108 : a.tmps[108]?.getD undef = .bool false := (ev.new 108 rfl).trans h108
                        refine stepF_yes (i := 5) (g := 108) (b := false) rfl rfl rfl e108 (fun K hK => ?_)
                        obtain ⟨ad112, rfl⟩ := (show ∃ ad, A112 = some ad from by obtain ⟨ad, h, _⟩ := hr112.at_ (i := 0) rfl; exact ⟨ad, h⟩)
                        exact wp_append_grow_rd hK 111 112 43 rfl .u8 5 i1 (.int .u8 0) 1 Try.underlying43 hu hu0 hu1 hu2 rfl _ m m _ _ bs e111 (fun h => by cases h) HBL.out ((HBB.out.kp0 hk).rd (HBB.out.kp0 hk).lt) ad112 1 c112 [0] e112 rfl hr112 (by omega) (by unfold maxLen; omega) (by omega) (fun v' w'' h _ => h)
                      · intro x w' a hk hd ev  -- 114 = Op.call { callee := Callee.value (Operand.func 5), args := #
                        have h109 : x 109 = .int .i64 (D : Int) := hd.1
                        have e109 : a.tmps[109]?.getD undef = .int .i64 (D : Int) := (ev.new 109 rfl).trans h109
                        have h110 : x 110 = .int .i64 (n : Int) := hd.2.1
                        have e110 : a.tmps[110]?.getD undef = .int .i64 (n : Int) := (ev.new 110 rfl).trans h110
                        have h113 : IsRd .u8 (bs ++ [0]) (x 113) w' := hd.2.2.1
                        obtain ⟨A113, c113, v113, hc113, hr113⟩ := h113.len (n := m + 1) (by rw [List.length_append, HBL.out]; rfl)
                        have e113 : a.tmps[113]?.getD undef = .slice A113 (m + 1) c113 := (ev.new 113 rfl).trans v113
                        have h108 : x 108 = .bool false := hd.2.2.2.1
                        have e108 : a.tmps[108]?.getD undef = .bool false := (ev.new 108 rfl).trans h108
                        refine stepF_yes (i := 5) (g := 108) (b := false) rfl rfl rfl e108 (fun K hK => ?_)
                        go_simp
                        refine (reads_int (D : Int) n 0 _ (m + 1) _ _ (bs ++ [0]) _ hr113 (by rw [List.length_append, HBL.out]; rfl) (fun z hz => by rcases List.mem_append.1 hz with h | h; exact HBV.out z h; (simp at h; omega))).mono ?_
                        rintro e w1 ⟨rfl, hk1⟩
                        exact hK _ _ rfl hk1
                      · intro x w' a hk hd ev  -- 115 = Op.unOp UnOp.not 4 (Operand.tmp 114)
                        have h114 : x 114 = .bool true := hd.1
                        have e114 : a.tmps[114]?.getD undef = .bool true := (ev.new 114 rfl).trans h114
                        have h108 : x 108 = .bool false := hd.2.1
                        have e108 : a.tmps[108]?.getD undef = .bool false := (ev.new 108 rfl).trans h108
                        refine stepF_yes (i := 5) (g := 108) (b := false) rfl rfl rfl e108 (fun K hK => ?_)
                        go_simp
                        exact hK _ _ rfl (Kp.refl _ _)
                      · intro x w' a hk hd ev  -- 116 = Op.pick (Operand.tmp 108) (Operand.const (Value.bool true)) 
                        have h108 : x 108 = .bool false := hd.1
                        have e108 : a.tmps[108]?.getD undef = .bool false := (ev.new 108 rfl).trans h108
                        have h115 : x 115 = .bool false := hd.2.1
                        have e115 : a.tmps[115]?.getD undef = .bool false := (ev.new 115 rfl).trans h115
                        refine stepF_un rfl (fun K hK => ?_)
                        go_simp
                        exact hK _ _ rfl (Kp.refl _ _)
                      · intro x w' a hk hd ev  -- 117 = Op.move (Operand.tmp 116)
                        have h116 : x 116 = .bool false := hd.1
                        have e116 : a.tmps[116]?.getD undef = .bool false := (ev.new 116 rfl).trans h116
                        refine stepF_un rfl (fun K hK => ?_)
                        exact stepF_val _ hK (run_move rfl e116 _) rfl
                      · intro x w' a hk hd ev  -- 118 = Op.move (Operand.tmp 9)
                        have h117 : x 117 = .bool false := hd.1
                        have e117 : a.tmps[117]?.getD undef = .bool false := (ev.new 117 rfl).trans h117
                        have e9 : a.tmps[9]?.getD undef = .slice (some ⟨gb, 0, none⟩) m m := ev.old 9 rfl
                        refine stepF_yes (i := 14) (g := 117) (b := false) rfl rfl rfl e117 (fun K hK => ?_)
                        exact stepF_val _ hK (run_move rfl e9 _) rfl
                      · intro x w' a hk hd ev  -- 119 = Op.call { callee := Callee.builtin Builtin.len, args := #[Op
                        have h118 : x 118 = .slice (some ⟨gb, 0, none⟩) m m := hd.1
                        have e118 : a.tmps[118]?.getD undef = .slice (some ⟨gb, 0, none⟩) m m := (ev.new 118 rfl).trans h118
                        have h117 : x 117 = .bool false := hd.2.1
                        have e117 : a.tmps[117]?.getD undef = .bool false := (ev.new 117 rfl).trans h117
                        refine stepF_yes (i := 14) (g := 117) (b := false) rfl rfl rfl e117 (fun K hK => ?_)
                        go_simp
                        exact hK _ _ rfl (Kp.refl _ _)
                      · intro x w' a hk hd ev  -- 120 = Op.binOp BinOp.gtr 3 (Operand.tmp 119) (Operand.const (Value
                        have h119 : x 119 = .int .i64 (m : Int) := hd.1
                        have e119 : a.tmps[119]?.getD undef = .int .i64 (m : Int) := (ev.new 119 rfl).trans h119
                        have h117 : x 117 = .bool false := hd.2.1
                        have e117 : a.tmps[117]?.getD undef = .bool false := (ev.new 117 rfl).trans h117
                        refine stepF_yes (i := 14) (g := 117) (b := false) rfl rfl rfl e117 (fun K hK => ?_)
                        go_simp
                        exact hK _ _ rfl (Kp.refl _ _)
                      · intro x w' a hk hd ev  -- 121 = Op.move (Operand.tmp 120)
                        have h120 : x 120 = .bool true := hd.1
                        have e120 : a.tmps[120]?.getD undef = .bool true := (ev.new 120 rfl).trans h120
                        have h117 : x 117 = .bool false := hd.2.1
                        have e117 : a.tmps[117]?.getD undef = .bool false := (ev.new 117 rfl).trans h117
                        refine stepF_yes (i := 14) (g := 117) (b := false) rfl rfl rfl e117 (fun K hK => ?_)
                        exact stepF_val _ hK (run_move rfl e120 _) rfl
                      · intro x w' a hk hd ev  -- 122 = Op.move (Operand.tmp 1)
                        have h121 : x 121 = .bool true := hd.1
                        have e121 : a.tmps[121]?.getD undef = .bool true := (ev.new 121 rfl).trans h121
                        have e1 : a.tmps[1]?.getD undef = .int .i64 (D : Int) := ev.old 1 rfl
                        refine stepF_yes (i := 18) (g := 121) (b := true) rfl rfl rfl e121 (fun K hK => ?_)
                        exact stepF_val _ hK (run_move rfl e1 _) rfl
                      · intro x w' a hk hd ev  -- 123 = Op.move (Operand.tmp 6)
                        have h121 : x 121 = .bool true := hd.1
                        have e121 : a.tmps[121]?.getD undef = .bool true := (ev.new 121 rfl).trans h121
                        have e6 : a.tmps[6]?.getD undef = .int .i64 (n : Int) := ev.old 6 rfl
                        refine stepF_yes (i := 18) (g := 121) (b := true) rfl rfl rfl e121 (fun K hK => ?_)
                        exact stepF_val _ hK (run_move rfl e6 _) rfl
                      · intro x w' a hk hd ev  -- 124 = Op.move (Operand.tmp 9)
                        have h121 : x 121 = .bool true := hd.1
                        have e121 : a.tmps[121]?.getD undef = .bool true := (ev.new 121 rfl).trans h121
                        have e9 : a.tmps[9]?.getD undef = .slice (some ⟨gb, 0, none⟩) m m := ev.old 9 rfl
                        refine stepF_yes (i := 18) (g := 121) (b := true) rfl rfl rfl e121 (fun K hK => ?_)
                        exact stepF_val _ hK (run_move rfl e9 _) rfl
                      · intro x w' a hk hd ev  -- 125 = Op.slice 43 (Operand.tmp 124) (some (Operand.const (Value.in
                        have h124 : x 124 = .slice (some ⟨gb, 0, none⟩) m m := hd.1
                        have e124 : a.tmps[124]?.getD undef = .slice (some ⟨gb, 0, none⟩) m m := (ev.new 124 rfl).trans h124
                        have h121 : x 121 = .bool true := hd.2.1
                        have e121 : a.tmps[121]?.getD undef = .bool true := (ev.new 121 rfl).trans h121
                        refine stepF_yes (i := 18) (g := 121) (b := true) rfl rfl rfl e121 (fun K hK => ?_)
                        have hle1 : (1 : Int) ≤ (m : Int) := by omega
                        have hml : m - 1 = m1 := by have := HM1.out; omega
                        go_simp
                        exact hK _ _ (IsRd.tail8 (HBB.out.kp0 hk) HBL.out HM1.out) (Kp.refl _ _)
                      · intro x w' a hk hd ev  -- 126 = Op.call { callee := Callee.value (Operand.func 5), args := #
                        have h122 : x 122 = .int .i64 (D : Int) := hd.1
                        have e122 : a.tmps[122]?.getD undef = .int .i64 (D : Int) := (ev.new 122 rfl).trans h122
                        have h123 : x 123 = .int .i64 (n : Int) := hd.2.1
                        have e123 : a.tmps[123]?.getD undef = .int .i64 (n : Int) := (ev.new 123 rfl).trans h123
                        have h125 : IsRd .u8 (bs.drop 1) (x 125) w' := hd.2.2.1
                        obtain ⟨A125, c125, v125, hc125, hr125⟩ := h125.len (n := m1) (by rw [List.length_drop, HBL.out]; have := HM1.out; omega)
                        have e125 : a.tmps[125]?.getD undef = .slice A125 (m1) c125 := (ev.new 125 rfl).trans v125
                        have h121 : x 121 = .bool true := hd.2.2.2.1
                        have e121 : a.tmps[121]?.getD undef = .bool true := (ev.new 121 rfl).trans h121
                        refine stepF_yes (i := 18) (g := 121) (b := true) rfl rfl rfl e121 (fun K hK => ?_)
                        go_simp
                        refine (reads_int (D : Int) n 0 _ m1 _ _ (bs.drop 1) _ hr125 (by rw [List.length_drop, HBL.out]; have := HM1.out; omega) (fun z hz => HBV.out z (List.mem_of_mem_drop hz))).mono ?_
                        rintro e w1 ⟨rfl, hk1⟩
                        exact hK _ _ rfl hk1
                      · intro x w' a hk hd ev  -- 127 = Op.unOp UnOp.not 4 (Operand.tmp 126)
                        have h126 : x 126 = .bool true := hd.1
                        have e126 : a.tmps[126]?.getD undef = .bool true := (ev.new 126 rfl).trans h126
                        have h121 : x 121 = .bool true := hd.2.1
                        have e121 : a.tmps[121]?.getD undef = .bool true := (ev.new 121 rfl).trans h121
                        refine stepF_yes (i := 18) (g := 121) (b := true) rfl rfl rfl e121 (fun K hK => ?_)
                        go_simp
                        exact hK _ _ rfl (Kp.refl _ _)
                      · intro x w' a hk hd ev  -- 128 = Op.pick (Operand.tmp 121) (Operand.tmp 127) (Operand.const (
                        have h121 : x 121 = .bool true := hd.1
                        have e121 : a.tmps[121]?.getD undef = .bool true := (ev.new 121 rfl).trans h121
                        have h127 : x 127 = .bool false := hd.2.1
                        have e127 : a.tmps[127]?.getD undef = .bool false := (ev.new 127 rfl).trans h127
                        have h117 : x 117 = .bool false := hd.2.2.1
                        have e117 : a.tmps[117]?.getD undef = .bool false := (ev.new 117 rfl).trans h117
                        refine stepF_yes (i := 14) (g := 117) (b := false) rfl rfl rfl e117 (fun K hK => ?_)
                        go_simp
                        exact hK _ _ rfl (Kp.refl _ _)
                      · intro x w' a hk hd ev  -- 129 = Op.pick (Operand.tmp 117) (Operand.const (Value.bool true)) 
                        have h117 : x 117 = .bool false := hd.1
                        have e117 : a.tmps[117]?.getD undef = .bool false := (ev.new 117 rfl).trans h117
                        have h128 : x 128 = .bool false := hd.2.1
                        have e128 : a.tmps[128]?.getD undef = .bool false := (ev.new 128 rfl).trans h128
                        refine stepF_un rfl (fun K hK => ?_)
                        go_simp
                        exact hK _ _ rfl (Kp.refl _ _)
                      · intro x w' a hk hd ev  -- 130 = Op.move (Operand.tmp 129)
                        have h129 : x 129 = .bool false := hd.1
                        have e129 : a.tmps[129]?.getD undef = .bool false := (ev.new 129 rfl).trans h129
                        refine stepF_un rfl (fun K hK => ?_)
                        exact stepF_val _ hK (run_move rfl e129 _) rfl
                      · intro x w' a hk hd ev  -- 131 = Op.move (Operand.tmp 9)
                        have h130 : x 130 = .bool false := hd.1
                        have e130 : a.tmps[130]?.getD undef = .bool false := (ev.new 130 rfl).trans h130
                        have e9 : a.tmps[9]?.getD undef = .slice (some ⟨gb, 0, none⟩) m m := ev.old 9 rfl
                        refine stepF_yes (i := 27) (g := 130) (b := false) rfl rfl rfl e130 (fun K hK => ?_)
                        exact stepF_val _ hK (run_move rfl e9 _) rfl
                      · intro x w' a hk hd ev  -- 132 = Op.call { callee := Callee.builtin Builtin.len, args := #[Op
                        have h131 : x 131 = .slice (some ⟨gb, 0, none⟩) m m := hd.1
                        have e131 : a.tmps[131]?.getD undef = .slice (some ⟨gb, 0, none⟩) m m := (ev.new 131 rfl).trans h131
                        have h130 : x 130 = .bool false := hd.2.1
                        have e130 : a.tmps[130]?.getD undef = .bool false := (ev.new 130 rfl).trans h130
                        refine stepF_yes (i := 27) (g := 130) (b := false) rfl rfl rfl e130 (fun K hK => ?_)
                        go_simp
                        exact hK _ _ rfl (Kp.refl _ _)
                      · intro x w' a hk hd ev  -- 133 = Op.binOp BinOp.gtr 3 (Operand.tmp 132) (Operand.const (Value
                        have h132 : x 132 = .int .i64 (m : Int) := hd.1
                        have e132 : a.tmps[132]?.getD undef = .int .i64 (m : Int) := (ev.new 132 rfl).trans h132
                        have h130 : x 130 = .bool false := hd.2.1
                        have e130 : a.tmps[130]?.getD undef = .bool false := (ev.new 130 rfl).trans h130
                        refine stepF_yes (i := 27) (g := 130) (b := false) rfl rfl rfl e130 (fun K hK => ?_)
                        go_simp
                        exact hK _ _ rfl (Kp.refl _ _)
                      · intro x w' a hk hd ev  -- 134 = Op.move (Operand.tmp 133)
                        have h133 : x 133 = .bool true := hd.1
                        have e133 : a.tmps[133]?.getD undef = .bool true := (ev.new 133 rfl).trans h133
                        have h130 : x 130 = .bool false := hd.2.1
                        have e130 : a.tmps[130]?.getD undef = .bool false := (ev.new 130 rfl).trans h130
                        refine stepF_yes (i := 27) (g := 130) (b := false) rfl rfl rfl e130 (fun K hK => ?_)
                        exact stepF_val _ hK (run_move rfl e133 _) rfl
                      · intro x w' a hk hd ev  -- 135 = Op.move (Operand.tmp 1)
                        have h134 : x 134 = .bool true := hd.1
                        have e134 : a.tmps[134]?.getD undef = .bool true := (ev.new 134 rfl).trans h134
                        have e1 : a.tmps[1]?.getD undef = .int .i64 (D : Int) := ev.old 1 rfl
                        refine stepF_yes (i := 31) (g := 134) (b := true) rfl rfl rfl e134 (fun K hK => ?_)
                        exact stepF_val _ hK (run_move rfl e1 _) rfl
                      · intro x w' a hk hd ev  -- 136 = Op.move (Operand.tmp 6)
                        have h134 : x 134 = .bool true := hd.1
                        have e134 : a.tmps[134]?.getD undef = .bool true := (ev.new 134 rfl).trans h134
                        have e6 : a.tmps[6]?.getD undef = .int .i64 (n : Int) := ev.old 6 rfl
                        refine stepF_yes (i := 31) (g := 134) (b := true) rfl rfl rfl e134 (fun K hK => ?_)
                        exact stepF_val _ hK (run_move rfl e6 _) rfl
                      · intro x w' a hk hd ev  -- 137 = Op.move (Operand.tmp 9)
                        have h134 : x 134 = .bool true := hd.1
                        have e134 : a.tmps[134]?.getD undef = .bool true := (ev.new 134 rfl).trans h134
                        have e9 : a.tmps[9]?.getD undef = .slice (some ⟨gb, 0, none⟩) m m := ev.old 9 rfl
                        refine stepF_yes (i := 31) (g := 134) (b := true) rfl rfl rfl e134 (fun K hK => ?_)
                        exact stepF_val _ hK (run_move rfl e9 _) rfl
                      · intro x w' a hk hd ev  -- 138 = Op.move (Operand.tmp 9)
                        have h134 : x 134 = .bool true := hd.1
                        have e134 : a.tmps[134]?.getD undef = .bool true := (ev.new 134 rfl).trans h134
                        have e9 : a.tmps[9]?.getD undef = .slice (some ⟨gb, 0, none⟩) m m := ev.old 9 rfl
                        refine stepF_yes (i := 31) (g := 134) (b := true) rfl rfl rfl e134 (fun K hK => ?_)
                        exact stepF_val _ hK (run_move rfl e9 _) rfl
                      · intro x w' a hk hd ev  -- 139 = Op.call { callee := Callee.builtin Builtin.len, args := #[Op
                        have h138 : x 138 = .slice (some ⟨gb, 0, none⟩) m m := hd.1
                        have e138 : a.tmps[138]?.getD undef = .slice (some ⟨gb, 0, none⟩) m m := (ev.new 138 rfl).trans h138
                        have h134 : x 134 = .bool true := hd.2.1
                        have e134 : a.tmps[134]?.getD undef = .bool true := (ev.new 134 rfl).trans h134
                        refine stepF_yes (i := 31) (g := 134) (b := true) rfl rfl rfl e134 (fun K hK => ?_)
                        go_simp
                        exact hK _ _ rfl (Kp.refl _ _)
                      · intro x w' a hk hd ev  -- 140 = Op.binOp BinOp.sub 3 (Operand.tmp 139) (Operand.const (Value
                        have h139 : x 139 = .int .i64 (m : Int) := hd.1
                        have e139 : a.tmps[139]?.getD undef = .int .i64 (m : Int) := (ev.new 139 rfl).trans h139
                        have h134 : x 134 = .bool true := hd.2.1
                        have e134 : a.tmps[134]?.getD undef = .bool true := (ev.new 134 rfl).trans h134
                        refine stepF_yes (i := 31) (g := 134) (b := true) rfl rfl rfl e134 (fun K hK => ?_)
                        go_simp
                        exact hK _ _ rfl (Kp.refl _ _)
                      · intro x w' a hk hd ev  -- 141 = Op.move (Operand.tmp 9)
                        have h134 : x 134 = .bool true := hd.1
                        have e134 : a.tmps[134]?.getD undef = .bool true := (ev.new 134 rfl).trans h134
                        have e9 : a.tmps[9]?.getD undef = .slice (some ⟨gb, 0, none⟩) m m := ev.old 9 rfl
                        refine stepF_yes (i := 31) (g := 134) (b := true) rfl rfl rfl e134 (fun K hK => ?_)
                        exact stepF_val _ hK (run_move rfl e9 _) rfl
                      · intro x w' a hk hd ev  -- 142 = Op.call { callee := Callee.builtin Builtin.len, args := #[Op
                        have h141 : x 141 = .slice (some ⟨gb, 0, none⟩) m m := hd.1
                        have e141 : a.tmps[141]?.getD undef = .slice (some ⟨gb, 0, none⟩) m m := (ev.new 141 rfl).trans h141
                        have h134 : x 134 = .bool true := hd.2.1
                        have e134 : a.tmps[134]?.getD undef = .bool true := (ev.new 134 rfl).trans h134
                        refine stepF_yes (i := 31) (g := 134) (b := true) rfl rfl rfl e134 (fun K hK => ?_)
                        go_simp
                        exact hK _ _ rfl (Kp.refl _ _)
                      · intro x w' a hk hd ev  -- 143 = Op.binOp BinOp.sub 3 (Operand.tmp 142) (Operand.const (Value
                        have h142 : x 142 = .int .i64 (m : Int) := hd.1
                        have e142 : a.tmps[142]?.getD undef = .int .i64 (m : Int) := (ev.new 142 rfl).trans h142
                        have h134 : x 134 = .bool true := hd.2.1
                        have e134 : a.tmps[134]?.getD undef = .bool true := (ev.new 134 rfl).trans h134
                        refine stepF_yes (i := 31) (g := 134) (b := true) rfl rfl rfl e134 (fun K hK => ?_)
                        go_simp
                        exact hK _ _ rfl (Kp.refl _ _)
                      · intro x w' a hk hd ev  -- 144 = Op.slice 43 (Operand.tmp 137) none (some (Operand.tmp 140)) 
                        have h137 : x 137 = .slice (some ⟨gb, 0, none⟩) m m := hd.1
                        have e137 : a.tmps[137]?.getD undef = .slice (some ⟨gb, 0, none⟩) m m := (ev.new 137 rfl).trans h137
                        have h140 : x 140 = .int .i64 (m1 : Int) := hd.2.1
                        have e140 : a.tmps[140]?.getD undef = .int .i64 (m1 : Int) := (ev.new 140 rfl).trans h140
                        have h143 : x 143 = .int .i64 (m1 : Int) := hd.2.2.1
                        have e143 : a.tmps[143]?.getD undef = .int .i64 (m1 : Int) := (ev.new 143 rfl).trans h143
                        have h134 : x 134 = .bool true := hd.2.2.2.1
                        have e134 : a.tmps[134]?.getD undef = .bool true := (ev.new 134 rfl).trans h134
                        refine stepF_yes (i := 31) (g := 134) (b := true) rfl rfl rfl e134 (fun K hK => ?_)
                        have hle1 : m1 ≤ m := by omega
                        go_simp
                        exact hK _ _ rfl (Kp.refl _ _)
                      · intro x w' a hk hd ev  -- 145 = Op.move (Operand.tmp 9)
                        have h134 : x 134 = .bool true := hd.1
                        have e134 : a.tmps[134]?.getD undef = .bool true := (ev.new 134 rfl).trans h134
                        have e9 : a.tmps[9]?.getD undef = .slice (some ⟨gb, 0, none⟩) m m := ev.old 9 rfl
                        refine stepF_yes (i := 31) (g := 134) (b := true) rfl rfl rfl e134 (fun K hK => ?_)
                        exact stepF_val _ hK (run_move rfl e9 _) rfl
                      · intro x w' a hk hd ev  -- 146 = Op.move (Operand.tmp 9)
                        have h134 : x 134 = .bool true := hd.1
                        have e134 : a.tmps[134]?.getD undef = .bool true := (ev.new 134 rfl).trans h134
                        have e9 : a.tmps[9]?.getD undef = .slice (some ⟨gb, 0, none⟩) m m := ev.old 9 rfl
                        refine stepF_yes (i := 31) (g := 134) (b := true) rfl rfl rfl e134 (fun K hK => ?_)
                        exact stepF_val _ hK (run_move rfl e9 _) rfl
                      · intro x w' a hk hd ev  -- 147 = Op.call { callee := Callee.builtin Builtin.len, args := #[Op
                        have h146 : x 146 = .slice (some ⟨gb, 0, none⟩) m m := hd.1
                        have e146 : a.tmps[146]?.getD undef = .slice (some ⟨gb, 0, none⟩) m m := (ev.new 146 rfl).trans h146
                        have h134 : x 134 = .bool true := hd.2.1
                        have e134 : a.tmps[134]?.getD undef = .bool true := (ev.new 134 rfl).trans h134
                        refine stepF_yes (i := 31) (g := 134) (b := true) rfl rfl rfl e134 (fun K hK => ?_)
                        go_simp
                        exact hK _ _ rfl (Kp.refl _ _)
                      · intro x w' a hk hd ev  -- 148 = Op.binOp BinOp.sub 3 (Operand.tmp 147) (Operand.const (Value
                        have h147 : x 147 = .int .i64 (m : Int) := hd.1
                        have e147 : a.tmps[147]?.getD undef = .int .i64 (m : Int) := (ev.new 147 rfl).trans h147
                        have h134 : x 134 = .bool true := hd.2.1
                        have e134 : a.tmps[134]?.getD undef = .bool true := (ev.new 134 rfl).trans h134
                        refine stepF_yes (i := 31) (g := 134) (b := true) rfl rfl rfl e134 (fun K hK => ?_)
                        go_simp
                        exact hK _ _ rfl (Kp.refl _ _)
                      · intro x w' a hk hd ev  -- 149 = Op.indexAddr 43 (Operand.tmp 145) (Operand.tmp 148)
                        have h145 : x 145 = .slice (some ⟨gb, 0, none⟩) m m := hd.1
                        have e145 : a.tmps[145]?.getD undef = .slice (some ⟨gb, 0, none⟩) m m := (ev.new 145 rfl).trans h145
                        have h148 : x 148 = .int .i64 (m1 : Int) := hd.2.1
                        have e148 : a.tmps[148]?.getD undef = .int .i64 (m1 : Int) := (ev.new 148 rfl).trans h148
                        have h134 : x 134 = .bool true := hd.2.2.1
                        have e134 : a.tmps[134]?.getD undef = .bool true := (ev.new 134 rfl).trans h134
                        refine stepF_yes (i := 31) (g := 134) (b := true) rfl rfl rfl e134 (fun K hK => ?_)
                        have hi0 : (0 : Int) ≤ (m1 : Int) := by omega
                        have hi2 : (m1 : Int) < (m : Int) := by omega
                        go_simp
                        exact hK _ _ rfl (Kp.refl _ _)
                      · intro x w' a hk hd ev  -- 150 = Op.load 5 (Operand.tmp 149)
                        have h149 : x 149 = .pointer (some ⟨gb, m1, none⟩) := hd.1
                        have e149 : a.tmps[149]?.getD undef = .pointer (some ⟨gb, m1, none⟩) := (ev.new 149 rfl).trans h149
                        have h134 : x 134 = .bool true := hd.2.1
                        have e134 : a.tmps[134]?.getD undef = .bool true := (ev.new 134 rfl).trans h134
                        refine stepF_yes (i := 31) (g := 134) (b := true) rfl rfl rfl e134 (fun K hK => ?_)
                        have cx := (HBB.out.kp0 hk).cell m1
                        rw [HYB.out] at cx
                        go_simp
                        exact hK _ _ rfl (Kp.refl _ _)
                      · intro x w' a hk hd ev  -- 151 = Op.binOp BinOp.or 5 (Operand.tmp 150) (Operand.const (Value.
                        have h150 : x 150 = .int .u8 y := hd.1
                        have e150 : a.tmps[150]?.getD undef = .int .u8 y := (ev.new 150 rfl).trans h150
                        have h134 : x 134 = .bool true := hd.2.1
                        have e134 : a.tmps[134]?.getD undef = .bool true := (ev.new 134 rfl).trans h134
                        refine stepF_yes (i := 31) (g := 134) (b := true) rfl rfl rfl e134 (fun K hK => ?_)
                        go_simp
                        exact hK _ _ rfl (Kp.refl _ _)
                      · intro x w' a hk hd ev  -- 152 = Op.buildSlice 43 1 #[(0, Operand.tmp 151)]
                        have h151 : x 151 = .int .u8 (bits .or .u8 y 128) := hd.1
                        have e151 : a.tmps[151]?.getD undef = .int .u8 (bits .or .u8 y 128) := (ev.new 151 rfl).trans h151
                        have h134 : x 134 = .bool true := hd.2.1
                        have e134 : a.tmps[134]?.getD undef = .bool true := (ev.new 134 rfl).trans h134
                        refine stepF_yes (i := 31) (g := 134) (b := true) rfl rfl rfl e134 (fun K hK => ?_)
                        go_simp
                        exact hK _ _ (IsRd.new w' .u8 [bits .or .u8 y 128] 5 1 rfl) ((Kp.refl _ _).alloc _)
                      · intro x w' a hk hd ev  -- 153 = Op.call { callee := Callee.builtin Builtin.append, args := #
                        have h144 : x 144 = .slice (some ⟨gb, 0, none⟩) m1 m1 := hd.1
                        have e144 : a.tmps[144]?.getD undef = .slice (some ⟨gb, 0, none⟩) m1 m1 := (ev.new 144 rfl).trans h144
                        have h152 : IsRd .u8 ([bits .or .u8 y 128]) (x 152) w' := hd.2.1
                        obtain ⟨A152, c152, v152, hc152, hr152⟩ := h152.len (n := 1) rfl
                        have e152 : a.tmps[152]?.getD undef = .slice A152 (1) c152 := (ev.new 152 rfl).trans v152
                        have h134 : x 134 = .bool true := hd.2.2.1
                        have e134 : a.tmps[134]?.getD undef = .bool true := (ev.new 134 rfl).trans h134
                        refine stepF_yes (i := 31) (g := 134) (b := true) rfl rfl rfl e134 (fun K hK => ?_)
                        obtain ⟨ad152, rfl⟩ := (show ∃ ad, A152 = some ad from by obtain ⟨ad, h, _⟩ := hr152.at_ (i := 0) rfl; exact ⟨ad, h⟩)
                        exact wp_append_grow_rd hK 144 152 43 rfl .u8 5 i1 (.int .u8 0) 1 Try.underlying43 hu hu0 hu1 hu2 rfl _ m1 m1 _ _ (bs.take m1) e144 (fun h => by cases h) (by rw [List.length_take, HBL.out]; omega) (by rw [List.map_take]; exact ((HBB.out.kp0 hk).rd (HBB.out.kp0 hk).lt).take m1) ad152 1 c152 [bits .or .u8 y 128] e152 rfl hr152 (by omega) (by unfold maxLen; omega) (by omega) (fun v' w'' h _ => h)
                      · intro x w' a hk hd ev  -- 154 = Op.move (Operand.tmp 6)
                        have h134 : x 134 = .bool true := hd.1
                        have e134 : a.tmps[134]?.getD undef = .bool true := (ev.new 134 rfl).trans h134
                        have e6 : a.tmps[6]?.getD undef = .int .i64 (n : Int) := ev.old 6 rfl
                        refine stepF_yes (i := 31) (g := 134) (b := true) rfl rfl rfl e134 (fun K hK => ?_)
                        exact stepF_val _ hK (run_move rfl e6 _) rfl
                      · intro x w' a hk hd ev  -- 155 = Op.call { callee := Callee.value (Operand.func 5), args := #
                        have h135 : x 135 = .int .i64 (D : Int) := hd.1
                        have e135 : a.tmps[135]?.getD undef = .int .i64 (D : Int) := (ev.new 135 rfl).trans h135
                        have h136 : x 136 = .int .i64 (n : Int) := hd.2.1
                        have e136 : a.tmps[136]?.getD undef = .int .i64 (n : Int) := (ev.new 136 rfl).trans h136
                        have h153 : IsRd .u8 (bs.take m1 ++ [bits .or .u8 y 128]) (x 153) w' := hd.2.2.1
                        obtain ⟨A153, c153, v153, hc153, hr153⟩ := h153.len (n := m) (by rw [List.length_append, List.length_take, HBL.out]; have := HM1.out; simp; omega)
                        have e153 : a.tmps[153]?.getD undef = .slice A153 (m) c153 := (ev.new 153 rfl).trans v153
                        have h154 : x 154 = .int .i64 (n : Int) := hd.2.2.2.1
                        have e154 : a.tmps[154]?.getD undef = .int .i64 (n : Int) := (ev.new 154 rfl).trans h154
                        have h134 : x 134 = .bool true := hd.2.2.2.2.1
                        have e134 : a.tmps[134]?.getD undef = .bool true := (ev.new 134 rfl).trans h134
                        refine stepF_yes (i := 31) (g := 134) (b := true) rfl rfl rfl e134 (fun K hK => ?_)
                        go_simp
                        refine (reads_int (D : Int) n n _ m _ _ (bs.take m1 ++ [bits .or .u8 y 128]) _ hr153 (by rw [List.length_append, List.length_take, HBL.out]; have := HM1.out; simp; omega) (fun z hz => by rcases List.mem_append.1 hz with h | h; exact HBV.out z (List.mem_of_mem_take h); (simp at h; subst h; exact byte_wf (Go.wf_bits _ _ _ _)))).mono ?_
                        rintro e w1 ⟨rfl, hk1⟩
                        exact hK _ _ rfl hk1
                      · intro x w' a hk hd ev  -- 156 = Op.unOp UnOp.not 4 (Operand.tmp 155)
                        have h155 : x 155 = .bool true := hd.1
                        have e155 : a.tmps[155]?.getD undef = .bool true := (ev.new 155 rfl).trans h155
                        have h134 : x 134 = .bool true := hd.2.1
                        have e134 : a.tmps[134]?.getD undef = .bool true := (ev.new 134 rfl).trans h134
                        refine stepF_yes (i := 31) (g := 134) (b := true) rfl rfl rfl e134 (fun K hK => ?_)
                        go_simp
                        exact hK _ _ rfl (Kp.refl _ _)
                      · intro x w' a hk hd ev  -- 157 = Op.pick (Operand.tmp 134) (Operand.tmp 156) (Operand.const (
                        have h134 : x 134 = .bool true := hd.1
                        have e134 : a.tmps[134]?.getD undef = .bool true := (ev.new 134 rfl).trans h134
                        have h156 : x 156 = .bool false := hd.2.1
                        have e156 : a.tmps[156]?.getD undef = .bool false := (ev.new 156 rfl).trans h156
                        have h130 : x 130 = .bool false := hd.2.2.1
                        have e130 : a.tmps[130]?.getD undef = .bool false := (ev.new 130 rfl).trans h130
                        refine stepF_yes (i := 27) (g := 130) (b := false) rfl rfl rfl e130 (fun K hK => ?_)
                        go_simp
                        exact hK _ _ rfl (Kp.refl _ _)
                      · intro x w' a hk hd ev  -- 158 = Op.pick (Operand.tmp 130) (Operand.const (Value.bool true)) 
                        have h130 : x 130 = .bool false := hd.1
                        have e130 : a.tmps[130]?.getD undef = .bool false := (ev.new 130 rfl).trans h130
                        have h157 : x 157 = .bool false := hd.2.1
                        have e157 : a.tmps[157]?.getD undef = .bool false := (ev.new 157 rfl).trans h157
                        refine stepF_un rfl (fun K hK => ?_)
                        go_simp
                        exact hK _ _ rfl (Kp.refl _ _)
                    · intro x w' hk hd
                      have h103 : x 103 = .int .i64 (D : Int) := hd.1
                      have h104 : x 104 = .int .i64 (n : Int) := hd.2.1
                      have h105 : x 105 = .slice (some ⟨gb, 0, none⟩) m m := hd.2.2.1
                      have h106 : x 106 = .bool true := hd.2.2.2.1
                      have h107 : x 107 = .bool false := hd.2.2.2.2.1
                      have h108 : x 108 = .bool false := hd.2.2.2.2.2.1
                      have h109 : x 109 = .int .i64 (D : Int) := hd.2.2.2.2.2.2.1
                      have h110 : x 110 = .int .i64 (n : Int) := hd.2.2.2.2.2.2.2.1
                      have h111 : x 111 = .slice (some ⟨gb, 0, none⟩) m m := hd.2.2.2.2.2.2.2.2.1
                      have h112 : IsRd .u8 ([0]) (x 112) w' := hd.2.2.2.2.2.2.2.2.2.1
                      have h113 : IsRd .u8 (bs ++ [0]) (x 113) w' := hd.2.2.2.2.2.2.2.2.2.2.1
                      have h114 : x 114 = .bool true := hd.2.2.2.2.2.2.2.2.2.2.2.1
                      have h115 : x 115 = .bool false := hd.2.2.2.2.2.2.2.2.2.2.2.2.1
                      have h116 : x 116 = .bool false := hd.2.2.2.2.2.2.2.2.2.2.2.2.2.1
                      have h117 : x 117 = .bool false := hd.2.2.2.2.2.2.2.2.2.2.2.2.2.2.1
                      have h118 : x 118 = .slice (some ⟨gb, 0, none⟩) m m := hd.2.2.2.2.2.2.2.2.2.2.2.2.2.2.2.1
                      have h119 : x 119 = .int .i64 (m : Int) := hd.2.2.2.2.2.2.2.2.2.2.2.2.2.2.2.2.1
                      have h120 : x 120 = .bool true := hd.2.2.2.2.2.2.2.2.2.2.2.2.2.2.2.2.2.1
                      have h121 : x 121 = .bool true := hd.2.2.2.2.2.2.2.2.2.2.2.2.2.2.2.2.2.2.1
                      have h122 : x 122 = .int .i64 (D : Int) := hd.2.2.2.2.2.2.2.2.2.2.2.2.2.2.2.2.2.2.2.1
                      have h123 : x 123 = .int .i64 (n : Int) := hd.2.2.2.2.2.2.2.2.2.2.2.2.2.2.2.2.2.2.2.2.1
                      have h124 : x 124 = .slice (some ⟨gb, 0, none⟩) m m := hd.2.2.2.2.2.2.2.2.2.2.2.2.2.2.2.2.2.2.2.2.2.1
                      have h125 : IsRd .u8 (bs.drop 1) (x 125) w' := hd.2.2.2.2.2.2.2.2.2.2.2.2.2.2.2.2.2.2.2.2.2.2.1
                      have h126 : x 126 = .bool true := hd.2.2.2.2.2.2.2.2.2.2.2.2.2.2.2.2.2.2.2.2.2.2.2.1
                      have h127 : x 127 = .bool false := hd.2.2.2.2.2.2.2.2.2.2.2.2.2.2.2.2.2.2.2.2.2.2.2.2.1
                      have h128 : x 128 = .bool false := hd.2.2.2.2.2.2.2.2.2.2.2.2.2.2.2.2.2.2.2.2.2.2.2.2.2.1
                      have h129 : x 129 = .bool false := hd.2.2.2.2.2.2.2.2.2.2.2.2.2.2.2.2.2.2.2.2.2.2.2.2.2.2.1
                      have h130 : x 130 = .bool false := hd.2.2.2.2.2.2.2.2.2.2.2.2.2.2.2.2.2.2.2.2.2.2.2.2.2.2.2.1
                      have h131 : x 131 = .slice (some ⟨gb, 0, none⟩) m m := hd.2.2.2.2.2.2.2.2.2.2.2.2.2.2.2.2.2.2.2.2.2.2.2.2.2.2.2.2.1
                      have h132 : x 132 = .int .i64 (m : Int) := hd.2.2.2.2.2.2.2.2.2.2.2.2.2.2.2.2.2.2.2.2.2.2.2.2.2.2.2.2.2.1
                      have h133 : x 133 = .bool true := hd.2.2.2.2.2.2.2.2.2.2.2.2.2.2.2.2.2.2.2.2.2.2.2.2.2.2.2.2.2.2.1
                      have h134 : x 134 = .bool true := hd.2.2.2.2.2.2.2.2.2.2.2.2.2.2.2.2.2.2.2.2.2.2.2.2.2.2.2.2.2.2.2.1
                      have h135 : x 135 = .int .i64 (D : Int) := hd.2.2.2.2.2.2.2.2.2.2.2.2.2.2.2.2.2.2.2.2.2.2.2.2.2.2.2.2.2.2.2.2.1
                      have h136 : x 136 = .int .i64 (n : Int) := hd.2.2.2.2.2.2.2.2.2.2.2.2.2.2.2.2.2.2.2.2.2.2.2.2.2.2.2.2.2.2.2.2.2.1
                      have h137 : x 137 = .slice (some ⟨gb, 0, none⟩) m m := hd.2.2.2.2.2.2.2.2.2.2.2.2.2.2.2.2.2.2.2.2.2.2.2.2.2.2.2.2.2.2.2.2.2.2.1
                      have h138 : x 138 = .slice (some ⟨gb, 0, none⟩) m m := hd.2.2.2.2.2.2.2.2.2.2.2.2.2.2.2.2.2.2.2.2.2.2.2.2.2.2.2.2.2.2.2.2.2.2.2.1
                      have h139 : x 139 = .int .i64 (m : Int) := hd.2.2.2.2.2.2.2.2.2.2.2.2.2.2.2.2.2.2.2.2.2.2.2.2.2.2.2.2.2.2.2.2.2.2.2.2.1
                      have h140 : x 140 = .int .i64 (m1 : Int) := hd.2.2.2.2.2.2.2.2.2.2.2.2.2.2.2.2.2.2.2.2.2.2.2.2.2.2.2.2.2.2.2.2.2.2.2.2.2.1
                      have h141 : x 141 = .slice (some ⟨gb, 0, none⟩) m m := hd.2.2.2.2.2.2.2.2.2.2.2.2.2.2.2.2.2.2.2.2.2.2.2.2.2.2.2.2.2.2.2.2.2.2.2.2.2.2.1
                      have h142 : x 142 = .int .i64 (m : Int) := hd.2.2.2.2.2.2.2.2.2.2.2.2.2.2.2.2.2.2.2.2.2.2.2.2.2.2.2.2.2.2.2.2.2.2.2.2.2.2.2.1
                      have h143 : x 143 = .int .i64 (m1 : Int) := hd.2.2.2.2.2.2.2.2.2.2.2.2.2.2.2.2.2.2.2.2.2.2.2.2.2.2.2.2.2.2.2.2.2.2.2.2.2.2.2.2.1
                      have h144 : x 144 = .slice (some ⟨gb, 0, none⟩) m1 m1 := hd.2.2.2.2.2.2.2.2.2.2.2.2.2.2.2.2.2.2.2.2.2.2.2.2.2.2.2.2.2.2.2.2.2.2.2.2.2.2.2.2.2.1
                      have h145 : x 145 = .slice (some ⟨gb, 0, none⟩) m m := hd.2.2.2.2.2.2.2.2.2.2.2.2.2.2.2.2.2.2.2.2.2.2.2.2.2.2.2.2.2.2.2.2.2.2.2.2.2.2.2.2.2.2.1
                      have h146 : x 146 = .slice (some ⟨gb, 0, none⟩) m m := hd.2.2.2.2.2.2.2.2.2.2.2.2.2.2.2.2.2.2.2.2.2.2.2.2.2.2.2.2.2.2.2.2.2.2.2.2.2.2.2.2.2.2.2.1
                      have h147 : x 147 = .int .i64 (m : Int) := hd.2.2.2.2.2.2.2.2.2.2.2.2.2.2.2.2.2.2.2.2.2.2.2.2.2.2.2.2.2.2.2.2.2.2.2.2.2.2.2.2.2.2.2.2.1
                      have h148 : x 148 = .int .i64 (m1 : Int) := hd.2.2.2.2.2.2.2.2.2.2.2.2.2.2.2.2.2.2.2.2.2.2.2.2.2.2.2.2.2.2.2.2.2.2.2.2.2.2.2.2.2.2.2.2.2.1
                      have h149 : x 149 = .pointer (some ⟨gb, m1, none⟩) := hd.2.2.2.2.2.2.2.2.2.2.2.2.2.2.2.2.2.2.2.2.2.2.2.2.2.2.2.2.2.2.2.2.2.2.2.2.2.2.2.2.2.2.2.2.2.2.1
                      have h150 : x 150 = .int .u8 y := hd.2.2.2.2.2.2.2.2.2.2.2.2.2.2.2.2.2.2.2.2.2.2.2.2.2.2.2.2.2.2.2.2.2.2.2.2.2.2.2.2.2.2.2.2.2.2.2.1
                      have h151 : x 151 = .int .u8 (bits .or .u8 y 128) := hd.2.2.2.2.2.2.2.2.2.2.2.2.2.2.2.2.2.2.2.2.2.2.2.2.2.2.2.2.2.2.2.2.2.2.2.2.2.2.2.2.2.2.2.2.2.2.2.2.1
                      have h152 : IsRd .u8 ([bits .or .u8 y 128]) (x 152) w' := hd.2.2.2.2.2.2.2.2.2.2.2.2.2.2.2.2.2.2.2.2.2.2.2.2.2.2.2.2.2.2.2.2.2.2.2.2.2.2.2.2.2.2.2.2.2.2.2.2.2.1
                      have h153 : IsRd .u8 (bs.take m1 ++ [bits .or .u8 y 128]) (x 153) w' := hd.2.2.2.2.2.2.2.2.2.2.2.2.2.2.2.2.2.2.2.2.2.2.2.2.2.2.2.2.2.2.2.2.2.2.2.2.2.2.2.2.2.2.2.2.2.2.2.2.2.2.1
                      have h154 : x 154 = .int .i64 (n : Int) := hd.2.2.2.2.2.2.2.2.2.2.2.2.2.2.2.2.2.2.2.2.2.2.2.2.2.2.2.2.2.2.2.2.2.2.2.2.2.2.2.2.2.2.2.2.2.2.2.2.2.2.2.1
                      have h155 : x 155 = .bool true := hd.2.2.2.2.2.2.2.2.2.2.2.2.2.2.2.2.2.2.2.2.2.2.2.2.2.2.2.2.2.2.2.2.2.2.2.2.2.2.2.2.2.2.2.2.2.2.2.2.2.2.2.2.1
                      have h156 : x 156 = .bool false := hd.2.2.2.2.2.2.2.2.2.2.2.2.2.2.2.2.2.2.2.2.2.2.2.2.2.2.2.2.2.2.2.2.2.2.2.2.2.2.2.2.2.2.2.2.2.2.2.2.2.2.2.2.2.1
                      have h157 : x 157 = .bool false := hd.2.2.2.2.2.2.2.2.2.2.2.2.2.2.2.2.2.2.2.2.2.2.2.2.2.2.2.2.2.2.2.2.2.2.2.2.2.2.2.2.2.2.2.2.2.2.2.2.2.2.2.2.2.2.1
                      have h158 : x 158 = .bool false := hd.2.2.2.2.2.2.2.2.2.2.2.2.2.2.2.2.2.2.2.2.2.2.2.2.2.2.2.2.2.2.2.2.2.2.2.2.2.2.2.2.2.2.2.2.2.2.2.2.2.2.2.2.2.2.2.1
                      have HK7 := Lib.hid (HKX.out.trans hk)
                      rw [h158]
                      clear hk hd
                      go_wp2_with fail
                      exact ⟨⟨q + 1, by go_num, by omega, HK7⟩, by simp [intOf]; omega⟩
            · obtain rfl : q = 6 := by omega
              go_wp2_with fail
              exact ⟨⟨wv + 1, by go_num, by omega, by omega, Lib.hid (HKW1.out.trans HKQ.out)⟩, by simp [intOf]; omega⟩
    · obtain rfl : wv = 63 := by omega
      go_wp2_with fail
      obtain ⟨ge, hge⟩ : ∃ ge, ge = wr.heap.size := ⟨_, rfl⟩
      have HBE0 := Lib.hid (show Blk (wr.alloc (.cells #[.int .i64 (-9223372036854775808), .int .i64 (-1), .int .i64 0, .int .i64 1, .int .i64 16777217, .int .i64 9223372036854775807] 3)) ge 3 (([-9223372036854775808, -1, 0, 1, 16777217, 9223372036854775807] : List Int).map (.int .i64)) by
        rw [hge]
        exact Blk.new wr 3 (([-9223372036854775808, -1, 0, 1, 16777217, 9223372036854775807] : List Int).map (.int .i64)))
      have HK0 := Lib.hid (HK.out.alloc (.cells #[.int .i64 (-9223372036854775808), .int .i64 (-1), .int .i64 0, .int .i64 1, .int .i64 16777217, .int .i64 9223372036854775807] 3))
      have HES := Lib.hid (show Small [-9223372036854775808, -1, 0, 1, 16777217, 9223372036854775807] by
        intro x hx
        simp only [List.mem_cons, List.not_mem_nil, or_false] at hx
        rcases hx with rfl | rfl | rfl | rfl | rfl | rfl <;> omega)
      rw [← hge]
      clear hge HK
      go_loopw [11] (fun x wr => ∃ i : Nat, x = .int .i64 (i : Int) ∧ i ≤ 6 ∧ Hid (Blk wr ge 3 (([-9223372036854775808, -1, 0, 1, 16777217, 9223372036854775807] : List Int).map (.int .i64))) ∧ Hid (Kp [] w wr)) (fun x _ => 6 - (intOf x).toNat)
      case atStart => exact ⟨0, rfl, by omega, HBE0, HK0⟩
      case round =>
        clear HBE0 HK0
        obtain ⟨i, rfl, hi6, HBE, HK⟩ := hrel
        by_cases hli : i < 6
        · obtain ⟨v, hv⟩ : ∃ v, ([-9223372036854775808, -1, 0, 1, 16777217, 9223372036854775807] : List Int)[i]? = some v := ⟨_, List.getElem?_eq_getElem (by simpa using hli)⟩
          have HVS := Lib.hid (HES.out v (List.mem_of_getElem? hv))
          have HV := Lib.hid (show ((([-9223372036854775808, -1, 0, 1, 16777217, 9223372036854775807] : List Int).map (Value.int .i64))[i]?) = some (.int .i64 v) by rw [List.getElem?_map, hv]; rfl)
          clear hv
          obtain ⟨j, hj⟩ : ∃ j, j = (i + 1) % 6 := ⟨_, rfl⟩
          have hj6 : j < 6 := by omega
          obtain ⟨u, hu'⟩ : ∃ u, ([-9223372036854775808, -1, 0, 1, 16777217, 9223372036854775807] : List Int)[j]? = some u := ⟨_, List.getElem?_eq_getElem (by simpa using hj6)⟩
          have HU := Lib.hid (show ((([-9223372036854775808, -1, 0, 1, 16777217, 9223372036854775807] : List Int).map (Value.int .i64))[j]?) = some (.int .i64 u) by rw [List.getElem?_map, hu']; rfl)
          obtain ⟨q, hq⟩ : ∃ q, q = i % 3 := ⟨_, rfl⟩
          have HJ := Lib.hid hj
          have HQ := Lib.hid hq
          clear hu' hj hq
          go_upto_region 25 with fail
          refine wp_region_facts (by kernel_rfl) 251 [167, 168, 169, 170, 171, 172, 173, 174, 175, 176, 177, 178, 179, 180, 181, 182, 183, 184, 185, 186, 187, 188, 189, 190, 191, 192, 193, 194, 195, 196, 197, 198, 199, 200, 201, 202, 203, 204, 205, 206, 207, 208, 209, 210, 211, 212, 213, 214, 215, 216, 217, 218, 219, 220, 221, 222, 223, 224, 225, 226, 227, 228, 229, 230] [[], [], [167, 168], [169], [], [170, 171], [172], [173], [174], [174], [175, 176, 174], [177, 174], [174], [178, 179, 174], [180, 174], [174, 181], [182], [183], [183], [184, 185, 183], [186, 183], [183], [183], [188, 189, 183], [190, 183], [187, 191, 183], [192, 183], [183, 193], [194], [195], [195], [196, 197, 195], [198, 195], [199, 195], [195], [195], [201, 202, 195], [203, 195], [200, 204, 195], [205, 195], [195, 206], [207], [208], [208], [209, 210, 208], [211, 208], [212, 208], [208], [208], [215, 208], [216, 208], [214, 217, 208], [218, 208], [213, 219, 208], [220, 208], [208, 221], [222], [223], [223], [225, 223], [226, 223], [224, 227, 223], [228, 223], [223, 229]] (by kernel_rfl) (by kernel_rfl) rfl (factOf [(167, .eq (.slice (some ⟨ge, 0, none⟩) 6 6)), (168, .eq (.int .i64 (i : Int))), (169, .eq (.pointer (some ⟨ge, i, none⟩))), (170, .eq (.int .i64 v)), (171, .rd .u8 ([1])), (172, .eq (.bool true)), (173, .eq (.bool false)), (174, .eq (.bool false)), (175, .eq (.slice (some ⟨ge, 0, none⟩) 6 6)), (176, .eq (.int .i64 (i : Int))), (177, .eq (.pointer (some ⟨ge, i, none⟩))), (178, .eq (.int .i64 v)), (179, .rd .u8 ([1])), (180, .eq (.bool true)), (181, .eq (.bool false)), (182, .eq (.bool false)), (183, .eq (.bool false)), (184, .eq (.slice (some ⟨ge, 0, none⟩) 6 6)), (185, .eq (.int .i64 (i : Int))), (186, .eq (.pointer (some ⟨ge, i, none⟩))), (187, .eq (.int .i64 v)), (188, .eq (.slice (some ⟨ge, 0, none⟩) 6 6)), (189, .eq (.int .i64 (i : Int))), (190, .eq (.pointer (some ⟨ge, i, none⟩))), (191, .eq (.int .i64 v)), (192, .eq (.bool true)), (193, .eq (.bool false)), (194, .eq (.bool false)), (195, .eq (.bool false)), (196, .eq (.slice (some ⟨ge, 0, none⟩) 6 6)), (197, .eq (.int .i64 (i : Int))), (198, .eq (.pointer (some ⟨ge, i, none⟩))), (199, .eq (.int .i64 v)), (200, .rd .i64 ([v])), (201, .eq (.slice (some ⟨ge, 0, none⟩) 6 6)), (202, .eq (.int .i64 (i : Int))), (203, .eq (.pointer (some ⟨ge, i, none⟩))), (204, .eq (.int .i64 v)), (205, .eq (.bool true)), (206, .eq (.bool false)), (207, .eq (.bool false)), (208, .eq (.bool false)), (209, .eq (.slice (some ⟨ge, 0, none⟩) 6 6)), (210, .eq (.int .i64 (i : Int))), (211, .eq (.pointer (some ⟨ge, i, none⟩))), (212, .eq (.int .i64 v)), (213, .rd .i64 ([0, 3, 3, 9, v])), (214, .eq (.slice (some ⟨ge, 0, none⟩) 6 6)), (215, .eq (.int .i64 (i : Int))), (216, .eq (.int .i64 ((i : Int) + 1))), (217, .eq (.int .i64 (j : Int))), (218, .eq (.pointer (some ⟨ge, j, none⟩))), (219, .eq (.int .i64 u)), (220, .eq (.bool true)), (221, .eq (.bool false)), (222, .eq (.bool false)), (223, .eq (.bool false)), (224, .rd .i64 ([0, 3, 3, 9])), (225, .eq (.int .i64 (i : Int))), (226, .eq (.int .i64 (q : Int))), (227, .eq (.int .i64 (2 + (q : Int)))), (228, .eq (.bool true)), (229, .eq (.bool false)), (230, .eq (.bool false))]) (factOf_stable _) _ (fun x => by simp only [fillL, Nat.reduceAdd, Nat.reduceEqDiff, ↓reduceIte]; rfl) ?_ ?_
          · refine ⟨?_, ?_, ?_, ?_, ?_, ?_, ?_, ?_, ?_, ?_, ?_, ?_, ?_, ?_, ?_, ?_, ?_, ?_, ?_, ?_, ?_, ?_, ?_, ?_, ?_, ?_, ?_, ?_, ?_, ?_, ?_, ?_, ?_, ?_, ?_, ?_, ?_, ?_, ?_, ?_, ?_, ?_, ?_, ?_, ?_, ?_, ?_, ?_, ?_, ?_, ?_, ?_, ?_, ?_, ?_, ?_, ?_, ?_, ?_, ?_, ?_, ?_, ?_, ?_, trivial⟩
            · intro x w' a hk hd ev  -- 167 = Op.move (Operand.tmp 10)
              have e10 : a.tmps[10]?.getD undef = .slice (some ⟨ge, 0, none⟩) 6 6 := ev.old 10 rfl
              refine stepF_un rfl (fun K hK => ?_)
              exact stepF_val _ hK (run_move rfl e10 _) rfl
            · intro x w' a hk hd ev  -- 168 = Op.move (Operand.tmp 11)
              have e11 : a.tmps[11]?.getD undef = .int .i64 (i : Int) := ev.old 11 rfl
              refine stepF_un rfl (fun K hK => ?_)
              exact stepF_val _ hK (run_move rfl e11 _) rfl
            · intro x w' a hk hd ev  -- 169 = Op.indexAddr 22 (Operand.tmp 167) (Operand.tmp 168)
              have h167 : x 167 = .slice (some ⟨ge, 0, none⟩) 6 6 := hd.1
              have e167 : a.tmps[167]?.getD undef = .slice (some ⟨ge, 0, none⟩) 6 6 := (ev.new 167 rfl).trans h167
              have h168 : x 168 = .int .i64 (i : Int) := hd.2.1
              have e168 : a.tmps[168]?.getD undef = .int .i64 (i : Int) := (ev.new 168 rfl).trans h168
              refine stepF_un rfl (fun K hK => ?_)
              have hi0 : (0 : Int) ≤ (i : Int) := by omega
              have hi2 : (i : Int) < 6 := by omega
              go_simp
              exact hK _ _ rfl (Kp.refl _ _)
            · intro x w' a hk hd ev  -- 170 = Op.load 3 (Operand.tmp 169)
              have h169 : x 169 = .pointer (some ⟨ge, i, none⟩) := hd.1
              have e169 : a.tmps[169]?.getD undef = .pointer (some ⟨ge, i, none⟩) := (ev.new 169 rfl).trans h169
              refine stepF_un rfl (fun K hK => ?_)
              have cx := (HBE.out.kp0 hk).cell i
              rw [HV.out] at cx
              go_simp
              exact hK _ _ rfl (Kp.refl _ _)
            · intro x w' a hk hd ev  -- 171 = Op.buildSlice 43 1 #[(0, Operand.const (Value.int IntKind.u8
              refine stepF_un rfl (fun K hK => ?_)
              go_simp
              exact hK _ _ (IsRd.new w' .u8 [1] 5 1 rfl) ((Kp.refl _ _).alloc _)
            · intro x w' a hk hd ev  -- 172 = Op.call { callee := Callee.value (Operand.func 5), args := #
              have h170 : x 170 = .int .i64 v := hd.1
              have e170 : a.tmps[170]?.getD undef = .int .i64 v := (ev.new 170 rfl).trans h170
              have h171 : IsRd .u8 ([1]) (x 171) w' := hd.2.1
              obtain ⟨A171, c171, v171, hc171, hr171⟩ := h171.len (n := 1) rfl
              have e171 : a.tmps[171]?.getD undef = .slice A171 (1) c171 := (ev.new 171 rfl).trans v171
              refine stepF_un rfl (fun K hK => ?_)
              go_simp
              refine (reads_int v 1 0 _ 1 _ _ [1] _ hr171 rfl one_byte).mono ?_
              rintro e w1 ⟨rfl, hk1⟩
              exact hK _ _ rfl hk1
            · intro x w' a hk hd ev  -- 173 = Op.unOp UnOp.not 4 (Operand.tmp 172)
              have h172 : x 172 = .bool true := hd.1
              have e172 : a.tmps[172]?.getD undef = .bool true := (ev.new 172 rfl).trans h172
              refine stepF_un rfl (fun K hK => ?_)
              go_simp
              exact hK _ _ rfl (Kp.refl _ _)
            · intro x w' a hk hd ev  -- 174 = Op.move (Operand.tmp 173)
              have h173 : x 173 = .bool false := hd.1
              have e173 : a.tmps[173]?.getD undef = .bool false := (ev.new 173 rfl).trans h173
              refine stepF_un rfl (fun K hK => ?_)
              exact stepF_val _ hK (run_move rfl e173 _) rfl
            · intro x w' a hk hd ev  -- 175 = Op.move (Operand.tmp 10)
              have h174 : x 174 = .bool false := hd.1
              have e174 : a.tmps[174]?.getD undef = .bool false := (ev.new 174 rfl).trans h174
              have e10 : a.tmps[10]?.getD undef = .slice (some ⟨ge, 0, none⟩) 6 6 := ev.old 10 rfl
              refine stepF_yes (i := 7) (g := 174) (b := false) rfl rfl rfl e174 (fun K hK => ?_)
              exact stepF_val _ hK (run_move rfl e10 _) rfl
            · intro x w' a hk hd ev  -- 176 = Op.move (Operand.tmp 11)
              have h174 : x 174 = .bool false := hd.1
              have e174 : a.tmps[174]?.getD undef = .bool false := (ev.new 174 rfl).trans h174
              have e11 : a.tmps[11]?.getD undef = .int .i64 (i : Int) := ev.old 11 rfl
              refine stepF_yes (i := 7) (g := 174) (b := false) rfl rfl rfl e174 (fun K hK => ?_)
              exact stepF_val _ hK (run_move rfl e11 _) rfl
            · intro x w' a hk hd ev  -- 177 = Op.indexAddr 22 (Operand.tmp 175) (Operand.tmp 176)
              have h175 : x 175 = .slice (some ⟨ge, 0, none⟩) 6 6 := hd.1
              have e175 : a.tmps[175]?.getD undef = .slice (some ⟨ge, 0, none⟩) 6 6 := (ev.new 175 rfl).trans h175
              have h176 : x 176 = .int .i64 (i : Int) := hd.2.1
              have e176 : a.tmps[176]?.getD undef = .int .i64 (i : Int) := (ev.new 176 rfl).trans h176
              have h174 : x 174 = .bool false := hd.2.2.1
              have e174 : a.tmps[174]?.getD undef = .bool false := (ev.new 174 rfl).trans h174
              refine stepF_yes (i := 7) (g := 174) (b := false) rfl rfl rfl e174 (fun K hK => ?_)
              have hi0 : (0 : Int) ≤ (i : Int) := by omega
              have hi2 : (i : Int) < 6 := by omega
              go_simp
              exact hK _ _ rfl (Kp.refl _ _)
            · intro x w' a hk hd ev  -- 178 = Op.load 3 (Operand.tmp 177)
              have h177 : x 177 = .pointer (some ⟨ge, i, none⟩) := hd.1
              have e177 : a.tmps[177]?.getD undef = .pointer (some ⟨ge, i, none⟩) := (ev.new 177 rfl).trans h177
              have h174 : x 174 = .bool false := hd.2.1
              have e174 : a.tmps[174]?.getD undef = .bool false := (ev.new 174 rfl).trans h174
              refine stepF_yes (i := 7) (g := 174) (b := false) rfl rfl rfl e174 (fun K hK => ?_)
              have cx := (HBE.out.kp0 hk).cell i
              rw [HV.out] at cx
              go_simp
              exact hK _ _ rfl (Kp.refl _ _)
            · intro x w' a hk hd ev  -- 179 = Op.buildSlice 43 1 #[(0, Operand.const (Value.int IntKind.u8
              have h174 : x 174 = .bool false := hd.1
              have e174 : a.tmps[174]?.getD undef = .bool false := (ev.new 174 rfl).trans h174
              refine stepF_yes (i := 7) (g := 174) (b := false) rfl rfl rfl e174 (fun K hK => ?_)
              go_simp
              exact hK _ _ (IsRd.new w' .u8 [1] 5 1 rfl) ((Kp.refl _ _).alloc _)
            · intro x w' a hk hd ev  -- 180 = Op.call { callee := Callee.value (Operand.func 5), args := #
              have h178 : x 178 = .int .i64 v := hd.1
              have e178 : a.tmps[178]?.getD undef = .int .i64 v := (ev.new 178 rfl).trans h178
              have h179 : IsRd .u8 ([1]) (x 179) w' := hd.2.1
              obtain ⟨A179, c179, v179, hc179, hr179⟩ := h179.len (n := 1) rfl
              have e179 : a.tmps[179]?.getD undef = .slice A179 (1) c179 := (ev.new 179 rfl).trans v179
              have h174 : x 174 = .bool false := hd.2.2.1
              have e174 : a.tmps[174]?.getD undef = .bool false := (ev.new 174 rfl).trans h174
              refine stepF_yes (i := 7) (g := 174) (b := false) rfl rfl rfl e174 (fun K hK => ?_)
              go_simp
              refine (reads_int 1 v 0 _ 1 _ _ [1] _ hr179 rfl one_byte).mono ?_
              rintro e w1 ⟨rfl, hk1⟩
              exact hK _ _ rfl hk1
            · intro x w' a hk hd ev  -- 181 = Op.unOp UnOp.not 4 (Operand.tmp 180)
              have h180 : x 180 = .bool true := hd.1
              have e180 : a.tmps[180]?.getD undef = .bool true := (ev.new 180 rfl).trans h180
              have h174 : x 174 = .bool false := hd.2.1
              have e174 : a.tmps[174]?.getD undef = .bool false := (ev.new 174 rfl).trans h174
              refine stepF_yes (i := 7) (g := 174) (b := false) rfl rfl rfl e174 (fun K hK => ?_)
              go_simp
              exact hK _ _ rfl (Kp.refl _ _)
            · intro x w' a hk hd ev  -- 182 = Op.pick (Operand.tmp 174) (Operand.const (Value.bool true)) 
              have h174 : x 174 = .bool false := hd.1
              have e174 : a.tmps[174]?.getD undef = .bool false := (ev.new 174 rfl).trans h174
              have h181 : x 181 = .bool false := hd.2.1
              have e181 : a.tmps[181]?.getD undef = .bool false := (ev.new 181 rfl).trans h181
              refine stepF_un rfl (fun K hK => ?_)
              go_simp
              exact hK _ _ rfl (Kp.refl _ _)
            · intro x w' a hk hd ev  -- 183 = Op.move (Operand.tmp 182)
              have h182 : x 182 = .bool false := hd.1
              have e182 : a.tmps[182]?.getD undef = .bool false := (ev.new 182 rfl).trans h182
              refine stepF_un rfl (fun K hK => ?_)
              exact stepF_val _ hK (run_move rfl e182 _) rfl
            · intro x w' a hk hd ev  -- 184 = Op.move (Operand.tmp 10)
              have h183 : x 183 = .bool false := hd.1
              have e183 : a.tmps[183]?.getD undef = .bool false := (ev.new 183 rfl).trans h183
              have e10 : a.tmps[10]?.getD undef = .slice (some ⟨ge, 0, none⟩) 6 6 := ev.old 10 rfl
              refine stepF_yes (i := 16) (g := 183) (b := false) rfl rfl rfl e183 (fun K hK => ?_)
              exact stepF_val _ hK (run_move rfl e10 _) rfl
            · intro x w' a hk hd ev  -- 185 = Op.move (Operand.tmp 11)
              have h183 : x 183 = .bool false := hd.1
              have e183 : a.tmps[183]?.getD undef = .bool false := (ev.new 183 rfl).trans h183
              have e11 : a.tmps[11]?.getD undef = .int .i64 (i : Int) := ev.old 11 rfl
              refine stepF_yes (i := 16) (g := 183) (b := false) rfl rfl rfl e183 (fun K hK => ?_)
              exact stepF_val _ hK (run_move rfl e11 _) rfl
            · intro x w' a hk hd ev  -- 186 = Op.indexAddr 22 (Operand.tmp 184) (Operand.tmp 185)
              have h184 : x 184 = .slice (some ⟨ge, 0, none⟩) 6 6 := hd.1
              have e184 : a.tmps[184]?.getD undef = .slice (some ⟨ge, 0, none⟩) 6 6 := (ev.new 184 rfl).trans h184
              have h185 : x 185 = .int .i64 (i : Int) := hd.2.1
              have e185 : a.tmps[185]?.getD undef = .int .i64 (i : Int) := (ev.new 185 rfl).trans h185
              have h183 : x 183 = .bool false := hd.2.2.1
              have e183 : a.tmps[183]?.getD undef = .bool false := (ev.new 183 rfl).trans h183
              refine stepF_yes (i := 16) (g := 183) (b := false) rfl rfl rfl e183 (fun K hK => ?_)
              have hi0 : (0 : Int) ≤ (i : Int) := by omega
              have hi2 : (i : Int) < 6 := by omega
              go_simp
              exact hK _ _ rfl (Kp.refl _ _)
            · intro x w' a hk hd ev  -- 187 = Op.load 3 (Operand.tmp 186)
              have h186 : x 186 = .pointer (some ⟨ge, i, none⟩) := hd.1
              have e186 : a.tmps[186]?.getD undef = .pointer (some ⟨ge, i, none⟩) := (ev.new 186 rfl).trans h186
              have h183 : x 183 = .bool false := hd.2.1
              have e183 : a.tmps[183]?.getD undef = .bool false := (ev.new 183 rfl).trans h183
              refine stepF_yes (i := 16) (g := 183) (b := false) rfl rfl rfl e183 (fun K hK => ?_)
              have cx := (HBE.out.kp0 hk).cell i
              rw [HV.out] at cx
              go_simp
              exact hK _ _ rfl (Kp.refl _ _)
            · intro x w' a hk hd ev  -- 188 = Op.move (Operand.tmp 10)
              have h183 : x 183 = .bool false := hd.1
              have e183 : a.tmps[183]?.getD undef = .bool false := (ev.new 183 rfl).trans h183
              have e10 : a.tmps[10]?.getD undef = .slice (some ⟨ge, 0, none⟩) 6 6 := ev.old 10 rfl
              refine stepF_yes (i := 16) (g := 183) (b := false) rfl rfl rfl e183 (fun K hK => ?_)
              exact stepF_val _ hK (run_move rfl e10 _) rfl
            · intro x w' a hk hd ev  -- 189 = Op.move (Operand.tmp 11)
              have h183 : x 183 = .bool false := hd.1
              have e183 : a.tmps[183]?.getD undef = .bool false := (ev.new 183 rfl).trans h183
              have e11 : a.tmps[11]?.getD undef = .int .i64 (i : Int) := ev.old 11 rfl
              refine stepF_yes (i := 16) (g := 183) (b := false) rfl rfl rfl e183 (fun K hK => ?_)
              exact stepF_val _ hK (run_move rfl e11 _) rfl
            · intro x w' a hk hd ev  -- 190 = Op.indexAddr 22 (Operand.tmp 188) (Operand.tmp 189)
              have h188 : x 188 = .slice (some ⟨ge, 0, none⟩) 6 6 := hd.1
              have e188 : a.tmps[188]?.getD undef = .slice (some ⟨ge, 0, none⟩) 6 6 := (ev.new 188 rfl).trans h188
              have h189 : x 189 = .int .i64 (i : Int) := hd.2.1
              have e189 : a.tmps[189]?.getD undef = .int .i64 (i : Int) := (ev.new 189 rfl).trans h189
              have h183 : x 183 = .bool false := hd.2.2.1
              have e183 : a.tmps[183]?.getD undef = .bool false := (ev.new 183 rfl).trans h183
              refine stepF_yes (i := 16) (g := 183) (b := false) rfl rfl rfl e183 (fun K hK => ?_)
              have hi0 : (0 : Int) ≤ (i : Int) := by omega
              have hi2 : (i : Int) < 6 := by omega
              go_simp
              exact hK _ _ rfl (Kp.refl _ _)
            · intro x w' a hk hd ev  -- 191 = Op.load 3 (Operand.tmp 190)
              have h190 : x 190 = .pointer (some ⟨ge, i, none⟩) := hd.1
              have e190 : a.tmps[190]?.getD undef = .pointer (some ⟨ge, i, none⟩) := (ev.new 190 rfl).trans h190
              have h183 : x 183 = .bool false := hd.2.1
              have e183 : a.tmps[183]?.getD undef = .bool false := (ev.new 183 rfl).trans h183
              refine stepF_yes (i := 16) (g := 183) (b := false) rfl rfl rfl e183 (fun K hK => ?_)
              have cx := (HBE.out.kp0 hk).cell i
              rw [HV.out] at cx
              go_simp
              exact hK _ _ rfl (Kp.refl _ _)
            · intro x w' a hk hd ev  -- 192 = Op.call { callee := Callee.value (Operand.func 5), args := #
              have h187 : x 187 = .int .i64 v := hd.1
              have e187 : a.tmps[187]?.getD undef = .int .i64 v := (ev.new 187 rfl).trans h187
              have h191 : x 191 = .int .i64 v := hd.2.1
              have e191 : a.tmps[191]?.getD undef = .int .i64 v := (ev.new 191 rfl).trans h191
              have h183 : x 183 = .bool false := hd.2.2.1
              have e183 : a.tmps[183]?.getD undef = .bool false := (ev.new 183 rfl).trans h183
              refine stepF_yes (i := 16) (g := 183) (b := false) rfl rfl rfl e183 (fun K hK => ?_)
              go_simp
              refine (reads_int 7 v v none 0 0 0 [] _ (Rd.nil _ _ _) rfl (fun z hz => by cases hz)).mono ?_
              rintro e w1 ⟨rfl, hk1⟩
              exact hK _ _ rfl hk1
            · intro x w' a hk hd ev  -- 193 = Op.unOp UnOp.not 4 (Operand.tmp 192)
              have h192 : x 192 = .bool true := hd.1
              have e192 : a.tmps[192]?.getD undef = .bool true := (ev.new 192 rfl).trans h192
              have h183 : x 183 = .bool false := hd.2.1
              have e183 : a.tmps[183]?.getD undef = .bool false := (ev.new 183 rfl).trans h183
              refine stepF_yes (i := 16) (g := 183) (b := false) rfl rfl rfl e183 (fun K hK => ?_)
              go_simp
              exact hK _ _ rfl (Kp.refl _ _)
            · intro x w' a hk hd ev  -- 194 = Op.pick (Operand.tmp 183) (Operand.const (Value.bool true)) 
              have h183 : x 183 = .bool false := hd.1
              have e183 : a.tmps[183]?.getD undef = .bool false := (ev.new 183 rfl).trans h183
              have h193 : x 193 = .bool false := hd.2.1
              have e193 : a.tmps[193]?.getD undef = .bool false := (ev.new 193 rfl).trans h193
              refine stepF_un rfl (fun K hK => ?_)
              go_simp
              exact hK _ _ rfl (Kp.refl _ _)
            · intro x w' a hk hd ev  -- 195 = Op.move (Operand.tmp 194)
              have h194 : x 194 = .bool false := hd.1
              have e194 : a.tmps[194]?.getD undef = .bool false := (ev.new 194 rfl).trans h194
              refine stepF_un rfl (fun K hK => ?_)
              exact stepF_val _ hK (run_move rfl e194 _) rfl
            · intro x w' a hk hd ev  -- 196 = Op.move (Operand.tmp 10)
              have h195 : x 195 = .bool false := hd.1
              have e195 : a.tmps[195]?.getD undef = .bool false := (ev.new 195 rfl).trans h195
              have e10 : a.tmps[10]?.getD undef = .slice (some ⟨ge, 0, none⟩) 6 6 := ev.old 10 rfl
              refine stepF_yes (i := 28) (g := 195) (b := false) rfl rfl rfl e195 (fun K hK => ?_)
              exact stepF_val _ hK (run_move rfl e10 _) rfl
            · intro x w' a hk hd ev  -- 197 = Op.move (Operand.tmp 11)
              have h195 : x 195 = .bool false := hd.1
              have e195 : a.tmps[195]?.getD undef = .bool false := (ev.new 195 rfl).trans h195
              have e11 : a.tmps[11]?.getD undef = .int .i64 (i : Int) := ev.old 11 rfl
              refine stepF_yes (i := 28) (g := 195) (b := false) rfl rfl rfl e195 (fun K hK => ?_)
              exact stepF_val _ hK (run_move rfl e11 _) rfl
            · intro x w' a hk hd ev  -- 198 = Op.indexAddr 22 (Operand.tmp 196) (Operand.tmp 197)
              have h196 : x 196 = .slice (some ⟨ge, 0, none⟩) 6 6 := hd.1
              have e196 : a.tmps[196]?.getD undef = .slice (some ⟨ge, 0, none⟩) 6 6 := (ev.new 196 rfl).trans h196
              have h197 : x 197 = .int .i64 (i : Int) := hd.2.1
              have e197 : a.tmps[197]?.getD undef = .int .i64 (i : Int) := (ev.new 197 rfl).trans h197
              have h195 : x 195 = .bool false := hd.2.2.1
              have e195 : a.tmps[195]?.getD undef = .bool false := (ev.new 195 rfl).trans h195
              refine stepF_yes (i := 28) (g := 195) (b := false) rfl rfl rfl e195 (fun K hK => ?_)
              have hi0 : (0 : Int) ≤ (i : Int) := by omega
              have hi2 : (i : Int) < 6 := by omega
              go_simp
              exact hK _ _ rfl (Kp.refl _ _)
            · intro x w' a hk hd ev  -- 199 = Op.load 3 (Operand.tmp 198)
              have h198 : x 198 = .pointer (some ⟨ge, i, none⟩) := hd.1
              have e198 : a.tmps[198]?.getD undef = .pointer (some ⟨ge, i, none⟩) := (ev.new 198 rfl).trans h198
              have h195 : x 195 = .bool false := hd.2.1
              have e195 : a.tmps[195]?.getD undef = .bool false := (ev.new 195 rfl).trans h195
              refine stepF_yes (i := 28) (g := 195) (b := false) rfl rfl rfl e195 (fun K hK => ?_)
              have cx := (HBE.out.kp0 hk).cell i
              rw [HV.out] at cx
              go_simp
              exact hK _ _ rfl (Kp.refl _ _)
            · intro x w' a hk hd ev  -- 200 = Op.buildSlice 22 1 #[(0, Operand.tmp 199)]
              have h199 : x 199 = .int .i64 v := hd.1
              have e199 : a.tmps[199]?.getD undef = .int .i64 v := (ev.new 199 rfl).trans h199
              have h195 : x 195 = .bool false := hd.2.1
              have e195 : a.tmps[195]?.getD undef = .bool false := (ev.new 195 rfl).trans h195
              refine stepF_yes (i := 28) (g := 195) (b := false) rfl rfl rfl e195 (fun K hK => ?_)
              go_simp
              exact hK _ _ (IsRd.new w' .i64 [v] 3 1 rfl) ((Kp.refl _ _).alloc _)
            · intro x w' a hk hd ev  -- 201 = Op.move (Operand.tmp 10)
              have h195 : x 195 = .bool false := hd.1
              have e195 : a.tmps[195]?.getD undef = .bool false := (ev.new 195 rfl).trans h195
              have e10 : a.tmps[10]?.getD undef = .slice (some ⟨ge, 0, none⟩) 6 6 := ev.old 10 rfl
              refine stepF_yes (i := 28) (g := 195) (b := false) rfl rfl rfl e195 (fun K hK => ?_)
              exact stepF_val _ hK (run_move rfl e10 _) rfl
            · intro x w' a hk hd ev  -- 202 = Op.move (Operand.tmp 11)
              have h195 : x 195 = .bool false := hd.1
              have e195 : a.tmps[195]?.getD undef = .bool false := (ev.new 195 rfl).trans h195
              have e11 : a.tmps[11]?.getD undef = .int .i64 (i : Int) := ev.old 11 rfl
              refine stepF_yes (i := 28) (g := 195) (b := false) rfl rfl rfl e195 (fun K hK => ?_)
              exact stepF_val _ hK (run_move rfl e11 _) rfl
            · intro x w' a hk hd ev  -- 203 = Op.indexAddr 22 (Operand.tmp 201) (Operand.tmp 202)
              have h201 : x 201 = .slice (some ⟨ge, 0, none⟩) 6 6 := hd.1
              have e201 : a.tmps[201]?.getD undef = .slice (some ⟨ge, 0, none⟩) 6 6 := (ev.new 201 rfl).trans h201
              have h202 : x 202 = .int .i64 (i : Int) := hd.2.1
              have e202 : a.tmps[202]?.getD undef = .int .i64 (i : Int) := (ev.new 202 rfl).trans h202
              have h195 : x 195 = .bool false := hd.2.2.1
              have e195 : a.tmps[195]?.getD undef = .bool false := (ev.new 195 rfl).trans h195
              refine stepF_yes (i := 28) (g := 195) (b := false) rfl rfl rfl e195 (fun K hK => ?_)
              have hi0 : (0 : Int) ≤ (i : Int) := by omega
              have hi2 : (i : Int) < 6 := by omega
              go_simp
              exact hK _ _ rfl (Kp.refl _ _)
            · intro x w' a hk hd ev  -- 204 = Op.load 3 (Operand.tmp 203)
              have h203 : x 203 = .pointer (some ⟨ge, i, none⟩) := hd.1
              have e203 : a.tmps[203]?.getD undef = .pointer (some ⟨ge, i, none⟩) := (ev.new 203 rfl).trans h203
              have h195 : x 195 = .bool false := hd.2.1
              have e195 : a.tmps[195]?.getD undef = .bool false := (ev.new 195 rfl).trans h195
              refine stepF_yes (i := 28) (g := 195) (b := false) rfl rfl rfl e195 (fun K hK => ?_)
              have cx := (HBE.out.kp0 hk).cell i
              rw [HV.out] at cx
              go_simp
              exact hK _ _ rfl (Kp.refl _ _)
            · intro x w' a hk hd ev  -- 205 = Op.call { callee := Callee.value (Operand.func 4), args := #
              have h200 : IsRd .i64 ([v]) (x 200) w' := hd.1
              obtain ⟨A200, c200, v200, hc200, hr200⟩ := h200.len (n := 1) rfl
              have e200 : a.tmps[200]?.getD undef = .slice A200 (1) c200 := (ev.new 200 rfl).trans v200
              have h204 : x 204 = .int .i64 v := hd.2.1
              have e204 : a.tmps[204]?.getD undef = .int .i64 v := (ev.new 204 rfl).trans h204
              have h195 : x 195 = .bool false := hd.2.2.1
              have e195 : a.tmps[195]?.getD undef = .bool false := (ev.new 195 rfl).trans h195
              refine stepF_yes (i := 28) (g := 195) (b := false) rfl rfl rfl e195 (fun K hK => ?_)
              go_simp
              refine (puts_any 1 v _ 1 _ _ [v] _ hr200 rfl (fun z hz => by simp at hz; subst hz; exact HVS.out)).mono ?_
              rintro e w1 ⟨rfl, hk1⟩
              exact hK _ _ rfl hk1
            · intro x w' a hk hd ev  -- 206 = Op.unOp UnOp.not 4 (Operand.tmp 205)
              have h205 : x 205 = .bool true := hd.1
              have e205 : a.tmps[205]?.getD undef = .bool true := (ev.new 205 rfl).trans h205
              have h195 : x 195 = .bool false := hd.2.1
              have e195 : a.tmps[195]?.getD undef = .bool false := (ev.new 195 rfl).trans h195
              refine stepF_yes (i := 28) (g := 195) (b := false) rfl rfl rfl e195 (fun K hK => ?_)
              go_simp
              exact hK _ _ rfl (Kp.refl _ _)
            · intro x w' a hk hd ev  -- 207 = Op.pick (Operand.tmp 195) (Operand.const (Value.bool true)) 
              have h195 : x 195 = .bool false := hd.1
              have e195 : a.tmps[195]?.getD undef = .bool false := (ev.new 195 rfl).trans h195
              have h206 : x 206 = .bool false := hd.2.1
              have e206 : a.tmps[206]?.getD undef = .bool false := (ev.new 206 rfl).trans h206
              refine stepF_un rfl (fun K hK => ?_)
              go_simp
              exact hK _ _ rfl (Kp.refl _ _)
            · intro x w' a hk hd ev  -- 208 = Op.move (Operand.tmp 207)
              have h207 : x 207 = .bool false := hd.1
              have e207 : a.tmps[207]?.getD undef = .bool false := (ev.new 207 rfl).trans h207
              refine stepF_un rfl (fun K hK => ?_)
              exact stepF_val _ hK (run_move rfl e207 _) rfl
            · intro x w' a hk hd ev  -- 209 = Op.move (Operand.tmp 10)
              have h208 : x 208 = .bool false := hd.1
              have e208 : a.tmps[208]?.getD undef = .bool false := (ev.new 208 rfl).trans h208
              have e10 : a.tmps[10]?.getD undef = .slice (some ⟨ge, 0, none⟩) 6 6 := ev.old 10 rfl
              refine stepF_yes (i := 41) (g := 208) (b := false) rfl rfl rfl e208 (fun K hK => ?_)
              exact stepF_val _ hK (run_move rfl e10 _) rfl
            · intro x w' a hk hd ev  -- 210 = Op.move (Operand.tmp 11)
              have h208 : x 208 = .bool false := hd.1
              have e208 : a.tmps[208]?.getD undef = .bool false := (ev.new 208 rfl).trans h208
              have e11 : a.tmps[11]?.getD undef = .int .i64 (i : Int) := ev.old 11 rfl
              refine stepF_yes (i := 41) (g := 208) (b := false) rfl rfl rfl e208 (fun K hK => ?_)
              exact stepF_val _ hK (run_move rfl e11 _) rfl
            · intro x w' a hk hd ev  -- 211 = Op.indexAddr 22 (Operand.tmp 209) (Operand.tmp 210)
              have h209 : x 209 = .slice (some ⟨ge, 0, none⟩) 6 6 := hd.1
              have e209 : a.tmps[209]?.getD undef = .slice (some ⟨ge, 0, none⟩) 6 6 := (ev.new 209 rfl).trans h209
              have h210 : x 210 = .int .i64 (i : Int) := hd.2.1
              have e210 : a.tmps[210]?.getD undef = .int .i64 (i : Int) := (ev.new 210 rfl).trans h210
              have h208 : x 208 = .bool false := hd.2.2.1
              have e208 : a.tmps[208]?.getD undef = .bool false := (ev.new 208 rfl).trans h208
              refine stepF_yes (i := 41) (g := 208) (b := false) rfl rfl rfl e208 (fun K hK => ?_)
              have hi0 : (0 : Int) ≤ (i : Int) := by omega
              have hi2 : (i : Int) < 6 := by omega
              go_simp
              exact hK _ _ rfl (Kp.refl _ _)
            · intro x w' a hk hd ev  -- 212 = Op.load 3 (Operand.tmp 211)
              have h211 : x 211 = .pointer (some ⟨ge, i, none⟩) := hd.1
              have e211 : a.tmps[211]?.getD undef = .pointer (some ⟨ge, i, none⟩) := (ev.new 211 rfl).trans h211
              have h208 : x 208 = .bool false := hd.2.1
              have e208 : a.tmps[208]?.getD undef = .bool false := (ev.new 208 rfl).trans h208
              refine stepF_yes (i := 41) (g := 208) (b := false) rfl rfl rfl e208 (fun K hK => ?_)
              have cx := (HBE.out.kp0 hk).cell i
              rw [HV.out] at cx
              go_simp
              exact hK _ _ rfl (Kp.refl _ _)
            · intro x w' a hk hd ev  -- 213 = Op.buildSlice 22 5 #[(0, Operand.const (Value.int IntKind.i6
              have h212 : x 212 = .int .i64 v := hd.1
              have e212 : a.tmps[212]?.getD undef = .int .i64 v := (ev.new 212 rfl).trans h212
              have h208 : x 208 = .bool false := hd.2.1
              have e208 : a.tmps[208]?.getD undef = .bool false := (ev.new 208 rfl).trans h208
              refine stepF_yes (i := 41) (g := 208) (b := false) rfl rfl rfl e208 (fun K hK => ?_)
              go_simp
              exact hK _ _ (IsRd.new w' .i64 [0, 3, 3, 9, v] 3 5 rfl) ((Kp.refl _ _).alloc _)
            · intro x w' a hk hd ev  -- 214 = Op.move (Operand.tmp 10)
              have h208 : x 208 = .bool false := hd.1
              have e208 : a.tmps[208]?.getD undef = .bool false := (ev.new 208 rfl).trans h208
              have e10 : a.tmps[10]?.getD undef = .slice (some ⟨ge, 0, none⟩) 6 6 := ev.old 10 rfl
              refine stepF_yes (i := 41) (g := 208) (b := false) rfl rfl rfl e208 (fun K hK => ?_)
              exact stepF_val _ hK (run_move rfl e10 _) rfl
            · intro x w' a hk hd ev  -- 215 = Op.move (Operand.tmp 11)
              have h208 : x 208 = .bool false := hd.1
              have e208 : a.tmps[208]?.getD undef = .bool false := (ev.new 208 rfl).trans h208
              have e11 : a.tmps[11]?.getD undef = .int .i64 (i : Int) := ev.old 11 rfl
              refine stepF_yes (i := 41) (g := 208) (b := false) rfl rfl rfl e208 (fun K hK => ?_)
              exact stepF_val _ hK (run_move rfl e11 _) rfl
            · intro x w' a hk hd ev  -- 216 = Op.binOp BinOp.add 3 (Operand.tmp 215) (Operand.const (Value
              have h215 : x 215 = .int .i64 (i : Int) := hd.1
              have e215 : a.tmps[215]?.getD undef = .int .i64 (i : Int) := (ev.new 215 rfl).trans h215
              have h208 : x 208 = .bool false := hd.2.1
              have e208 : a.tmps[208]?.getD undef = .bool false := (ev.new 208 rfl).trans h208
              refine stepF_yes (i := 41) (g := 208) (b := false) rfl rfl rfl e208 (fun K hK => ?_)
              have hwi : IntKind.i64.wrap ((i : Int) + 1) = (i : Int) + 1 := by rw [IntKind.wrap_i64]; omega
              go_simp
              exact hK _ _ rfl (Kp.refl _ _)
            · intro x w' a hk hd ev  -- 217 = Op.binOp BinOp.rem 3 (Operand.tmp 216) (Operand.const (Value
              have h216 : x 216 = .int .i64 ((i : Int) + 1) := hd.1
              have e216 : a.tmps[216]?.getD undef = .int .i64 ((i : Int) + 1) := (ev.new 216 rfl).trans h216
              have h208 : x 208 = .bool false := hd.2.1
              have e208 : a.tmps[208]?.getD undef = .bool false := (ev.new 208 rfl).trans h208
              refine stepF_yes (i := 41) (g := 208) (b := false) rfl rfl rfl e208 (fun K hK => ?_)
              have hj1 : ((i : Int) + 1).tmod 6 = (j : Int) := by rw [Int.tmod_eq_emod_of_nonneg (by omega)]; have := HJ.out; omega
              have hj2 : IntKind.i64.wrap (j : Int) = (j : Int) := by rw [IntKind.wrap_i64]; have := HJ.out; omega
              go_simp
              exact hK _ _ rfl (Kp.refl _ _)
            · intro x w' a hk hd ev  -- 218 = Op.indexAddr 22 (Operand.tmp 214) (Operand.tmp 217)
              have h214 : x 214 = .slice (some ⟨ge, 0, none⟩) 6 6 := hd.1
              have e214 : a.tmps[214]?.getD undef = .slice (some ⟨ge, 0, none⟩) 6 6 := (ev.new 214 rfl).trans h214
              have h217 : x 217 = .int .i64 (j : Int) := hd.2.1
              have e217 : a.tmps[217]?.getD undef = .int .i64 (j : Int) := (ev.new 217 rfl).trans h217
              have h208 : x 208 = .bool false := hd.2.2.1
              have e208 : a.tmps[208]?.getD undef = .bool false := (ev.new 208 rfl).trans h208
              refine stepF_yes (i := 41) (g := 208) (b := false) rfl rfl rfl e208 (fun K hK => ?_)
              have hi0 : (0 : Int) ≤ (j : Int) := by omega
              have hi2 : (j : Int) < 6 := by have := HJ.out; omega
              go_simp
              exact hK _ _ rfl (Kp.refl _ _)
            · intro x w' a hk hd ev  -- 219 = Op.load 3 (Operand.tmp 218)
              have h218 : x 218 = .pointer (some ⟨ge, j, none⟩) := hd.1
              have e218 : a.tmps[218]?.getD undef = .pointer (some ⟨ge, j, none⟩) := (ev.new 218 rfl).trans h218
              have h208 : x 208 = .bool false := hd.2.1
              have e208 : a.tmps[208]?.getD undef = .bool false := (ev.new 208 rfl).trans h208
              refine stepF_yes (i := 41) (g := 208) (b := false) rfl rfl rfl e208 (fun K hK => ?_)
              have cx := (HBE.out.kp0 hk).cell j
              rw [HU.out] at cx
              go_simp
              exact hK _ _ rfl (Kp.refl _ _)
            · intro x w' a hk hd ev  -- 220 = Op.call { callee := Callee.value (Operand.func 7), args := #
              have h213 : IsRd .i64 ([0, 3, 3, 9, v]) (x 213) w' := hd.1
              obtain ⟨A213, c213, v213, hc213, hr213⟩ := h213.len (n := 5) rfl
              have e213 : a.tmps[213]?.getD undef = .slice A213 (5) c213 := (ev.new 213 rfl).trans v213
              have h219 : x 219 = .int .i64 u := hd.2.1
              have e219 : a.tmps[219]?.getD undef = .int .i64 u := (ev.new 219 rfl).trans h219
              have h208 : x 208 = .bool false := hd.2.2.1
              have e208 : a.tmps[208]?.getD undef = .bool false := (ev.new 208 rfl).trans h208
              refine stepF_yes (i := 41) (g := 208) (b := false) rfl rfl rfl e208 (fun K hK => ?_)
              go_simp
              refine (finds_any _ 5 _ _ [0, 3, 3, 9, v] u _ hr213 rfl).mono ?_
              rintro e w1 ⟨rfl, hk1⟩
              exact hK _ _ rfl hk1
            · intro x w' a hk hd ev  -- 221 = Op.unOp UnOp.not 4 (Operand.tmp 220)
              have h220 : x 220 = .bool true := hd.1
              have e220 : a.tmps[220]?.getD undef = .bool true := (ev.new 220 rfl).trans h220
              have h208 : x 208 = .bool false := hd.2.1
              have e208 : a.tmps[208]?.getD undef = .bool false := (ev.new 208 rfl).trans h208
              refine stepF_yes (i := 41) (g := 208) (b := false) rfl rfl rfl e208 (fun K hK => ?_)
              go_simp
              exact hK _ _ rfl (Kp.refl _ _)
            · intro x w' a hk hd ev  -- 222 = Op.pick (Operand.tmp 208) (Operand.const (Value.bool true)) 
              have h208 : x 208 = .bool false := hd.1
              have e208 : a.tmps[208]?.getD undef = .bool false := (ev.new 208 rfl).trans h208
              have h221 : x 221 = .bool false := hd.2.1
              have e221 : a.tmps[221]?.getD undef = .bool false := (ev.new 221 rfl).trans h221
              refine stepF_un rfl (fun K hK => ?_)
              go_simp
              exact hK _ _ rfl (Kp.refl _ _)
            · intro x w' a hk hd ev  -- 223 = Op.move (Operand.tmp 222)
              have h222 : x 222 = .bool false := hd.1
              have e222 : a.tmps[222]?.getD undef = .bool false := (ev.new 222 rfl).trans h222
              refine stepF_un rfl (fun K hK => ?_)
              exact stepF_val _ hK (run_move rfl e222 _) rfl
            · intro x w' a hk hd ev  -- 224 = Op.buildSlice 22 4 #[(0, Operand.const (Value.int IntKind.i6
              have h223 : x 223 = .bool false := hd.1
              have e223 : a.tmps[223]?.getD undef = .bool false := (ev.new 223 rfl).trans h223
              refine stepF_yes (i := 56) (g := 223) (b := false) rfl rfl rfl e223 (fun K hK => ?_)
              go_simp
              exact hK _ _ (IsRd.new w' .i64 [0, 3, 3, 9] 3 4 rfl) ((Kp.refl _ _).alloc _)
            · intro x w' a hk hd ev  -- 225 = Op.move (Operand.tmp 11)
              have h223 : x 223 = .bool false := hd.1
              have e223 : a.tmps[223]?.getD undef = .bool false := (ev.new 223 rfl).trans h223
              have e11 : a.tmps[11]?.getD undef = .int .i64 (i : Int) := ev.old 11 rfl
              refine stepF_yes (i := 56) (g := 223) (b := false) rfl rfl rfl e223 (fun K hK => ?_)
              exact stepF_val _ hK (run_move rfl e11 _) rfl
            · intro x w' a hk hd ev  -- 226 = Op.binOp BinOp.rem 3 (Operand.tmp 225) (Operand.const (Value
              have h225 : x 225 = .int .i64 (i : Int) := hd.1
              have e225 : a.tmps[225]?.getD undef = .int .i64 (i : Int) := (ev.new 225 rfl).trans h225
              have h223 : x 223 = .bool false := hd.2.1
              have e223 : a.tmps[223]?.getD undef = .bool false := (ev.new 223 rfl).trans h223
              refine stepF_yes (i := 56) (g := 223) (b := false) rfl rfl rfl e223 (fun K hK => ?_)
              have hj1 : (i : Int).tmod 3 = (q : Int) := by rw [Int.tmod_eq_emod_of_nonneg (by omega)]; have := HQ.out; omega
              have hj2 : IntKind.i64.wrap (q : Int) = (q : Int) := by rw [IntKind.wrap_i64]; have := HQ.out; omega
              go_simp
              exact hK _ _ rfl (Kp.refl _ _)
            · intro x w' a hk hd ev  -- 227 = Op.binOp BinOp.add 3 (Operand.const (Value.int IntKind.i64 2
              have h226 : x 226 = .int .i64 (q : Int) := hd.1
              have e226 : a.tmps[226]?.getD undef = .int .i64 (q : Int) := (ev.new 226 rfl).trans h226
              have h223 : x 223 = .bool false := hd.2.1
              have e223 : a.tmps[223]?.getD undef = .bool false := (ev.new 223 rfl).trans h223
              refine stepF_yes (i := 56) (g := 223) (b := false) rfl rfl rfl e223 (fun K hK => ?_)
              have hwi : IntKind.i64.wrap (2 + (q : Int)) = 2 + (q : Int) := by rw [IntKind.wrap_i64]; have := HQ.out; omega
              go_simp
              exact hK _ _ rfl (Kp.refl _ _)
            · intro x w' a hk hd ev  -- 228 = Op.call { callee := Callee.value (Operand.func 7), args := #
              have h224 : IsRd .i64 ([0, 3, 3, 9]) (x 224) w' := hd.1
              obtain ⟨A224, c224, v224, hc224, hr224⟩ := h224.len (n := 4) rfl
              have e224 : a.tmps[224]?.getD undef = .slice A224 (4) c224 := (ev.new 224 rfl).trans v224
              have h227 : x 227 = .int .i64 (2 + (q : Int)) := hd.2.1
              have e227 : a.tmps[227]?.getD undef = .int .i64 (2 + (q : Int)) := (ev.new 227 rfl).trans h227
              have h223 : x 223 = .bool false := hd.2.2.1
              have e223 : a.tmps[223]?.getD undef = .bool false := (ev.new 223 rfl).trans h223
              refine stepF_yes (i := 56) (g := 223) (b := false) rfl rfl rfl e223 (fun K hK => ?_)
              go_simp
              refine (finds_any _ 4 _ _ [0, 3, 3, 9] (2 + (q : Int)) _ hr224 rfl).mono ?_
              rintro e w1 ⟨rfl, hk1⟩
              exact hK _ _ rfl hk1
            · intro x w' a hk hd ev  -- 229 = Op.unOp UnOp.not 4 (Operand.tmp 228)
              have h228 : x 228 = .bool true := hd.1
              have e228 : a.tmps[228]?.getD undef = .bool true := (ev.new 228 rfl).trans h228
              have h223 : x 223 = .bool false := hd.2.1
              have e223 : a.tmps[223]?.getD undef = .bool false := (ev.new 223 rfl).trans h223
              refine stepF_yes (i := 56) (g := 223) (b := false) rfl rfl rfl e223 (fun K hK => ?_)
              go_simp
              exact hK _ _ rfl (Kp.refl _ _)
            · intro x w' a hk hd ev  -- 230 = Op.pick (Operand.tmp 223) (Operand.const (Value.bool true)) 
              have h223 : x 223 = .bool false := hd.1
              have e223 : a.tmps[223]?.getD undef = .bool false := (ev.new 223 rfl).trans h223
              have h229 : x 229 = .bool false := hd.2.1
              have e229 : a.tmps[229]?.getD undef = .bool false := (ev.new 229 rfl).trans h229
              refine stepF_un rfl (fun K hK => ?_)
              go_simp
              exact hK _ _ rfl (Kp.refl _ _)
          · intro x w' hk hd
            have h167 : x 167 = .slice (some ⟨ge, 0, none⟩) 6 6 := hd.1
            have h168 : x 168 = .int .i64 (i : Int) := hd.2.1
            have h169 : x 169 = .pointer (some ⟨ge, i, none⟩) := hd.2.2.1
            have h170 : x 170 = .int .i64 v := hd.2.2.2.1
            have h171 : IsRd .u8 ([1]) (x 171) w' := hd.2.2.2.2.1
            have h172 : x 172 = .bool true := hd.2.2.2.2.2.1
            have h173 : x 173 = .bool false := hd.2.2.2.2.2.2.1
            have h174 : x 174 = .bool false := hd.2.2.2.2.2.2.2.1
            have h175 : x 175 = .slice (some ⟨ge, 0, none⟩) 6 6 := hd.2.2.2.2.2.2.2.2.1
            have h176 : x 176 = .int .i64 (i : Int) := hd.2.2.2.2.2.2.2.2.2.1
            have h177 : x 177 = .pointer (some ⟨ge, i, none⟩) := hd.2.2.2.2.2.2.2.2.2.2.1
            have h178 : x 178 = .int .i64 v := hd.2.2.2.2.2.2.2.2.2.2.2.1
            have h179 : IsRd .u8 ([1]) (x 179) w' := hd.2.2.2.2.2.2.2.2.2.2.2.2.1
            have h180 : x 180 = .bool true := hd.2.2.2.2.2.2.2.2.2.2.2.2.2.1
            have h181 : x 181 = .bool false := hd.2.2.2.2.2.2.2.2.2.2.2.2.2.2.1
            have h182 : x 182 = .bool false := hd.2.2.2.2.2.2.2.2.2.2.2.2.2.2.2.1
            have h183 : x 183 = .bool false := hd.2.2.2.2.2.2.2.2.2.2.2.2.2.2.2.2.1
            have h184 : x 184 = .slice (some ⟨ge, 0, none⟩) 6 6 := hd.2.2.2.2.2.2.2.2.2.2.2.2.2.2.2.2.2.1
            have h185 : x 185 = .int .i64 (i : Int) := hd.2.2.2.2.2.2.2.2.2.2.2.2.2.2.2.2.2.2.1
            have h186 : x 186 = .pointer (some ⟨ge, i, none⟩) := hd.2.2.2.2.2.2.2.2.2.2.2.2.2.2.2.2.2.2.2.1
            have h187 : x 187 = .int .i64 v := hd.2.2.2.2.2.2.2.2.2.2.2.2.2.2.2.2.2.2.2.2.1
            have h188 : x 188 = .slice (some ⟨ge, 0, none⟩) 6 6 := hd.2.2.2.2.2.2.2.2.2.2.2.2.2.2.2.2.2.2.2.2.2.1
            have h189 : x 189 = .int .i64 (i : Int) := hd.2.2.2.2.2.2.2.2.2.2.2.2.2.2.2.2.2.2.2.2.2.2.1
            have h190 : x 190 = .pointer (some ⟨ge, i, none⟩) := hd.2.2.2.2.2.2.2.2.2.2.2.2.2.2.2.2.2.2.2.2.2.2.2.1
            have h191 : x 191 = .int .i64 v := hd.2.2.2.2.2.2.2.2.2.2.2.2.2.2.2.2.2.2.2.2.2.2.2.2.1
            have h192 : x 192 = .bool true := hd.2.2.2.2.2.2.2.2.2.2.2.2.2.2.2.2.2.2.2.2.2.2.2.2.2.1
            have h193 : x 193 = .bool false := hd.2.2.2.2.2.2.2.2.2.2.2.2.2.2.2.2.2.2.2.2.2.2.2.2.2.2.1
            have h194 : x 194 = .bool false := hd.2.2.2.2.2.2.2.2.2.2.2.2.2.2.2.2.2.2.2.2.2.2.2.2.2.2.2.1
            have h195 : x 195 = .bool false := hd.2.2.2.2.2.2.2.2.2.2.2.2.2.2.2.2.2.2.2.2.2.2.2.2.2.2.2.2.1
            have h196 : x 196 = .slice (some ⟨ge, 0, none⟩) 6 6 := hd.2.2.2.2.2.2.2.2.2.2.2.2.2.2.2.2.2.2.2.2.2.2.2.2.2.2.2.2.2.1
            have h197 : x 197 = .int .i64 (i : Int) := hd.2.2.2.2.2.2.2.2.2.2.2.2.2.2.2.2.2.2.2.2.2.2.2.2.2.2.2.2.2.2.1
            have h198 : x 198 = .pointer (some ⟨ge, i, none⟩) := hd.2.2.2.2.2.2.2.2.2.2.2.2.2.2.2.2.2.2.2.2.2.2.2.2.2.2.2.2.2.2.2.1
            have h199 : x 199 = .int .i64 v := hd.2.2.2.2.2.2.2.2.2.2.2.2.2.2.2.2.2.2.2.2.2.2.2.2.2.2.2.2.2.2.2.2.1
            have h200 : IsRd .i64 ([v]) (x 200) w' := hd.2.2.2.2.2.2.2.2.2.2.2.2.2.2.2.2.2.2.2.2.2.2.2.2.2.2.2.2.2.2.2.2.2.1
            have h201 : x 201 = .slice (some ⟨ge, 0, none⟩) 6 6 := hd.2.2.2.2.2.2.2.2.2.2.2.2.2.2.2.2.2.2.2.2.2.2.2.2.2.2.2.2.2.2.2.2.2.2.1
            have h202 : x 202 = .int .i64 (i : Int) := hd.2.2.2.2.2.2.2.2.2.2.2.2.2.2.2.2.2.2.2.2.2.2.2.2.2.2.2.2.2.2.2.2.2.2.2.1
            have h203 : x 203 = .pointer (some ⟨ge, i, none⟩) := hd.2.2.2.2.2.2.2.2.2.2.2.2.2.2.2.2.2.2.2.2.2.2.2.2.2.2.2.2.2.2.2.2.2.2.2.2.1
            have h204 : x 204 = .int .i64 v := hd.2.2.2.2.2.2.2.2.2.2.2.2.2.2.2.2.2.2.2.2.2.2.2.2.2.2.2.2.2.2.2.2.2.2.2.2.2.1
            have h205 : x 205 = .bool true := hd.2.2.2.2.2.2.2.2.2.2.2.2.2.2.2.2.2.2.2.2.2.2.2.2.2.2.2.2.2.2.2.2.2.2.2.2.2.2.1
            have h206 : x 206 = .bool false := hd.2.2.2.2.2.2.2.2.2.2.2.2.2.2.2.2.2.2.2.2.2.2.2.2.2.2.2.2.2.2.2.2.2.2.2.2.2.2.2.1
            have h207 : x 207 = .bool false := hd.2.2.2.2.2.2.2.2.2.2.2.2.2.2.2.2.2.2.2.2.2.2.2.2.2.2.2.2.2.2.2.2.2.2.2.2.2.2.2.2.1
            have h208 : x 208 = .bool false := hd.2.2.2.2.2.2.2.2.2.2.2.2.2.2.2.2.2.2.2.2.2.2.2.2.2.2.2.2.2.2.2.2.2.2.2.2.2.2.2.2.2.1
            have h209 : x 209 = .slice (some ⟨ge, 0, none⟩) 6 6 := hd.2.2.2.2.2.2.2.2.2.2.2.2.2.2.2.2.2.2.2.2.2.2.2.2.2.2.2.2.2.2.2.2.2.2.2.2.2.2.2.2.2.2.1
            have h210 : x 210 = .int .i64 (i : Int) := hd.2.2.2.2.2.2.2.2.2.2.2.2.2.2.2.2.2.2.2.2.2.2.2.2.2.2.2.2.2.2.2.2.2.2.2.2.2.2.2.2.2.2.2.1
            have h211 : x 211 = .pointer (some ⟨ge, i, none⟩) := hd.2.2.2.2.2.2.2.2.2.2.2.2.2.2.2.2.2.2.2.2.2.2.2.2.2.2.2.2.2.2.2.2.2.2.2.2.2.2.2.2.2.2.2.2.1
            have h212 : x 212 = .int .i64 v := hd.2.2.2.2.2.2.2.2.2.2.2.2.2.2.2.2.2.2.2.2.2.2.2.2.2.2.2.2.2.2.2.2.2.2.2.2.2.2.2.2.2.2.2.2.2.1
            have h213 : IsRd .i64 ([0, 3, 3, 9, v]) (x 213) w' := hd.2.2.2.2.2.2.2.2.2.2.2.2.2.2.2.2.2.2.2.2.2.2.2.2.2.2.2.2.2.2.2.2.2.2.2.2.2.2.2.2.2.2.2.2.2.2.1
            have h214 : x 214 = .slice (some ⟨ge, 0, none⟩) 6 6 := hd.2.2.2.2.2.2.2.2.2.2.2.2.2.2.2.2.2.2.2.2.2.2.2.2.2.2.2.2.2.2.2.2.2.2.2.2.2.2.2.2.2.2.2.2.2.2.2.1
            have h215 : x 215 = .int .i64 (i : Int) := hd.2.2.2.2.2.2.2.2.2.2.2.2.2.2.2.2.2.2.2.2.2.2.2.2.2.2.2.2.2.2.2.2.2.2.2.2.2.2.2.2.2.2.2.2.2.2.2.2.1
            have h216 : x 216 = .int .i64 ((i : Int) + 1) := hd.2.2.2.2.2.2.2.2.2.2.2.2.2.2.2.2.2.2.2.2.2.2.2.2.2.2.2.2.2.2.2.2.2.2.2.2.2.2.2.2.2.2.2.2.2.2.2.2.2.1
            have h217 : x 217 = .int .i64 (j : Int) := hd.2.2.2.2.2.2.2.2.2.2.2.2.2.2.2.2.2.2.2.2.2.2.2.2.2.2.2.2.2.2.2.2.2.2.2.2.2.2.2.2.2.2.2.2.2.2.2.2.2.2.1
            have h218 : x 218 = .pointer (some ⟨ge, j, none⟩) := hd.2.2.2.2.2.2.2.2.2.2.2.2.2.2.2.2.2.2.2.2.2.2.2.2.2.2.2.2.2.2.2.2.2.2.2.2.2.2.2.2.2.2.2.2.2.2.2.2.2.2.2.1
            have h219 : x 219 = .int .i64 u := hd.2.2.2.2.2.2.2.2.2.2.2.2.2.2.2.2.2.2.2.2.2.2.2.2.2.2.2.2.2.2.2.2.2.2.2.2.2.2.2.2.2.2.2.2.2.2.2.2.2.2.2.2.1
            have h220 : x 220 = .bool true := hd.2.2.2.2.2.2.2.2.2.2.2.2.2.2.2.2.2.2.2.2.2.2.2.2.2.2.2.2.2.2.2.2.2.2.2.2.2.2.2.2.2.2.2.2.2.2.2.2.2.2.2.2.2.1
            have h221 : x 221 = .bool false := hd.2.2.2.2.2.2.2.2.2.2.2.2.2.2.2.2.2.2.2.2.2.2.2.2.2.2.2.2.2.2.2.2.2.2.2.2.2.2.2.2.2.2.2.2.2.2.2.2.2.2.2.2.2.2.1
            have h222 : x 222 = .bool false := hd.2.2.2.2.2.2.2.2.2.2.2.2.2.2.2.2.2.2.2.2.2.2.2.2.2.2.2.2.2.2.2.2.2.2.2.2.2.2.2.2.2.2.2.2.2.2.2.2.2.2.2.2.2.2.2.1
            have h223 : x 223 = .bool false := hd.2.2.2.2.2.2.2.2.2.2.2.2.2.2.2.2.2.2.2.2.2.2.2.2.2.2.2.2.2.2.2.2.2.2.2.2.2.2.2.2.2.2.2.2.2.2.2.2.2.2.2.2.2.2.2.2.1
            have h224 : IsRd .i64 ([0, 3, 3, 9]) (x 224) w' := hd.2.2.2.2.2.2.2.2.2.2.2.2.2.2.2.2.2.2.2.2.2.2.2.2.2.2.2.2.2.2.2.2.2.2.2.2.2.2.2.2.2.2.2.2.2.2.2.2.2.2.2.2.2.2.2.2.2.1
            have h225 : x 225 = .int .i64 (i : Int) := hd.2.2.2.2.2.2.2.2.2.2.2.2.2.2.2.2.2.2.2.2.2.2.2.2.2.2.2.2.2.2.2.2.2.2.2.2.2.2.2.2.2.2.2.2.2.2.2.2.2.2.2.2.2.2.2.2.2.2.1
            have h226 : x 226 = .int .i64 (q : Int) := hd.2.2.2.2.2.2.2.2.2.2.2.2.2.2.2.2.2.2.2.2.2.2.2.2.2.2.2.2.2.2.2.2.2.2.2.2.2.2.2.2.2.2.2.2.2.2.2.2.2.2.2.2.2.2.2.2.2.2.2.1
            have h227 : x 227 = .int .i64 (2 + (q : Int)) := hd.2.2.2.2.2.2.2.2.2.2.2.2.2.2.2.2.2.2.2.2.2.2.2.2.2.2.2.2.2.2.2.2.2.2.2.2.2.2.2.2.2.2.2.2.2.2.2.2.2.2.2.2.2.2.2.2.2.2.2.2.1
            have h228 : x 228 = .bool true := hd.2.2.2.2.2.2.2.2.2.2.2.2.2.2.2.2.2.2.2.2.2.2.2.2.2.2.2.2.2.2.2.2.2.2.2.2.2.2.2.2.2.2.2.2.2.2.2.2.2.2.2.2.2.2.2.2.2.2.2.2.2.1
            have h229 : x 229 = .bool false := hd.2.2.2.2.2.2.2.2.2.2.2.2.2.2.2.2.2.2.2.2.2.2.2.2.2.2.2.2.2.2.2.2.2.2.2.2.2.2.2.2.2.2.2.2.2.2.2.2.2.2.2.2.2.2.2.2.2.2.2.2.2.2.1
            have h230 : x 230 = .bool false := hd.2.2.2.2.2.2.2.2.2.2.2.2.2.2.2.2.2.2.2.2.2.2.2.2.2.2.2.2.2.2.2.2.2.2.2.2.2.2.2.2.2.2.2.2.2.2.2.2.2.2.2.2.2.2.2.2.2.2.2.2.2.2.2.1
            have HK7 := Lib.hid (HK.out.trans hk)
            have HBE7 := Lib.hid (HBE.out.kp0 hk)
            rw [h230]
            clear hk hd
            go_wp2_with fail
            exact ⟨⟨i + 1, by go_num, by omega, HBE7, HK7⟩, by simp [intOf]; omega⟩
        · obtain rfl : i = 6 := by omega
          have HRE1 := Lib.hid (show readE 60 279621 [] = 3 by decide)
          have HRE2 := Lib.hid (show readE 60 279620 [] = 4 by decide)
          go_wp2_with fail
          refine (read_any 60 279621 none 0 0 0 [] wr (Rd.nil _ _ _) rfl (by omega) (fun y hy => by cases hy)).mono ?_
          rintro e w3 ⟨hk3, ⟨_, rfl⟩ | ⟨hz, _⟩⟩
          rotate_left
          · rw [HRE1.out] at hz; cases hz
          rw [HRE1.out]
          have HK3 := Lib.hid (HK.out.trans hk3); clear hk3
          go_wp2_with fail
          refine (read_any 60 279620 none 0 0 0 [] w3 (Rd.nil _ _ _) rfl (by omega) (fun y hy => by cases hy)).mono ?_
          rintro e w4 ⟨hk4, ⟨_, rfl⟩ | ⟨hz, _⟩⟩
          rotate_left
          · rw [HRE2.out] at hz; cases hz
          rw [HRE2.out]
          have HK4 := Lib.hid (HK3.out.trans hk4); clear hk4
          go_wp2_with fail
          refine (none_any w4).mono ?_
          rintro e w5 ⟨rfl, hk5⟩
          have HK5 := Lib.hid (HK4.out.trans hk5); clear hk5
          go_wp2_with fail
          refine (pawake_any w5).mono ?_
          rintro e w6 ⟨rfl, hk6⟩
          have HK6 := Lib.hid (HK5.out.trans hk6); clear hk6
          go_wp2_with fail
          go_ret
          exact ⟨rfl, HK6.out⟩
end Go.Proofs.Ytlkgepojjjcaoaa
