/-
  LAYER 12 (front): FrontEnds, the walk.
  CONDITIONS: the table of math/bits.
-/
import Derived.Test.YtlaionhlejmjdaaGreatDoorQ44
import Derived.Test.YtlaionhlejmjdaaGreatDoorQ06
namespace Go.Proofs.YtlaionhlejmjdaaGreatDoor
open Go.RowKit

theorem Tryz.info_bool9 : (Tryz.prog.info? 4).map (fun i => (i.zero, i.size, i.bytes)) = some (some (.bool false), 1, 1) := by kernel_rfl
theorem ocBL (l : List Bool) : ∀ u ∈ l.map Value.bool, u.oneCell' = true := by intro u hu; obtain ⟨x, _, rfl⟩ := List.mem_map.1 hu; rfl
theorem own_putf {w : World} {base : Nat} {e : TypeId} {A : Option Addr} {n c : Nat} {xs : List Value} (h : w.ownsRow base e 1 (.slice A n c) n xs) {k : Nat} (hk : k < n) :
    ∃ g u, A = some ⟨g, 0, none⟩ ∧ xs[k]? = some u ∧ w.cell? ⟨g, k, none⟩ = some u ∧ w.frozen? ⟨g, k, none⟩ = false ∧ ∀ z, (w.setCell ⟨g, k, none⟩ z).ownsRow base e 1 (.slice A n c) n (xs.set k z) := by
  rcases own_blk h with ⟨_, hn, _⟩ | ⟨g, cap, rest, hv, hb, hB, hn, hm, hx, hc⟩
  · omega
  · injection hv with hv _ hcc
    subst hv hcc
    rw [Nat.mul_one] at hx
    obtain ⟨u, hu⟩ : ∃ u, xs[k]? = some u := ⟨_, List.getElem?_eq_getElem (by omega)⟩
    refine ⟨g, u, rfl, hu, by rw [hB.cell, List.getElem?_append_left (by omega)]; exact hu, hB.free k, fun z => ?_⟩
    have h3 := hB.set_ k z
    rw [List.set_append_left _ _ (by omega)] at h3
    exact own_of_blk h3 hb hn hm (by rw [List.length_set, hx, Nat.mul_one]) (by simpa using hc)
/-- The texts of FrontEnds. -/
def ofT : List ByteArray := [⟨#[]⟩, ⟨#[97]⟩, ⟨#[97, 98]⟩, ⟨#[97, 98, 99]⟩, ⟨#[98]⟩, ⟨#[98, 97]⟩, ⟨#[98, 98]⟩, ⟨#[99]⟩, ⟨#[99, 97]⟩, ⟨#[99, 97, 98]⟩]
theorem ofT_rise : riseT ofT = true := by decide +kernel
theorem ofT_size : ∀ s ∈ ofT, s.size ≤ 3 := by decide +kernel
theorem ofT_sym : (symL ofT).length ≤ 100 := by decide +kernel
theorem rd_of (w : World) : Rd (w.alloc (.cells #[.string ⟨#[]⟩, .string ⟨#[97]⟩, .string ⟨#[97, 98]⟩, .string ⟨#[97, 98, 99]⟩, .string ⟨#[98]⟩, .string ⟨#[98, 97]⟩, .string ⟨#[98, 98]⟩, .string ⟨#[99]⟩, .string ⟨#[99, 97]⟩, .string ⟨#[99, 97, 98]⟩] 9)) (w.heap.size + 1) (some ⟨w.heap.size, 0, none⟩) (ofT.map .string) := Rd.new w _ 9 (0, 0)
theorem cutV {w : World} {B : Nat} {A : Option Addr} {xs : List Value} {k n c : Nat} (h : Rd w B A xs) (hl : xs.length = n) (hc : n ≤ c) : Rd w B (if c = k then A else A.map fun x => x.add k) (xs.drop k) := by
  by_cases he : c = k
  · rw [List.drop_of_length_le (by omega)]
    exact Rd.nil _ _ _
  · rw [if_neg he]
    rcases A with _ | a
    · rcases xs with _ | ⟨x, m⟩
      · rw [List.drop_nil]; exact Rd.nil _ _ _
      · obtain ⟨_, e, _⟩ := h 0 _ rfl
        cases e
    · exact h.drop k
/-- The first loop of FrontEnds. -/
def Ends1 (w wr : World) (n cd cf : Nat) (Ad Af : Option Addr) (ds fs : List ByteArray) : Prop :=
  TwoR wr w.heap.size 9 9 (.slice Ad n cd) (.slice Af n cf) n n (ds.map .string) (fs.map .string) ∧ (∀ x ∈ ds, x.size ≤ 26) ∧ (∀ x ∈ fs, x.size ≤ 26) ∧ ds.length = n ∧ fs.length = n ∧ Kp [] w wr
set_option maxRecDepth 100000 in
set_option maxHeartbeats 4000000 in
theorem frontends_any (w : World) (ht : Tab64 w) : Calls Tryz.prog 5 #[] w fun e w' => e = .returned (.bool true) ∧ Kp [] w w' := by
  obtain ⟨i0, hi0, hz0, hz1, hz2⟩ := info_parts Tryz.info_str17
  obtain ⟨ib, hib, hb1, hb2, hb3⟩ := info_parts Tryz.info_bool9
  have HT := Lib.hid ht
  clear ht
  go_enter Tryz.func5, Tryz.ntmps5
  go_wp2_with fail
  go_loopw [1, 2, 3, 4] (fun v u y x wr => ∃ (n cd cf : Nat) (Ad Af : Option Addr) (ds fs : List ByteArray) (s : ByteArray), v = .slice Ad n cd ∧ u = .slice Af n cf ∧ y = .string s ∧ x = .int .i64 (n : Int) ∧ n ≤ 26 ∧ s.size ≤ n ∧ Hid (Ends1 w wr n cd cf Ad Af ds fs)) (fun _ _ _ x _ => 26 - (intOf x).toNat)
  case atStart => exact ⟨0, 0, 0, none, none, [], [], ⟨#[]⟩, rfl, rfl, rfl, rfl, by omega, by decide, Lib.hid ⟨TwoR.nil _ _ _ _, by simp, by simp, rfl, rfl, Kp.refl _ _⟩⟩
  case round =>
    obtain ⟨n, cd, cf, Ad, Af, ds, fs, s, rfl, rfl, rfl, rfl, hn, hs, HE⟩ := hrel
    by_cases hlt : n < 26
    · have hnI : decide ((n : Int) < 26) = true := by simp; omega
      have HSZ := Lib.hid (show w.heap.size ≤ wr.heap.size from HE.out.2.2.2.2.2.size)
      have HTW := Lib.hid HE.out.1
      have hO := Lib.hid HTW.out.o1
      obtain ⟨rm, hrm⟩ : ∃ rm, rm = n % 2 := ⟨_, rfl⟩
      have htm : Int.tmod (n : Int) 2 = (rm : Int) := by rw [Int.tmod_eq_emod_of_nonneg (by omega)]; omega
      have hrm1 : rm ≤ 1 := by omega
      obtain ⟨n5, hn5⟩ : ∃ n5, n5 = n / 5 := ⟨_, rfl⟩
      have htd : Int.tdiv (n : Int) 5 = (n5 : Int) := by rw [Int.tdiv_eq_ediv_of_nonneg (by omega)]; omega
      have hn5b : n5 ≤ 26 := by omega
      clear hrm hn5
      go_wp2_with (at_builtin; go_loud (refine wpList_append_rd rfl (.tmp 17) (.tmp 19) 22 rfl (w.heap.size) 9 i0 (.string ⟨#[]⟩) 1 16 Tryz.underlying22 hi0 hz0 hz1 hz2 rfl (by decide) (.slice Ad n cd) (n) _ rfl (own_kp0 hO.out ((Kp.refl [] _).alloc _)) _ _ 1 1 [.string s] rfl rfl (Rd.new wr #[.string s] 9 (0, 0)) (by intro u hu; simp at hu; subst hu; rfl) (by unfold maxLen; omega) (by omega) (by have := HSZ.out; simp; omega) ?_); intro v3 w3 hown3 hgrow3 hat3; obtain ⟨hka3, hga3⟩ := app_facts hgrow3 hat3; obtain ⟨A3', c3', rfl, _⟩ := own_form hown3)
      have HTW3 := Lib.hid (HTW.out.left hown3 hgrow3 hat3)
      have HK3 := Lib.hid (HE.out.2.2.2.2.2.trans' hka3 (fun x hx => .inr (own_ge HTW.out.o1 (mem_ownL.1 hx)).1))
      have HSZ3 := Lib.hid HK3.out.size
      have hO3 := Lib.hid HTW3.out.o2
      clear hown3 hgrow3 hat3 hka3 hga3 hO
      obtain ⟨w4, hw4⟩ : ∃ w4, w4 = w3.alloc (.cells #[.int .u8 (97 + (n : Int))] 5) := ⟨_, rfl⟩
      have hk4 : Kp [] w3 w4 := by rw [hw4]; exact (Kp.refl [] w3).alloc _
      have hcv : (convert 50 9 (.slice (some ⟨w3.heap.size, 0, none⟩) 1 1)).run Tryz.prog (w3.alloc (.cells #[.int .u8 (97 + (n : Int))] 5)) = .ok (.string (strN [97 + n])) w4 := by
        rw [hw4]
        exact run_strN _ _ 1 1 _ [97 + n] rfl (by simp; omega) (Rd.new w3 #[.int .u8 (97 + (n : Int))] 5 (0, 0))
      have HSZ4 := Lib.hid (Nat.le_trans HSZ3.out hk4.size)
      have HO4 := Lib.hid (own_kp0 hO3.out hk4)
      go_wp2_with fail
      rw [hcv]
      clear hcv hw4
      go_wp2_with (at_builtin; go_loud (refine wpList_append_rd rfl (.tmp 21) (.tmp 27) 22 rfl (w.heap.size) 9 i0 (.string ⟨#[]⟩) 1 16 Tryz.underlying22 hi0 hz0 hz1 hz2 rfl (by decide) (.slice Af n cf) (n) _ rfl (own_kp0 HO4.out ((Kp.refl [] _).alloc _)) _ _ 1 1 [.string (strN [97 + n])] rfl rfl (Rd.new w4 #[.string (strN [97 + n])] 9 (0, 0)) (by intro u hu; simp at hu; subst hu; rfl) (by unfold maxLen; omega) (by omega) (by have := HSZ4.out; simp; omega) ?_); intro v5 w5 hown5 hgrow5 hat5; obtain ⟨hka5, hga5⟩ := app_facts hgrow5 hat5; obtain ⟨A5', c5', rfl, _⟩ := own_form hown5)
      obtain ⟨fn, hfn⟩ : ∃ fn, fn = strN [97 + n] := ⟨_, rfl⟩
      have hfz : fn.size = 1 := by rw [hfn, strN_size]; rfl
      rw [← hfn] at hown5
      have HTW5 := Lib.hid (((HTW3.out.kp hk4 (by simp)).swap.left hown5 hgrow5 hat5).swap)
      have HK5 := Lib.hid ((HK3.out.trans hk4).trans' hka5 (fun x hx => .inr (own_ge HO4.out (mem_ownL.1 hx)).1))
      have HE5 := Lib.hid (show Ends1 w w5 (n + 1) c3' c5' A3' A5' (ds ++ [s]) (fs ++ [fn]) from ⟨by rw [List.map_append, List.map_append]; exact HTW5.out, fun x hx => by
        rcases List.mem_append.1 hx with h | h
        · exact HE.out.2.1 x h
        · rw [List.mem_singleton.1 h]; omega, fun x hx => by
        rcases List.mem_append.1 hx with h | h
        · exact HE.out.2.2.1 x h
        · rw [List.mem_singleton.1 h]; omega, by rw [List.length_append, HE.out.2.2.2.1]; rfl, by rw [List.length_append, HE.out.2.2.2.2.1]; rfl, HK5.out⟩)
      obtain ⟨ds', hds'⟩ : ∃ ds', ds' = ds ++ [s] := ⟨_, rfl⟩
      obtain ⟨fs', hfs'⟩ : ∃ fs', fs' = fs ++ [fn] := ⟨_, rfl⟩
      rw [← hds', ← hfs'] at HE5
      have hx2 : (((⟨#[97, 98]⟩ : ByteArray).extract rm (rm + 1)).size) ≤ 1 := by
        have h9 := txt_len ((⟨#[97, 98]⟩ : ByteArray).extract rm (rm + 1))
        rw [txt_extract, List.length_take] at h9
        omega
      have hr0 : (0 : Int) ≤ (rm : Int) := by omega
      have hr2 : (rm : Int) + 1 ≤ 2 := by omega
      have hs26 : s.size ≤ 26 := by omega
      clear hds' hfs' hk4 HSZ4 HO4 hown5 hgrow5 hat5 hka5 hga5 HTW HTW3 HTW5 HK3 HSZ3 hO3 HE HSZ hfn
      go_wp2_with fail
      have HT5 := Lib.hid (HT.out.kp0 HK5.out)
      have HRD := Lib.hid (show Rd w5 w5.heap.size A3' (ds'.map .string) from own_rd HE5.out.1.o1)
      have HRF := Lib.hid (show Rd w5 w5.heap.size A5' (fs'.map .string) from own_rd HE5.out.1.o2)
      have HDL := Lib.hid (show ds'.length = n + 1 from HE5.out.2.2.2.1)
      have HFL := Lib.hid (show fs'.length = n + 1 from HE5.out.2.2.2.2.1)
      have HDS := Lib.hid (show ∀ x ∈ ds', x.size ≤ 140737488351232 from fun x hx => by have := HE5.out.2.1 x hx; omega)
      have HFS := Lib.hid (show ∀ x ∈ fs', x.size ≤ 140737488351232 from fun x hx => by have := HE5.out.2.2.1 x hx; omega)
      go_loopw [5] (fun x wq => ∃ i : Nat, x = .int .i64 (i : Int) ∧ i ≤ 60 ∧ Hid (Kp [] w5 wq)) (fun x _ => n + 1 - (intOf x).toNat)
      case atStart => exact ⟨0, rfl, by omega, Lib.hid (Kp.refl _ _)⟩
      case round =>
        obtain ⟨i, rfl, hi60, HKQ⟩ := hrel
        by_cases hin : i ≤ n
        · have hinI : decide ((i : Int) ≤ (n : Int)) = true := by simp; omega
          have hi0' : (0 : Int) ≤ (i : Int) := by omega
          have hi1' : (i : Int) < (n : Int) + 1 := by omega
          obtain ⟨d, add, hd, rfl, _, hcd⟩ := (HRD.out.kp0 HKQ.out).str (k := i) (by rw [HDL.out]; omega)
          obtain ⟨fl, adf, hfl, rfl, _, hcf⟩ := (HRF.out.kp0 HKQ.out).str (k := i) (by rw [HFL.out]; omega)
          have hdz : d.size ≤ 26 := HE5.out.2.1 d (List.mem_of_getElem? hd)
          have hflz : fl.size ≤ 26 := HE5.out.2.2.1 fl (List.mem_of_getElem? hfl)
          have HDK := Lib.hid hd
          have HFK := Lib.hid hfl
          clear hd hfl hcf
          have hn27 : n + 1 ≤ 140737488351232 := by omega
          go_wp2_with fail
          have hda : (d ++ (⟨#[97]⟩ : ByteArray)).size ≤ 140737488351232 := by
            rw [ByteArray.size_append]
            show d.size + 1 ≤ _
            omega
          have hfa : (fl ++ (⟨#[97]⟩ : ByteArray)).size ≤ 140737488351232 := by
            rw [ByteArray.size_append]
            show fl.size + 1 ≤ _
            omega
          refine (frontof_any (some add) (some add) (n + 1) c3' (n + 1) c3' ds' ds' (i : Int) _ wr ((HRD.out.kp0 HKQ.out).bound HKQ.out.size) ((HRD.out.kp0 HKQ.out).bound HKQ.out.size) HDL.out HDL.out hn27 hn27 HDS.out HDS.out hda (HT5.out.kp0 HKQ.out)).mono ?_
          rintro e w6 ⟨rfl, hk6⟩
          have HKQ6 := Lib.hid (HKQ.out.trans hk6)
          clear hk6 hcd
          obtain ⟨f2, adf2, hf2, e', _, hcf⟩ := (HRF.out.kp0 HKQ6.out).str (k := i) (by rw [HFL.out]; omega)
          injection e' with e'
          subst e'
          rw [HFK.out] at hf2
          injection hf2 with hf2
          subst hf2
          go_wp2_with fail
          refine (frontof_any (some adf) (some adf) (n + 1) c5' (n + 1) c5' fs' fs' (i : Int) _ w6 ((HRF.out.kp0 HKQ6.out).bound HKQ6.out.size) ((HRF.out.kp0 HKQ6.out).bound HKQ6.out.size) HFL.out HFL.out hn27 hn27 HFS.out HFS.out hfa (HT5.out.kp0 HKQ6.out)).mono ?_
          rintro e w7 ⟨rfl, hk7⟩
          have HKQ7 := Lib.hid (HKQ6.out.trans hk7)
          clear hk7 hcf
          obtain ⟨d2, add2, hd2, e', _, hcd⟩ := (HRD.out.kp0 HKQ7.out).str (k := i) (by rw [HDL.out]; omega)
          injection e' with e'
          subst e'
          rw [HDK.out] at hd2
          injection hd2 with hd2
          subst hd2
          go_wp2_with fail
          refine (frontof_any (some add) (some add) (n + 1) c3' (n + 1) c3' ds' ds' ((i : Int) - 1) _ w7 ((HRD.out.kp0 HKQ7.out).bound HKQ7.out.size) ((HRD.out.kp0 HKQ7.out).bound HKQ7.out.size) HDL.out HDL.out hn27 hn27 HDS.out HDS.out (by omega) (HT5.out.kp0 HKQ7.out)).mono ?_
          rintro e w8 ⟨rfl, hk8⟩
          have HKQ8 := Lib.hid (HKQ7.out.trans hk8)
          clear hk8 hcd
          obtain ⟨f2, adf2, hf2, e', _, hcf⟩ := (HRF.out.kp0 HKQ8.out).str (k := i) (by rw [HFL.out]; omega)
          injection e' with e'
          subst e'
          rw [HFK.out] at hf2
          injection hf2 with hf2
          subst hf2
          go_wp2_with fail
          refine (frontof_any (some adf) (some adf) (n + 1) c5' (n + 1) c5' fs' fs' ((n : Int) + 1) _ w8 ((HRF.out.kp0 HKQ8.out).bound HKQ8.out.size) ((HRF.out.kp0 HKQ8.out).bound HKQ8.out.size) HFL.out HFL.out hn27 hn27 HFS.out HFS.out (by omega) (HT5.out.kp0 HKQ8.out)).mono ?_
          rintro e w9 ⟨rfl, hk9⟩
          have HKQ9 := Lib.hid (HKQ8.out.trans hk9)
          clear hk9 hcf
          go_wp2_with fail
          exact ⟨⟨i + 1 + n5, by go_num, by omega, HKQ9⟩, by simp [intOf]; omega⟩
        · have hinI : decide ((i : Int) ≤ (n : Int)) = false := by simp; omega
          obtain ⟨d0, add, hd0, rfl, _, _⟩ := (HRD.out.kp0 HKQ.out).str (k := 0) (by rw [HDL.out]; omega)
          obtain ⟨f0, adf, hf0, rfl, _, _⟩ := (HRF.out.kp0 HKQ.out).str (k := 0) (by rw [HFL.out]; omega)
          clear hd0 hf0
          have hn0' : (0 : Int) ≤ (n : Int) := by omega
          have hnc3 : n ≤ c3' := by obtain ⟨_, _, hv, hc, _⟩ := own_form HE5.out.1.o1; injection hv with _ _ hv; omega
          have hnc5 : n ≤ c5' := by obtain ⟨_, _, hv, hc, _⟩ := own_form HE5.out.1.o2; injection hv with _ _ hv; omega
          have hn27 : n + 1 ≤ 140737488351232 := by omega
          have HDT := Lib.hid (show (ds'.take n).length = n by rw [List.length_take, HDL.out]; omega)
          have HFT := Lib.hid (show (fs'.take n).length = n by rw [List.length_take, HFL.out]; omega)
          have HRDn := Lib.hid (show Rd (wr.alloc (.cells #[.string ⟨#[]⟩] 9)) w5.heap.size (some add) ((ds'.take n).map .string) from by rw [List.map_take]; exact ((HRD.out.kp0 HKQ.out).kp0 ((Kp.refl [] _).alloc _)).take n)
          go_wp2_with (at_builtin; go_loud (refine wpList_append_full (by rfl) (.tmp 95) (.tmp 96) 22 rfl 9 i0 (.string ⟨#[]⟩) 1 16 Tryz.underlying22 hi0 hz0 hz1 hz2 rfl (by decide) add n n _ _ ((ds'.take n).map .string) [.string ⟨#[]⟩] rfl (by rw [List.length_map, HDT.out, Nat.mul_one]) HRDn.out ⟨wr.heap.size, 0, none⟩ 1 1 rfl rfl (Rd.new wr #[.string ⟨#[]⟩] 9 (0, 0)) (by omega) (by unfold maxLen; omega) (by omega) ?_); intro v6 w6 hown6 hk6; obtain ⟨A6, c6, rfl, _⟩ := own_form hown6)
          have HKQ6 := Lib.hid ((HKQ.out.alloc (.cells #[.string ⟨#[]⟩] 9)).trans hk6)
          have HR6 := Lib.hid (show Rd w6 w6.heap.size A6 (((ds'.take n) ++ [(⟨#[]⟩ : ByteArray)]).map .string) from by rw [List.map_append]; exact own_rd hown6)
          have HL6 := Lib.hid (show ((ds'.take n) ++ [(⟨#[]⟩ : ByteArray)]).length = n + 1 by rw [List.length_append, HDT.out]; rfl)
          have HS6 := Lib.hid (show ∀ x ∈ ((ds'.take n) ++ [(⟨#[]⟩ : ByteArray)]), x.size ≤ 140737488351232 from fun x hx => by
            rcases List.mem_append.1 hx with h | h
            · exact HDS.out x (List.mem_of_mem_take h)
            · rw [List.mem_singleton.1 h]; decide)
          clear hown6 hk6 HRDn
          refine (frontof_any (some add) A6 (n + 1) c3' (n + 1) c6 ds' _ 0 _ w6 ((HRD.out.kp0 HKQ6.out).bound HKQ6.out.size) HR6.out HDL.out HL6.out hn27 hn27 HDS.out HS6.out (by decide) (HT5.out.kp0 HKQ6.out)).mono ?_
          rintro e w7 ⟨rfl, hk7⟩
          have HKQ7 := Lib.hid (HKQ6.out.trans hk7)
          clear hk7 HR6 HL6 HS6 HKQ6
          go_wp2_with fail
          refine (frontof_any (some add) (some adf) (n + 1) c3' (n + 1) c5' ds' fs' 0 _ w7 ((HRD.out.kp0 HKQ7.out).bound HKQ7.out.size) ((HRF.out.kp0 HKQ7.out).bound HKQ7.out.size) HDL.out HFL.out hn27 hn27 HDS.out HFS.out (by decide) (HT5.out.kp0 HKQ7.out)).mono ?_
          rintro e w8 ⟨rfl, hk8⟩
          have HKQ8 := Lib.hid (HKQ7.out.trans hk8)
          clear hk8 HKQ7
          have HRFn := Lib.hid (show Rd (w8.alloc (.cells #[.string ⟨#[126]⟩] 9)) w5.heap.size (some adf) ((fs'.take n).map .string) from by rw [List.map_take]; exact ((HRF.out.kp0 HKQ8.out).kp0 ((Kp.refl [] _).alloc _)).take n)
          go_wp2_with (at_builtin; go_loud (refine wpList_append_full (by rfl) (.tmp 111) (.tmp 112) 22 rfl 9 i0 (.string ⟨#[]⟩) 1 16 Tryz.underlying22 hi0 hz0 hz1 hz2 rfl (by decide) adf n n _ _ ((fs'.take n).map .string) [.string ⟨#[126]⟩] rfl (by rw [List.length_map, HFT.out, Nat.mul_one]) HRFn.out ⟨w8.heap.size, 0, none⟩ 1 1 rfl rfl (Rd.new w8 #[.string ⟨#[126]⟩] 9 (0, 0)) (by omega) (by unfold maxLen; omega) (by omega) ?_); intro v9 w9 hown9 hk9; obtain ⟨A9, c9, rfl, _⟩ := own_form hown9)
          have HKQ9 := Lib.hid ((HKQ8.out.alloc (.cells #[.string ⟨#[126]⟩] 9)).trans hk9)
          have HR9 := Lib.hid (show Rd w9 w9.heap.size A9 (((fs'.take n) ++ [(⟨#[126]⟩ : ByteArray)]).map .string) from by rw [List.map_append]; exact own_rd hown9)
          have HL9 := Lib.hid (show ((fs'.take n) ++ [(⟨#[126]⟩ : ByteArray)]).length = n + 1 by rw [List.length_append, HFT.out]; rfl)
          have HS9 := Lib.hid (show ∀ x ∈ ((fs'.take n) ++ [(⟨#[126]⟩ : ByteArray)]), x.size ≤ 140737488351232 from fun x hx => by
            rcases List.mem_append.1 hx with h | h
            · exact HFS.out x (List.mem_of_mem_take h)
            · rw [List.mem_singleton.1 h]; decide)
          clear hown9 hk9 HRFn
          refine (frontof_any (some adf) A9 (n + 1) c5' (n + 1) c9 fs' _ 0 _ w9 ((HRF.out.kp0 HKQ9.out).bound HKQ9.out.size) HR9.out HFL.out HL9.out hn27 hn27 HFS.out HS9.out (by decide) (HT5.out.kp0 HKQ9.out)).mono ?_
          rintro e w10 ⟨rfl, hk10⟩
          have HKQ10 := Lib.hid (HKQ9.out.trans hk10)
          have HE10 := Lib.hid (show Ends1 w w10 (n + 1) c3' c5' (some add) (some adf) ds' fs' from ⟨HE5.out.1.kp HKQ10.out (by simp), HE5.out.2.1, HE5.out.2.2.1, HDL.out, HFL.out, HE5.out.2.2.2.2.2.trans HKQ10.out⟩)
          clear hk10 HR9 HL9 HS9 HKQ9
          go_wp2_with fail
          exact ⟨⟨n + 1, c3', c5', some add, some adf, ds', fs', _, rfl, rfl, rfl, by go_num, by omega, by rw [ByteArray.size_append]; omega, HE10⟩, by simp [intOf]; omega⟩
    · have hnI : decide ((n : Int) < 26) = false := by simp; omega
      have HK := Lib.hid (show Kp [] w wr from HE.out.2.2.2.2.2)
      clear HE
      go_wp2_with fail
      obtain ⟨w1, hw1⟩ : ∃ w1, w1 = wr.alloc (.cells #[.string ⟨#[]⟩, .string ⟨#[97]⟩, .string ⟨#[97, 98]⟩, .string ⟨#[97, 98, 99]⟩, .string ⟨#[98]⟩, .string ⟨#[98, 97]⟩, .string ⟨#[98, 98]⟩, .string ⟨#[99]⟩, .string ⟨#[99, 97]⟩, .string ⟨#[99, 97, 98]⟩] 9) := ⟨_, rfl⟩
      obtain ⟨ob, hob⟩ : ∃ ob, ob = wr.heap.size := ⟨_, rfl⟩
      have hx1 := rd_of wr
      rw [← hw1, ← hob] at hx1
      rw [← hw1, ← hob]
      have HX := Lib.hid hx1
      have HS1 := Lib.hid (show w1.heap.size = ob + 1 from by rw [hw1, hob]; simp)
      have hk1 : Kp [] wr w1 := by rw [hw1]; exact (Kp.refl [] wr).alloc _
      replace HK := Lib.hid (HK.out.trans hk1)
      clear hx1 hw1 hob hk1
      refine (rof_any (some ⟨ob, 0, none⟩) 10 10 _ ofT w1 HX.out rfl (by omega) (Nat.le_trans ofT_sym (by omega)) (by rw [HS1.out]; exact Nat.le_refl _)).mono ?_
      rintro e w2 ⟨p, rfl, hrc, hk2⟩
      rw [toNat_smO] at hrc
      have HRC := Lib.hid hrc
      have HENC := Lib.hid (show ∀ s ∈ ofT, ∃ r, encT (treeC (smO (symL ofT)) (lensL (wtO (symL ofT)))) s = some r from fun s hs => enc_all hrc.1 (fun x hx => by
        have hx2 : x ∈ symL ofT := List.mem_flatMap.2 ⟨s, hs, hx⟩
        exact mem_sgK hx2 (symL_lt _ x hx2)))
      obtain ⟨T, hT⟩ : ∃ T, T = treeC (smO (symL ofT)) (lensL (wtO (symL ofT))) := ⟨_, rfl⟩
      rw [← hT] at HRC HENC
      have HX2 := Lib.hid (HX.out.kp0 hk2)
      have HS2 := Lib.hid (show ob + 1 ≤ w2.heap.size from by rw [← HS1.out]; exact hk2.size)
      replace HK := Lib.hid (HK.out.trans hk2)
      have HWA := Lib.hid HK.out.size
      have HBL := Lib.hid (show ∀ j, (frontB T (ofT.take j)).length ≤ 90000 from fun j => by
        have h1 := frontB_len HRC.out.1 ofT (fun s hs => by have := ofT_size s hs; omega) j
        have h2 := symL_take ofT j
        have := ofT_sym
        omega)
      clear hrc hk2 hT HX
      go_wp2_with fail
      refine (rfof_any _ _ p 10 10 _ (some ⟨ob, 0, none⟩) ofT T _ _ w2 HRC.out HX2.out rfl (by omega) (fun s hs => by have := ofT_size s hs; omega) (fun j => by have := HBL.out j; omega)).mono ?_
      rintro e w3 ⟨hk3, ⟨hr, _⟩ | ⟨_, ⟨s, hs, hno⟩, _⟩ | ⟨_, _, r, At, Ab, As, ct, cb, cs, n', N, m', rfl, hrf⟩⟩
      · rw [ofT_rise] at hr; cases hr
      · obtain ⟨r, hr⟩ := HENC.out s hs
        rw [hr] at hno
        cases hno
      have HRF := Lib.hid hrf
      have HX3 := Lib.hid (HX2.out.kp0 hk3)
      replace HK := Lib.hid (HK.out.trans hk3)
      have HW2 := Lib.hid (show w2.heap.size ≤ w3.heap.size from hk3.size)
      have HWW := Lib.hid (show w.heap.size ≤ w2.heap.size from HWA.out)
      obtain ⟨L, hL⟩ : ∃ L, L = frontB T ofT := ⟨_, rfl⟩
      have HLB := Lib.hid (show Rd w3 w3.heap.size Ab (L.map .bool) from by rw [hL]; exact hrf.rb)
      have HLO := Lib.hid (show w3.ownsRow 0 4 1 (.slice Ab N cb) N (L.map .bool) from by rw [hL]; exact hrf.ob)
      have HLN := Lib.hid (show L.length = N from by rw [hL]; exact hrf.nb)
      have hNcb : N ≤ cb := hrf.hcb
      have hN9 : N ≤ 90000 := by
        rw [← HLN.out, hL]
        have h1 := HBL.out ofT.length
        rwa [List.take_of_length_le (Nat.le_refl _)] at h1
      have hcr : w3.cell? ⟨r, 1, none⟩ = some (.slice Ab N cb) := hrf.cells.2.1
      have HCR := Lib.hid hcr
      have HT3 := Lib.hid (HT.out.kp0 HK.out)
      have HOS := Lib.hid (show ∀ s ∈ ofT, s.size ≤ 140737488351232 from fun s hs => by have := ofT_size s hs; omega)
      clear hrf hk3 hL HX2 HRC HENC HBL hcr
      go_wp2_with fail
      go_loopw [11] (fun x wr => ∃ k : Nat, x = .int .i64 (k : Int) ∧ k ≤ N + 1 ∧ Hid (Kp [] w3 wr)) (fun x _ => N + 1 - (intOf x).toNat)
      case atStart => exact ⟨0, rfl, by omega, Lib.hid (Kp.refl _ _)⟩
      case round =>
        obtain ⟨k, rfl, hk, HKR⟩ := hrel
        have hc1 : wr.cell? ⟨r, 1, none⟩ = some (.slice Ab N cb) := HKR.out.cell HCR.out (by simp)
        by_cases hlt : k ≤ N
        · have hkI : decide ((k : Int) ≤ (N : Int)) = true := by simp; omega
          have hkcb : k ≤ cb := by omega
          have hk0 : (0 : Int) ≤ (k : Int) := by omega
          obtain ⟨m4, hm4⟩ : ∃ m4, m4 = k % 4 := ⟨_, rfl⟩
          obtain ⟨m11, hm11⟩ : ∃ m11, m11 = k % 11 := ⟨_, rfl⟩
          obtain ⟨m13, hm13⟩ : ∃ m13, m13 = k % 13 := ⟨_, rfl⟩
          have ht4 : Int.tmod (k : Int) 4 = (m4 : Int) := by rw [Int.tmod_eq_emod_of_nonneg (by omega)]; omega
          have ht11 : Int.tmod (k : Int) 11 = (m11 : Int) := by rw [Int.tmod_eq_emod_of_nonneg (by omega)]; omega
          have ht13 : Int.tmod (k : Int) 13 = (m13 : Int) := by rw [Int.tmod_eq_emod_of_nonneg (by omega)]; omega
          have h4 : m4 < 4 := by omega
          have h11 : m11 < 11 := by omega
          have h13 : m13 < 13 := by omega
          obtain ⟨nk, hnk⟩ : ∃ nk, N - k = nk := ⟨_, rfl⟩
          have HTK := Lib.hid (show (L.take k).length = k by rw [List.length_take, HLN.out]; omega)
          have HDK := Lib.hid (show (L.drop k).length = nk by rw [List.length_drop, HLN.out, hnk])
          have HRK := Lib.hid (show Rd w3 w3.heap.size Ab ((L.take k).map .bool) from by rw [List.map_take]; exact HLB.out.take k)
          have hnk9 : nk ≤ 90000 := by omega
          clear hm4 hm11 hm13
          by_cases hck : k = cb
          · subst hck
            have HR2 := Lib.hid (show Rd w3 w3.heap.size Ab ((L.drop k).map .bool) from by
              rw [show L.drop k = [] from List.drop_of_length_le (by rw [HLN.out]; omega)]
              exact Rd.nil _ _ _)
            have hcap : nk ≤ 0 := by omega
            go_wp2_with fail
            refine (frontreads_any (some ⟨ob, 0, none⟩) Ab 10 10 k k ofT (L.take k) 10 3 _ wr ((HX3.out.kp0 HKR.out).bound (Nat.le_trans HS2.out (Nat.le_trans HW2.out HKR.out.size))) ((HRK.out.kp0 HKR.out).bound HKR.out.size) rfl HTK.out hkcb (by omega) (by omega) HOS.out (by decide) (HT3.out.kp0 HKR.out)).mono ?_
            rintro e w4 ⟨rfl, hk4⟩
            have HK4 := Lib.hid (HKR.out.trans hk4)
            have hc1 : w4.cell? ⟨r, 1, none⟩ = some (.slice Ab N k) := HK4.out.cell HCR.out (by simp)
            clear hk4
            go_wp2_with fail
            refine (frontreads_any (some ⟨ob, 0, none⟩) Ab 10 10 nk 0 ofT (L.drop k) _ 1 _ w4 ((HX3.out.kp0 HK4.out).bound (Nat.le_trans HS2.out (Nat.le_trans HW2.out HK4.out.size))) ((HR2.out.kp0 HK4.out).bound HK4.out.size) rfl HDK.out hcap (by omega) (by omega) HOS.out (by decide) (HT3.out.kp0 HK4.out)).mono ?_
            rintro e w5 ⟨rfl, hk5⟩
            have HK5 := Lib.hid (HK4.out.trans hk5)
            have hc1 : w5.cell? ⟨r, 1, none⟩ = some (.slice Ab N k) := HK5.out.cell HCR.out (by simp)
            clear hk5
            go_wp2_with fail
            refine (frontreads_any (some ⟨ob, 0, none⟩) Ab 10 10 N k ofT L _ _ _ w5 ((HX3.out.kp0 HK5.out).bound (Nat.le_trans HS2.out (Nat.le_trans HW2.out HK5.out.size))) ((HLB.out.kp0 HK5.out).bound HK5.out.size) rfl HLN.out hNcb (by omega) (by omega) HOS.out (by decide) (HT3.out.kp0 HK5.out)).mono ?_
            rintro e w6 ⟨rfl, hk6⟩
            have HK6 := Lib.hid (HK5.out.trans hk6)
            have hc1 : w6.cell? ⟨r, 1, none⟩ = some (.slice Ab N k) := HK6.out.cell HCR.out (by simp)
            clear hk6 HK4 HK5 HRK HR2 HDK HTK ht4 ht11 ht13 hnk hcap
            have hkN : ¬ k < N := by omega
            have hkNI : decide ((k : Int) < (N : Int)) = false := by simp; omega
            go_wp2_with fail
            exact ⟨⟨k + 1, by go_num, by omega, HK6⟩, by simp [intOf]; omega⟩
          · have HR2 := Lib.hid (show Rd w3 w3.heap.size (Ab.map fun x => x.add k) ((L.drop k).map .bool) from by
              have h1 := cutV (k := k) HLB.out (by rw [List.length_map, HLN.out]) hNcb
              rw [if_neg (fun e => hck e.symm)] at h1
              rw [List.map_drop]
              exact h1)
            have hcap : nk ≤ cb - k := by omega
            have hck2 : ¬ cb = k := fun e => hck e.symm
            go_wp2_with fail
            refine (frontreads_any (some ⟨ob, 0, none⟩) Ab 10 10 k cb ofT (L.take k) 10 3 _ wr ((HX3.out.kp0 HKR.out).bound (Nat.le_trans HS2.out (Nat.le_trans HW2.out HKR.out.size))) ((HRK.out.kp0 HKR.out).bound HKR.out.size) rfl HTK.out hkcb (by omega) (by omega) HOS.out (by decide) (HT3.out.kp0 HKR.out)).mono ?_
            rintro e w4 ⟨rfl, hk4⟩
            have HK4 := Lib.hid (HKR.out.trans hk4)
            have hc1 : w4.cell? ⟨r, 1, none⟩ = some (.slice Ab N cb) := HK4.out.cell HCR.out (by simp)
            clear hk4
            go_wp2_with fail
            refine (frontreads_any (some ⟨ob, 0, none⟩) (Ab.map fun x => x.add k) 10 10 nk (cb - k) ofT (L.drop k) _ 1 _ w4 ((HX3.out.kp0 HK4.out).bound (Nat.le_trans HS2.out (Nat.le_trans HW2.out HK4.out.size))) ((HR2.out.kp0 HK4.out).bound HK4.out.size) rfl HDK.out hcap (by omega) (by omega) HOS.out (by decide) (HT3.out.kp0 HK4.out)).mono ?_
            rintro e w5 ⟨rfl, hk5⟩
            have HK5 := Lib.hid (HK4.out.trans hk5)
            have hc1 : w5.cell? ⟨r, 1, none⟩ = some (.slice Ab N cb) := HK5.out.cell HCR.out (by simp)
            clear hk5
            go_wp2_with fail
            refine (frontreads_any (some ⟨ob, 0, none⟩) Ab 10 10 N cb ofT L _ _ _ w5 ((HX3.out.kp0 HK5.out).bound (Nat.le_trans HS2.out (Nat.le_trans HW2.out HK5.out.size))) ((HLB.out.kp0 HK5.out).bound HK5.out.size) rfl HLN.out hNcb (by omega) (by omega) HOS.out (by decide) (HT3.out.kp0 HK5.out)).mono ?_
            rintro e w6 ⟨rfl, hk6⟩
            have HK6 := Lib.hid (HK5.out.trans hk6)
            have hc1 : w6.cell? ⟨r, 1, none⟩ = some (.slice Ab N cb) := HK6.out.cell HCR.out (by simp)
            clear hk6 HK4 HK5 HRK HR2 HDK HTK ht4 ht11 ht13 hnk hcap
            by_cases hkN : k < N
            · skip
              have hkNi : (k : Int) < (N : Int) := by omega
              have hk0i : (0 : Int) ≤ (k : Int) := by omega
              have HLL := Lib.hid (show (L.map Value.bool).length = N * 1 by rw [List.length_map, HLN.out, Nat.mul_one])
              have HRA := Lib.hid (show Rd (w6.alloc (.cells #[] 4)) _ Ab (L.map .bool) from (HLB.out.kp0 HK6.out).kp0 ((Kp.refl [] _).alloc _))
              have hc1a : (w6.alloc (.cells #[] 4)).cell? ⟨r, 1, none⟩ = some (.slice Ab N cb) := ((Kp.refl [] w6).alloc _).cell hc1 (by simp)
              go_wp2_with (at_builtin; go_loud (refine wpList_append_rd rfl (.tmp 182) (.tmp 186) 43 rfl w6.heap.size 4 ib (.bool false) 1 1 Tryz.underlying43 hib hb1 hb2 hb3 rfl (by decide) (.slice (some ⟨w6.heap.size, 0, none⟩) 0 0) 0 [] rfl (own_nilS w6 w6.heap.size _ 1 (Nat.le_refl _)) _ _ N cb (L.map .bool) rfl HLL.out HRA.out (ocBL _) (by unfold maxLen; omega) (by omega) (by simp) ?_); intro v7 w7 hown7 hgrow7 hat7)
              rw [Nat.zero_add, List.nil_append] at hown7
              obtain ⟨A7, c7, rfl, _⟩ := own_form hown7
              have hk7 : Kp [] w6 w7 := ((Kp.refl [] w6).alloc _).grown hgrow7 (fun x hx => .inr (by simp [Value.ownBlock] at hx; omega))
              obtain ⟨g, u, rfl, hu, hcx, hfx, hput⟩ := own_putf hown7 hkN
              obtain ⟨b, rfl⟩ : ∃ b, u = .bool b := by
                rw [List.getElem?_map] at hu
                cases h : L[k]? with
                | none => rw [h] at hu; cases hu
                | some b => rw [h] at hu; injection hu with hu; exact ⟨b, hu.symm⟩
              have hg : w6.heap.size ≤ g := (own_ge hown7 rfl).1
              obtain ⟨w8, hw8⟩ : ∃ w8, w8 = w7.setCell ⟨g, k, none⟩ (.bool (!b)) := ⟨_, rfl⟩
              have HR8 := Lib.hid (show Rd w8 w8.heap.size (some ⟨g, 0, none⟩) ((L.set k (!b)).map .bool) from by
                have h1 := own_rd (hput (.bool (!b)))
                rw [← hw8] at h1
                rw [List.map_set]
                exact h1)
              have HK8 := Lib.hid (show Kp [] w3 w8 from by
                have h1 : Kp [g] w7 w8 := by rw [hw8]; exact (Kp.refl _ _).setCell (.inl (by simp)) _
                exact (HK6.out.trans hk7).trans' h1 (fun x hx => .inr (by rw [List.mem_singleton.1 hx]; exact Nat.le_trans HK6.out.size hg)))
              have HW8 := Lib.hid hw8
              have hix : (Instr.indexAt 43 (.slice (some ⟨g, 0, none⟩) N c7) (.int .i64 (k : Int))).run Tryz.prog w7 = .ok (.pointer (some ⟨g, k, none⟩)) w7 := by
                rw [run_indexAt_slice (h := by kernel_rfl), if_pos (by omega), (show ∀ w, (sizeOf (Tryz.prog.elem 43)).run Tryz.prog w = .ok 1 w from fun _ => by kernel_rfl) w7]
                by_cases hz : k = 0
                · subst hz; rfl
                · simp [Addr.add, Result.andThen, hz]
              clear hc1a hown7 hgrow7 hat7 hk7 hu hput hg hw8 HRA HLL
              go_wp2_with fail
              rw [hix]
              go_wp2_with fail
              rw [← HW8.out]
              refine (frontreads_any (some ⟨ob, 0, none⟩) (some ⟨g, 0, none⟩) 10 10 N c7 ofT (L.set k (!b)) 10 9 _ w8 ((HX3.out.kp0 HK8.out).bound (Nat.le_trans HS2.out (Nat.le_trans HW2.out HK8.out.size))) HR8.out rfl (by rw [List.length_set, HLN.out]) (by omega) (by omega) (by omega) HOS.out (by decide) (HT3.out.kp0 HK8.out)).mono ?_
              rintro e w9 ⟨rfl, hk9⟩
              have HK9 := Lib.hid (HK8.out.trans hk9)
              clear hk9
              go_wp2_with fail
              exact ⟨⟨k + 1, by go_num, by omega, HK9⟩, by simp [intOf]; omega⟩
            · skip
              have hkNI : decide ((k : Int) < (N : Int)) = false := by simp; omega
              go_wp2_with fail
              exact ⟨⟨k + 1, by go_num, by omega, HK6⟩, by simp [intOf]; omega⟩
        · have hkI : decide ((k : Int) ≤ (N : Int)) = false := by simp; omega
          have hwv := HRF.out.og
          have HKE := Lib.hid (HK.out.trans HKR.out)
          have HOR := Lib.hid (own_kp0 (own_kp0 HLO.out HKR.out) ((Kp.refl [] wr).alloc (.cells #[.bool false] 4)))
          have hc1a : (wr.alloc (.cells #[.bool false] 4)).cell? ⟨r, 1, none⟩ = some (.slice Ab N cb) := ((Kp.refl [] wr).alloc _).cell hc1 (by simp)
          go_wp2_with (at_builtin; go_loud (refine wpList_append_rd rfl (.tmp 204) (.tmp 205) 43 rfl 0 4 ib (.bool false) 1 1 Tryz.underlying43 hib hb1 hb2 hb3 rfl (by decide) (.slice Ab N cb) N _ rfl HOR.out _ _ 1 1 [.bool false] rfl rfl (Rd.new wr #[.bool false] 4 (0, 0)) (by intro u hu; simp at hu; subst hu; rfl) (by unfold maxLen; omega) (by omega) (Nat.zero_le _) ?_); intro v9 w9 hown9 hgrow9 hat9)
          obtain ⟨hka9, hga9⟩ := app_facts hgrow9 hat9
          obtain ⟨A9, c9, rfl, hle9, _⟩ := own_form hown9
          have hog : ∀ x ∈ ownL (.slice Ab N cb), w2.heap.size ≤ x := fun x hx => (hwv x (mem_ownL.1 hx)).1
          have HK9 := Lib.hid (show Kp [] w w9 from HKE.out.trans' hka9 (fun x hx => .inr (Nat.le_trans HWW.out (hog x hx))))
          have HX9 := Lib.hid (show Rd w9 w9.heap.size (some ⟨ob, 0, none⟩) (ofT.map .string) from ((HX3.out.kp0 HKR.out).kp_ne hka9 (fun ad e hm => by
            injection e with e
            subst e
            have h1 := hog _ hm
            have h2 := HS2.out
            simp only at h1
            omega)).bound (Nat.le_trans HS2.out (Nat.le_trans HW2.out (Nat.le_trans HKR.out.size hka9.size))))
          have HR9 := Lib.hid (show Rd w9 w9.heap.size A9 ((L ++ [false]).map .bool) from by rw [List.map_append]; exact own_rd hown9)
          have HL9 := Lib.hid (show (L ++ [false]).length = N + 1 by rw [List.length_append, HLN.out]; rfl)
          clear hown9 hgrow9 hat9 hka9 hga9 hog hwv hc1a
          refine (frontreads_any (some ⟨ob, 0, none⟩) A9 10 10 (N + 1) c9 ofT (L ++ [false]) 10 0 _ w9 HX9.out HR9.out rfl HL9.out hle9 (by omega) (by omega) HOS.out (by decide) (HT.out.kp0 HK9.out)).mono ?_
          rintro e w10 ⟨rfl, hk10⟩
          have HK10 := Lib.hid (HK9.out.trans hk10)
          have HX10 := Lib.hid ((HX9.out.kp0 hk10).bound hk10.size)
          clear hk10 HR9 HL9
          go_wp2_with fail
          refine (frontreads_any (some ⟨ob, 0, none⟩) none 10 10 0 0 ofT [] 0 0 _ w10 HX10.out (Rd.nil _ _ _) rfl rfl (Nat.le_refl _) (by omega) (by omega) HOS.out (by decide) (HT.out.kp0 HK10.out)).mono ?_
          rintro e w11 ⟨rfl, hk11⟩
          have HK11 := Lib.hid (HK10.out.trans hk11)
          clear hk11
          go_wp2_with fail
          obtain ⟨w12, hw12⟩ : ∃ w12, w12 = w11.alloc (.cells #[.string ⟨#[]⟩] 9) := ⟨_, rfl⟩
          obtain ⟨w13, hw13⟩ : ∃ w13, w13 = w12.alloc (.cells #[.bool false, .bool true, .bool false] 4) := ⟨_, rfl⟩
          obtain ⟨g1, hg1⟩ : ∃ g1, g1 = w11.heap.size := ⟨_, rfl⟩
          have h12s : w12.heap.size = g1 + 1 := by rw [hw12, hg1]; simp
          rw [← hw12, ← hw13, ← hg1]
          have HX13 := Lib.hid (show Rd w13 w13.heap.size (some ⟨g1, 0, none⟩) (([⟨#[]⟩] : List ByteArray).map .string) from by
            have h1 := Rd.new w11 #[.string ⟨#[]⟩] 9 (0, 0)
            rw [← hw12, ← hg1] at h1
            have hk : Kp [] w12 w13 := by rw [hw13]; exact (Kp.refl [] w12).alloc _
            exact (Rd.kp0 (show Rd w12 (g1 + 1) (some ⟨g1, 0, none⟩) (([⟨#[]⟩] : List ByteArray).map .string) from h1) hk).bound (by rw [← h12s]; exact hk.size))
          have HY13 := Lib.hid (show Rd w13 w13.heap.size (some ⟨g1 + 1, 0, none⟩) ([false, true, false].map .bool) from by
            have h1 := Rd.new w12 #[.bool false, .bool true, .bool false] 4 (0, 0)
            rw [← hw13, h12s] at h1
            exact Rd.bound (show Rd w13 (g1 + 1 + 1) (some ⟨g1 + 1, 0, none⟩) ([false, true, false].map .bool) from h1) (by rw [hw13]; simp [h12s]))
          have HK13 := Lib.hid (show Kp [] w w13 from by rw [hw13, hw12]; exact (HK11.out.alloc _).alloc _)
          clear hw12 hw13 hg1 h12s
          refine (frontreads_any (some ⟨g1, 0, none⟩) (some ⟨g1 + 1, 0, none⟩) 1 1 3 3 [⟨#[]⟩] [false, true, false] 2 0 _ w13 HX13.out HY13.out rfl rfl (Nat.le_refl _) (by omega) (by omega) (by decide) (by decide) (HT.out.kp0 HK13.out)).mono ?_
          rintro e w14 ⟨rfl, hk14⟩
          have HK14 := Lib.hid (HK13.out.trans hk14)
          clear hk14 HX13 HY13 HK11 HK10 HK9
          go_wp2_with fail
          obtain ⟨w15, hw15⟩ : ∃ w15, w15 = w14.alloc (.cells #[.string ⟨#[]⟩] 9) := ⟨_, rfl⟩
          obtain ⟨w16, hw16⟩ : ∃ w16, w16 = w15.alloc (.cells #[.bool true] 4) := ⟨_, rfl⟩
          obtain ⟨g2, hg2⟩ : ∃ g2, g2 = w14.heap.size := ⟨_, rfl⟩
          have h15s : w15.heap.size = g2 + 1 := by rw [hw15, hg2]; simp
          rw [← hw15, ← hw16, ← hg2]
          have HX16 := Lib.hid (show Rd w16 w16.heap.size (some ⟨g2, 0, none⟩) (([⟨#[]⟩] : List ByteArray).map .string) from by
            have h1 := Rd.new w14 #[.string ⟨#[]⟩] 9 (0, 0)
            rw [← hw15, ← hg2] at h1
            have hk : Kp [] w15 w16 := by rw [hw16]; exact (Kp.refl [] w15).alloc _
            exact (Rd.kp0 (show Rd w15 (g2 + 1) (some ⟨g2, 0, none⟩) (([⟨#[]⟩] : List ByteArray).map .string) from h1) hk).bound (by rw [← h15s]; exact hk.size))
          have HY16 := Lib.hid (show Rd w16 w16.heap.size (some ⟨g2 + 1, 0, none⟩) ([true].map .bool) from by
            have h1 := Rd.new w15 #[.bool true] 4 (0, 0)
            rw [← hw16, h15s] at h1
            exact Rd.bound (show Rd w16 (g2 + 1 + 1) (some ⟨g2 + 1, 0, none⟩) ([true].map .bool) from h1) (by rw [hw16]; simp [h15s]))
          have HK16 := Lib.hid (show Kp [] w w16 from by rw [hw16, hw15]; exact (HK14.out.alloc _).alloc _)
          clear hw15 hw16 hg2 h15s
          refine (frontreads_any (some ⟨g2, 0, none⟩) (some ⟨g2 + 1, 0, none⟩) 1 1 1 1 [⟨#[]⟩] [true] 1 0 _ w16 HX16.out HY16.out rfl rfl (Nat.le_refl _) (by omega) (by omega) (by decide) (by decide) (HT.out.kp0 HK16.out)).mono ?_
          rintro e w17 ⟨rfl, hk17⟩
          have HK17 := Lib.hid (HK16.out.trans hk17)
          clear hk17 HX16 HY16
          go_wp2_with fail
          refine (none12_any w17).mono ?_
          rintro e w18 ⟨rfl, hk18⟩
          have HK18 := Lib.hid (HK17.out.trans hk18)
          clear hk18
          go_wp2_with fail
          refine (awake_f w18 (HT.out.kp0 HK18.out)).mono ?_
          rintro e w19 ⟨rfl, hk19⟩
          go_wp2_with fail
          go_ret
          exact ⟨rfl, HK18.out.trans hk19⟩
end Go.Proofs.YtlaionhlejmjdaaGreatDoor
