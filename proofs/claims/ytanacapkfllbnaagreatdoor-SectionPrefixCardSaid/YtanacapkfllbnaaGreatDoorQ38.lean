/-
  LAYER 13 (section): four, writes.
  LAYER 13 (section): Of.
  LAYER 13's law: size, sorted, begins; Bytes of a section.
  LAYER 13 (section): the chapter's examples (awake).
  LAYER 13 (section): SectionPrefix, the walk.
  CONDITIONS: as each lemma says.
-/
import Derived.Test.YtanacapkfllbnaaGreatDoorQ37
import Derived.Test.YtanacapkfllbnaaGreatDoorQ36
import Derived.Test.YtanacapkfllbnaaGreatDoorQ10
import Derived.Test.YtanacapkfllbnaaGreatDoorQ21
import Derived.Test.YtanacapkfllbnaaGreatDoorQ24
import Derived.Test.YtanacapkfllbnaaGreatDoorQ34
import Derived.Test.YtanacapkfllbnaaGreatDoorQ07
namespace Go.Proofs.YtanacapkfllbnaaGreatDoor
open Go.RowKit PK

theorem natV_int (sg : List Nat) : natV sg = (sg.map fun (x : Nat) => (x : Int)).map (.int .i64) := by unfold natV; rw [List.map_map]; rfl
theorem wideF_le24 : ∀ (l : List Int) (w : Nat), w ≤ 24 → (∀ x ∈ l, 0 ≤ x ∧ x < 16777216) → wideF w l ≤ 24
  | [], w, hw, _ => hw
  | x :: l, w, hw, h => by
    have h1 := h x (by simp)
    have h2 := dgt_le (x := x.toNat) (k := 24) (by omega) (by omega) (by show x.toNat < 16777216; omega)
    exact wideF_le24 l (max w (dgt x.toNat)) (by omega) (fun y hy => h y (List.mem_cons_of_mem _ hy))
theorem ofE_small {l : List Int} (hn : l.length ≤ 4000) (h : ∀ x ∈ l, 0 ≤ x ∧ x < 16777216) : ofE l = 0 := by
  have h1 : okN l := fun x hx => by
    have h2 := h x hx
    have h3 := dgt_le (x := x.toNat) (k := 24) (by omega) (by omega) (by show x.toNat < 16777216; omega)
    exact ⟨h2.1, by omega⟩
  have h2 := wideF_le24 l 1 (by omega) h
  have h3 := (wideF_le h1).1
  unfold ofE newE
  rw [if_pos h1, if_pos ⟨h1, by omega⟩]
  unfold errRow
  rw [if_neg (by omega), if_neg]
  obtain ⟨k, hk⟩ : ∃ k, wideF 1 l = k := ⟨_, rfl⟩
  rw [hk] at h2 h3 ⊢
  have h4 : (4000 : Int) ≤ 16777216 / (k : Int) := Int.le_ediv_of_mul_le (by omega) (by omega)
  omega
theorem Tryz.info_byS : (Tryz.prog.info? 5).map (fun i => (i.zero, i.size, i.bytes)) = some (some (.int .u8 0), 1, 1) := by kernel_rfl
/-- A number's four bytes. -/
def fourI (n : Nat) : List Int := [(n : Int) / 16777216, (n : Int) / 65536 % 256, (n : Int) / 256 % 256, (n : Int) % 256]
set_option maxRecDepth 100000 in
set_option maxHeartbeats 4000000 in
theorem sfour_any (n : Nat) (w : World) (hn : n ≤ 2147483647) : Calls Tryz.prog 31 #[.int .i64 (n : Int)] w fun e w' => e = .returned (.slice (some ⟨w.heap.size, 0, none⟩) 4 4) ∧ w'.ownsRow w.heap.size 5 1 (.slice (some ⟨w.heap.size, 0, none⟩) 4 4) 4 ((fourI n).map (.int .u8)) ∧ Kp [] w w' := by
  go_enter Tryz.func31, Tryz.ntmps31
  go_wp2_with fail
  go_ret
  exact ⟨rfl, ⟨by simp [fourI], .inr ⟨_, 4, #[.int .u8 ((n : Int) / 16777216), .int .u8 ((n : Int) / 65536 % 256), .int .u8 ((n : Int) / 256 % 256), .int .u8 ((n : Int) % 256)], rfl, Nat.le_refl _, Blk.new w 5 [.int .u8 ((n : Int) / 16777216), .int .u8 ((n : Int) / 65536 % 256), .int .u8 ((n : Int) / 256 % 256), .int .u8 ((n : Int) % 256)], Nat.le_refl _, by decide, by simp, by simp [fourI]⟩⟩, (Kp.refl [] w).alloc _⟩
/-- The width of the row of a front's starts. -/
def wdS (T : CT) (ts : List ByteArray) : Nat := wideF 1 ((startsN T ts).map fun (x : Nat) => (x : Int))
/-- The bytes of a section that has texts, row by row. -/
def secR (T : CT) (sg : List Nat) (ls : List Int) (ts : List ByteArray) : List (List Int) := [fourI ts.length, bytesN (bitN (setL (List.replicate 257 false) true (sg.map fun (x : Nat) => (x : Int)))) 33, ls.map (· % 256), fourI (frontB T ts).length, bytesN (bitN (frontB T ts)) (((frontB T ts).length + 7) / 8), [(wdS T ts : Int)], PK.bytesN (PK.packN (wdS T ts) (startsN T ts)) ((wdS T ts * (startsN T ts).length + 7) / 8)]
def secB (T : CT) (sg : List Nat) (ls : List Int) (ts : List ByteArray) : List Int := (secR T sg ls ts).flatten
set_option maxRecDepth 100000 in
set_option maxHeartbeats 4000000 in
theorem swrites_any (lo hi lo' hi' f p : Nat) (S : List Nat) (T : CT) (sg : List Nat) (ls : List Int) (ts : List ByteArray) (w : World) (h : Fro w lo hi lo' hi' S f p T sg ls ts) (hn : ts.length ≤ 30000) (hb : (frontB T ts).length ≤ 9000000) :
    Calls Tryz.prog 35 #[.pointer (some ⟨p, 0, none⟩), .pointer (some ⟨f, 0, none⟩)] w fun e w' => ∃ (g m c : Nat) (bs : List Int), e = .returned (.slice (some ⟨g, 0, none⟩) m c) ∧ bs = secB T sg ls ts ∧ bs.length = m ∧ m ≤ 10000000 ∧ w'.ownsRow w.heap.size 5 1 (.slice (some ⟨g, 0, none⟩) m c) m (bs.map (.int .u8)) ∧ Kp [] w w' := by
  obtain ⟨i0, hi0, hz0, hz1, hz2⟩ := info_parts Tryz.info_byS
  have HF := Lib.hid h
  have HC := Lib.hid h.cd
  have h0 := Lib.hid (show (hi ≤ w.heap.size ∧ hi' ≤ w.heap.size) ∧ (∀ g ∈ S, g < w.heap.size) ∧ 0 < w.heap.size from ⟨⟨h.hw.2, h.hw.1⟩, h.lt, h.tab.lt⟩)
  clear h
  go_enter Tryz.func35, Tryz.ntmps35
  go_wp2_with fail
  refine (bnew_any 257 w (by omega)).mono ?_
  rintro e w1 ⟨Sv, pv, rfl, hv1, hS1, hk1⟩
  have HV := Lib.hid hv1
  have HVN := Lib.hid hS1
  have HK := Lib.hid hk1
  replace HF := Lib.hid (HF.out.kp0 hk1)
  replace HC := Lib.hid (HC.out.kp0 hk1)
  clear hk1
  clear hv1 hS1
  go_wp2_with fail
  refine (csigns_any lo' hi' p T sg ls w1 HC.out).mono ?_
  rintro e w2 ⟨As, ns, cs, hns, rfl, hown2, hk2⟩
  have HNS := Lib.hid hns
  have hnsb : ns ≤ 257 := by rw [hns]; exact codeT_len HC.out.1
  have HR2 := Lib.hid (show Rd w2 w2.heap.size As ((sg.map fun (x : Nat) => (x : Int)).map (.int .i64)) from by rw [← natV_int]; exact own_rd hown2)
  have HA2 := Lib.hid (show ∀ ad, As = some ad → ad.block ∉ Sv from fun ad e hm => by
    obtain ⟨_, _, he, _, _, _, hA⟩ := own_form hown2
    injection he with e1 e2 e3
    subst e1
    have h1 := (hA ad e).2.2.1
    have h2 := HV.out.lt _ hm
    omega)
  replace HV := Lib.hid (HV.out.kp0 hk2)
  replace HK := Lib.hid (HK.out.trans hk2)
  replace HF := Lib.hid (HF.out.kp0 hk2)
  replace HC := Lib.hid (HC.out.kp0 hk2)
  clear hk2
  clear hns hown2
  go_wp2_with fail
  refine (vset_any Sv pv 257 ns cs _ true As (sg.map fun (x : Nat) => (x : Int)) (List.replicate 257 false) false w2 HV.out (by simp) HR2.out (by rw [List.length_map, HNS.out]) (by omega) HA2.out).mono ?_
  intro e w3 hcases
  have hbad : badL 257 (sg.map fun (x : Nat) => (x : Int)) = false := by
    unfold badL
    refine List.any_eq_false.2 (fun x hx => ?_)
    obtain ⟨y, hy, rfl⟩ := List.mem_map.1 hx
    have := HC.out.1.2.2.2.1 y hy
    simp
    omega
  rcases hcases with ⟨hb1, _⟩ | ⟨_, rfl, hv3, hk3⟩
  · rw [hbad] at hb1; cases hb1
  obtain ⟨bs', hbs'⟩ : ∃ bs', bs' = setL (List.replicate 257 false) true (sg.map fun (x : Nat) => (x : Int)) := ⟨_, rfl⟩
  rw [← hbs'] at hv3
  have hbl : bs'.length = 257 := by rw [hbs', setL_len]; simp
  have HBQ := Lib.hid hbs'
  obtain ⟨cf', hcf'⟩ : ∃ cf', cf' = false := ⟨_, rfl⟩
  rw [← hcf'] at hv3
  clear hcf' hbs' hbad
  have HV3 := Lib.hid hv3
  have HBL := Lib.hid hbl
  have HF3 := Lib.hid (show Fro w3 lo hi lo' hi' S f p T sg ls ts from HF.out.kp hk3 (fun g hg => by
    have h1 := HVN.out g hg
    have h2 := h0.out.1
    have h3 := h0.out.2.1
    have h4 := h0.out.2.2
    refine ⟨fun hm => ?_, .inr (by omega), .inr (by omega), fun e => by omega⟩
    have := h3 g hm
    omega))
  have HK3 := Lib.hid (HK.out.trans' hk3 (fun x hx => .inr (HVN.out x hx)))
  clear hv3 hbl hk3 HV HF HC HR2 HA2 HNS HK
  have HC3 := Lib.hid HF3.out.cd
  go_wp2_with fail
  refine (fstarts_any w3 HF3.out.fr (by omega)).mono ?_
  rintro e w4 ⟨A4, m4, c4, hm4, rfl, hown4, hk4⟩
  have HR4 := Lib.hid (show Rd w4 w4.heap.size A4 (((startsN T ts).map fun (x : Nat) => (x : Int)).map (.int .i64)) from by rw [← natV_int]; exact own_rd hown4)
  have HM4 := Lib.hid hm4
  have hm4b : m4 ≤ 4000 := by rw [hm4, starts_len]; omega
  replace HK3 := Lib.hid (HK3.out.trans hk4)
  replace HF3 := Lib.hid (HF3.out.kp0 hk4)
  replace HC3 := Lib.hid (HC3.out.kp0 hk4)
  replace HV3 := Lib.hid (HV3.out.kp0 hk4)
  clear hk4
  clear hm4 hown4
  have HSM := Lib.hid (show ∀ x ∈ ((startsN T ts).map fun (x : Nat) => (x : Int)), 0 ≤ x ∧ x < 16777216 from fun x hx => by
    obtain ⟨y, hy, rfl⟩ := List.mem_map.1 hx
    unfold startsN at hy
    obtain ⟨b, _, rfl⟩ := List.mem_map.1 hy
    have := frontB_mono T ts (8 * b)
    omega)
  have HOE := Lib.hid (ofE_small (l := (startsN T ts).map fun (x : Nat) => (x : Int)) (by rw [List.length_map, ← HM4.out]; omega) HSM.out)
  go_wp2_with fail
  refine (of_any A4 m4 c4 _ ((startsN T ts).map fun (x : Nat) => (x : Int)) w4 HR4.out (by rw [List.length_map, HM4.out]) (by omega) (fun x hx => by have := HSM.out x hx; omega)).mono ?_
  rintro e w5 ⟨hk5, ⟨hne, _⟩ | ⟨_, hok, rp, rfl, hrow⟩⟩
  · exact absurd HOE.out hne
  have HW5 := Lib.hid hrow
  obtain ⟨wd, hwd⟩ : ∃ wd, wd = wideF 1 ((startsN T ts).map fun (x : Nat) => (x : Int)) := ⟨_, rfl⟩
  rw [← hwd] at HW5
  have hwdb : wd ≤ 24 := by rw [hwd]; exact wideF_le24 _ 1 (by omega) HSM.out
  have HWD := Lib.hid (show wd = wdS T ts from hwd)
  replace HK3 := Lib.hid (HK3.out.trans hk5)
  replace HF3 := Lib.hid (HF3.out.kp0 hk5)
  replace HC3 := Lib.hid (HC3.out.kp0 hk5)
  replace HV3 := Lib.hid (HV3.out.kp0 hk5)
  clear hk5
  clear hrow hok hwd HR4 HSM HOE
  go_wp2_with fail
  refine (fbits_any w5 HF3.out.fr).mono ?_
  rintro e w6 ⟨⟨V6, q6, rfl, hv6, hV6⟩, hk6⟩
  have HQ6 := Lib.hid hv6
  replace HK3 := Lib.hid (HK3.out.trans hk6)
  replace HW5 := Lib.hid (HW5.out.kp0 hk6)
  replace HF3 := Lib.hid (HF3.out.kp0 hk6)
  replace HC3 := Lib.hid (HC3.out.kp0 hk6)
  replace HV3 := Lib.hid (HV3.out.kp0 hk6)
  clear hk6
  clear hv6 hV6
  go_wp2_with fail
  refine (clengths_any lo' hi' p T sg ls w6 HC3.out).mono ?_
  rintro e w7 ⟨A7, n7, c7, hn7, rfl, hown7, hk7⟩
  have HR7 := Lib.hid (own_rd hown7)
  have HN7 := Lib.hid hn7
  have hn7b : n7 ≤ 257 := by rw [hn7, ← HC3.out.lens]; exact codeT_len HC3.out.1
  replace HK3 := Lib.hid (HK3.out.trans hk7)
  replace HW5 := Lib.hid (HW5.out.kp0 hk7)
  replace HF3 := Lib.hid (HF3.out.kp0 hk7)
  replace HC3 := Lib.hid (HC3.out.kp0 hk7)
  replace HV3 := Lib.hid (HV3.out.kp0 hk7)
  replace HQ6 := Lib.hid (HQ6.out.kp0 hk7)
  clear hk7
  clear hn7 hown7
  go_wp2_with fail
  go_loopw [10, 32] (fun v x wr => ∃ (k c : Nat) (A : Option Addr) (bs : List Int), v = .slice A k c ∧ x = .int .i64 (k : Int) ∧ k ≤ n7 ∧ bs.length = k ∧ Hid (bs = (ls.take k).map (· % 256)) ∧ Hid (wr.ownsRow w7.heap.size 5 1 (.slice A k c) k (bs.map (.int .u8))) ∧ Hid (Kp [] w7 wr)) (fun _ x _ => n7 - (intOf x).toNat)
  case atStart => exact ⟨0, 0, none, [], rfl, rfl, by omega, rfl, Lib.hid (by simp), Lib.hid (World.ownsRow_nil _ _ _ 1), Lib.hid (Kp.refl _ _)⟩
  case round =>
    obtain ⟨k, c, A, bs, rfl, rfl, hk, hbs, HBE, HO, HKR⟩ := hrel
    by_cases hlt : k < n7
    · obtain ⟨y, hy⟩ : ∃ y, ls[k]? = some y := ⟨_, List.getElem?_eq_getElem (by rw [← HN7.out]; exact hlt)⟩
      obtain ⟨ad, rfl, _, hcy⟩ := (HR7.out.kp0 HKR.out).at_ (i := k) (u := .int .i64 y) (by rw [List.getElem?_map, hy]; rfl)
      have hb0 : (0 : Int) ≤ (k : Int) := by omega
      have hb1 : (k : Int) < (n7 : Int) := by omega
      have HSZ := Lib.hid HKR.out.size
      have HBE2 := Lib.hid (show bs ++ [y % 256] = (ls.take (k + 1)).map (· % 256) from by rw [HBE.out, List.take_add_one, hy, List.map_append]; rfl)
      clear hy
      go_wp2_with (at_builtin; go_loud (refine wpList_append_rd rfl (.tmp 36) (.tmp 39) 41 rfl (w7.heap.size) 5 i0 (.int .u8 0) 1 1 Tryz.underlying41 hi0 hz0 hz1 hz2 rfl (by decide) (.slice A k c) (k) _ rfl (own_kp0 HO.out ((Kp.refl [] _).alloc _)) _ _ 1 1 [.int .u8 (y % 256)] rfl rfl (Rd.new wr #[.int .u8 (y % 256)] 5 (0, 0)) (by intro u hu; simp at hu; subst hu; rfl) (by unfold maxLen; omega) (by omega) (by have := HSZ.out; simp; omega) ?_); intro v3 w3 hown3 hgrow3 hat3; obtain ⟨hka3, hga3⟩ := app_facts hgrow3 hat3; obtain ⟨A3', c3', rfl, _⟩ := own_form hown3)
      exact ⟨⟨k + 1, c3', A3', bs ++ [y % 256], rfl, by go_num, by omega, by simp [hbs], HBE2, Lib.hid (by rw [List.map_append]; exact hown3), Lib.hid (HKR.out.trans' hka3 (fun x hx => .inr (own_ge HO.out (mem_ownL.1 hx)).1))⟩, by simp [intOf]; omega⟩
    · obtain rfl : k = n7 := by omega
      replace HF3 := Lib.hid (HF3.out.kp0 HKR.out)
      replace HV3 := Lib.hid (HV3.out.kp0 HKR.out)
      replace HQ6 := Lib.hid (HQ6.out.kp0 HKR.out)
      replace HW5 := Lib.hid (HW5.out.kp0 HKR.out)
      replace HK3 := Lib.hid (HK3.out.trans HKR.out)
      have HRL := Lib.hid (own_rd HO.out)
      have hkc : k ≤ c := by obtain ⟨_, _, hv9, hkc, _⟩ := own_form HO.out; injection hv9 with e1 e2 e3; omega
      obtain ⟨N, hN⟩ : ∃ N, (frontB T ts).length = N := ⟨_, rfl⟩
      obtain ⟨n, hnn⟩ : ∃ n, ts.length = n := ⟨_, rfl⟩
      have HN := Lib.hid hN
      have HNN := Lib.hid hnn
      rw [hN] at hb
      rw [hnn] at hn
      clear HKR HO HR7 hN hnn
      go_wp2_with fail
      refine (flen_any n wr HF3.out.fr HNN.out).mono ?_
      rintro e w8 ⟨rfl, rfl⟩
      go_wp2_with fail
      refine (sfour_any n wr (by omega)).mono ?_
      rintro e w8 ⟨rfl, hown8, hk8⟩
      have HR8 := Lib.hid (own_rd hown8)
      replace HRL := Lib.hid ((HRL.out.kp0 hk8).bound hk8.size)
      replace HK3 := Lib.hid (HK3.out.trans hk8)
      replace HW5 := Lib.hid (HW5.out.kp0 hk8)
      replace HF3 := Lib.hid (HF3.out.kp0 hk8)
      replace HV3 := Lib.hid (HV3.out.kp0 hk8)
      replace HQ6 := Lib.hid (HQ6.out.kp0 hk8)
      clear hk8
      obtain ⟨b8, hb8⟩ : ∃ b8, wr.heap.size = b8 := ⟨_, rfl⟩
      rw [hb8] at HR8 ⊢
      clear hown8 hb8
      go_wp2_with fail
      refine (vbytes_any Sv pv bs' cf' w8 HV3.out).mono ?_
      rintro e w9 ⟨A9, m9, c9, hm9, rfl, hown9, hk9⟩
      have HR9 := Lib.hid (own_rd hown9)
      have HM9 := Lib.hid hm9
      have hm9b : m9 ≤ 100 := by rw [hm9, HBL.out]; omega
      replace HRL := Lib.hid ((HRL.out.kp0 hk9).bound hk9.size)
      replace HR8 := Lib.hid ((HR8.out.kp0 hk9).bound hk9.size)
      replace HK3 := Lib.hid (HK3.out.trans hk9)
      replace HW5 := Lib.hid (HW5.out.kp0 hk9)
      replace HQ6 := Lib.hid (HQ6.out.kp0 hk9)
      clear hk9
      have hc9 : m9 ≤ c9 := by obtain ⟨_, _, hv9, hkc, _⟩ := own_form hown9; injection hv9 with e1 e2 e3; omega
      clear hm9 hown9 HV3 HF3
      go_wp2_with fail
      refine (vlen_any V6 q6 N (frontB T ts) false w9 HQ6.out HN.out).mono ?_
      rintro e w10 ⟨rfl, rfl⟩
      go_wp2_with fail
      refine (sfour_any N w9 (by omega)).mono ?_
      rintro e w10 ⟨rfl, hown10, hk10⟩
      have HR10 := Lib.hid (own_rd hown10)
      replace HRL := Lib.hid ((HRL.out.kp0 hk10).bound hk10.size)
      replace HR8 := Lib.hid ((HR8.out.kp0 hk10).bound hk10.size)
      replace HR9 := Lib.hid ((HR9.out.kp0 hk10).bound hk10.size)
      replace HK3 := Lib.hid (HK3.out.trans hk10)
      replace HW5 := Lib.hid (HW5.out.kp0 hk10)
      replace HQ6 := Lib.hid (HQ6.out.kp0 hk10)
      clear hk10
      obtain ⟨b10, hb10⟩ : ∃ b10, w9.heap.size = b10 := ⟨_, rfl⟩
      rw [hb10] at HR10 ⊢
      clear hown10 hb10
      go_wp2_with fail
      refine (vbytes_any V6 q6 (frontB T ts) false w10 HQ6.out).mono ?_
      rintro e w11 ⟨A11, m11, c11, hm11, rfl, hown11, hk11⟩
      have HR11 := Lib.hid (own_rd hown11)
      have HM11 := Lib.hid hm11
      have hm11b : m11 ≤ 2000000 := by rw [hm11, HN.out]; omega
      replace HRL := Lib.hid ((HRL.out.kp0 hk11).bound hk11.size)
      replace HR8 := Lib.hid ((HR8.out.kp0 hk11).bound hk11.size)
      replace HR9 := Lib.hid ((HR9.out.kp0 hk11).bound hk11.size)
      replace HR10 := Lib.hid ((HR10.out.kp0 hk11).bound hk11.size)
      replace HK3 := Lib.hid (HK3.out.trans hk11)
      replace HW5 := Lib.hid (HW5.out.kp0 hk11)
      have hc11 : m11 ≤ c11 := by obtain ⟨_, _, hv9, hkc, _⟩ := own_form hown11; injection hv9 with e1 e2 e3; omega
      clear hm11 hown11 HQ6 hk11
      go_wp2_with fail
      refine (rwide_any _ rp wd _ w11 HW5.out).mono ?_
      rintro e w12 ⟨rfl, rfl⟩
      go_wp2_with fail
      obtain ⟨w12, hw12⟩ : ∃ w12, w12 = w11.alloc (.cells #[.int .u8 (wd : Int)] 5) := ⟨_, rfl⟩
      have hk12 : Kp [] w11 w12 := by rw [hw12]; exact (Kp.refl [] w11).alloc _
      obtain ⟨b12, hb12⟩ : ∃ b12, b12 = w11.heap.size := ⟨_, rfl⟩
      have hr12 := Rd.new w11 #[.int .u8 (wd : Int)] 5 (0, 0)
      rw [← hw12, ← hb12] at hr12
      have HR12 := Lib.hid (Rd.bound (show Rd w12 (b12 + 1) (some ⟨b12, 0, none⟩) ([(wd : Int)].map (.int .u8)) from hr12) (show b12 + 1 ≤ w12.heap.size from by rw [hw12, hb12]; simp))
      rw [← hw12]
      replace HRL := Lib.hid ((HRL.out.kp0 hk12).bound hk12.size)
      replace HR8 := Lib.hid ((HR8.out.kp0 hk12).bound hk12.size)
      replace HR9 := Lib.hid ((HR9.out.kp0 hk12).bound hk12.size)
      replace HR10 := Lib.hid ((HR10.out.kp0 hk12).bound hk12.size)
      replace HR11 := Lib.hid ((HR11.out.kp0 hk12).bound hk12.size)
      replace HK3 := Lib.hid (HK3.out.trans hk12)
      replace HW5 := Lib.hid (HW5.out.kp0 hk12)
      try rw [← hb12]
      clear hw12 hr12 hb12 hk12
      refine (PK.rbytes_any _ rp wd _ w12 HW5.out).mono ?_
      rintro e w13 ⟨A13, m13, c13, hm13, rfl, hown13, hk13⟩
      have HR13 := Lib.hid (own_rd hown13)
      have hm13b : m13 ≤ 100000 := by
        rw [hm13, List.length_map, List.length_map, ← HM4.out]
        have h1 : wd * m4 ≤ 24 * 4000 := Nat.mul_le_mul hwdb hm4b
        omega
      have hc13 : m13 ≤ c13 := by obtain ⟨_, _, hv9, hkc, _⟩ := own_form hown13; injection hv9 with e1 e2 e3; omega
      have hz := hk13.size
      have HZZ := Lib.hid hz
      replace HRL := Lib.hid ((HRL.out.kp0 hk13).bound hk13.size)
      replace HR8 := Lib.hid ((HR8.out.kp0 hk13).bound hk13.size)
      replace HR9 := Lib.hid ((HR9.out.kp0 hk13).bound hk13.size)
      replace HR10 := Lib.hid ((HR10.out.kp0 hk13).bound hk13.size)
      replace HR11 := Lib.hid ((HR11.out.kp0 hk13).bound hk13.size)
      replace HR12 := Lib.hid ((HR12.out.kp0 hk13).bound hk13.size)
      replace HK3 := Lib.hid (HK3.out.trans hk13)
      have HM13 := Lib.hid hm13
      clear hm13 hown13 hk13 hz HW5
      go_wp2_with fail
      obtain ⟨w14, hw14⟩ : ∃ w14, w14 = w13.alloc (.cells #[.slice (some ⟨b8, 0, none⟩) 4 4, .slice A9 m9 c9, .slice A k c, .slice (some ⟨b10, 0, none⟩) 4 4, .slice A11 m11 c11, .slice (some ⟨b12, 0, none⟩) 1 1, .slice A13 m13 c13] 41) := ⟨_, rfl⟩
      have hk14 : Kp [] w13 w14 := by rw [hw14]; exact (Kp.refl [] w13).alloc _
      obtain ⟨b14, hb14⟩ : ∃ b14, b14 = w13.heap.size := ⟨_, rfl⟩
      obtain ⟨zs, hzs⟩ : ∃ zs, zs = PK.bytesN (PK.packN wd (List.map Int.toNat ((startsN T ts).map fun (x : Nat) => (x : Int)))) m13 := ⟨_, rfl⟩
      have hzl : zs.length = m13 := by rw [hzs]; simp [PK.bytesN]
      have HR13' := Lib.hid (show Rd w13 w13.heap.size A13 (zs.map (.int .u8)) from by rw [hzs]; exact HR13.out)
      obtain ⟨xss, hxss⟩ : ∃ xss : List (List Int), xss = [fourI n, bytesN (bitN bs') m9, bs, fourI N, bytesN (bitN (frontB T ts)) m11, [(wd : Int)], zs] := ⟨_, rfl⟩
      have HRR := Lib.hid (show RdRows w14 w14.heap.size .u8 (some ⟨b14, 0, none⟩) xss from by
        have hr14 := Rd.new w13 #[.slice (some ⟨b8, 0, none⟩) 4 4, .slice A9 m9 c9, .slice A k c, .slice (some ⟨b10, 0, none⟩) 4 4, .slice A11 m11 c11, .slice (some ⟨b12, 0, none⟩) 1 1, .slice A13 m13 c13] 41 (0, 0)
        rw [← hw14, ← hb14] at hr14
        refine ⟨_, ?_, Rd.bound hr14 (by rw [hw14, hb14]; simp), fun i xs hi => ?_⟩
        · rw [hxss]; rfl
        · rw [hxss] at hi
          rcases i with _ | _ | _ | _ | _ | _ | _ | i
          · injection hi with hi; subst hi; exact ⟨_, _, rfl, Nat.le_refl _, (HR8.out.kp0 hk14).bound hk14.size⟩
          · injection hi with hi; subst hi; exact ⟨_, _, by rw [bytesN_len]; rfl, by rw [bytesN_len]; exact hc9, (HR9.out.kp0 hk14).bound hk14.size⟩
          · injection hi with hi; subst hi; exact ⟨_, _, by rw [hbs]; rfl, by rw [hbs]; exact hkc, (HRL.out.kp0 hk14).bound hk14.size⟩
          · injection hi with hi; subst hi; exact ⟨_, _, rfl, Nat.le_refl _, (HR10.out.kp0 hk14).bound hk14.size⟩
          · injection hi with hi; subst hi; exact ⟨_, _, by rw [bytesN_len]; rfl, by rw [bytesN_len]; exact hc11, (HR11.out.kp0 hk14).bound hk14.size⟩
          · injection hi with hi; subst hi; exact ⟨_, _, rfl, Nat.le_refl _, (HR12.out.kp0 hk14).bound hk14.size⟩
          · injection hi with hi; subst hi; exact ⟨_, _, by rw [hzl]; rfl, by rw [hzl]; exact hc13, (HR13'.out.kp0 hk14).bound hk14.size⟩
          · cases hi)
      have hfl : xss.flatten.length ≤ 10000000 ∧ 4 ≤ xss.flatten.length := by
        rw [hxss]
        simp only [List.flatten_cons, List.flatten_nil, List.length_append, bytesN_len, hbs, hzl, fourI, List.length_cons, List.length_nil]
        omega
      have hxl : xss.length = 7 := by rw [hxss]; rfl
      have HXL := Lib.hid hxl
      have HXE := Lib.hid (show xss.flatten = secB T sg ls ts from by
        unfold secB secR
        rw [hxss, hzs, HNN.out, HN.out, HBE.out, List.take_of_length_le (by rw [← HN7.out]; exact Nat.le_refl _), ← HBQ.out, ← HWD.out, HM9.out, HBL.out, HM11.out, HN.out, HM13.out, List.length_map, List.length_map, List.map_map, show (Int.toNat ∘ fun (x : Nat) => (x : Int)) = id from rfl, List.map_id])
      have HK14 := Lib.hid (HK3.out.trans hk14)
      rw [← hw14]
      try rw [← hb14]
      clear hxss hw14 hk14 hzs hb14 HR13 HR13' HRL HR8 HR9 HR10 HR11 HR12 HK3 hxl
      refine (concatB (some ⟨b14, 0, none⟩) 7 7 _ xss w14 HRR.out HXL.out (by omega) (by omega)).mono ?_
      rintro e w15 ⟨A15, c15, rfl, hown15, hk15⟩
      obtain ⟨M, hM⟩ : ∃ M, xss.flatten.length = M := ⟨_, rfl⟩
      rw [hM] at hown15 hfl ⊢
      rcases own_blk hown15 with ⟨_, hz0, _⟩ | ⟨g, cap, rest, hv, _⟩
      · omega
      injection hv with hv1 hv2 hv3
      subst hv1
      have HO := Lib.hid (own_base hown15 HK14.out.size)
      have HK15 := Lib.hid (HK14.out.trans hk15)
      have HM := Lib.hid hM
      clear hown15 hk15 hM hv2 hv3
      go_wp2_with fail
      go_ret
      exact ⟨g, M, c15, xss.flatten, rfl, HXE.out, HM.out, hfl.1, HO.out, HK15.out⟩
end Go.Proofs.YtanacapkfllbnaaGreatDoor
namespace Go.Proofs.YtanacapkfllbnaaGreatDoor
open Go.RowKit PK

/-- The bytes of a section of texts. -/
noncomputable def secBytes (ts : List ByteArray) : List Int := if ts = [] then fourI 0 else secB (treeC (smO (symL (piecesL ts ts.length))) (lensL (wtO (symL (piecesL ts ts.length))))) (sgK (symL (piecesL ts ts.length)) 257) (lensL (wtO (symL (piecesL ts ts.length)))) ts
theorem secBytes_nil : secBytes [] = fourI 0 := by unfold secBytes; rw [if_pos rfl]
/-- What Of leaves. -/
def SofP (w : World) (ts : List ByteArray) (e : Ending) (w' : World) : Prop := Kp [] w w' ∧ ((riseT ts = false ∧ e = .returned (.tuple #[.pointer none, .int .i64 12])) ∨
  (riseT ts = true ∧ ∃ (S : List Nat) (sp : Nat) (v : Value) (g m c : Nat), e = .returned (.tuple #[.pointer (some ⟨sp, 0, none⟩), .int .i64 0]) ∧ SecM w' S sp v g m c ts ∧ (∀ x ∈ S, w.heap.size ≤ x) ∧ w.heap.size ≤ sp ∧ ∃ bs : List Int, bs.length = m ∧ m ≤ 1000000000 ∧ Rd w' w'.heap.size (some ⟨g, 0, none⟩) (bs.map (.int .u8)) ∧ bs = secBytes ts))
set_option maxRecDepth 100000 in
set_option maxHeartbeats 4000000 in
theorem sof_any (A : Option Addr) (n c B : Nat) (ts : List ByteArray) (w : World) (hx : Rd w B A (ts.map .string)) (hn : ts.length = n) (hb : (symL ts).length ≤ 29000) (hB : B ≤ w.heap.size) (ht : Tab64 w) :
    Calls Tryz.prog 11 #[.slice A n c] w (SofP w ts) := by
  have HSZ := Lib.hid (show ∀ s ∈ ts, s.size ≤ 30000 from fun s hs => by
    have h1 : (symT s).length ≤ (symL ts).length := by
      obtain ⟨l1, l2, e⟩ := List.append_of_mem hs
      rw [e]
      unfold symL
      rw [List.flatMap_append, List.flatMap_cons, List.length_append, List.length_append]
      omega
    rw [symT_len] at h1
    omega)
  have hn3 : n ≤ 29000 := by rw [← hn]; exact Nat.le_trans (symL_ge ts) hb
  have HSY := Lib.hid hb
  have HX := Lib.hid hx; clear hx
  have HN := Lib.hid hn; clear hn
  have HB := Lib.hid hB; clear hB
  have HT := Lib.hid ht; clear ht
  clear hb
  go_enter Tryz.func11, Tryz.ntmps11
  go_wp2_with fail
  refine (srising_any A n c B ts w HX.out HN.out (by omega)).mono ?_
  rintro e w1 ⟨rfl, hd1⟩
  have HK := Lib.hid (hd1.kp [])
  replace HB := Lib.hid (Nat.le_trans HB.out (hd1.kp []).size)
  replace HX := Lib.hid (HX.out.kp0 (hd1.kp []))
  replace HT := Lib.hid (HT.out.kp0 (hd1.kp []))
  clear hd1
  cases hr : riseT ts with
  | false =>
    have HR := Lib.hid hr
    clear hr
    go_wp2_with fail
    go_ret2
    exact ⟨HK.out, .inl ⟨HR.out, rfl⟩⟩
  | true =>
    have HR := Lib.hid hr
    clear hr
    have hnm : decide ((65536 : Int) < (n : Int)) = false := by simp; omega
    by_cases hn0 : n = 0
    · subst hn0
      have HNIL := Lib.hid (show ts = [] from List.length_eq_zero_iff.1 HN.out)
      go_wp2_with fail
      refine (sfour_any 0 w1 (by omega)).mono ?_
      rintro e w2 ⟨rfl, hown2, hk2⟩
      obtain ⟨g, hg⟩ : ∃ g, w1.heap.size = g := ⟨_, rfl⟩
      rw [hg]
      have HK2 := Lib.hid (HK.out.trans hk2)
      have HRW := Lib.hid (show Rd w2 w2.heap.size (some ⟨g, 0, none⟩) ((fourI 0).map (.int .u8)) from by have h9 := own_rd hown2; rw [hg] at h9; exact h9)
      clear hown2 hk2 hnm
      go_wp2_with fail
      obtain ⟨w3, hw3⟩ : ∃ w3, w3 = w2.alloc (.cells #[.pointer none, .slice (some ⟨g, 0, none⟩) 4 4] 65) := ⟨_, rfl⟩
      obtain ⟨sp, hsp⟩ : ∃ sp, sp = w2.heap.size := ⟨_, rfl⟩
      rw [← hw3, ← hsp]
      have HS := Lib.hid (show SecM w3 [] sp (.pointer none) g 4 4 ts from ⟨by rw [hw3, hsp]; exact Blk.new w2 65 [.pointer none, .slice (some ⟨g, 0, none⟩) 4 4], ⟨HR.out, by rw [HN.out]; omega, .inl ⟨HNIL.out, rfl, rfl⟩⟩, by simp⟩)
      have HK3 := Lib.hid (show Kp [] w w3 from by rw [hw3]; exact HK2.out.alloc _)
      have HSP := Lib.hid (show w.heap.size ≤ sp from by rw [hsp]; exact HK2.out.size)
      have hk3 : Kp [] w2 w3 := by rw [hw3]; exact (Kp.refl [] w2).alloc _
      have HRW3 := Lib.hid ((HRW.out.kp0 hk3).bound hk3.size)
      clear hw3 hsp hk3
      go_ret2
      exact ⟨HK3.out, .inr ⟨HR.out, [], sp, _, g, 4, 4, rfl, HS.out, by simp, HSP.out, fourI 0, rfl, by omega, HRW3.out, by rw [HNIL.out, secBytes_nil]⟩⟩
    have hn1 : 1 ≤ n := by omega
    have hn0' : ((n : Int) == 0) = false := by simp; omega
    go_wp2_with fail
    refine (spieces_any A n c _ ts w1 HX.out HN.out (by omega) (fun s hs => by have := HSZ.out s hs; omega)).mono ?_
    rintro e w2 ⟨Ao, co, rfl, hown2, hk2⟩
    have HP := Lib.hid (own_rd hown2)
    have HPL := Lib.hid (piecesL_len ts n)
    have HPS := Lib.hid (show (symL (piecesL ts n)).length ≤ 29000 from by
      have h1 := pieces_sym ts n (by rw [HN.out]; exact Nat.le_refl _)
      rw [List.take_of_length_le (by rw [HN.out]; exact Nat.le_refl _)] at h1
      exact Nat.le_trans h1 HSY.out)
    replace HK := Lib.hid (HK.out.trans hk2)
    replace HB := Lib.hid (Nat.le_trans HB.out hk2.size)
    replace HT := Lib.hid (HT.out.kp0 hk2)
    replace HX := Lib.hid (HX.out.kp0 hk2)
    clear hk2
    clear hown2
    go_wp2_with fail
    refine (aof_any Ao n co _ (piecesL ts n) w2 HP.out HPL.out hn1 (by have := HPS.out; omega) (Nat.le_refl _)).mono ?_
    rintro e w3 ⟨p, rfl, hcode, hk3⟩
    obtain ⟨lo, hlo⟩ : ∃ lo, lo = w2.heap.size := ⟨_, rfl⟩
    obtain ⟨hi, hhi⟩ : ∃ hi, hi = w3.heap.size := ⟨_, rfl⟩
    rw [← hlo, ← hhi, toNat_smO] at hcode
    obtain ⟨L, hL⟩ : ∃ L, L = lensL (wtO (symL (piecesL ts n))) := ⟨_, rfl⟩
    obtain ⟨T, hT⟩ : ∃ T, T = treeC (smO (symL (piecesL ts n))) L := ⟨_, rfl⟩
    obtain ⟨sg, hsg⟩ : ∃ sg, sg = sgK (symL (piecesL ts n)) 257 := ⟨_, rfl⟩
    rw [← hL] at hcode
    rw [← hT, ← hsg] at hcode
    have HENC := Lib.hid (show ∀ s ∈ ts, ∃ r, encT T s = some r from fun s hs => enc_all hcode.1 (fun x hx => by
      have hx2 := pieces_cover ts hs x hx
      rw [HN.out] at hx2
      rw [hsg]
      exact mem_sgK hx2 (symL_lt _ x hx2)))
    have HC := Lib.hid hcode
    have HHI := Lib.hid (show hi ≤ w3.heap.size by omega)
    replace HB := Lib.hid (Nat.le_trans HB.out hk3.size)
    have HTQ := Lib.hid (show L = lensL (wtO (symL (piecesL ts n))) ∧ sg = sgK (symL (piecesL ts n)) 257 ∧ T = treeC (smO (symL (piecesL ts n))) (lensL (wtO (symL (piecesL ts n)))) from ⟨hL, hsg, by rw [hT, hL]⟩)
    clear hcode hT hsg hL hlo hhi HP HPL HPS
    replace HK := Lib.hid (HK.out.trans hk3)
    replace HT := Lib.hid (HT.out.kp0 hk3)
    replace HX := Lib.hid (HX.out.kp0 hk3)
    clear hk3
    go_wp2_with fail
    refine (fof_any lo hi p n c _ A ts T sg L w3 HC.out HX.out HN.out (by have := HSY.out; omega) HHI.out HB.out).mono ?_
    rintro e w4 ⟨hk4, ⟨hr, _⟩ | ⟨_, ⟨s, hs, hno⟩, _⟩ | ⟨_, _, S, f, rfl, hfr⟩⟩
    · rw [HR.out] at hr
      cases hr
    · obtain ⟨r, hr⟩ := HENC.out s hs
      rw [hr] at hno
      cases hno
    have HFO := Lib.hid (show Fro w4 w3.heap.size w4.heap.size lo hi S f p T sg L ts from
      ⟨hfr, HC.out.kp0 hk4, fun g hg => .inr (Nat.le_trans HHI.out (hfr.low g hg)), HT.out.kp0 hk4, fun hm => by have h1 := hfr.low _ hm; have h2 := HT.out.lt; omega, ⟨Nat.le_trans HHI.out hk4.size, Nat.le_refl _⟩, fun x hx => ⟨HENC.out x hx, by have := HSZ.out x hx; omega⟩⟩)
    have HLW := Lib.hid (show ∀ g ∈ S, w.heap.size ≤ g from fun g hg => Nat.le_trans HK.out.size (hfr.low g hg))
    have HBF := Lib.hid (show (frontB T ts).length ≤ 9000000 from by
      have h1 := frontB_len HC.out.1 ts (fun s hs => by have := HSZ.out s hs; omega) n
      rw [List.take_of_length_le (by rw [HN.out]; exact Nat.le_refl _)] at h1
      have := HSY.out
      omega)
    replace HK := Lib.hid (HK.out.trans hk4)
    clear hfr hk4 HT HX HENC
    go_wp2_with fail
    refine (swrites_any w3.heap.size w4.heap.size lo hi f p S T sg L ts w4 HFO.out (by rw [HN.out]; omega) HBF.out).mono ?_
    rintro e w5 ⟨g, m, c5, bs, rfl, hbe, hbs, hmb, hown5, hk5⟩
    have HBE := Lib.hid hbe
    have HMB := Lib.hid (show m ≤ 1000000000 by omega)
    have HF5 := Lib.hid (HFO.out.kp0 hk5)
    have HSL := Lib.hid (show ∀ x ∈ S, x < w5.heap.size from HF5.out.lt)
    replace HK := Lib.hid (HK.out.trans hk5)
    have HBS := Lib.hid hbs
    have HRW := Lib.hid (own_rd hown5)
    have hm9 : m ≤ 1000000000 := HMB.out
    clear hbe hbs hown5 hk5 HFO
    go_wp2_with fail
    obtain ⟨w6, hw6⟩ : ∃ w6, w6 = w5.alloc (.cells #[.pointer (some ⟨f, 0, none⟩), .slice (some ⟨g, 0, none⟩) m c5] 65) := ⟨_, rfl⟩
    obtain ⟨sp, hsp⟩ : ∃ sp, sp = w5.heap.size := ⟨_, rfl⟩
    rw [← hw6, ← hsp]
    have hk6 : Kp [] w5 w6 := by rw [hw6]; exact (Kp.refl [] w5).alloc _
    have HS := Lib.hid (show SecM w6 S sp (.pointer (some ⟨f, 0, none⟩)) g m c5 ts from ⟨by rw [hw6, hsp]; exact Blk.new w5 65 [.pointer (some ⟨f, 0, none⟩), .slice (some ⟨g, 0, none⟩) m c5], ⟨HR.out, by rw [HN.out]; omega, .inr ⟨f, _, _, lo, hi, p, T, sg, L, rfl, HF5.out.kp0 hk6⟩⟩, fun hm => by have := HSL.out _ hm; omega⟩)
    have HK6 := Lib.hid (HK.out.trans hk6)
    have HSP := Lib.hid (show w.heap.size ≤ sp from by rw [hsp]; exact HK.out.size)
    have HRW6 := Lib.hid ((HRW.out.kp0 hk6).bound hk6.size)
    have HNE := Lib.hid (show ts ≠ [] from fun e => by have h9 := HN.out; rw [e] at h9; simp at h9; omega)
    clear hw6 hsp hk6
    go_ret2
    exact ⟨HK6.out, .inr ⟨HR.out, S, sp, _, g, m, c5, rfl, HS.out, HLW.out, HSP.out, bs, HBS.out, hm9, HRW6.out, by unfold secBytes; rw [if_neg HNE.out, HN.out, HBE.out, HTQ.out.2.2, HTQ.out.2.1, HTQ.out.1]⟩⟩
end Go.Proofs.YtanacapkfllbnaaGreatDoor
namespace Go.Proofs.YtanacapkfllbnaaGreatDoor
open Go.RowKit

set_option maxRecDepth 100000 in
set_option maxHeartbeats 4000000 in
theorem ssize_any (A : Option Addr) (n c B : Nat) (ss : List ByteArray) (w : World) (hx : Rd w B A (ss.map .string)) (hn : ss.length = n) (hb : n ≤ 140737488351232) (hl : ∀ s ∈ ss, s.size ≤ 140737488351232) :
    Calls Tryz.prog 9 #[.slice A n c] w fun e w' => (∃ Z : Nat, e = .returned (.int .i64 (Z : Int)) ∧ Z ≤ 562949953421312 ∧ n ≤ Z ∧ (Z ≤ 900 → (symL ss).length ≤ Z)) ∧ w = w' := by
  have HX := Lib.hid hx; clear hx
  have HN := Lib.hid hn; clear hn
  have HL := Lib.hid hl; clear hl
  go_enter Tryz.func9, Tryz.ntmps9
  go_wp2_with fail
  go_loopw [3, 4] (fun y x wr => ∃ k N : Nat, x = .int .i64 (k : Int) ∧ y = .int .i64 (N : Int) ∧ k ≤ n ∧ n ≤ N ∧ N ≤ 562949953421312 ∧ Hid ((symL (ss.take k)).length + n = N + k) ∧ w = wr) (fun _ x _ => n - (intOf x).toNat)
  case atStart => exact ⟨0, n, rfl, rfl, by omega, by omega, by omega, Lib.hid (by simp [symL]), rfl⟩
  case round =>
    obtain ⟨k, N, rfl, rfl, hk, hnN, hNb, HA, rfl⟩ := hrel
    by_cases hlt : k < n
    · by_cases hN : N ≤ 900
      · obtain ⟨s, ad, hs, rfl, _, hcs⟩ := HX.out.str (k := k) (by rw [HN.out]; exact hlt)
        have hsz : s.size ≤ 140737488351232 := HL.out _ (List.mem_of_getElem? hs)
        obtain ⟨L1, hL1⟩ : ∃ L1, L1 = s.size := ⟨_, rfl⟩
        rw [← hL1] at hsz
        obtain ⟨N1, hN1⟩ : ∃ N1, N1 = N + L1 := ⟨_, rfl⟩
        have HA2 := Lib.hid (show (symL (ss.take (k + 1))).length + n = N1 + (k + 1) from by
          rw [take_succ_of hs, symL_snoc, List.length_append, symT_len, ← hL1]
          have := HA.out
          omega)
        have hs1 : IntKind.i64.wrap ((N : Int) + (L1 : Int)) = (N1 : Int) := by rw [IntKind.wrap_i64]; omega
        have hi0 : (0 : Int) ≤ (k : Int) := by omega
        have hi1 : (k : Int) < (n : Int) := by omega
        have hnN1 : n ≤ N1 := by omega
        have hN1b : N1 ≤ 562949953421312 := by omega
        clear hN1 HA hs
        rw [hL1] at hs1
        clear hL1
        go_wp2_with fail
        exact ⟨⟨k + 1, N1, by go_num, rfl, by omega, hnN1, hN1b, HA2, trivial⟩, by simp [intOf]; omega⟩
      · go_wp2_with fail
        go_ret
        exact ⟨⟨N, rfl, by omega, hnN, fun h => by omega⟩, rfl⟩
    · obtain rfl : k = n := by omega
      go_wp2_with fail
      go_ret
      exact ⟨⟨N, rfl, by omega, hnN, fun h => by have := HA.out; rw [← HN.out, List.take_length] at this; omega⟩, rfl⟩
set_option maxRecDepth 100000 in
set_option maxHeartbeats 4000000 in
theorem ssorted_any (A : Option Addr) (n c B : Nat) (l : List ByteArray) (w : World) (hx : Rd w B A (l.map .string)) (hB : B ≤ w.heap.size) (hn : l.length = n) (hb : n ≤ 100000) :
    Calls Tryz.prog 10 #[.slice A n c] w fun e w' => ∃ (Ao : Option Addr) (no co : Nat), e = .returned (.slice Ao no co) ∧ w'.ownsRow w.heap.size 9 1 (.slice Ao no co) no ((sortS l).map .string) ∧ (sortS l).length = no ∧ no ≤ n ∧ Kp [] w w' := by
  obtain ⟨i0, hi, hz0, hz1, hz2⟩ := info_parts Tryz.info_str12
  have HX := Lib.hid hx
  have HB := Lib.hid hB
  have HN := Lib.hid hn; clear hn
  clear hx hB
  go_enter Tryz.func10, Tryz.ntmps10
  go_wp2_with fail
  go_loopw [3, 4] (fun v x wr => ∃ (k no co : Nat) (Ao : Option Addr), x = .int .i64 (k : Int) ∧ v = .slice Ao no co ∧ k ≤ n ∧ no ≤ k ∧ Hid (wr.ownsRow w.heap.size 9 1 (.slice Ao no co) no ((sortS (l.take k)).map .string)) ∧ Hid ((sortS (l.take k)).length = no) ∧ Hid (Kp [] w wr)) (fun _ x _ => n - (intOf x).toNat)
  case atStart => exact ⟨0, 0, 0, none, rfl, rfl, by omega, by omega, Lib.hid (World.ownsRow_nil _ _ _ 1), Lib.hid rfl, Lib.hid (Kp.refl _ _)⟩
  case round =>
    obtain ⟨k, no, co, Ao, rfl, rfl, hk, hno, HO, HL, HK⟩ := hrel
    by_cases hlt : k < n
    · obtain ⟨s, ad, hsk, rfl, hab, hcs⟩ := (HX.out.kp0 HK.out).str (k := k) (by rw [HN.out]; exact hlt)
      obtain ⟨L, hLD⟩ : ∃ L, sortS (l.take k) = L := ⟨_, rfl⟩
      rw [hLD] at HO HL
      have HLD := Lib.hid hLD
      have HSK := Lib.hid hsk
      obtain ⟨_, _, hfo, hoc, hocm, _⟩ := own_form HO.out
      injection hfo with f1 f2 f3
      subst f3
      have hi0 : (0 : Int) ≤ (k : Int) := by omega
      have hi1 : (k : Int) < (n : Int) := by omega
      clear hsk hab f1 f2 hLD
      go_upto_block 2 with (fail)
      go_cut [5] (fun s5 wx => ∃ j : Nat, s5 = .int .i64 (j : Int) ∧ j ≤ no ∧ Hid (findN L s = j) ∧ Hid (Kp [] wr wx))
      case first =>
        go_wp2_with fail
        go_loopw [5] (fun x wq => ∃ j : Nat, x = .int .i64 (j : Int) ∧ j ≤ no ∧ Hid (j ≤ findN L s) ∧ Hid (Kp [] wr wq)) (fun x _ => no - (intOf x).toNat)
        case atStart => exact ⟨0, rfl, by omega, Lib.hid (Nat.zero_le _), Lib.hid (Kp.refl _ _)⟩
        case round =>
          obtain ⟨j, rfl, hj, HLE, HKQ⟩ := hrel
          by_cases hjn : j < no
          · obtain ⟨t, ao, htk, rfl, _, hct⟩ := ((own_rd HO.out).kp0 HKQ.out).str (k := j) (by rw [HL.out]; exact hjn)
            have hcs1 := HKQ.out.cell hcs (by simp)
            have HST := Lib.hid (findN_step HLE.out htk)
            have hj0 : (0 : Int) ≤ (j : Int) := by omega
            have hj1 : (j : Int) < (no : Int) := by omega
            have HLT := Lib.hid (less_txt t s)
            clear htk hcs
            cases hxx : lexN (txt t) (txt s) with
            | true =>
              have hl : Op.bytesLess t.toList s.toList = true := by rw [HLT.out, hxx]
              have HLE2 := Lib.hid (HST.out.1 hxx)
              clear hxx
              go_wp2_with fail
              go_quiet (fail)
              go_wp2_with fail
              exact ⟨⟨j + 1, by go_num, by omega, HLE2, Lib.hid (HKQ.out.drewN _)⟩, by simp [intOf]; omega⟩
            | false =>
              have hl : Op.bytesLess t.toList s.toList = false := by rw [HLT.out, hxx]
              have HLE2 := Lib.hid (HST.out.2 hxx)
              clear hxx
              go_wp2_with fail
              go_quiet (fail)
              go_wp2_with fail
              go_meet
              exact ⟨j, rfl, hj, HLE2, Lib.hid (HKQ.out.drewN _)⟩
          · obtain rfl : no = j := by omega
            have HLE2 := Lib.hid (show findN L s = no from Nat.le_antisymm (by have := findN_le L s; rwa [HL.out] at this) HLE.out)
            clear hjn hcs
            go_wp2_with fail
            go_quiet (fail)
            go_wp2_with fail
            go_meet
            exact ⟨no, rfl, Nat.le_refl _, HLE2, Lib.hid (HKQ.out.drewN _)⟩
      case rest =>
        obtain ⟨j, rfl, hj, HJ, HKQ⟩ := hcut
        have HKC := Lib.hid (HK.out.trans HKQ.out)
        have hcs1 := HKQ.out.cell hcs (by simp)
        replace HO := Lib.hid (own_kp0 HO.out HKQ.out)
        replace HX := Lib.hid ((HX.out.kp0 HK.out).kp0 HKQ.out)
        clear hcs HKQ HK
        have hj0 : (0 : Int) ≤ (j : Int) := by omega
        have hjn0 : (j : Int) ≤ (no : Int) := by omega
        have hjc : j ≤ co := by omega
        have hjc0 : (j : Int) ≤ (co : Int) := by omega
        obtain ⟨F, hF⟩ : ∃ F, isF L s = F := ⟨_, rfl⟩
        have HF := Lib.hid hF
        clear hF
        by_cases hjn : j < no
        · obtain ⟨t, ao, htk, rfl, _, hct⟩ := (own_rd HO.out).str (k := j) (by rw [HL.out]; exact hjn)
          have hj1 : (j : Int) < (no : Int) := by omega
          have HFT := Lib.hid (show F = decide (t = s) from by rw [← HF.out]; unfold isF; rw [HJ.out, htk]; simp)
          clear htk
          by_cases hts : t = s
          · subst hts
            have HNEW := Lib.hid (show sortS (l.take (k + 1)) = L from by rw [sort_take HSK.out, HLD.out]; unfold insS; rw [if_pos (by rw [HF.out, HFT.out]; simp)])
            go_wp2_with fail
            go_quiet (fail)
            go_wp2_with fail
            exact ⟨⟨k + 1, no, co, some ao, by go_num, rfl, by omega, by omega, Lib.hid (by rw [HNEW.out]; exact own_kp0 HO.out ((Kp.refl _ _).drewN _)), Lib.hid (by rw [HNEW.out]; exact HL.out), Lib.hid (HKC.out.drewN _)⟩, by simp [intOf]; omega⟩
          · have hee := str_eq_false hts
            have HNF := Lib.hid (show isF L s = false from by rw [HF.out, HFT.out]; exact decide_eq_false hts)
            clear hts
            go_wp2_with fail
            go_quiet (fail)
            have hcs2 : (wc.drewN nq).cell? (ad.add k) = some (.string s) := hcs1
            have hk9 : Kp [] wc (wc.drewN nq) := (Kp.refl _ _).drewN nq
            generalize wc.drewN nq = w' at hcs2 hk9 ⊢
            have HK2 := Lib.hid (HKC.out.trans hk9)
            replace HO := Lib.hid (own_kp0 HO.out hk9)
            clear HKC hct hjn hj1 hcs1 hk9
            go_wp2_with fail
            generalize (some ao : Option Addr) = Ao at HO ⊢
            have HCUT := Lib.hid (cutS (own_rd HO.out) HL.out hj hoc)
            have HTK := Lib.hid (takeS (own_rd HO.out) j)
            obtain ⟨nj, hnj⟩ : ∃ nj, no - j = nj := ⟨_, rfl⟩
            have HDL := Lib.hid (show (L.drop j).length = nj by rw [List.length_drop, HL.out, hnj])
            have HTL := Lib.hid (show (L.take j).length = j by rw [List.length_take, HL.out]; omega)
            have HSZ := Lib.hid HK2.out.size
            have hnjb : nj ≤ 100000 := by omega
            go_region_law
              ((refine step_append_rd rfl (.tmp 49) (.tmp 52) 22 rfl w.heap.size 9 i0 (.string ⟨#[]⟩) 1 16 Tryz.underlying22 hi hz0 hz1 hz2 rfl (by decide) (.slice (some ⟨_, 0, none⟩) 1 1) 1 [.string s] (by rfl) (own_oneS _ _ _ _ HSZ.out) _ _ nj (co - j) ((L.drop j).map .string) (by rfl) (by rw [List.length_map, HDL.out, Nat.mul_one]) (HCUT.out.kp0 (show Kp [] w' _ from by first | exact ((Kp.refl _ _).alloc _) | exact ((Kp.refl _ _).drew.alloc _))) (ocS _) (by unfold maxLen; omega) (by omega) (Nat.le_trans HSZ.out (by simp)) ?_; intro v3 w3 hown3 hgrow3 hat3; generalize (if co = j then Ao else Option.map (fun x => x.add j) Ao) = Ac; obtain ⟨A3, c3, rfl, _⟩ := own_form hown3; have hk3 : Kp [] w' w3 := (show Kp [] w' _ from by first | exact ((Kp.refl _ _).alloc _) | exact ((Kp.refl _ _).drew.alloc _)).grown hgrow3 (fun x hx => .inr (by simp [Value.ownBlock] at hx; omega)); have HO3 := Lib.hid hown3; have HK3 := Lib.hid hk3; clear hown3 hgrow3 hat3 hk3))
            have HTK3 := Lib.hid (HTK.out.kp0 HK3.out)
            have HSZ3 := Lib.hid (Nat.le_trans HSZ.out HK3.out.size)
            have HKW := Lib.hid (HK2.out.trans HK3.out)
            have HL5 := Lib.hid (show (L.take j ++ s :: L.drop j).length = j + (1 + nj) by rw [List.length_append, HTL.out, List.length_cons, HDL.out]; omega)
            have HE5 := Lib.hid (show (L.take j).map Value.string ++ ([.string s] ++ (L.drop j).map .string) = (L.take j ++ s :: L.drop j).map .string by rw [List.map_append]; rfl)
            have hj1k : j + (1 + nj) ≤ k + 1 := by omega
            have HLN := Lib.hid (show ([.string s] ++ (L.drop j).map .string : List Value).length = (1 + nj) * 1 by rw [List.length_append, List.length_map, HDL.out]; simp)
            have HNEW := Lib.hid (show sortS (l.take (k + 1)) = L.take j ++ s :: L.drop j by rw [sort_take HSK.out, HLD.out]; unfold insS; rw [if_neg (by rw [HNF.out]; simp), HJ.out])
            clear HCUT HTK HK2 HSZ HO HDL hnj
            go_wp2_with first
              | (at_builtin; refine wpList_append_rd rfl (.tmp 54) (.tmp 57) 22 rfl w3.heap.size 9 i0 (.string ⟨#[]⟩) 1 16 Tryz.underlying22 hi hz0 hz1 hz2 rfl (by decide) (.slice (some ⟨w3.heap.size, 0, none⟩) 0 0) 0 [] rfl (own_nilS w3 w3.heap.size _ 1 (Nat.le_refl _)) _ _ j co ((L.take j).map .string) rfl (by rw [List.length_map, HTL.out, Nat.mul_one]) (HTK3.out.kp0 ((Kp.refl [] _).alloc _)) (ocS _) (by unfold maxLen; omega) (by omega) (by simp) ?_; intro v4 w4 hown4 hgrow4 hat4
                 rw [Nat.zero_add, List.nil_append] at hown4
                 obtain ⟨A4, c4, rfl, _⟩ := own_form hown4
                 have hk4 : Kp [] w3 w4 := ((Kp.refl [] w3).alloc _).grown hgrow4 (fun x hx => .inr (by simp [Value.ownBlock] at hx; omega))
                 have HO4 := Lib.hid (own_base hown4 HSZ3.out)
                 have HR4 := Lib.hid ((own_rd HO3.out).kp0 hk4)
                 have HK4 := Lib.hid (HKW.out.trans hk4)
                 have HSZ4 := Lib.hid (Nat.le_trans HSZ3.out hk4.size)
                 clear hown4 hgrow4 hat4 hk4)
              | (at_builtin; refine wpList_append_rd rfl (.tmp 58) (.tmp 59) 22 rfl w.heap.size 9 i0 (.string ⟨#[]⟩) 1 16 Tryz.underlying22 hi hz0 hz1 hz2 rfl (by decide) (.slice A4 j c4) j _ rfl HO4.out _ _ (1 + nj) c3 _ rfl HLN.out HR4.out (by intro u hu; rcases List.mem_append.1 hu with hu | hu; simp at hu; subst hu; rfl; exact ocS _ u hu) (by unfold maxLen; omega) (by omega) HSZ4.out ?_; intro v5 w5 hown5 hgrow5 hat5
                 obtain ⟨A5, c5, rfl, _⟩ := own_form hown5
                 have hk5 : Kp [] w w5 := HK4.out.grown hgrow5 (fun x hx => .inr (own_ge HO4.out hx).1)
                 rw [HE5.out, ← HNEW.out] at hown5
                 rw [← HNEW.out] at HL5
                 have HO5 := Lib.hid hown5
                 have HK5 := Lib.hid hk5
                 clear hown5 hgrow5 hat5 hk5)
            exact ⟨⟨k + 1, j + (1 + nj), c5, A5, by go_num, rfl, by omega, hj1k, HO5, HL5, HK5⟩, by simp [intOf]; omega⟩
        · obtain rfl : no = j := by omega
          have HNF := Lib.hid (show isF L s = false from by unfold isF; rw [HJ.out, List.getElem?_eq_none (by rw [HL.out]; exact Nat.le_refl _)]; simp)
          go_wp2_with fail
          go_quiet (fail)
          have hcs2 : (wc.drewN nq).cell? (ad.add k) = some (.string s) := hcs1
          have hk9 : Kp [] wc (wc.drewN nq) := (Kp.refl _ _).drewN nq
          generalize wc.drewN nq = w' at hcs2 hk9 ⊢
          have HK2 := Lib.hid (HKC.out.trans hk9)
          replace HO := Lib.hid (own_kp0 HO.out hk9)
          clear HKC hjn hcs1 hk9
          go_wp2_with fail
          have HCUT := Lib.hid (cutS (own_rd HO.out) HL.out hj hoc)
          have HTK := Lib.hid (takeS (own_rd HO.out) no)
          obtain ⟨nj, hnj⟩ : ∃ nj, no - no = nj := ⟨_, rfl⟩
          have HDL := Lib.hid (show (L.drop no).length = nj by rw [List.length_drop, HL.out, hnj])
          have HTL := Lib.hid (show (L.take no).length = no by rw [List.length_take, HL.out]; omega)
          have HSZ := Lib.hid HK2.out.size
          have hnjb : nj ≤ 100000 := by omega
          go_region_law
            ((refine step_append_rd rfl (.tmp 49) (.tmp 52) 22 rfl w.heap.size 9 i0 (.string ⟨#[]⟩) 1 16 Tryz.underlying22 hi hz0 hz1 hz2 rfl (by decide) (.slice (some ⟨_, 0, none⟩) 1 1) 1 [.string s] (by rfl) (own_oneS _ _ _ _ HSZ.out) _ _ nj (co - no) ((L.drop no).map .string) (by rfl) (by rw [List.length_map, HDL.out, Nat.mul_one]) (HCUT.out.kp0 (show Kp [] w' _ from by first | exact ((Kp.refl _ _).alloc _) | exact ((Kp.refl _ _).drew.alloc _))) (ocS _) (by unfold maxLen; omega) (by omega) (Nat.le_trans HSZ.out (by simp)) ?_; intro v3 w3 hown3 hgrow3 hat3; generalize (if co = no then Ao else Option.map (fun x => x.add no) Ao) = Ac; obtain ⟨A3, c3, rfl, _⟩ := own_form hown3; have hk3 : Kp [] w' w3 := (show Kp [] w' _ from by first | exact ((Kp.refl _ _).alloc _) | exact ((Kp.refl _ _).drew.alloc _)).grown hgrow3 (fun x hx => .inr (by simp [Value.ownBlock] at hx; omega)); have HO3 := Lib.hid hown3; have HK3 := Lib.hid hk3; clear hown3 hgrow3 hat3 hk3))
          have HTK3 := Lib.hid (HTK.out.kp0 HK3.out)
          have HSZ3 := Lib.hid (Nat.le_trans HSZ.out HK3.out.size)
          have HKW := Lib.hid (HK2.out.trans HK3.out)
          have HL5 := Lib.hid (show (L.take no ++ s :: L.drop no).length = no + (1 + nj) by rw [List.length_append, HTL.out, List.length_cons, HDL.out]; omega)
          have HE5 := Lib.hid (show (L.take no).map Value.string ++ ([.string s] ++ (L.drop no).map .string) = (L.take no ++ s :: L.drop no).map .string by rw [List.map_append]; rfl)
          have hj1k : no + (1 + nj) ≤ k + 1 := by omega
          have HLN := Lib.hid (show ([.string s] ++ (L.drop no).map .string : List Value).length = (1 + nj) * 1 by rw [List.length_append, List.length_map, HDL.out]; simp)
          have HNEW := Lib.hid (show sortS (l.take (k + 1)) = L.take no ++ s :: L.drop no by rw [sort_take HSK.out, HLD.out]; unfold insS; rw [if_neg (by rw [HNF.out]; simp), HJ.out])
          clear HCUT HTK HK2 HSZ HO HDL hnj
          go_wp2_with first
            | (at_builtin; refine wpList_append_rd rfl (.tmp 54) (.tmp 57) 22 rfl w3.heap.size 9 i0 (.string ⟨#[]⟩) 1 16 Tryz.underlying22 hi hz0 hz1 hz2 rfl (by decide) (.slice (some ⟨w3.heap.size, 0, none⟩) 0 0) 0 [] rfl (own_nilS w3 w3.heap.size _ 1 (Nat.le_refl _)) _ _ no co ((L.take no).map .string) rfl (by rw [List.length_map, HTL.out, Nat.mul_one]) (HTK3.out.kp0 ((Kp.refl [] _).alloc _)) (ocS _) (by unfold maxLen; omega) (by omega) (by simp) ?_; intro v4 w4 hown4 hgrow4 hat4
               rw [Nat.zero_add, List.nil_append] at hown4
               obtain ⟨A4, c4, rfl, _⟩ := own_form hown4
               have hk4 : Kp [] w3 w4 := ((Kp.refl [] w3).alloc _).grown hgrow4 (fun x hx => .inr (by simp [Value.ownBlock] at hx; omega))
               have HO4 := Lib.hid (own_base hown4 HSZ3.out)
               have HR4 := Lib.hid ((own_rd HO3.out).kp0 hk4)
               have HK4 := Lib.hid (HKW.out.trans hk4)
               have HSZ4 := Lib.hid (Nat.le_trans HSZ3.out hk4.size)
               clear hown4 hgrow4 hat4 hk4)
            | (at_builtin; refine wpList_append_rd rfl (.tmp 58) (.tmp 59) 22 rfl w.heap.size 9 i0 (.string ⟨#[]⟩) 1 16 Tryz.underlying22 hi hz0 hz1 hz2 rfl (by decide) (.slice A4 no c4) no _ rfl HO4.out _ _ (1 + nj) c3 _ rfl HLN.out HR4.out (by intro u hu; rcases List.mem_append.1 hu with hu | hu; simp at hu; subst hu; rfl; exact ocS _ u hu) (by unfold maxLen; omega) (by omega) HSZ4.out ?_; intro v5 w5 hown5 hgrow5 hat5
               obtain ⟨A5, c5, rfl, _⟩ := own_form hown5
               have hk5 : Kp [] w w5 := HK4.out.grown hgrow5 (fun x hx => .inr (own_ge HO4.out hx).1)
               rw [HE5.out, ← HNEW.out] at hown5
               rw [← HNEW.out] at HL5
               have HO5 := Lib.hid hown5
               have HK5 := Lib.hid hk5
               clear hown5 hgrow5 hat5 hk5)
          exact ⟨⟨k + 1, no + (1 + nj), c5, A5, by go_num, rfl, by omega, hj1k, HO5, HL5, HK5⟩, by simp [intOf]; omega⟩
    · obtain rfl : k = n := by omega
      have HEND := Lib.hid (show wr.ownsRow w.heap.size 9 1 (.slice Ao no co) no ((sortS l).map .string) ∧ (sortS l).length = no from by
        have h1 := HO.out
        have h2 := HL.out
        rw [List.take_of_length_le (by rw [HN.out]; exact Nat.le_refl _)] at h1 h2
        exact ⟨h1, h2⟩)
      clear HO HL
      go_wp2_with fail
      go_ret
      exact ⟨Ao, no, co, rfl, HEND.out.1, HEND.out.2, hno, HK.out⟩
set_option maxRecDepth 100000 in
set_option maxHeartbeats 4000000 in
theorem sbegins_any (s p : ByteArray) (w : World) (_hs : s.size ≤ 1000000000000) (_hp : p.size ≤ 1000000000000) : Calls Tryz.prog 13 #[.string s, .string p] w fun e w' => e = .returned (.bool (beginsN (txt s) (txt p))) ∧ w = w' := by
  by_cases hle : p.size ≤ s.size
  · have hle2 : (p.size : Int) ≤ (s.size : Int) := by omega
    have hp0 : (0 : Int) ≤ (p.size : Int) := by omega
    have HB := Lib.hid (show beginsN (txt s) (txt p) = decide (s.extract 0 p.size = p) from by
      unfold beginsN
      have h1 : txt (s.extract 0 p.size) = (txt s).take p.size := by rw [txt_extract, List.drop_zero, Nat.sub_zero]
      rw [txt_len, ← h1]
      by_cases h2 : s.extract 0 p.size = p
      · rw [h2]; simp
      · rw [decide_eq_false h2, decide_eq_false (fun e => h2 (txt_inj e))])
    by_cases hq : s.extract 0 p.size = p
    · have HQ := Lib.hid hq
      have hee : (s.extract 0 p.size).toList = p.toList := by rw [hq]
      clear hq
      go_enter Tryz.func13, Tryz.ntmps13
      go_wp2_with fail
      go_ret
      exact ⟨by rw [HB.out, decide_eq_true HQ.out]; simp, rfl⟩
    · have hee := str_eq_false hq
      go_enter Tryz.func13, Tryz.ntmps13
      go_wp2_with fail
      go_ret
      exact ⟨by rw [HB.out, decide_eq_false hq]; rfl, rfl⟩
  · have hle2 : decide (p.size ≤ s.size) = false := by simp; omega
    have HB := Lib.hid (show beginsN (txt s) (txt p) = false from by
      unfold beginsN
      refine decide_eq_false (fun e => ?_)
      have h1 := congrArg List.length e
      rw [List.length_take, txt_len, txt_len] at h1
      omega)
    go_enter Tryz.func13, Tryz.ntmps13
    go_wp2_with fail
    go_ret
    exact ⟨by rw [HB.out]; rfl, rfl⟩
set_option maxRecDepth 100000 in
set_option maxHeartbeats 4000000 in
theorem sbytes_any (S : List Nat) (sp g m c : Nat) (v : Value) (ts : List ByteArray) (bs : List Int) (w : World) (h : SecM w S sp v g m c ts) (hr : Rd w w.heap.size (some ⟨g, 0, none⟩) (bs.map (.int .u8))) (hl : bs.length = m) (hm : m ≤ 1000000000) : Calls Tryz.prog 19 #[.pointer (some ⟨sp, 0, none⟩)] w fun e w' => ∃ (A' : Option Addr) (c' : Nat), e = .returned (.slice A' m c') ∧ w'.ownsRow w.heap.size 5 1 (.slice A' m c') m (bs.map (.int .u8)) ∧ Kp [] w w' := by
  obtain ⟨hc0, hc1⟩ := h.cells
  have H := Lib.hid h
  have HR := Lib.hid hr
  have HLB := Lib.hid hl
  clear h hr hl
  go_enter Tryz.func19, Tryz.ntmps19
  go_wp2_with fail
  refine (sthere_any w H.out).mono ?_
  rintro e w1 ⟨rfl, rfl⟩
  go_wp2_with fail
  refine (cloneB (some ⟨g, 0, none⟩) m c _ bs w HR.out HLB.out hm).mono ?_
  rintro e w1 ⟨A', c', rfl, ho, hk⟩
  have HO := Lib.hid ho
  have HK := Lib.hid hk
  clear ho hk
  go_wp2_with fail
  go_ret
  exact ⟨A', c', rfl, HO.out, HK.out⟩
end Go.Proofs.YtanacapkfllbnaaGreatDoor
namespace Go.Proofs.YtanacapkfllbnaaGreatDoor
open Go.RowKit

def abT : List ByteArray := [⟨#[97]⟩, ⟨#[97, 98]⟩, ⟨#[98]⟩]
theorem abT_a : findN abT ⟨#[97]⟩ = 0 ∧ preC abT ⟨#[97]⟩ = 2 := by decide +kernel
theorem abT_c : findN abT ⟨#[99]⟩ = 3 ∧ preC abT ⟨#[99]⟩ = 0 := by decide +kernel
theorem abT_b : findN abT ⟨#[98]⟩ = 2 ∧ isF abT ⟨#[98]⟩ = true := by decide +kernel
theorem abT_rise : riseT abT = true := by decide +kernel
theorem abT_sym : (symL abT).length ≤ 29000 := by decide +kernel
theorem abT_size : ∀ t ∈ abT, t.size ≤ 1000000000000 := by decide +kernel
theorem rd_ab (w : World) : Rd (w.alloc (.cells #[.string ⟨#[97]⟩, .string ⟨#[97, 98]⟩, .string ⟨#[98]⟩] 9)) (w.heap.size + 1) (some ⟨w.heap.size, 0, none⟩) (abT.map .string) := Rd.new w _ 9 (0, 0)
set_option maxRecDepth 100000 in
set_option maxHeartbeats 4000000 in
theorem awake_s (w : World) (ht : Tab64 w) : Calls Tryz.prog 8 #[] w fun e w' => e = .returned (.bool true) ∧ Kp [] w w' := by
  have HT := Lib.hid ht
  clear ht
  go_enter Tryz.func8, Tryz.ntmps8
  go_wp2_with fail
  refine (sof_any none 0 0 0 [] w (Rd.nil _ _ _) rfl (by simp [symL]) (Nat.zero_le _) HT.out).mono ?_
  rintro e w1 ⟨hk1, ⟨hr, _⟩ | ⟨_, S1, z, v1, g1, m1, c1, rfl, hz, hS1, _, bs1, hl1, _, hrw1, hnil1⟩⟩
  · cases hr
  rw [secBytes_nil] at hnil1
  subst hnil1
  obtain rfl : m1 = 4 := by rw [← hl1]; rfl
  have HZ := Lib.hid hz
  have HRW := Lib.hid hrw1
  have HK := Lib.hid hk1
  have HT1 := Lib.hid (HT.out.kp0 hk1)
  clear hz hS1 hl1 hrw1 hk1
  go_wp2_with fail
  obtain ⟨w2, hw2⟩ : ∃ w2, w2 = w1.alloc (.cells #[.string ⟨#[97]⟩, .string ⟨#[97, 98]⟩, .string ⟨#[98]⟩] 9) := ⟨_, rfl⟩
  obtain ⟨b, hb⟩ : ∃ b, b = w1.heap.size := ⟨_, rfl⟩
  have hx := rd_ab w1
  rw [← hw2, ← hb] at hx
  rw [← hw2, ← hb]
  have hk2 : Kp [] w1 w2 := by rw [hw2]; exact (Kp.refl [] w1).alloc _
  have hs2 : b + 1 ≤ w2.heap.size := by rw [hw2, hb]; simp
  refine (sof_any (some ⟨b, 0, none⟩) 3 3 _ abT w2 hx rfl abT_sym hs2 (HT1.out.kp0 hk2)).mono ?_
  rintro e w3 ⟨hk3, ⟨hr, _⟩ | ⟨_, S2, sp, v2, g2, m2, c2, rfl, hsec, hS2, _, _⟩⟩
  · rw [abT_rise] at hr; cases hr
  have HS := Lib.hid hsec
  have HSN := Lib.hid (show ∀ x ∈ S2, w2.heap.size ≤ x from hS2)
  have HH2 := Lib.hid (show w.heap.size ≤ w2.heap.size from Nat.le_trans HK.out.size hk2.size)
  have HZ2 := Lib.hid (show w2.heap.size ≤ w3.heap.size from hk3.size)
  replace HK := Lib.hid (HK.out.trans (hk2.trans hk3))
  replace HZ := Lib.hid (HZ.out.kp0 (hk2.trans hk3))
  replace HRW := Lib.hid ((HRW.out.kp0 (hk2.trans hk3)).bound (hk2.trans hk3).size)
  clear hw2 hb hx hk2 hs2 hk3 hsec hS2 HT1
  go_wp2_with fail
  refine (sbytes_any S1 z g1 4 c1 v1 [] (fourI 0) w3 HZ.out HRW.out rfl (by omega)).mono ?_
  rintro e w4 ⟨A4, c4, rfl, hown4, hk4⟩
  have HR4 := Lib.hid (own_rd hown4)
  replace HK := Lib.hid (HK.out.trans hk4)
  have HZ3 := Lib.hid (show w2.heap.size ≤ w4.heap.size from Nat.le_trans HZ2.out hk4.size)
  replace HS := Lib.hid (HS.out.kp0 hk4)
  clear hk4
  clear hown4 HZ HRW
  go_wp2_with fail
  refine (sameB A4 (some ⟨w4.heap.size, 0, none⟩) 4 4 c4 4 _ _ (fourI 0) [0, 0, 0, 0] _ (HR4.out.kp0 ((Kp.refl [] w4).alloc _)) (Rd.new w4 #[.int .u8 0, .int .u8 0, .int .u8 0, .int .u8 0] 5 (0, 0)) rfl rfl (by omega) (by omega)).mono ?_
  rw [decide_eq_true (show fourI 0 = [0, 0, 0, 0] from by decide)]
  rintro e w5 ⟨rfl, hd5⟩
  have hk5 := ((Kp.refl [] w4).alloc (.cells #[.int .u8 0, .int .u8 0, .int .u8 0, .int .u8 0] 5)).trans (hd5.kp [])
  replace HK := Lib.hid (HK.out.trans hk5)
  have HZ5 := Lib.hid (show w2.heap.size ≤ w5.heap.size from Nat.le_trans HZ3.out hk5.size)
  replace HS := Lib.hid (HS.out.kp0 hk5)
  clear hk5
  clear hd5 HR4
  go_wp2_with fail
  refine (sprefix_any ⟨#[97]⟩ w5 HS.out (by decide) abT_size).mono ?_
  rw [abT_a.1, abT_a.2]
  rintro e w6 ⟨rfl, S3, hs3, hg3, hk3⟩
  have HS3 := Lib.hid hs3
  have HG3 := Lib.hid (show ∀ x ∈ S3, w2.heap.size ≤ x from fun x hx => (hg3 x hx).elim (HSN.out x) (fun h => Nat.le_trans HZ5.out h))
  have HK3 := Lib.hid (HK.out.trans' hk3 (fun x hx => .inr (Nat.le_trans HH2.out (HSN.out x hx))))
  clear hs3 hg3 hk3 HS HK
  go_wp2_with fail
  refine (sprefix_any ⟨#[99]⟩ w6 HS3.out (by decide) abT_size).mono ?_
  rw [abT_c.1, abT_c.2]
  rintro e w7 ⟨rfl, S4, hs4, hg4, hk4⟩
  have HS4 := Lib.hid hs4
  have HG4 := Lib.hid (show ∀ x ∈ S4, w.heap.size ≤ x from fun x hx => (hg4 x hx).elim (fun h => Nat.le_trans HH2.out (HG3.out x h)) (fun h => Nat.le_trans HK3.out.size h))
  have HK4 := Lib.hid (HK3.out.trans' hk4 (fun x hx => .inr (Nat.le_trans HH2.out (HG3.out x hx))))
  clear hs4 hg4 hk4 HS3 HK3 HG3
  go_wp2_with fail
  refine (sfind_any ⟨#[98]⟩ w7 HS4.out).mono ?_
  rw [abT_b.1, abT_b.2]
  rintro e w8 ⟨rfl, S5, hs5, hg5, hk5⟩
  have HK5 := Lib.hid (HK4.out.trans' hk5 (fun x hx => .inr (HG4.out x hx)))
  clear hs5 hg5 hk5 HS4 HK4 HG4
  go_wp2_with fail
  go_ret
  exact ⟨rfl, HK5.out⟩
end Go.Proofs.YtanacapkfllbnaaGreatDoor
namespace Go.Proofs.YtanacapkfllbnaaGreatDoor
open Go.RowKit

set_option maxRecDepth 100000 in
set_option maxHeartbeats 4000000 in
theorem sectionprefix_any (A0 : Option Addr) (n c0 : Nat) (ss : List ByteArray) (p : ByteArray) (w : World) (h0 : Rd w w.heap.size A0 (ss.map .string)) (hn : ss.length = n) (hb : n ≤ 140737488351232) (hl : ∀ s ∈ ss, s.size ≤ 140737488351232) (hp : p.size ≤ 140737488351232) (ht : Tab64 w) :
    Calls Tryz.prog 3 #[.slice A0 n c0, .string p] w fun e w' => e = .returned (.bool true) ∧ Kp [] w w' := by
  have HX := Lib.hid h0
  clear h0
  have HN := Lib.hid hn; clear hn
  have HL := Lib.hid hl; clear hl
  have HT := Lib.hid ht; clear ht
  go_enter Tryz.func3, Tryz.ntmps3
  go_wp2_with fail
  refine (awake_s w HT.out).mono ?_
  rintro e w1 ⟨rfl, hk1⟩
  have HK := Lib.hid hk1
  have HB := Lib.hid hk1.size
  replace HT := Lib.hid (HT.out.kp0 hk1)
  replace HX := Lib.hid (HX.out.kp0 hk1)
  clear hk1
  go_wp2_with fail
  refine (ssize_any A0 n c0 _ ss w1 HX.out HN.out hb HL.out).mono ?_
  rintro e w1' ⟨⟨Z, rfl, hZ, hnZ, hZs⟩, rfl⟩
  have HZS := Lib.hid hZs
  clear hZs
  by_cases hZ6 : 900 < Z + p.size
  · have hzd : decide ((900 : Int) < (Z : Int) + (p.size : Int)) = true := by simp; omega
    go_wp2_with fail
    go_ret
    exact ⟨rfl, HK.out⟩
  have HSL := Lib.hid (show (symL ss).length ≤ 900 from Nat.le_trans (HZS.out (by omega)) (by omega))
  have hzd : decide ((900 : Int) < (Z : Int) + (p.size : Int)) = false := by simp; omega
  have hn9 : n ≤ 900 := by omega
  have hp9 : p.size ≤ 900 := by omega
  go_wp2_with fail
  clear hzd hZ6 hZ hnZ hb hp
  refine (ssorted_any A0 n c0 _ ss w1 HX.out HB.out HN.out (by omega)).mono ?_
  rintro e w2 ⟨At, nt, ct, rfl, hown2, hnt, hntn, hk2⟩
  obtain ⟨ts, hts⟩ : ∃ ts, sortS ss = ts := ⟨_, rfl⟩
  rw [hts] at hown2 hnt
  have HTR := Lib.hid (show riseT ts = true from hts ▸ sort_rise ss)
  have HTS := Lib.hid (show (symL ts).length ≤ 900 from Nat.le_trans (hts ▸ sort_sym ss) HSL.out)
  have HNT := Lib.hid hnt
  have HR := Lib.hid (own_rd hown2)
  replace HK := Lib.hid (HK.out.trans hk2)
  replace HT := Lib.hid (HT.out.kp0 hk2)
  clear hown2 hnt hts hk2 HX HB
  have HSZ := Lib.hid (show ∀ s ∈ ts, s.size ≤ 1000000000000 from fun s hs => by
    have h1 : (symT s).length ≤ (symL ts).length := by
      obtain ⟨l1, l2, e⟩ := List.append_of_mem hs
      rw [e]
      unfold symL
      rw [List.flatMap_append, List.flatMap_cons, List.length_append, List.length_append]
      omega
    rw [symT_len] at h1
    have := HTS.out
    omega)
  go_wp2_with fail
  refine (sof_any At nt ct _ ts w2 HR.out HNT.out (by have := HTS.out; omega) (Nat.le_refl _) HT.out).mono ?_
  rintro e w3 ⟨hk3, ⟨hr, _⟩ | ⟨_, S, sp, v, g, m, c, rfl, hsec, hS, _, _⟩⟩
  · rw [HTR.out] at hr; cases hr
  have HS := Lib.hid hsec
  have HSN := Lib.hid hS
  have HK3 := Lib.hid hk3
  clear hsec hS hk3
  go_wp2_with fail
  refine (sprefix_any p w3 HS.out (by omega) HSZ.out).mono ?_
  obtain ⟨k, hk⟩ : ∃ k, findN ts p = k := ⟨_, rfl⟩
  obtain ⟨C, hC⟩ : ∃ C, preC ts p = C := ⟨_, rfl⟩
  have hpl := preC_le ts p
  rw [hk, hC] at hpl ⊢
  rw [HNT.out] at hpl
  have HKF := Lib.hid (show findN ts p = k ∧ preC ts p = C from ⟨hk, hC⟩)
  obtain ⟨F, hF⟩ : ∃ F, F = k + 1 := ⟨_, rfl⟩
  obtain ⟨E, hE⟩ : ∃ E, E = k + 1 + C := ⟨_, rfl⟩
  rw [← hE, ← hF]
  have HFE := Lib.hid (show F = k + 1 ∧ E = k + 1 + C from ⟨hF, hE⟩)
  rintro e w4 ⟨rfl, S4, hs4, hg4, hk4⟩
  have HS4 := Lib.hid hs4
  have HSN4 := Lib.hid (show ∀ x ∈ S4, w2.heap.size ≤ x from fun x hx => (hg4 x hx).elim (HSN.out x) (fun h => Nat.le_trans HK3.out.size h))
  have HK4 := Lib.hid (HK3.out.trans' hk4 (fun x hx => .inr (HSN.out x hx)))
  have q1 : decide ((F : Int) < 1) = false := decide_eq_false (by omega)
  have q2 : decide ((E : Int) < (F : Int)) = false := decide_eq_false (by omega)
  have q2n : decide (E < F) = false := decide_eq_false (by omega)
  have q3 : decide ((nt : Int) + 1 < (E : Int)) = false := decide_eq_false (by omega)
  clear hk hC hF hE hs4 hg4 hk4 HS HSN HK3
  have hntb : nt ≤ 900 := by omega
  go_wp2_with fail
  clear q1 q2 q2n q3
  go_loopw [10] (fun x wr => ∃ i : Nat, x = .int .i64 (i : Int) ∧ i ≤ nt ∧ w4 = wr) (fun x _ => nt - (intOf x).toNat)
  case atStart => exact ⟨0, rfl, by omega, rfl⟩
  case round =>
    obtain ⟨i, rfl, hi, rfl⟩ := hrel
    by_cases hlt : i < nt
    · obtain ⟨t, ad, hti, rfl, _, hct⟩ := (HR.out.kp0 HK4.out).str (k := i) (by rw [HNT.out]; exact hlt)
      have hb0 : (0 : Int) ≤ (i : Int) := by omega
      have hb1 : (i : Int) < (nt : Int) := by omega
      have htz := HSZ.out t (List.mem_of_getElem? hti)
      have HIN := Lib.hid (pre_in (p := p) HTR.out hti)
      have HTI := Lib.hid hti
      clear hti
      obtain ⟨B, hB⟩ : ∃ B, beginsN (txt t) (txt p) = B := ⟨_, rfl⟩
      have HBB := Lib.hid (show beginsN (txt t) (txt p) = B ∧ B = decide (k ≤ i ∧ i < k + C) from ⟨hB, by rw [← hB, HIN.out, HKF.out.1, HKF.out.2]⟩)
      clear hB
      by_cases h1 : i < k
      · have hBf : B = false := by rw [HBB.out.2]; exact decide_eq_false (by omega)
        subst hBf
        have hl : Op.bytesLess t.toList p.toList = true := by
          rw [less_txt]
          exact findN_pre ts p i t (by rw [HKF.out.1]; exact h1) HTI.out
        have q1 : decide ((F : Int) ≤ (i : Int) + 1) = false := decide_eq_false (by have := HFE.out; omega)
        have q2 : decide ((i : Int) + 1 < (F : Int)) = true := decide_eq_true (by have := HFE.out; omega)
        have q3 : decide ((E : Int) ≤ (i : Int) + 1) = false := decide_eq_false (by have := HFE.out; omega)
        have q4 : decide ((i : Int) + 1 < (E : Int)) = true := decide_eq_true (by have := HFE.out; omega)
        have p1 : (i : Int) + 1 < (F : Int) := by have := HFE.out; omega
        have p2 : ¬ ((F : Int) ≤ (i : Int) + 1) := by have := HFE.out; omega
        have p3 : ¬ ((E : Int) ≤ (i : Int) + 1) := by have := HFE.out; omega
        have p4 : (i : Int) + 1 < (E : Int) := by have := HFE.out; omega
        go_wp2_with fail
        refine (sbegins_any t p w4 htz (by omega)).mono ?_
        rw [HBB.out.1]
        rintro e w5 ⟨rfl, rfl⟩
        go_wp2_with fail
        exact ⟨⟨i + 1, by go_num, by omega, trivial⟩, by simp [intOf]; omega⟩
      · by_cases h2 : i < k + C
        · have hBf : B = true := by rw [HBB.out.2]; exact decide_eq_true (by omega)
          subst hBf
          have q1 : decide ((F : Int) ≤ (i : Int) + 1) = true := decide_eq_true (by have := HFE.out; omega)
          have q2 : decide ((i : Int) + 1 < (F : Int)) = false := decide_eq_false (by have := HFE.out; omega)
          have q3 : decide ((E : Int) ≤ (i : Int) + 1) = false := decide_eq_false (by have := HFE.out; omega)
          have q4 : decide ((i : Int) + 1 < (E : Int)) = true := decide_eq_true (by have := HFE.out; omega)
          go_wp2_with fail
          refine (sbegins_any t p w4 htz (by omega)).mono ?_
          rw [HBB.out.1]
          rintro e w5 ⟨rfl, rfl⟩
          go_wp2_with fail
          exact ⟨⟨i + 1, by go_num, by omega, trivial⟩, by simp [intOf]; omega⟩
        · have hBf : B = false := by rw [HBB.out.2]; exact decide_eq_false (by omega)
          subst hBf
          have hl : Op.bytesLess p.toList t.toList = true := by
            rw [less_txt]
            exact pre_gt HTR.out HTI.out (by rw [HKF.out.1, HKF.out.2]; omega)
          have hl2 : Op.bytesLess t.toList p.toList = false := by
            rw [less_txt]
            exact lexN_asymm _ _ (by rw [← less_txt]; exact hl)
          have hee := str_eq_false (show t ≠ p from fun e => by
            rw [e, less_txt, lexN_irrefl] at hl
            cases hl)
          have q1 : decide ((F : Int) ≤ (i : Int) + 1) = true := decide_eq_true (by have := HFE.out; omega)
          have q2 : decide ((i : Int) + 1 < (F : Int)) = false := decide_eq_false (by have := HFE.out; omega)
          have q3 : decide ((E : Int) ≤ (i : Int) + 1) = true := decide_eq_true (by have := HFE.out; omega)
          have q4 : decide ((i : Int) + 1 < (E : Int)) = false := decide_eq_false (by have := HFE.out; omega)
          go_wp2_with fail
          refine (sbegins_any t p w4 htz (by omega)).mono ?_
          rw [HBB.out.1]
          rintro e w5 ⟨rfl, rfl⟩
          go_wp2_with fail
          exact ⟨⟨i + 1, by go_num, by omega, trivial⟩, by simp [intOf]; omega⟩
    · obtain rfl : i = nt := by omega
      go_wp2_with fail
      refine (sfind_any p w4 HS4.out).mono ?_
      rw [HKF.out.1]
      obtain ⟨b, hb⟩ : ∃ b, isF ts p = b := ⟨_, rfl⟩
      rw [hb]
      rintro e w5 ⟨rfl, S5, hs5, hg5, hk5⟩
      have HK5 := Lib.hid (HK.out.trans (HK4.out.trans' hk5 (fun x hx => .inr (HSN4.out x hx))))
      clear hs5 hg5 hk5
      cases b with
      | false =>
        go_wp2_with fail
        go_ret
        exact ⟨rfl, HK5.out⟩
      | true =>
        have hC1 : 1 ≤ C := by
          have h1 : ts[findN ts p]? = some p := by unfold isF at hb; exact of_decide_eq_true hb
          have h2 := pre_in (p := p) HTR.out h1
          rw [begins_self, HKF.out.1, HKF.out.2] at h2
          have := of_decide_eq_true h2.symm
          omega
        have q1 : ((k : Int) + 1 == (F : Int)) = true := by have := HFE.out; simp; omega
        have q2 : decide ((F : Int) < (E : Int)) = true := decide_eq_true (by have := HFE.out; omega)
        have q2n : decide (F < E) = true := decide_eq_true (by have := HFE.out; omega)
        clear hb
        go_wp2_with fail
        go_ret
        exact ⟨rfl, HK5.out⟩
end Go.Proofs.YtanacapkfllbnaaGreatDoor
