/-
  FlowPuts: the walk.
  CONDITIONS: the bounds that a row's reach gives.
-/
import Derived.Test.YtddmioaeehgkbaaDoorFwref
import Derived.Test.YtddmioaeehgkbaaDoorFlaw
import Derived.Test.YtddmioaeehgkbaaDoorBref4
import Derived.Test.YtddmioaeehgkbaaDoorBby
import Derived.Deep.RegionHeld3
import Derived.Deep.DeepCutAuto
import Derived.Deep.CutBlock
namespace Go.Proofs.YtddmioaeehgkbaaDoor
open Go.RowKit

theorem WPost.behind {w wr w' : World} {S : List Nat} {p : Nat} {s : WS} (hk : Kp [] w wr) (h : WPost wr w' S p s) : WPost w w' S p s := by
  obtain ⟨S', q1, q2, q3⟩ := h
  exact ⟨S', q1, (hk.mono (by simp)).trans q2, fun z hz => (q3 z hz).imp id (fun h => Nat.le_trans hk.size h)⟩
/-- The two writers in memory: flow's with s, the document's with t. -/
structure FW (w0 w : World) (G S T : List Nat) (p pr : Nat) (s t : WS) : Prop where
  m : WrM w S p s
  r : WrR w T pr t
  sb : ∀ x ∈ S, w0.heap.size ≤ x
  tb : ∀ x ∈ T, w0.heap.size ≤ x
  st : ∀ x ∈ S, x ∉ T
  sg : ∀ x ∈ S, x ∉ G
  tg : ∀ x ∈ T, x ∉ G
  gl : ∀ x ∈ G, x < w.heap.size
  k : Kp [] w0 w
theorem FW.kp0 {w0 w w' : World} {G S T : List Nat} {p pr : Nat} {s t : WS} (h : FW w0 w G S T p pr s t) (hk : Kp [] w w') : FW w0 w' G S T p pr s t :=
  ⟨h.m.kp0 hk, h.r.kp0 hk, h.sb, h.tb, h.st, h.sg, h.tg, fun x hx => Nat.lt_of_lt_of_le (h.gl x hx) hk.size, h.k.trans hk⟩
theorem FW.put {w0 w w' : World} {G S T : List Nat} {p pr : Nat} {s t s' : WS} (h : FW w0 w G S T p pr s t) (hp : WPost w w' S p s') : (∃ S', FW w0 w' G S' T p pr s' t) ∧ Kp S w w' := by
  obtain ⟨S', h1, h2, h3⟩ := hp
  refine ⟨⟨S', h1, h.r.kp h2 (fun g hg hm => h.st g hm hg), h3.ge h.sb h.k.size, h.tb, fun x hx hm => ?_, fun x hx hm => ?_, h.tg, fun x hx => Nat.lt_of_lt_of_le (h.gl x hx) h2.size, h.k.trans' h2 (fun x hx => .inr (h.sb x hx))⟩, h2⟩
  · rcases h3 x hx with h4 | h4
    · exact h.st x h4 hm
    · have := h.r.lt x hm; omega
  · rcases h3 x hx with h4 | h4
    · exact h.sg x h4 hm
    · have := h.gl x hm; omega
theorem FW.rput {w0 w w' : World} {G S T : List Nat} {p pr : Nat} {s t t' : WS} (h : FW w0 w G S T p pr s t) (hp : RPost w w' T pr t') : (∃ T', FW w0 w' G S T' p pr s t') ∧ Kp T w w' := by
  obtain ⟨T', h1, h2, h3⟩ := hp
  refine ⟨⟨T', h.m.kp h2 (fun g hg hm => h.st g hg hm), h1, h.sb, h3.ge h.tb h.k.size, fun x hx hm => ?_, h.sg, fun x hx hm => ?_, fun x hx => Nat.lt_of_lt_of_le (h.gl x hx) h2.size, h.k.trans' h2 (fun x hx => .inr (h.tb x hx))⟩, h2⟩
  · rcases h3 x hm with h4 | h4
    · exact h.st x hx h4
    · have := h.m.lt x hx; omega
  · rcases h3 x hx with h4 | h4
    · exact h.tg x h4 hm
    · have := h.gl x hm; omega
theorem FW.lay {w0 w w' : World} {G S T : List Nat} {p pr g : Nat} {s t : WS} (h : FW w0 w G S T p pr s t) (hk : Kp [] w w') (hg : g = w.heap.size) (hl : g < w'.heap.size) : FW w0 w' [g] S T p pr s t :=
  ⟨h.m.kp0 hk, h.r.kp0 hk, h.sb, h.tb, h.st, fun x hx hm => by simp only [List.mem_singleton] at hm; have := h.m.lt x hx; omega, fun x hx hm => by simp only [List.mem_singleton] at hm; have := h.r.lt x hx; omega,
    fun x hx => by simp only [List.mem_singleton] at hx; subst hx; exact hl, h.k.trans hk⟩
theorem FW.bare {w0 w : World} {G S T : List Nat} {p pr : Nat} {s t : WS} (h : FW w0 w G S T p pr s t) : FW w0 w [] S T p pr s t := ⟨h.m, h.r, h.sb, h.tb, h.st, by simp, by simp, by simp, h.k⟩
/-- What a lent row's head holds. -/
theorem Rd.lentF {w : World} {g : Nat} {l more : List Int} (h : Blk w g 3 ((l ++ more).map (.int .i64))) : Rd w w.heap.size (some ⟨g, 0, none⟩) (l.map (.int .i64)) := by
  have := (h.rd h.lt).take (l.map (Value.int .i64)).length
  rwa [List.map_append, List.take_left'] at this
  rfl
def FWr (w0 w : World) (G : List Nat) (p pr : Nat) : Prop := ∃ (s : WS) (S T : List Nat), FW w0 w G S T p pr s s
set_option maxRecDepth 100000 in
set_option maxHeartbeats 4000000 in
theorem flowputs_any (A0 : Option Addr) (L0 c0 : Nat) (ds : List FD) (w : World) (h0 : FDeedRd w w.heap.size A0 ds) (hn0 : ds.length = L0) (hb0 : L0 ≤ 140737488351232) (hl : ∀ d ∈ ds, FDok d) (ht : Tab64 w) :
    Calls Tryd.prog 5 #[.slice A0 L0 c0] w fun e w' => e = .returned (.bool true) ∧ Kp [] w w' := by
  have H0 := Lib.hid h0; clear h0
  have HN0 := Lib.hid hn0; clear hn0
  have HT := Lib.hid ht; clear ht
  have HSIZE := Lib.hid (fsize_any A0 L0 c0 _ ds w H0.out HN0.out hb0 hl)
  have HL := Lib.hid hl
  clear hl
  go_enter Tryd.func5, Tryd.ntmps5
  go_wp2_with fail
  refine (HSIZE.out).mono ?_
  rintro e w1 ⟨⟨Z, rfl, hZb, hZ⟩, hk⟩
  have HK := Lib.hid hk
  replace H0 := Lib.hid (H0.out.kp0 hk)
  clear hk
  by_cases hbig : 600 < Z
  · clear hZ
    go_wp2_with fail
    refine (fawake_any w1 (HT.out.kp0 HK.out)).mono ?_
    rintro e w2 ⟨rfl, hk⟩
    replace HK := Lib.hid (HK.out.kp0 hk); clear hk
    go_wp2_with fail
    go_ret
    exact ⟨rfl, HK.out⟩
  obtain ⟨hL0, hll⟩ := hZ (by omega)
  have HLL := Lib.hid hll
  clear hZ hll HSIZE
  go_wp2_with fail
  refine (wnew_any w1).mono ?_
  rintro e w2 ⟨S0, p, rfl, hw, hS, hk⟩
  have HS := Lib.hid (show ∀ x ∈ S0, w.heap.size ≤ x from fun x hx => Nat.le_trans HK.out.size (hS x hx))
  replace H0 := Lib.hid (H0.out.kp0 hk)
  replace HK := Lib.hid (HK.out.kp0 hk)
  clear hk
  have HW := Lib.hid hw; clear hw
  clear hS
  go_wp2_with fail
  obtain ⟨w3, hw3⟩ : ∃ w3, w3 = w2.alloc (.cells #[.slice none 0 0, .int .i64 0] 52) := ⟨_, rfl⟩
  obtain ⟨pr, hpr⟩ : ∃ pr, pr = w2.heap.size := ⟨_, rfl⟩
  have hk23 : Kp [] w2 w3 := by rw [hw3]; exact (Kp.refl [] w2).alloc _
  have HF := Lib.hid (show FWr w w3 [] p pr from ⟨([], 0), S0, [pr], HW.out.kp0 hk23, ⟨none, 0, by rw [hw3, hpr]; exact Blk.new w2 52 [.slice none 0 0, .int .i64 0], World.ownsRow_nil _ _ _ 1, by simp, rfl⟩, HS.out,
    fun x hx => by simp only [List.mem_singleton] at hx; subst hx; rw [hpr]; exact HK.out.size, fun x hx hm => by simp only [List.mem_singleton] at hm; have := HW.out.lt x hx; omega, by simp, by simp, by simp, HK.out.trans hk23⟩)
  rw [← hw3, ← hpr]
  replace H0 := Lib.hid (H0.out.kp0 hk23)
  clear hw3 hpr hk23 HW HK HS
  go_loopw [5] (fun x wr => ∃ k : Nat, x = .int .i64 (k : Int) ∧ k ≤ L0 ∧ Hid (FWr w wr [] p pr) ∧ Hid (FDeedRd wr w.heap.size A0 ds)) (fun x _ => L0 - (intOf x).toNat)
  case atStart => exact ⟨0, rfl, by omega, HF, H0⟩
  case round =>
    clear HF H0
    obtain ⟨k, rfl, hk, HF, H0⟩ := hrel
    by_cases hlt : k < L0
    · obtain ⟨what, wide, ones, nums, ad, A2, c2, A3, c3, hd, rfl, hadb, hcw, hcd, hco, hcn, hc2, hr2, hc3, hr3⟩ := H0.out.ix (i := k) (by rw [HN0.out]; exact hlt)
      have hdm := List.mem_of_getElem? hd
      have h600 := HLL.out _ hdm
      have hok := HL.out _ hdm
      obtain ⟨m1, hm1⟩ : ∃ m1, ones.length = m1 := ⟨_, rfl⟩
      obtain ⟨m2, hm2⟩ : ∃ m2, nums.length = m2 := ⟨_, rfl⟩
      have hb1 : m1 ≤ 600 := by rw [← hm1]; exact h600.1
      have hb2 : m2 ≤ 600 := by rw [← hm2]; exact h600.2
      have HNU := Lib.hid (show ∀ x ∈ nums, x ≤ 9223372036854775807 from fun x hx => (hok.2.2.1 x hx).2)
      rw [hm1] at hco
      rw [hm2] at hcn
      have HM1 := Lib.hid hm1
      have HM2 := Lib.hid hm2
      have HR2 := Lib.hid hr2
      have HR3 := Lib.hid hr3
      have HADB := Lib.hid (show ∀ x, w.heap.size ≤ x → ad.block ≠ x from fun x hx e => by omega)
      have hAd0 : (ad.add (k * 4)).block = ad.block := addr_add_block _ _
      have HA0 := Lib.hid hAd0
      clear hd hadb hdm h600 hok hm1 hm2 hc2 hr2 hc3 hr3 hAd0
      have hi0 : (0 : Int) ≤ (k : Int) := by omega
      have hi1 : (k : Int) < (L0 : Int) := by omega
      go_wp2_with fail
      refine (lentI A3 m2 c3 _ nums wr HR3.out HM2.out (by omega)).mono ?_
      rintro e w5 ⟨rfl, hk5, hb5⟩
      obtain ⟨g, hg⟩ : ∃ g, g = wr.heap.size := ⟨_, rfl⟩
      rw [← hg] at hb5 ⊢
      obtain ⟨s, S, T, hfw⟩ := HF.out
      have HFW := Lib.hid (hfw.lay hk5 hg hb5.lt)
      clear HF hfw hg
      replace hcw := hk5.cell hcw (by simp)
      replace hcd := hk5.cell hcd (by simp)
      replace hco := hk5.cell hco (by simp)
      replace hcn := hk5.cell hcn (by simp)
      replace H0 := Lib.hid (H0.out.kp0 hk5)
      replace HR2 := Lib.hid (HR2.out.kp0 hk5)
      replace HR3 := Lib.hid (HR3.out.kp0 hk5)
      clear hk5
      have HB := Lib.hid hb5
      clear hb5
      obtain ⟨r, hr⟩ : ∃ r : Int, r = pickI what 3 := ⟨_, rfl⟩
      have hrb := pickI_bound (x := what) (n := 3) (by omega)
      rw [← hr] at hrb
      have HPK := Lib.hid (show ∀ w, Calls Tryd.prog 11 #[.int .i64 what, .int .i64 3] w fun e w' => e = .returned (.int .i64 r) ∧ w = w' from fun w => by rw [hr]; exact pick_any what 3 w (by omega))
      clear hr
      obtain ⟨n, hn⟩ : ∃ n, s.1.length = n := ⟨_, rfl⟩
      have HNS := Lib.hid hn; clear hn
      go_upto_block 2 with (go_at_call 11; refine (HPK.out _).mono ?_; rintro e w6 ⟨rfl, rfl⟩)
      go_cut [7] (fun s7 wx => s7 = .bool true ∧ Hid (FWr w wx [g] p pr) ∧ Hid (FDeedRd wx w.heap.size (some ad) ds) ∧ Hid (Blk wx g 3 ((nums ++ marksI 1 12).map (.int .i64))) ∧ Hid (Rd wx w.heap.size A3 (nums.map (.int .i64))) ∧ wx.cell? ⟨(ad.add (k * 4)).block, (ad.add (k * 4)).off + 3, none⟩ = some (.slice A3 m2 c3))
      case first =>
        rcases (show r = 0 ∨ r = 1 ∨ r = 2 by omega) with rfl | rfl | rfl
        · clear hrb HPK hcw hcd
          obtain ⟨R, hR⟩ : ∃ R, R = wPut s ones := ⟨_, rfl⟩
          have HRE := Lib.hid hR
          clear hR
          go_wp2_with fail
          go_region_held3 (fun w' => w'.cell? ⟨(ad.add (k * 4)).block, (ad.add (k * 4)).off + 2, none⟩ = some (.slice A2 m1 c2)) (go_keep)
            (first
            | (go_at_call 24
               refine (wput_any S p n m1 c2 _ A2 ones s _ (HFW.out.m.kp0 ((Kp.refl [] w5).drew)) HNS.out (HR2.out.kp0 ((Kp.refl [] w5).drew)) HM1.out (by omega)).mono ?_
               rw [← HRE.out]
               rintro e w7 ⟨rfl, hp7⟩
               obtain ⟨⟨S7, hfw7⟩, hk7⟩ := HFW.out.put (WPost.behind ((Kp.refl [] w5).drew) hp7)
               have hco7 := hk7.cell hco (fun h => HADB.out _ (HFW.out.sb _ h) HA0.out.symm)
               have hcn7 := hk7.cell hcn (fun h => HADB.out _ (HFW.out.sb _ h) HA0.out.symm)
               have HFW7 := Lib.hid hfw7
               have H07 := Lib.hid (H0.out.kp hk7 HFW.out.sb)
               have HR27 := Lib.hid (HR2.out.kp hk7 HFW.out.sb)
               have HR37 := Lib.hid (HR3.out.kp hk7 HFW.out.sb)
               have HB7 := Lib.hid (HB.out.kp hk7 (fun h => HFW.out.sg _ h (by simp)))
               clear hfw7 hk7 hp7 hco hcn)
            | (go_at_call 25
               refine (rwput_any T pr n m1 c2 _ A2 ones s _ (HFW7.out.r.kp0 (show Kp [] w7 _ from by first | exact Kp.refl _ _ | exact (Kp.refl _ _).drew)) HNS.out (HR27.out.kp0 (show Kp [] w7 _ from by first | exact Kp.refl _ _ | exact (Kp.refl _ _).drew)) HM1.out (by omega)).mono ?_
               rw [← HRE.out]
               rintro e w8 ⟨rfl, hp8⟩
               obtain ⟨⟨T8, hfw8⟩, hk8⟩ := HFW7.out.rput (RPost.behind (show Kp [] w7 _ from by first | exact Kp.refl _ _ | exact (Kp.refl _ _).drew) hp8)
               have hco8 := hk8.cell hco7 (fun h => HADB.out _ (HFW7.out.tb _ h) HA0.out.symm)
               have hcn8 := hk8.cell hcn7 (fun h => HADB.out _ (HFW7.out.tb _ h) HA0.out.symm)
               have HFW8 := Lib.hid hfw8
               have H08 := Lib.hid (H07.out.kp hk8 HFW7.out.tb)
               have HR38 := Lib.hid (HR37.out.kp hk8 HFW7.out.tb)
               have HB8 := Lib.hid (HB7.out.kp hk8 (fun h => HFW7.out.tg _ h (by simp)))
               clear hfw8 hk8 hp8 hco7 hcn7))
          go_wp2_with fail
          go_meet
          exact ⟨by simp, Lib.hid ⟨R, S7, T8, HFW8.out⟩, H08, HB8, HR38, hcn8⟩
        · clear hrb HPK hcw hco
          obtain ⟨R, hR⟩ : ∃ R, R = wNum s wide nums := ⟨_, rfl⟩
          have HRE := Lib.hid hR
          clear hR
          go_wp2_with fail
          go_region_held3 (fun w' => w'.cell? ⟨(ad.add (k * 4)).block, (ad.add (k * 4)).off + 1, none⟩ = some (.int .i64 wide) ∧ w'.cell? ⟨(ad.add (k * 4)).block, (ad.add (k * 4)).off + 3, none⟩ = some (.slice A3 m2 c3)) (go_keep)
            (first
            | (go_at_call 26
               refine (wnumber_any S p n m2 (m2 + 12) _ wide (some ⟨g, 0, none⟩) nums s _ (HFW.out.m.kp0 ((Kp.refl [] w5).drew)) HNS.out (Rd.lentF (HB.out.kp0 ((Kp.refl [] w5).drew))) HM2.out (by omega) HNU.out).mono ?_
               rw [← HRE.out]
               rintro e w7 ⟨rfl, hp7⟩
               obtain ⟨⟨S7, hfw7⟩, hk7⟩ := HFW.out.put (WPost.behind ((Kp.refl [] w5).drew) hp7)
               have hcd7 := hk7.cell hcd (fun h => HADB.out _ (HFW.out.sb _ h) HA0.out.symm)
               have hcn7 := hk7.cell hcn (fun h => HADB.out _ (HFW.out.sb _ h) HA0.out.symm)
               have HFW7 := Lib.hid hfw7
               have H07 := Lib.hid (H0.out.kp hk7 HFW.out.sb)
               have HR27 := Lib.hid (HR2.out.kp hk7 HFW.out.sb)
               have HR37 := Lib.hid (HR3.out.kp hk7 HFW.out.sb)
               have HB7 := Lib.hid (HB.out.kp hk7 (fun h => HFW.out.sg _ h (by simp)))
               clear hfw7 hk7 hp7 hcd hcn)
            | (go_at_call 27
               refine (rnumber_any T pr n m2 c3 _ wide A3 nums s _ (HFW7.out.r.kp0 (show Kp [] w7 _ from by first | exact Kp.refl _ _ | exact (Kp.refl _ _).drew)) HNS.out (HR37.out.kp0 (show Kp [] w7 _ from by first | exact Kp.refl _ _ | exact (Kp.refl _ _).drew)) HM2.out (by omega) HNU.out).mono ?_
               rw [← HRE.out]
               rintro e w8 ⟨rfl, hp8⟩
               obtain ⟨⟨T8, hfw8⟩, hk8⟩ := HFW7.out.rput (RPost.behind (show Kp [] w7 _ from by first | exact Kp.refl _ _ | exact (Kp.refl _ _).drew) hp8)
               have hcd8 := hk8.cell hcd7 (fun h => HADB.out _ (HFW7.out.tb _ h) HA0.out.symm)
               have hcn8 := hk8.cell hcn7 (fun h => HADB.out _ (HFW7.out.tb _ h) HA0.out.symm)
               have HFW8 := Lib.hid hfw8
               have H08 := Lib.hid (H07.out.kp hk8 HFW7.out.tb)
               have HR38 := Lib.hid (HR37.out.kp hk8 HFW7.out.tb)
               have HB8 := Lib.hid (HB7.out.kp hk8 (fun h => HFW7.out.tg _ h (by simp)))
               clear hfw8 hk8 hp8 hcd7 hcn7))
          go_wp2_with fail
          go_meet
          exact ⟨by simp, Lib.hid ⟨R, S7, T8, HFW8.out⟩, H08, HB8, HR38, hcn8⟩
        · clear hrb HPK hcw hcd hco
          obtain ⟨R, hR⟩ : ∃ R, R = wGam s nums := ⟨_, rfl⟩
          have HRE := Lib.hid hR
          clear hR
          go_wp2_with fail
          go_region_held3 (fun w' => w'.cell? ⟨(ad.add (k * 4)).block, (ad.add (k * 4)).off + 3, none⟩ = some (.slice A3 m2 c3)) (go_keep)
            (first
            | (go_at_call 28
               refine (wgamma_any S p n m2 (m2 + 12) _ (some ⟨g, 0, none⟩) nums s _ (HFW.out.m.kp0 ((Kp.refl [] w5).drew)) HNS.out (Rd.lentF (HB.out.kp0 ((Kp.refl [] w5).drew))) HM2.out (by omega) HNU.out).mono ?_
               rw [← HRE.out]
               rintro e w7 ⟨rfl, hp7⟩
               obtain ⟨⟨S7, hfw7⟩, hk7⟩ := HFW.out.put (WPost.behind ((Kp.refl [] w5).drew) hp7)
               have hcn7 := hk7.cell hcn (fun h => HADB.out _ (HFW.out.sb _ h) HA0.out.symm)
               have HFW7 := Lib.hid hfw7
               have H07 := Lib.hid (H0.out.kp hk7 HFW.out.sb)
               have HR27 := Lib.hid (HR2.out.kp hk7 HFW.out.sb)
               have HR37 := Lib.hid (HR3.out.kp hk7 HFW.out.sb)
               have HB7 := Lib.hid (HB.out.kp hk7 (fun h => HFW.out.sg _ h (by simp)))
               clear hfw7 hk7 hp7 hcn)
            | (go_at_call 29
               refine (rgamma_any T pr n m2 c3 _ A3 nums s _ (HFW7.out.r.kp0 (show Kp [] w7 _ from by first | exact Kp.refl _ _ | exact (Kp.refl _ _).drew)) HNS.out (HR37.out.kp0 (show Kp [] w7 _ from by first | exact Kp.refl _ _ | exact (Kp.refl _ _).drew)) HM2.out (by omega) HNU.out).mono ?_
               rw [← HRE.out]
               rintro e w8 ⟨rfl, hp8⟩
               obtain ⟨⟨T8, hfw8⟩, hk8⟩ := HFW7.out.rput (RPost.behind (show Kp [] w7 _ from by first | exact Kp.refl _ _ | exact (Kp.refl _ _).drew) hp8)
               have hcn8 := hk8.cell hcn7 (fun h => HADB.out _ (HFW7.out.tb _ h) HA0.out.symm)
               have HFW8 := Lib.hid hfw8
               have H08 := Lib.hid (H07.out.kp hk8 HFW7.out.tb)
               have HR38 := Lib.hid (HR37.out.kp hk8 HFW7.out.tb)
               have HB8 := Lib.hid (HB7.out.kp hk8 (fun h => HFW7.out.tg _ h (by simp)))
               clear hfw8 hk8 hp8 hcn7))
          go_wp2_with fail
          go_meet
          exact ⟨by simp, Lib.hid ⟨R, S7, T8, HFW8.out⟩, H08, HB8, HR38, hcn8⟩
      case rest =>
        obtain ⟨rfl, HF1, H01, HB1, HR31, hcn1⟩ := hcut
        clear HFW H0 HB HR2 HR3 hcw hcd hco hcn HNS
        obtain ⟨s1, S1, T1, hfw1⟩ := HF1.out
        obtain ⟨n1, hn1⟩ : ∃ n1, s1.1.length = n1 := ⟨_, rfl⟩
        obtain ⟨hn1b, hce, _, A9, c9, hcq, _⟩ := hfw1.r.cells hn1
        have HN1 := Lib.hid hn1
        have HFW := Lib.hid hfw1
        clear hfw1 hn1 HF1 hce
        go_wp2_with fail
        go_region_held3 (fun w' => w'.cell? ⟨pr, 0, none⟩ = some (.slice A9 n1 c9) ∧ w'.cell? ⟨(ad.add (k * 4)).block, (ad.add (k * 4)).off + 3, none⟩ = some (.slice A3 m2 c3)) (go_keep)
          (first
            | (go_at_call 30
               refine (wlen_any S1 p s1 n1 _ (HFW.out.m.kp0 ((Kp.refl [] wc).drew)) HN1.out).mono ?_
               rintro e w7 ⟨rfl, he7⟩
               have hk7 : Kp [] wc w7 := by rw [← he7]; exact (Kp.refl [] wc).drew
               have hcq7 := hk7.cell hcq (by simp)
               have hcn7 := hk7.cell hcn1 (by simp)
               have HFW7 := Lib.hid (HFW.out.kp0 hk7)
               have H07 := Lib.hid (H01.out.kp0 hk7)
               have HR37 := Lib.hid (HR31.out.kp0 hk7)
               have HB7 := Lib.hid (HB1.out.kp0 hk7)
               clear he7 hk7 hcq hcn1)
            | (go_at_call 31
               refine (keptI (some ⟨g, 0, none⟩) A3 m2 (m2 + 12) c3 _ _ nums _ ((HB7.out.kp0 (show Kp [] w7 _ from by first | exact Kp.refl _ _ | exact (Kp.refl _ _).drew)).rd (HB7.out.kp0 (show Kp [] w7 _ from by first | exact Kp.refl _ _ | exact (Kp.refl _ _).drew)).lt) (HR37.out.kp0 (show Kp [] w7 _ from by first | exact Kp.refl _ _ | exact (Kp.refl _ _).drew)) HM2.out (by omega) (Nat.le_refl _)).mono ?_
               rintro e w8 ⟨rfl, hd8⟩
               have hk8 : Kp [] w7 w8 := by first | exact hd8.kp [] | exact ((Kp.refl [] w7).drew).trans (hd8.kp [])
               have hcq8 := hk8.cell hcq7 (by simp)
               have hcn8 := hk8.cell hcn7 (by simp)
               have HFW8 := Lib.hid (HFW7.out.kp0 hk8)
               have H08 := Lib.hid (H07.out.kp0 hk8)
               clear hd8 hk8 hcq7 hcn7))
        go_wp2_with fail
        exact ⟨⟨k + 1, by go_num, by omega, Lib.hid ⟨s1, S1, T1, HFW8.out.bare⟩, H08⟩, by simp [intOf]; omega⟩
    · obtain rfl : L0 = k := by omega
      obtain ⟨⟨L, E⟩, S1, T1, hfw1⟩ := HF.out
      obtain ⟨n1, hn1⟩ : ∃ n1, L.length = n1 := ⟨_, rfl⟩
      obtain ⟨hn1b, hce, _, A9, c9, hcq, hrq⟩ := hfw1.r.cells hn1
      have HN1 := Lib.hid hn1
      have HFW := Lib.hid hfw1
      have HRQ := Lib.hid hrq
      clear hfw1 hn1 hrq HF H0
      by_cases hE : E = 0
      · subst hE
        go_wp2_with fail
        refine (wvec_ok S1 p L wr HFW.out.m).mono ?_
        rintro e w6 ⟨V, q, rfl, hv, hV, hk⟩
        have HV := Lib.hid hv
        have HVB := Lib.hid (show ∀ x ∈ V, w.heap.size ≤ x from fun x hx => Nat.le_trans HFW.out.k.size (hV x hx))
        have hce6 := hk.cell hce (by simp)
        have hcq6 := hk.cell hcq (by simp)
        replace HFW := Lib.hid (HFW.out.kp0 hk)
        replace HRQ := Lib.hid (HRQ.out.kp0 hk)
        clear hk
        clear hv hV hce hcq
        go_wp2_with fail
        refine (rbof_any A9 n1 c9 _ L w6 HRQ.out (by simpa using HN1.out) hn1b).mono ?_
        rintro e w7 ⟨U, u, rfl, hr7, hU, hk⟩
        have HU := Lib.hid hr7
        have hcq7 := hk.cell hcq6 (by simp)
        replace HFW := Lib.hid (HFW.out.kp0 hk)
        replace HV := Lib.hid (HV.out.kp0 hk)
        clear hk
        clear hr7 hU hce6 hcq6 HRQ
        go_wp2_with fail
        have hm7 : n1 ≤ 16777216 := hn1b
        go_region_held3 (fun w' => w'.cell? ⟨pr, 0, none⟩ = some (.slice A9 n1 c9)) (go_keep)
          (first
            | (go_at_call 35
               refine (vbytes_any V q L false _ (HV.out.kp0 ((Kp.refl [] w7).drew))).mono ?_
               rintro e w8 ⟨A8, m8, c8, hm8, rfl, hown8, hk8'⟩
               have hk8 : Kp [] w7 w8 := ((Kp.refl [] w7).drew).trans hk8'
               have hcq8 := hk8.cell hcq7 (by simp)
               have HM8 := Lib.hid hm8
               have HO8 := Lib.hid (own_rd hown8)
               have HFW8 := Lib.hid (HFW.out.kp0 hk8)
               have HV8 := Lib.hid (HV.out.kp0 hk8)
               have HU8 := Lib.hid (HU.out.kp0 hk8)
               clear hm8 hown8 hk8' hk8 hcq7)
            | (go_at_call 36
               refine (rbbytes_any U u L _ (HU8.out.kp0 (show Kp [] w8 _ from by first | exact Kp.refl _ _ | exact (Kp.refl _ _).drew)) (by rw [HN1.out]; exact hm7)).mono ?_
               rintro e w9 ⟨g9, m9, hm9, rfl, hb9, hg9, hk9'⟩
               have hk9 : Kp [] w8 w9 := by first | exact hk9' | exact ((Kp.refl [] w8).drew).trans hk9'
               rw [← HM8.out] at hm9
               replace hm9 := hm9.symm
               subst hm9
               have hcq9 := hk9.cell hcq8 (by simp)
               have HO9 := Lib.hid (HO8.out.kp0 hk9)
               have HB9 := Lib.hid hb9
               have HFW9 := Lib.hid (HFW8.out.kp0 hk9)
               have HV9 := Lib.hid (HV8.out.kp0 hk9)
               clear hb9 hg9 hk9' hk9 hcq8 HO8)
            | (go_at_call 34
               go_loud (refine (sameB A8 (some ⟨g9, 0, none⟩) m8 m8 c8 m8 _ _ (bytesN (bitN L) m8) (bytesN (bitN L) m8) _ (HO9.out.kp0 (show Kp [] w9 _ from by first | exact Kp.refl _ _ | exact (Kp.refl _ _).drew)) ((HB9.out.kp0 (show Kp [] w9 _ from by first | exact Kp.refl _ _ | exact (Kp.refl _ _).drew)).rd (HB9.out.kp0 (show Kp [] w9 _ from by first | exact Kp.refl _ _ | exact (Kp.refl _ _).drew)).lt) (bytesN_len _ _) (bytesN_len _ _) (by have h1 := HM8.out; rw [HN1.out] at h1; omega) (by have h1 := HM8.out; rw [HN1.out] at h1; omega)).mono ?_)
               rw [decide_eq_true (rfl : bytesN (bitN L) m8 = bytesN (bitN L) m8)]
               rintro e wa ⟨rfl, hda⟩
               have hka : Kp [] w9 wa := by first | exact hda.kp [] | exact ((Kp.refl [] w9).drew).trans (hda.kp [])
               have hcqa := hka.cell hcq9 (by simp)
               have HFWa := Lib.hid (HFW9.out.kp0 hka)
               have HVa := Lib.hid (HV9.out.kp0 hka)
               clear hda hka hcq9 HO9 HB9)
            | (go_at_call 37
               refine (vlen_any V q n1 L false _ (HVa.out.kp0 (show Kp [] wa _ from by first | exact Kp.refl _ _ | exact (Kp.refl _ _).drew)) HN1.out).mono ?_
               rintro e wb ⟨rfl, heb⟩
               have hkb : Kp [] wa wb := by rw [← heb]; first | exact Kp.refl _ _ | exact (Kp.refl _ _).drew
               have hcqb := hkb.cell hcqa (by simp)
               have HFWb := Lib.hid (HFWa.out.kp0 hkb)
               clear heb hkb hcqa)
            | (go_at_call 8
               refine (fawake_any _ (HT.out.kp0 (HFWb.out.k.trans (show Kp [] wb _ from by first | exact Kp.refl _ _ | exact (Kp.refl _ _).drew)))).mono ?_
               rintro e wd ⟨rfl, hkd'⟩
               have hkd : Kp [] wb wd := by first | exact hkd' | exact ((Kp.refl [] wb).drew).trans hkd'
               have hcqd := hkd.cell hcqb (by simp)
               have HFWd := Lib.hid (HFWb.out.kp0 hkd)
               clear hkd' hkd hcqb))
        go_wp2_with fail
        go_ret
        exact ⟨rfl, HFWd.out.k⟩
      · have hbe : (E == 0) = false := by simpa using hE
        have HE := Lib.hid hE
        have HVE := Lib.hid (wvec_err S1 p (L, E) wr HFW.out.m hE)
        have HVE2 := Lib.hid (show Calls Tryd.prog 32 #[.pointer (some ⟨p, 0, none⟩)] wr fun e w' => e = .returned (.tuple #[.pointer none, .int .i64 E]) ∧ Kp [] wr w' from HVE.out)
        clear hE HVE
        go_wp2_with fail
        refine HVE2.out.mono ?_
        rintro e w6 ⟨rfl, hk⟩
        have hce6 := hk.cell hce (by simp)
        replace HFW := Lib.hid (HFW.out.kp0 hk)
        clear hk
        clear hce hcq HVE2
        go_wp2_with fail
        refine (fawake_any w6 (HT.out.kp0 HFW.out.k)).mono ?_
        rintro e w7 ⟨rfl, hk⟩
        replace HFW := Lib.hid (HFW.out.kp0 hk); clear hk
        go_wp2_with fail
        go_ret
        exact ⟨rfl, HFW.out.k⟩
end Go.Proofs.YtddmioaeehgkbaaDoor
