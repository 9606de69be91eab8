/-
  THE CONTRACTS OF LAYER 5's REFERENCE, third part: ossuaryref05.Fits.
  THE CONTRACTS OF LAYER 5, eighth part: Cost, the program's and the reference's.
  PLAIN MATHEMATICS OF LAYER 5, third part: no tree costs less than the best one; turned round, the best costs as much; lengths that fit fill a row of all ways.
  PLAIN MATHEMATICS OF LAYER 6, second part: rows of bits stand as texts do; how many bits texts have by a code.
  PLAIN MATHEMATICS OF LAYER 6, third part: which signs and lengths make a code; its words, one by one.
  LAYER 5: the chapter's examples (awake).
  CONDITIONS: as each lemma says.
-/
import Derived.Test.YtlaionhlejmjdaaGreatDoorQ13
import Derived.Test.YtlaionhlejmjdaaGreatDoorQ00
import Derived.Test.YtlaionhlejmjdaaGreatDoorQ14
import Derived.Deep.RegionLaw
namespace Go.Proofs.YtlaionhlejmjdaaGreatDoor
open Go.RowKit

theorem drop_of {α : Type} {v : List α} {b : Nat} {d : α} (h : v[b]? = some d) : v.drop b = d :: v.drop (b + 1) := by
  obtain ⟨hb, rfl⟩ := List.getElem?_eq_some_iff.1 h
  exact List.drop_eq_getElem_cons hb
theorem split_at_ {α : Type} {v : List α} {b : Nat} {d : α} (h : v[b]? = some d) : v = v.take b ++ d :: v.drop (b + 1) := by
  rw [← drop_of h, List.take_append_drop]
/-- The first of the deepest. -/
def Deep (v : List Int) (b i : Nat) (d : Int) : Prop := v[b]? = some d ∧ (∀ q y, q < b → v[q]? = some y → y < d) ∧ ∀ q y, q < i → v[q]? = some y → y ≤ d
theorem Deep.need {v : List Int} {b : Nat} {d : Int} (h : Deep v b v.length d) (h2 : 2 ≤ v.length) (hD : Dl 0 v) : 1 ≤ d ∧ v[b + 1]? = some d ∧ Dl 0 (v.take b ++ (d - 1) :: v.drop (b + 2)) := by
  obtain ⟨hb, hlt, hle⟩ := h
  have hbd := hD.bound d (List.mem_of_getElem? hb)
  obtain ⟨l3, e1, e2⟩ := hD.merge (split_at_ hb) h2 (fun x hx => by
    obtain ⟨q, hq⟩ := List.getElem?_of_mem hx
    rw [List.getElem?_take] at hq
    split at hq
    · rename_i hqb
      exact hlt q x hqb hq
    · cases hq) (fun x hx => by
    obtain ⟨q, hq⟩ := List.getElem?_of_mem hx
    rw [List.getElem?_drop] at hq
    exact hle _ x (List.getElem?_eq_some_iff.1 hq).1 hq)
  have e3 : v[b + 1]? = some d := by
    have := List.getElem?_drop (xs := v) (i := b + 1) (j := 0)
    rw [e1] at this
    simpa using this.symm
  refine ⟨by have := hbd.2.2 (by omega); omega, e3, ?_⟩
  have e4 := drop_of e3
  rw [e1] at e4
  injection e4 with _ e4
  rw [show b + 2 = b + 1 + 1 from rfl, ← e4]
  exact e2
theorem Deep.back {v : List Int} {b : Nat} {d : Int} (hb : v[b]? = some d) (h1 : v[b + 1]? = some d) (hD : Dl 0 (v.take b ++ (d - 1) :: v.drop (b + 2))) : Dl 0 v := by
  have := hD.split rfl
  rw [show d - 1 + 1 = d from by omega] at this
  rw [split_at_ hb, drop_of h1]
  exact this
theorem own_empty (w : World) {base : Nat} (h : base ≤ w.heap.size) : (w.alloc (.cells #[] 3)).ownsRow base 3 1 (.slice (some ⟨w.heap.size, 0, none⟩) 0 0) 0 [] :=
  own_of_blk (xs := []) (rest := []) (Blk.new w 3 []) h (Nat.le_refl _) (Nat.zero_le _) rfl rfl
theorem Deep.one {v : List Int} (h : 1 ≤ v.length) : ∃ d, Deep v 0 1 d := by
  obtain ⟨d, v', rfl⟩ := List.exists_cons_of_ne_nil (List.ne_nil_of_length_pos h)
  exact ⟨d, rfl, fun q y hq => by omega, fun q y hq hy => by
    obtain rfl : q = 0 := by omega
    simp at hy
    omega⟩
theorem Deep.more {v : List Int} {b i : Nat} {d y : Int} (h : Deep v b i d) (hi : v[i]? = some y) (hy : ¬ d < y) : Deep v b (i + 1) d :=
  ⟨h.1, h.2.1, fun q x hq hx => by
    by_cases e : q = i
    · subst e
      rw [hi] at hx
      injection hx with hx
      omega
    · exact h.2.2 q x (by omega) hx⟩
theorem Deep.new {v : List Int} {b i : Nat} {d y : Int} (h : Deep v b i d) (hi : v[i]? = some y) (hy : d < y) : Deep v i (i + 1) y :=
  ⟨hi, fun q x hq hx => by have := h.2.2 q x hq hx; omega, fun q x hq hx => by
    by_cases e : q = i
    · subst e
      rw [hi] at hx
      injection hx with hx
      omega
    · have := h.2.2 q x (by omega) hx; omega⟩

theorem merged {v : List Int} {b : Nat} (e : Int) (hb : b < v.length) : (v.set b e).take (b + 1) ++ (v.set b e).drop (b + 2) = v.take b ++ e :: v.drop (b + 2) := by
  rw [List.set_eq_take_append_cons_drop, if_pos hb]
  have e1 : (v.take b).length = b := by rw [List.length_take]; omega
  have t : (v.take b ++ e :: v.drop (b + 1)).take (b + 1) = v.take b ++ [e] := by rw [List.take_append, List.take_of_length_le (by omega), e1, show b + 1 - b = 1 from by omega]; rfl
  have d : (v.take b ++ e :: v.drop (b + 1)).drop (b + 2) = v.drop (b + 2) := by rw [List.drop_append, List.drop_of_length_le (by omega), e1, show b + 2 - b = 2 from by omega]; simp [List.drop_drop]
  rw [t, d, List.append_assoc]
  rfl
open Classical in
set_option maxRecDepth 100000 in
set_option maxHeartbeats 2000000 in
theorem rfits_any (A : Option Addr) (n c B : Nat) (l : List Int) (w : World) (hx : Rd w B A (l.map (.int .i64))) (hn : l.length = n) (hb : n ≤ 1000000000) (hr : ∀ x ∈ l, x ≤ 9223372036854775807) :
    Calls Tryz.prog 73 #[.slice A n c] w fun e w' => e = .returned (.bool (decide (okF l))) ∧ Kp [] w w' := by
  obtain ⟨i0, hi, hz0, hz1, hz2⟩ := info_parts Tryz.info_int
  have HX := Lib.hid hx; clear hx
  have HN := Lib.hid hn; clear hn
  have HRG := Lib.hid hr; clear hr
  by_cases h0 : n = 0
  · subst h0
    have hf : decide (okF l) = false := by
      have : ¬ okF l := by
        rintro ⟨_, h | h⟩
        · have := HN.out; rw [h] at this; simp at this
        · have := HN.out; omega
      simp [this]
    have HF := Lib.hid hf; clear hf
    go_enter Tryz.func73, Tryz.ntmps73
    go_wp2_with fail
    go_ret
    exact ⟨by rw [HF.out]; rfl, Kp.refl [] w⟩
  by_cases h1 : n = 1
  · subst h1
    obtain ⟨x, ad, hxk, rfl, _, hcx⟩ := HX.out.ix (i := 0) (by have := HN.out; omega)
    rw [addr_add_zero] at hcx
    have hlx : l = [x] := by
      obtain ⟨y, rfl⟩ := List.length_eq_one_iff.1 HN.out
      simp at hxk
      rw [hxk]
    have hd : decide (okF l) = (x == 1) := by
      rw [hlx]
      have : okF [x] ↔ x = 1 := by
        constructor
        · rintro ⟨_, h | h⟩
          · simpa using h
          · simp at h
        · rintro rfl
          exact ⟨by simp, .inl rfl⟩
      by_cases e : x = 1
      · rw [decide_eq_true (this.2 e), e]; rfl
      · rw [decide_eq_false (fun h => e (this.1 h))]; simp [e]
    have HD := Lib.hid hd; clear hd hlx hxk
    go_enter Tryz.func73, Tryz.ntmps73
    go_wp2_with fail
    go_ret
    exact ⟨by rw [HD.out]; rfl, Kp.refl [] w⟩
  by_cases h2 : 257 < n
  · have hf : decide (okF l) = false := by
      have : ¬ okF l := by
        rintro ⟨h, _⟩
        have := HN.out
        omega
      simp [this]
    have HF := Lib.hid hf; clear hf
    have hne : ((n : Int) == 1) = false := by simp; omega
    go_enter Tryz.func73, Tryz.ntmps73
    go_wp2_with fail
    go_ret
    exact ⟨by rw [HF.out]; rfl, Kp.refl [] w⟩
  have hok : okF l ↔ Dl 0 l := ⟨fun h => by
    rcases h.2 with e | e
    · have := HN.out; rw [e] at this; simp at this; omega
    · exact e.2, fun h => ⟨by have := HN.out; omega, .inr ⟨by have := HN.out; omega, h⟩⟩⟩
  have HOK := Lib.hid hok; clear hok
  have hno : 2 ≤ n := by omega
  have hne : ((n : Int) == 1) = false := by simp; omega
  have hmx : n ≤ maxLen := by unfold maxLen; omega
  clear h0 h1
  go_enter Tryz.func73, Tryz.ntmps73
  go_wp2_with (at_builtin; go_loud (refine wpList_append_rd rfl (.tmp 21) (.tmp 22) 51 rfl w.heap.size 3 i0 (.int .i64 0) 1 8 Tryz.underlying51 hi hz0 hz1 hz2 rfl (by decide) _ 0 _ rfl (own_empty w (Nat.le_refl _)) _ _ n c (l.map (.int .i64)) rfl (by rw [List.length_map, HN.out, Nat.mul_one]) (HX.out.kp0 ((Kp.refl [] w).alloc _)) (oc_ints _ _) (by omega) (by omega) (by simp) ?_); intro v2 w2 hown2 hgrow2 hat2)
  simp only [Nat.zero_add, List.nil_append] at hown2
  obtain ⟨A2, c2, rfl, _⟩ := own_form hown2
  have HO2 := Lib.hid (show w2.ownsRow w.heap.size 3 1 (.slice A2 n c2) n (l.map (.int .i64)) from hown2)
  have HK2 := Lib.hid (((Kp.refl [] w).alloc (.cells #[] 3)).grown hgrow2 (fun g hg => .inr (own_ge (own_empty w (Nat.le_refl _)) hg).1))
  clear hown2 hgrow2 hat2
  go_wp2_with fail
  go_loopw [3] (fun y wr => ∃ (m c1 : Nat) (A1 : Option Addr) (v : List Int), y = .slice A1 m c1 ∧ 1 ≤ m ∧ m ≤ n ∧ Hid (v.length = m) ∧ Hid (∀ x ∈ v, x ≤ 9223372036854775807) ∧ Hid (Dl 0 l ↔ Dl 0 v) ∧ Hid (wr.ownsRow w.heap.size 3 1 (.slice A1 m c1) m (v.map (.int .i64))) ∧ Hid (Kp [] w wr)) (fun y _ => match y with | .slice _ q _ => q | _ => 0)
  case atStart => exact ⟨n, c2, A2, l, rfl, by omega, by omega, HN, HRG, Lib.hid Iff.rfl, HO2, HK2⟩
  case round =>
    clear HO2 HK2
    obtain ⟨m, c1, A1, v, rfl, hm1, hmn, HV, HR, HD, HO, HK⟩ := hrel
    by_cases hm2 : 1 < m
    · obtain ⟨d0, hd0⟩ := Deep.one (v := v) (by rw [HV.out]; omega)
      have hmd : decide ((1 : Int) < (m : Int)) = true := by simp; omega
      go_wp2_with fail
      go_loopw [4, 5] (fun y x wr' => ∃ (b i : Nat) (d : Int), y = .int .i64 (b : Int) ∧ x = .int .i64 (i : Int) ∧ b < i ∧ i ≤ m ∧ Hid (Deep v b i d) ∧ Dr wr wr') (fun _ x _ => n - (intOf x).toNat)
      case atStart => exact ⟨0, 1, d0, rfl, rfl, by omega, by omega, Lib.hid hd0, Dr.refl wr⟩
      case round =>
        obtain ⟨b, i, d, rfl, rfl, hbi, him, HB, hdr⟩ := hrel
        have HO1 := Lib.hid (own_kp0 HO.out (hdr.kp []))
        have HK1 := Lib.hid (HK.out.trans (hdr.kp []))
        by_cases hlt : i < m
        · obtain ⟨bd, rfl, _, hcb⟩ := (own_rd HO1.out).at_ (i := b) (u := .int .i64 d) (by rw [List.getElem?_map, HB.out.1]; rfl)
          obtain ⟨y, bd', hyk, he, _, hcy⟩ := (own_rd HO1.out).ix (i := i) (by rw [HV.out]; exact hlt)
          injection he with he
          subst he
          have hbm : b < m := by omega
          by_cases hdy : d < y
          · have HB2 := Lib.hid (HB.out.new hyk hdy)
            clear hyk
            go_wp2_with fail
            go_quiet (fail)
            go_wp2_with fail
            exact ⟨⟨i, i + 1, y, rfl, by go_num, by omega, by omega, HB2, hdr.drewN nq⟩, by simp [intOf]; omega⟩
          · have HB2 := Lib.hid (HB.out.more hyk hdy)
            clear hyk
            go_wp2_with fail
            go_quiet (fail)
            go_wp2_with fail
            go_roundw
            case rel => exact ⟨b, i + 1, d, rfl, by go_num, by omega, by omega, HB2, hdr.drewN nq⟩
            case measure => simp [intOf]; omega
        · obtain rfl : m = i := by omega
          have HBM := Lib.hid (show Deep v b v.length d by rw [HV.out]; exact HB.out)
          obtain ⟨b1, hb1⟩ : ∃ b1, b1 = b + 1 := ⟨_, rfl⟩
          obtain ⟨b2, hb2⟩ : ∃ b2, b2 = b + 2 := ⟨_, rfl⟩
          have hwb1 : IntKind.i64.wrap ((b : Int) + 1) = (b1 : Int) := by rw [IntKind.wrap_i64]; omega
          have hwb2 : IntKind.i64.wrap ((b : Int) + 2) = (b2 : Int) := by rw [IntKind.wrap_i64]; omega
          have HB1 := Lib.hid hb1; clear hb1
          have HB2 := Lib.hid hb2; clear hb2
          rcases own_blk HO1.out with ⟨_, h0, _⟩ | ⟨g, cap, rest, hv, hge, hblk, hmc, hcm, hl, hcl⟩
          · omega
          · injection hv with hv1 hv2 hv3
            subst hv1 hv3
            have hbm : b < m := by omega
            have hcb : wr.cell? ⟨g, b, none⟩ = some (.int .i64 d) := by
              rw [hblk.cell, List.getElem?_append_left (by rw [List.length_map, HV.out]; exact hbm), List.getElem?_map, HB.out.1]; rfl
            have hfb := hblk.free b
            have HBK := Lib.hid hblk; clear hblk
            by_cases hdl : d < 1
            · have hf : decide (okF l) = false := by
                refine decide_eq_false (fun h => ?_)
                have hneed := HBM.out.need (by rw [HV.out]; omega) (HD.out.1 (HOK.out.1 h))
                omega
              have HF := Lib.hid hf; clear hf
              have hdd : decide (d < 1) = true := by simp [hdl]
              go_wp2_with fail
              go_quiet (fail)
              go_wp2_with fail
              go_ret
              exact ⟨by rw [HF.out]; rfl, HK1.out.drewN _⟩
            · have hdd : decide (d < 1) = false := by simp; omega
              by_cases hbe : b1 = m
              · have hf : decide (okF l) = false := by
                  refine decide_eq_false (fun h => ?_)
                  have hneed := HBM.out.need (by rw [HV.out]; omega) (HD.out.1 (HOK.out.1 h))
                  have := (List.getElem?_eq_some_iff.1 hneed.2.1).1
                  have := HV.out
                  have := HB1.out
                  omega
                have HF := Lib.hid hf; clear hf
                have hee : ((b1 : Int) == (m : Int)) = true := by simp [hbe]
                clear hbe
                go_wp2_with fail
                go_quiet (fail)
                go_wp2_with fail
                go_ret
                exact ⟨by rw [HF.out]; rfl, HK1.out.drewN _⟩
              · have hee : ((b1 : Int) == (m : Int)) = false := by simp; omega
                have hb1m : b1 < m := by have := HB1.out; omega
                obtain ⟨y, hy⟩ : ∃ y, v[b1]? = some y := ⟨_, List.getElem?_eq_getElem (by rw [HV.out]; exact hb1m)⟩
                have hcy : wr.cell? ⟨g, b1, none⟩ = some (.int .i64 y) := by
                  rw [HBK.out.cell, List.getElem?_append_left (by rw [List.length_map, HV.out]; exact hb1m), List.getElem?_map, hy]; rfl
                by_cases hyd : y = d
                · subst hyd
                  have hyn : (y != y) = false := by simp
                  have hwd : IntKind.i64.wrap (y - 1) = y - 1 := by
                    have := HR.out y (List.mem_of_getElem? hy)
                    rw [IntKind.wrap_i64]; omega
                  have hb2m : b2 ≤ m := by have := HB1.out; have := HB2.out; omega
                  have hb1c : b1 ≤ c1 := by omega
                  have hb2c : b2 ≤ c1 := by omega
                  have hv2 : Dl 0 v ↔ Dl 0 (v.take b ++ (y - 1) :: v.drop (b + 2)) :=
                    ⟨fun h => (HBM.out.need (by rw [HV.out]; omega) h).2.2, fun h => Deep.back HB.out.1 (by rw [← HB1.out]; exact hy) h⟩
                  rw [← merged (y - 1) (by rw [HV.out]; exact hbm)] at hv2
                  have hu : (v.set b (y - 1)).length = m := by rw [List.length_set, HV.out]
                  have hub : ∀ x ∈ v.set b (y - 1), x ≤ 9223372036854775807 := fun x hx => by
                    rcases List.mem_or_eq_of_mem_set hx with h | h
                    · exact HR.out x h
                    · have := HR.out y (List.mem_of_getElem? hy); omega
                  have hblk2 := HBK.out.set_ b (.int .i64 (y - 1))
                  rw [List.set_append_left _ _ (by rw [List.length_map, HV.out]; exact hbm), ← List.map_set] at hblk2
                  obtain ⟨u, hue⟩ : ∃ u, u = v.set b (y - 1) := ⟨_, rfl⟩
                  rw [← hue] at hv2 hu hub hblk2
                  rw [← HB1.out, ← HB2.out] at hv2
                  have HDV := Lib.hid (HD.out.trans hv2)
                  have HU := Lib.hid hu
                  have HUB := Lib.hid hub
                  have HBK2 := Lib.hid hblk2
                  clear hv2 hu hub hblk2 hue hy hbe
                  go_wp2_with fail
                  go_quiet (fail)
                  go_upto_region 16 with fail
                  obtain ⟨W1, hW1⟩ : ∃ W1, W1 = (wr.drewN nq).setCell ⟨g, b, none⟩ (.int .i64 (y - 1)) := ⟨_, rfl⟩
                  have hk1 : Kp [] w W1 := by rw [hW1]; exact (HK1.out.drewN nq).setCell (.inr hge) _
                  have hb1 : Blk W1 g 3 (u.map (.int .i64) ++ rest) := by rw [hW1]; exact HBK2.out
                  rw [← hW1]
                  have HE := Lib.hid (show ((W1.alloc (.cells #[] 3)).drew).ownsRow w.heap.size 3 1 (.slice (some ⟨W1.heap.size, 0, none⟩) 0 0) 0 [] from own_empty W1 hk1.size)
                  have HE1 := Lib.hid (show ((W1.alloc (.cells #[] 3)).drew).ownsRow W1.heap.size 3 1 (.slice (some ⟨W1.heap.size, 0, none⟩) 0 0) 0 [] from own_empty W1 (Nat.le_refl _))
                  have hr0 : Rd W1 W1.heap.size (some ⟨g, 0, none⟩) (u.map (.int .i64)) := by
                    have := (hb1.rd hb1.lt).take (u.map (Value.int .i64)).length
                    rwa [List.take_left'] at this
                    rfl
                  have HR1 := Lib.hid (show Rd W1 W1.heap.size (some ⟨g, 0, none⟩) ((u.take b1).map (.int .i64)) by rw [List.map_take]; exact hr0.take b1)
                  have HR2 := Lib.hid (show Rd W1 W1.heap.size (if c1 = b2 then some ⟨g, 0, none⟩ else some ⟨g, b2, none⟩) ((u.drop b2).map (.int .i64)) by
                    by_cases hcb : c1 = b2
                    · rw [List.drop_of_length_le (by rw [HU.out]; omega)]
                      exact Rd.nil _ _ _
                    · rw [if_neg hcb, List.map_drop]
                      have := hr0.drop b2
                      rwa [addr_lit_add, Nat.zero_add] at this)
                  have HKW := Lib.hid hk1; clear hk1
                  have HMX := Lib.hid (show b1 + (m - b2) ≤ 1000 by have := HB1.out; have := HB2.out; omega)
                  clear hb1 hr0 hW1
                  go_region_law (first
                    | (refine step_append_rd rfl (.tmp 73) (.tmp 77) 51 rfl w.heap.size 3 i0 (.int .i64 0) 1 8 Tryz.underlying51 hi hz0 hz1 hz2 rfl (by decide) _ 0 _ rfl HE.out _ _ b1 _ ((u.take b1).map (.int .i64)) rfl (by rw [List.length_map, List.length_take, HU.out]; omega) (HR1.out.kp0 (((Kp.refl [] _).alloc _).drew)) (oc_ints _ _) (by unfold maxLen; omega) (by omega) (Nat.le_trans HKW.out.size (((Kp.refl [] _).alloc _).drew).size) ?_; intro v2 w2 hown2 hgrow2 hat2)
                    | (refine step_append_rd rfl (.tmp 78) (.tmp 82) 51 rfl w.heap.size 3 i0 (.int .i64 0) 1 8 Tryz.underlying51 hi hz0 hz1 hz2 rfl (by decide) _ (0 + b1) _ rfl hown2 _ _ (m - b2) _ ((u.drop b2).map (.int .i64)) rfl (by rw [List.length_map, List.length_drop, HU.out]; omega) (HR2.out.kp0 ((((Kp.refl [] _).alloc (.cells #[] 3)).drew).grown hgrow2 (fun g hg => .inr (own_ge HE1.out hg).1))) (oc_ints _ _) (by unfold maxLen; omega) (by omega) (Nat.le_trans HKW.out.size ((((Kp.refl [] _).alloc (.cells #[] 3)).drew).grown hgrow2 (fun g hg => .inr (own_ge HE1.out hg).1)).size) ?_; intro v3 w3 hown3 hgrow3 hat3))
                  obtain ⟨A3, c3, rfl, _⟩ := own_form hown3
                  have hm3 : 0 + b1 + (m - b2) = m - 1 := by have := HB1.out; have := HB2.out; omega
                  rw [hm3] at hown3
                  rw [hm3]
                  simp only [List.nil_append] at hown3
                  rw [← List.map_append] at hown3
                  have HO3 := Lib.hid hown3; clear hown3
                  have HK3 := Lib.hid ((HKW.out.trans ((((Kp.refl [] _).alloc (.cells #[] 3)).drew).grown hgrow2 (fun g hg => .inr (own_ge HE1.out hg).1))).grown hgrow3 (fun g hg => .inr (own_ge hown2 hg).1))
                  have HU3 := Lib.hid (show (u.take b1 ++ u.drop b2).length = m - 1 by rw [List.length_append, List.length_take, List.length_drop, HU.out]; have := HB1.out; have := HB2.out; omega)
                  have HR3 := Lib.hid (show ∀ x ∈ u.take b1 ++ u.drop b2, x ≤ 9223372036854775807 from fun x hx => by
                    rcases List.mem_append.1 hx with h | h
                    · exact HUB.out x (List.mem_of_mem_take h)
                    · exact HUB.out x (List.mem_of_mem_drop h))
                  clear hown2 hgrow2 hgrow3 hat2 hat3 hm3
                  go_wp2_with fail
                  all_goals exact ⟨⟨m - 1, c3, A3, ⟨rfl, rfl, rfl⟩, by omega, by omega, u.take b1 ++ u.drop b2, HU3, HR3, HDV, HO3⟩, by omega⟩
                · have hf : decide (okF l) = false := by
                    refine decide_eq_false (fun h => ?_)
                    have hneed := HBM.out.need (by rw [HV.out]; omega) (HD.out.1 (HOK.out.1 h))
                    have h2 := hneed.2.1
                    rw [← HB1.out, hy] at h2
                    injection h2 with h2
                    exact hyd h2
                  have HF := Lib.hid hf; clear hf hy
                  have hyn : (y != d) = true := by simp [hyd]
                  clear hyd
                  go_wp2_with fail
                  go_quiet (fail)
                  go_wp2_with fail
                  go_ret
                  exact ⟨by rw [HF.out]; rfl, HK1.out.drewN _⟩
    · obtain rfl : m = 1 := by omega
      obtain ⟨y, rfl⟩ := List.length_eq_one_iff.1 HV.out
      obtain ⟨bd, rfl, _, hct⟩ := (own_rd HO.out).at_ (i := 0) (u := .int .i64 y) rfl
      rw [addr_add_zero] at hct
      have hd : decide (okF l) = (y == 0) := by
        have e : okF l ↔ y = 0 := by
          rw [HOK.out, HD.out]
          constructor
          · intro h
            have := h.bound y (by simp)
            simp at this
            omega
          · rintro rfl
            exact .leaf 0
        by_cases h0 : y = 0
        · rw [decide_eq_true (e.2 h0), h0]; rfl
        · rw [decide_eq_false (fun h => h0 (e.1 h))]; simp [h0]
      have HDD := Lib.hid hd; clear hd
      go_wp2_with fail
      go_ret
      exact ⟨by rw [HDD.out]; rfl, HK.out⟩
end Go.Proofs.YtlaionhlejmjdaaGreatDoor
namespace Go.Proofs.YtlaionhlejmjdaaGreatDoor
open Go.RowKit

def costN (w d : Nat → Nat) : Nat → Nat
  | 0 => 0
  | k + 1 => costN w d k + w k * d k
def okC (l ls : List Int) : Prop := l.length = ls.length ∧ okW l ∧ okF ls
open Classical in
noncomputable def costE (l ls : List Int) : Int := if okC l ls then 0 else 2
open Classical in
noncomputable def costV (l ls : List Int) : Int := if okC l ls then ((costN (wt l) (wt ls) l.length : Nat) : Int) else 0
theorem costE_ok {l ls : List Int} (h : okC l ls) : costE l ls = 0 := by unfold costE; rw [if_pos h]
theorem costE_no {l ls : List Int} (h : ¬ okC l ls) : costE l ls = 2 := by unfold costE; rw [if_neg h]
theorem costV_ok {l ls : List Int} (h : okC l ls) : costV l ls = ((costN (wt l) (wt ls) l.length : Nat) : Int) := by unfold costV; rw [if_pos h]
theorem costV_no {l ls : List Int} (h : ¬ okC l ls) : costV l ls = 0 := by unfold costV; rw [if_neg h]
theorem okF_bound {l : List Int} (h : okF l) : ∀ x ∈ l, 0 ≤ x ∧ x ≤ 256 := by
  intro x hx
  rcases h.2 with e | e
  · subst e; simp at hx; omega
  · have := e.2.bound x hx
    have := h.1
    omega
theorem okF_get {l : List Int} (h : okF l) {k : Nat} {x : Int} (hx : l[k]? = some x) : x = ((wt l k : Nat) : Int) ∧ wt l k ≤ 256 := by
  have := okF_bound h x (List.mem_of_getElem? hx)
  have e : wt l k = x.toNat := by
    unfold wt
    rw [List.getD_eq_getElem?_getD, hx]
    rfl
  omega
theorem costN_le {w d : Nat → Nat} (hw : ∀ k, w k ≤ 4294967296) : ∀ k, (∀ i, i < k → d i ≤ 256) → costN w d k ≤ k * 1099511627776
  | 0, _ => Nat.le_refl _
  | k + 1, h => by
    have h1 := costN_le hw k (fun i hi => h i (by omega))
    have h2 : w k * d k ≤ 4294967296 * 256 := Nat.mul_le_mul (hw k) (h k (by omega))
    show costN w d k + w k * d k ≤ _
    omega

end Go.Proofs.YtlaionhlejmjdaaGreatDoor
namespace Go.Proofs.YtlaionhlejmjdaaGreatDoor

/-- Weights times lengths, added. -/
def cl : List Int → List Int → Int
  | x :: l, y :: m => x * y + cl l m
  | _, _ => 0
theorem cl_app : ∀ {a c b d : List Int}, a.length = c.length → cl (a ++ b) (c ++ d) = cl a c + cl b d
  | [], [], b, d, _ => by show cl b d = 0 + cl b d; omega
  | x :: a, y :: c, b, d, h => by
    show x * y + cl (a ++ b) (c ++ d) = x * y + cl a c + cl b d
    rw [cl_app (by simpa using h)]
    omega
  | [], _ :: _, _, _, h => by simp at h
  | _ :: _, [], _, _, h => by simp at h
theorem cl_rev : ∀ {l m : List Int}, l.length = m.length → cl l.reverse m.reverse = cl l m
  | [], [], _ => rfl
  | x :: l, y :: m, h => by
    have h' : l.length = m.length := by simpa using h
    rw [List.reverse_cons, List.reverse_cons, cl_app (by simpa using h'), cl_rev h']
    show cl l m + (x * y + 0) = x * y + cl l m
    omega
  | [], _ :: _, h => by simp at h
  | _ :: _, [], h => by simp at h
theorem costN_cl {l ls : List Int} (hw : Wts l) (hf : okF ls) (hl : l.length = ls.length) : ∀ k, k ≤ l.length → ((costN (wt l) (wt ls) k : Nat) : Int) = cl (l.take k) (ls.take k)
  | 0, _ => rfl
  | k + 1, hk => by
    obtain ⟨x, hx⟩ : ∃ x, l[k]? = some x := ⟨_, List.getElem?_eq_getElem (by omega)⟩
    obtain ⟨y, hy⟩ : ∃ y, ls[k]? = some y := ⟨_, List.getElem?_eq_getElem (by omega)⟩
    rw [take_succ_of hx, take_succ_of hy, cl_app (by rw [List.length_take, List.length_take]; omega), ← costN_cl hw hf hl k (by omega)]
    have e1 := wt_get hw hx
    have e2 := (okF_get hf hy).1
    show ((costN (wt l) (wt ls) k + wt l k * wt ls k : Nat) : Int) = _ + (x * y + 0)
    rw [Int.natCast_add, Int.natCast_mul, ← e1, ← e2]
    omega
theorem costV_cl {l ls : List Int} (h : okC l ls) : costV l ls = cl l ls := by
  rw [costV_ok h, costN_cl h.2.1.1 h.2.2 h.1 _ (Nat.le_refl _), List.take_of_length_le (Nat.le_refl _), List.take_of_length_le (by rw [h.1]; exact Nat.le_refl _)]

/-- The same of a function's weights from a place on. -/
def cw (w : Nat → Nat) : Nat → List Int → Int
  | _, [] => 0
  | i, y :: m => (w i : Int) * y + cw w (i + 1) m
theorem cw_app (w : Nat → Nat) : ∀ {a b : List Int} {i : Nat}, cw w i (a ++ b) = cw w i a + cw w (i + a.length) b
  | [], b, i => by show cw w i b = 0 + cw w i b; omega
  | y :: a, b, i => by
    show (w i : Int) * y + cw w (i + 1) (a ++ b) = (w i : Int) * y + cw w (i + 1) a + cw w (i + (a.length + 1)) b
    rw [cw_app w, show i + 1 + a.length = i + (a.length + 1) from by omega]
    omega
theorem cw_cl {l : List Int} (hw : Wts l) : ∀ {k : Nat} {ls : List Int}, k + ls.length = l.length → cw (wt l) k ls = cl (l.drop k) ls
  | k, [], h => by
    rw [List.drop_of_length_le (by simp at h; omega)]
    rfl
  | k, y :: ls, h => by
    have hk : k < l.length := by simp at h; omega
    obtain ⟨x, hx⟩ : ∃ x, l[k]? = some x := ⟨_, List.getElem?_eq_getElem hk⟩
    rw [drop_of hx]
    show (wt l k : Int) * y + cw (wt l) (k + 1) ls = x * y + cl (l.drop (k + 1)) ls
    rw [cw_cl hw (k := k + 1) (by simp at h; omega), wt_get hw hx]
/-- What a tree's lengths cost at the least. -/
theorem cw_least (w : Nat → Nat) {d : Int} {ls : List Int} (h : Dl d ls) : ∀ (i j : Nat), i + ls.length = j + 1 → (C w i j : Int) + d * (S w i j : Int) ≤ cw w i ls := by
  induction h with
  | leaf d =>
    intro i j hj
    obtain rfl : i = j := by simp at hj; omega
    rw [C_self]
    have e : S w i i = w i := by unfold S; simp only [pre]; omega
    rw [e]
    show ((0 : Nat) : Int) + d * (w i : Int) ≤ (w i : Int) * d + 0
    rw [Int.mul_comm d]
    omega
  | node h1 h2 i1 i2 =>
    rename_i d a b
    intro i j hj
    rw [List.length_append] at hj
    have p1 := h1.pos
    have p2 := h2.pos
    obtain ⟨m, hm⟩ : ∃ m, i + a.length = m + 1 := ⟨i + a.length - 1, by omega⟩
    have q1 := i1 i m hm
    have q2 := i2 (m + 1) j (by omega)
    rw [cw_app, hm]
    have q3 := C_le w (i := i) (j := j) (k := m + 1) (by omega) (by omega)
    rw [show m + 1 - 1 = m from rfl] at q3
    have q4 : S w i j = S w i m + S w (m + 1) j := by
      have x1 := pre_mono w (show i ≤ m + 1 by omega)
      have x2 := pre_mono w (show m + 1 ≤ j + 1 by omega)
      unfold S
      omega
    have q5 : (d + 1) * (S w i m : Int) + (d + 1) * (S w (m + 1) j : Int) = d * (S w i j : Int) + (S w i j : Int) := by
      rw [q4, Int.natCast_add, Int.add_mul, Int.add_mul, Int.mul_add]
      omega
    omega
theorem cw_best (w : Nat → Nat) : ∀ (n i j d : Nat), j - i = n → i ≤ j → cw w i (lens w i j d) = (C w i j : Int) + (d : Int) * (S w i j : Int) := by
  intro n
  induction n using Nat.strongRecOn with
  | ind n ih =>
    intro i j d hn hij
    rcases Nat.eq_or_lt_of_le hij with e | e
    · subst e
      rw [lens_self, C_self]
      have e : S w i i = w i := by unfold S; simp only [pre]; omega
      rw [e]
      show (w i : Int) * (d : Int) + 0 = ((0 : Nat) : Int) + (d : Int) * (w i : Int)
      rw [Int.mul_comm (d : Int)]
      omega
    · have b := K_bound w e
      obtain ⟨k, hk⟩ : ∃ k, k = K w i j := ⟨_, rfl⟩
      have hC := C_eq w e
      rw [lens_cut w d e]
      rw [← hk] at b hC ⊢
      have hl : (lens w i (k - 1) (d + 1)).length = k - i := by rw [lens_len _ _ _ _ _ rfl (by omega)]; omega
      rw [cw_app, hl, show i + (k - i) = k from by omega, ih (k - 1 - i) (by omega) _ _ _ rfl (by omega), ih (j - k) (by omega) _ _ _ rfl (by omega), hC]
      have q4 : S w i j = S w i (k - 1) + S w k j := by
        have x1 := pre_mono w (show i ≤ k by omega)
        have x2 := pre_mono w (show k ≤ j + 1 by omega)
        unfold S
        rw [show k - 1 + 1 = k from by omega]
        omega
      have q5 : ((d + 1 : Nat) : Int) * (S w i (k - 1) : Int) + ((d + 1 : Nat) : Int) * (S w k j : Int) = (d : Int) * (S w i j : Int) + (S w i j : Int) := by
        rw [q4, Int.natCast_add, Int.natCast_add, Int.add_mul, Int.add_mul, Int.mul_add]
        omega
      omega
theorem okF_dl {ls : List Int} (h : okF ls) (h2 : 2 ≤ ls.length) : Dl 0 ls := by
  rcases h.2 with e | e
  · subst e; simp at h2
  · exact e.2
theorem okF_lens {l : List Int} (h : okW l) : okF (lensL l) := by
  refine ⟨by rw [lensL_len h]; exact h.2.2, ?_⟩
  by_cases h1 : l.length = 1
  · exact .inl (lensL_one h h1)
  · have := h.2.1
    refine .inr ⟨by rw [lensL_len h]; omega, ?_⟩
    rw [lensL_more h h1]
    exact lens_dl (wt l) _ _ _ _ rfl (by omega)
theorem okC_lens {l : List Int} (h : okW l) : okC l (lensL l) := ⟨(lensL_len h).symm, h, okF_lens h⟩
/-- NO TREE COSTS LESS. -/
theorem best_least {l ls : List Int} (h : okC l ls) : cl l (lensL l) ≤ cl l ls := by
  by_cases h1 : l.length = 1
  · rw [lensL_one h.2.1 h1]
    have hl := h.1
    rcases h.2.2.2 with e | e
    · rw [e]; exact Int.le_refl _
    · omega
  · have h0 := h.2.1.2.1
    have hl := h.1
    have e1 := cw_best (wt l) _ 0 (l.length - 1) 0 rfl (by omega)
    have e2 := cw_least (wt l) (okF_dl h.2.2 (by omega)) 0 (l.length - 1) (by omega)
    rw [← lensL_more h.2.1 h1] at e1
    rw [cw_cl h.2.1.1 (by rw [lensL_len h.2.1]; omega)] at e1
    rw [cw_cl h.2.1.1 (by omega)] at e2
    rw [List.drop_zero] at e1 e2
    omega
theorem Dl.rev {d : Int} {l : List Int} (h : Dl d l) : Dl d l.reverse := by
  induction h with
  | leaf d => exact .leaf d
  | node h1 h2 i1 i2 => rw [List.reverse_append]; exact .node i2 i1
theorem okF.rev {l : List Int} (h : okF l) : okF l.reverse := by
  refine ⟨by rw [List.length_reverse]; exact h.1, ?_⟩
  rcases h.2 with e | e
  · left; rw [e]; rfl
  · right; exact ⟨by rw [List.length_reverse]; exact e.1, e.2.rev⟩
theorem okW.rev {l : List Int} (h : okW l) : okW l.reverse := ⟨fun x hx => h.1 x (List.mem_reverse.1 hx), by rw [List.length_reverse]; exact h.2.1, by rw [List.length_reverse]; exact h.2.2⟩
theorem okC.rev {l ls : List Int} (h : okC l ls) : okC l.reverse ls.reverse := ⟨by rw [List.length_reverse, List.length_reverse]; exact h.1, h.2.1.rev, h.2.2.rev⟩
/-- TURNED ROUND, THE BEST COSTS AS MUCH. -/
theorem best_turned {l : List Int} (h : okW l) : cl l.reverse (lensL l.reverse) = cl l (lensL l) := by
  have a := best_least (okC_lens h).rev
  rw [cl_rev (lensL_len h).symm] at a
  have b := best_least (l := l) (ls := (lensL l.reverse).reverse) (by have := (okC_lens h.rev).rev; rwa [List.reverse_reverse] at this)
  have c := cl_rev (l := l.reverse) (m := lensL l.reverse) (lensL_len h.rev).symm
  rw [List.reverse_reverse] at c
  omega

/-- All ways: two to the power of H minus each. -/
def ways (H : Int) : List Int → Nat
  | [] => 0
  | y :: l => 2 ^ (H - y).toNat + ways H l
theorem ways_app (H : Int) : ∀ (a b : List Int), ways H (a ++ b) = ways H a + ways H b
  | [], b => by show ways H b = 0 + ways H b; omega
  | y :: a, b => by
    show 2 ^ _ + ways H (a ++ b) = 2 ^ _ + ways H a + ways H b
    rw [ways_app H a b]; omega
theorem ways_dl {H d : Int} {l : List Int} (h : Dl d l) : (∀ x ∈ l, x ≤ H) → ways H l = 2 ^ (H - d).toNat := by
  induction h with
  | leaf d => intro _; show 2 ^ _ + 0 = _; omega
  | node h1 h2 i1 i2 =>
    rename_i d a b
    intro hx
    rw [ways_app, i1 (fun x h => hx x (by simp [h])), i2 (fun x h => hx x (by simp [h]))]
    have hd : d + 1 ≤ H := by
      obtain ⟨y, a', rfl⟩ := List.exists_cons_of_ne_nil (List.ne_nil_of_length_pos h1.pos)
      have := h1.bound y (by simp)
      have := hx y (by simp)
      omega
    rw [show (H - d).toNat = (H - (d + 1)).toNat + 1 from by omega, Nat.pow_succ]
    omega
/-- One more of them, or one of them longer, does not fit. -/
theorem not_more {l : List Int} {k : Nat} {y : Int} (h : Dl 0 l) (hk : l[k]? = some y) : ¬ Dl 0 (l ++ [y]) := by
  intro h2
  have b1 : ∀ x ∈ l, x ≤ (l.length : Int) := fun x hx => by have := h.bound x hx; omega
  have e1 := ways_dl h b1
  have e2 := ways_dl (H := (l.length : Int)) h2 (fun x hx => by
    rcases List.mem_append.1 hx with hx | hx
    · exact b1 x hx
    · simp at hx
      subst hx
      exact b1 x (List.mem_of_getElem? hk))
  rw [ways_app, e1] at e2
  have : 0 < ways (l.length : Int) [y] := by show 0 < 2 ^ _ + 0; have := Nat.two_pow_pos ((l.length : Int) - y).toNat; omega
  omega
theorem not_longer {l : List Int} {k : Nat} {y : Int} (h : Dl 0 l) (hk : l[k]? = some y) : ¬ Dl 0 (l.set k (y + 1)) := by
  intro h2
  obtain ⟨hkl, hke⟩ := List.getElem?_eq_some_iff.1 hk
  have b1 : ∀ x ∈ l, x ≤ (l.length : Int) := fun x hx => by have := h.bound x hx; omega
  have hy := b1 y (List.mem_of_getElem? hk)
  obtain ⟨H, hH⟩ : ∃ H, H = (l.length : Int) + 1 := ⟨_, rfl⟩
  have e1 := ways_dl (H := H) h (fun x hx => by have := b1 x hx; omega)
  have e2 := ways_dl (H := H) h2 (fun x hx => by
    rcases List.mem_or_eq_of_mem_set hx with hx | hx
    · have := b1 x hx; omega
    · omega)
  rw [List.set_eq_take_append_cons_drop, if_pos hkl, ways_app] at e2
  rw [split_at_ hk, ways_app] at e1
  have e3 : ways H (y :: l.drop (k + 1)) = 2 ^ (H - y).toNat + ways H (l.drop (k + 1)) := rfl
  have e4 : ways H ((y + 1) :: l.drop (k + 1)) = 2 ^ (H - (y + 1)).toNat + ways H (l.drop (k + 1)) := rfl
  rw [e3] at e1
  rw [e4] at e2
  have e5 : 2 ^ (H - y).toNat = 2 ^ (H - (y + 1)).toNat + 2 ^ (H - (y + 1)).toNat := by
    rw [show (H - y).toNat = (H - (y + 1)).toNat + 1 from by omega, Nat.pow_succ]
    omega
  have := Nat.two_pow_pos (H - (y + 1)).toNat
  omega
end Go.Proofs.YtlaionhlejmjdaaGreatDoor
namespace Go.Proofs.YtlaionhlejmjdaaGreatDoor

/-- How rows of bits stand, by definition. -/
def cmpB : List Bool → List Bool → Int
  | [], [] => 0
  | [], _ :: l => -((l.length : Int) + 1)
  | _ :: l, [] => (l.length : Int) + 1
  | a :: l, b :: m => if a = b then cmpB l m else if b then -1 else 1
def begB : List Bool → List Bool → Bool
  | a :: l, b :: m => if a = b then begB l m else false
  | _, _ => true
theorem cmpB_self : ∀ l : List Bool, cmpB l l = 0
  | [] => rfl
  | a :: l => by rw [cmpB, if_pos rfl, cmpB_self l]
theorem begB_self : ∀ l : List Bool, begB l l = true
  | [] => rfl
  | a :: l => by rw [begB, if_pos rfl, begB_self l]
theorem Dif.lt {a b : List Bool} (h : Dif a b) : cmpB a b = -1 ∧ cmpB b a = 1 ∧ begB a b = false ∧ begB b a = false := by
  obtain ⟨c, u, v, rfl, rfl⟩ := h
  induction c with
  | nil => simp [cmpB, begB]
  | cons x c ih => simpa [cmpB, begB] using ih
/-- Signs, row against row: which stands ahead where they first part. -/
def lexN : List Nat → List Nat → Bool
  | _, [] => false
  | [], _ :: _ => true
  | a :: x, b :: y => decide (a < b) || (decide (a = b) && lexN x y)
theorem enc_dif {T : CT} {sg : List Nat} {ls : List Int} (h : CodeT T sg ls) : ∀ (a b : List Nat) (u v r t : List Bool), T.enc (sgs a) = some u → T.enc (sgs b) = some v → lexN a b = true → Dif (u ++ r) (v ++ t) := by
  have key : ∀ (s t : Nat) (x y : List Bool), T.word s = some x → T.word t = some y → s < t → Dif x y := by
    intro s t x y hx hy hst
    obtain ⟨i, hi⟩ := List.mem_iff_getElem?.1 ((word_iff h).1 hx)
    obtain ⟨j, hj⟩ := List.mem_iff_getElem?.1 ((word_iff h).1 hy)
    have hp := h.2.2.1
    rw [← h.1] at hp
    have hij : i < j := by
      rcases Nat.lt_trichotomy i j with e | e | e
      · exact e
      · subst e; rw [hi] at hj; injection hj with hj; injection hj with hj; omega
      · have h1 := (List.getElem?_eq_some_iff.1 hi)
        have h2 := (List.getElem?_eq_some_iff.1 hj)
        obtain ⟨l1, e1⟩ := h1
        obtain ⟨l2, e2⟩ := h2
        have := List.pairwise_iff_getElem.1 hp j i (by simpa using l2) (by simpa using l1) e
        simp [e1, e2] at this
        omega
    exact al_dif [] i j _ _ hij hi hj
  have ext : ∀ (x y r t : List Bool), Dif x y → Dif (x ++ r) (y ++ t) := by
    rintro x y r t ⟨c, u, v, rfl, rfl⟩
    exact ⟨c, u ++ r, v ++ t, by simp, by simp⟩
  have pre : ∀ (w x y : List Bool), Dif x y → Dif (w ++ x) (w ++ y) := by
    rintro w x y ⟨c, u, v, rfl, rfl⟩
    exact ⟨w ++ c, u, v, by simp, by simp⟩
  intro a
  induction a with
  | nil =>
    intro b u v r t hu hv hl
    match b, hl with
    | y :: b, _ =>
      obtain ⟨w, u', hw, _, rfl⟩ := enc_cons (show T.enc (0 :: []) = some u from hu)
      obtain ⟨w', v', hw', _, rfl⟩ := enc_cons (show T.enc ((y + 1) :: sgs b) = some v from hv)
      rw [List.append_assoc, List.append_assoc]
      exact ext _ _ _ _ (key 0 (y + 1) _ _ hw hw' (by omega))
  | cons x a ih =>
    intro b u v r t hu hv hl
    match b, hl with
    | y :: b, hl =>
      obtain ⟨w, u', hw, hu', rfl⟩ := enc_cons (show T.enc ((x + 1) :: sgs a) = some u from hu)
      obtain ⟨w', v', hw', hv', rfl⟩ := enc_cons (show T.enc ((y + 1) :: sgs b) = some v from hv)
      rw [List.append_assoc, List.append_assoc]
      by_cases hxy : x < y
      · exact ext _ _ _ _ (key _ _ _ _ hw hw' (by omega))
      · simp only [lexN, hxy, decide_false, Bool.false_or, Bool.and_eq_true, decide_eq_true_eq] at hl
        obtain ⟨rfl, hl⟩ := hl
        rw [hw] at hw'
        injection hw' with hw'
        subst hw'
        exact pre _ _ _ (ih b u' v' r t hu' hv' hl)
theorem lexN_total : ∀ (a b : List Nat), lexN a b = true ∨ a = b ∨ lexN b a = true
  | [], [] => .inr (.inl rfl)
  | [], _ :: _ => .inl rfl
  | _ :: _, [] => .inr (.inr rfl)
  | x :: a, y :: b => by
    rcases Nat.lt_trichotomy x y with h | h | h
    · exact .inl (by simp [lexN, h])
    · subst h
      rcases lexN_total a b with h | h | h
      · exact .inl (by simp [lexN, h])
      · exact .inr (.inl (by rw [h]))
      · exact .inr (.inr (by simp [lexN, h]))
    · exact .inr (.inr (by simp [lexN, h]))
theorem lexN_asymm : ∀ (a b : List Nat), lexN a b = true → lexN b a = false
  | _, [], h => by simp [lexN] at h
  | [], _ :: _, _ => rfl
  | x :: a, y :: b, h => by
    simp only [lexN, Bool.or_eq_true, decide_eq_true_eq, Bool.and_eq_true] at h
    rcases h with h | ⟨rfl, h⟩
    · simp [lexN, show ¬ y < x by omega, show ¬ y = x by omega]
    · simp [lexN, lexN_asymm a b h]
theorem lexN_irrefl (a : List Nat) : lexN a a = false := by
  induction a with
  | nil => rfl
  | cons x a ih => simp [lexN, ih]
theorem lexN_trans : ∀ {a b c : List Nat}, lexN a b = true → lexN b c = true → lexN a c = true
  | _, [], _, h, _ => by simp [lexN] at h
  | _, _ :: _, [], _, h => by simp [lexN] at h
  | [], _ :: _, _ :: _, _, _ => rfl
  | x :: a, y :: b, z :: c, h, k => by
    simp only [lexN, Bool.or_eq_true, decide_eq_true_eq, Bool.and_eq_true] at h k ⊢
    rcases h with h | ⟨rfl, h⟩ <;> rcases k with k | ⟨rfl, k⟩
    · exact .inl (by omega)
    · exact .inl h
    · exact .inl k
    · exact .inr ⟨rfl, lexN_trans h k⟩
/-- How two texts' bits stand: as the texts do. -/
theorem cmp_texts {T : CT} {sg : List Nat} {ls : List Int} (h : CodeT T sg ls) {a b : List Nat} {u v : List Bool} (hu : T.enc (sgs a) = some u) (hv : T.enc (sgs b) = some v) :
    (cmpB u v < 0 ↔ lexN a b = true) ∧ (cmpB u v = 0 ↔ a = b) ∧ (cmpB u v ≠ 0 → begB u v = false) := by
  rcases lexN_total a b with hl | hl | hl
  · have hd := (enc_dif h a b u v [] [] hu hv hl).lt
    simp only [List.append_nil] at hd
    refine ⟨⟨fun _ => hl, fun _ => by rw [hd.1]; decide⟩, ⟨fun e => ?_, fun e => ?_⟩, fun _ => hd.2.2.1⟩
    · rw [hd.1] at e; cases e
    · subst e; rw [lexN_irrefl] at hl; cases hl
  · subst hl
    rw [hu] at hv
    injection hv with hv
    subst hv
    rw [cmpB_self]
    exact ⟨⟨fun e => by omega, fun e => by rw [lexN_irrefl] at e; cases e⟩, ⟨fun _ => rfl, fun _ => rfl⟩, fun e => absurd rfl e⟩
  · have hd := (enc_dif h b a v u [] [] hv hu hl).lt
    simp only [List.append_nil] at hd
    refine ⟨⟨fun e => ?_, fun e => ?_⟩, ⟨fun e => ?_, fun e => ?_⟩, fun _ => hd.2.2.2⟩
    · rw [hd.2.1] at e; omega
    · rw [lexN_asymm b a hl] at e; cases e
    · rw [hd.2.1] at e; cases e
    · subst e; rw [lexN_irrefl] at hl; cases hl
/-- Some signs' words, added: how often each stands there times its length. -/
theorem enc_len {T : CT} {sg : List Nat} {ls : List Int} (h : CodeT T sg ls) : ∀ (l : List Nat) (r : List Bool), T.enc l = some r → (r.length : Int) = cl (sg.map fun s => (l.count s : Int)) ls := by
  have hz : ∀ (m : List Nat) (ks : List Int), cl (m.map fun _ => (0 : Int)) ks = 0 := by
    intro m
    induction m with
    | nil => intro ks; cases ks <;> rfl
    | cons a m ih => intro ks; cases ks with
      | nil => rfl
      | cons k ks => simp [cl, ih]
  have one : ∀ (m : List Nat) (ks : List Int) (l : List Nat) (s : Nat) (i : Nat) (n : Int), m.Pairwise (· < ·) → m[i]? = some s → ks[i]? = some n → cl (m.map fun t => (((s :: l).count t : Nat) : Int)) ks = n + cl (m.map fun t => ((l.count t : Nat) : Int)) ks := by
    intro m
    induction m with
    | nil => intro ks l s i n _ hi _; simp at hi
    | cons a m ih =>
      intro ks l s i n hp hi hk
      match ks, hk with
      | k :: ks, hk =>
        rw [List.pairwise_cons] at hp
        match i, hi, hk with
        | 0, hi, hk =>
          simp at hi hk
          subst hi hk
          have : (m.map fun t => (((a :: l).count t : Nat) : Int)) = m.map fun t => ((l.count t : Nat) : Int) := by
            apply List.map_congr_left
            intro t ht
            have := hp.1 t ht
            rw [List.count_cons_of_ne (by omega)]
          simp only [List.map_cons, cl, this, List.count_cons_self, Int.natCast_add, Int.add_mul]
          omega
        | i + 1, hi, hk =>
          have hm : s ∈ m := List.mem_of_getElem? (by simpa using hi)
          have := hp.1 s hm
          have e := ih ks l s i n hp.2 (by simpa using hi) (by simpa using hk)
          simp only [List.map_cons, cl, e, List.count_cons_of_ne (show s ≠ a by omega)]
          omega
  intro l
  induction l with
  | nil =>
    intro r hr
    have hr : some [] = some r := hr
    injection hr with hr
    subst hr
    simp only [List.count_nil, Int.ofNat_zero, List.length_nil]
    rw [hz]
  | cons s l ih =>
    intro r hr
    obtain ⟨w, v, hw, hv, rfl⟩ := enc_cons hr
    obtain ⟨i, hi⟩ := List.mem_iff_getElem?.1 ((word_iff h).1 hw)
    have h1 : sg[i]? = some s := by rw [← h.1, List.getElem?_map, hi]; rfl
    have h2 : ls[i]? = some (w.length : Int) := by rw [← h.2.1, List.getElem?_map, hi]; rfl
    rw [one sg ls l s i _ h.2.2.1 h1 h2, List.length_append, Int.natCast_add, ih v hv]
end Go.Proofs.YtlaionhlejmjdaaGreatDoor
namespace Go.Proofs.YtlaionhlejmjdaaGreatDoor

/-- Signs that rise, each more than b, none more than 256. -/
def risI : Int → List Int → Prop
  | _, [] => True
  | b, x :: l => b < x ∧ x < 257 ∧ risI x l
theorem risI_snoc : ∀ {l : List Int} {b x : Int}, risI b (l ++ [x]) ↔ risI b l ∧ l.getLastD b < x ∧ x < 257
  | [], b, x => by simp [risI]
  | y :: l, b, x => by
    rw [List.cons_append, risI, risI, risI_snoc (l := l), List.getLastD_cons]
    simp only [and_assoc]
theorem risI_app : ∀ {l m : List Int} {b : Int}, risI b (l ++ m) → risI b l
  | [], _, _, _ => trivial
  | _ :: _, _, _, h => ⟨h.1, h.2.1, risI_app h.2.2⟩
theorem risI_ge : ∀ {l : List Int} {b : Int}, risI b l → ∀ x ∈ l, b < x ∧ x ≤ 256
  | [], _, _, x, hx => by simp at hx
  | y :: l, b, h, x, hx => by
    rcases List.mem_cons.1 hx with rfl | hx
    · exact ⟨h.1, by have := h.2.1; omega⟩
    · have := risI_ge h.2.2 x hx
      have := h.1
      exact ⟨by omega, by omega⟩
theorem risI_nat : ∀ {l : List Int} {b : Int}, -1 ≤ b → risI b l → (l.map Int.toNat).Pairwise (· < ·) ∧ (∀ s ∈ l.map Int.toNat, s ≤ 256) ∧ (l.map Int.toNat).map (fun (x : Nat) => (x : Int)) = l
  | [], _, _, _ => ⟨by simp, by simp, rfl⟩
  | y :: l, b, hb, h => by
    have h1 := h.1
    have h2 := h.2.1
    obtain ⟨p, q, r⟩ := risI_nat (l := l) (b := y) (by omega) h.2.2
    refine ⟨?_, ?_, ?_⟩
    · rw [List.map_cons, List.pairwise_cons]
      refine ⟨fun z hz => ?_, p⟩
      obtain ⟨u, hu, rfl⟩ := List.mem_map.1 hz
      have := (risI_ge h.2.2 u hu).1
      omega
    · intro s hs
      rw [List.map_cons] at hs
      rcases List.mem_cons.1 hs with rfl | hs
      · omega
      · exact q s hs
    · rw [List.map_cons, List.map_cons, r, Int.toNat_of_nonneg (by omega)]
/-- Signs and lengths that make a code. -/
def okMake (some lens : List Int) : Prop := some.length = lens.length ∧ okF lens ∧ risI (-1) some
theorem okF_pos {l : List Int} (h : okF l) : 1 ≤ l.length := by
  rcases h.2 with h | h
  · rw [h]; simp
  · omega
theorem okF_range {l : List Int} (h : okF l) : ∀ x ∈ l, 1 ≤ x ∧ x ≤ 256 := by
  intro x hx
  rcases h.2 with e | ⟨h2, hd⟩
  · rw [e] at hx; simp at hx; omega
  · have := hd.bound x hx
    have := h.1
    exact ⟨by have := this; have := (hd.bound x hx).2.2 (by omega); omega, by omega⟩
theorem okMake_code {some lens : List Int} (h : okMake some lens) : ∃ T, CodeT T (some.map Int.toNat) lens := by
  obtain ⟨h1, h2, h3⟩ := h
  obtain ⟨p, q, r⟩ := risI_nat (by omega) h3
  rcases h2.2 with e | ⟨h4, hd⟩
  · subst e
    match some, h1, q with
    | [x], _, q => exact ⟨_, codeT_one x.toNat (q x.toNat (by simp))⟩
  · exact codeT_more hd h4 (by rw [List.length_map]; exact h1) p q
/-- The tree of a code. -/
noncomputable def treeC (some lens : List Int) : CT := open Classical in if h : okMake some lens then (okMake_code h).choose else .nil
theorem treeC_code {some lens : List Int} (h : okMake some lens) : CodeT (treeC some lens) (some.map Int.toNat) lens := by
  unfold treeC
  rw [dif_pos h]
  exact (okMake_code h).choose_spec
theorem slT_zip {T : CT} {sg : List Nat} {ls : List Int} (h : CodeT T sg ls) : ((T.al []).map fun x => (x.1, x.2.length)) = sg.zip (ls.map Int.toNat) := by
  rw [← h.1, ← h.2.1, List.map_map]
  induction T.al [] with
  | nil => rfl
  | cons x l ih => simp [ih]
end Go.Proofs.YtlaionhlejmjdaaGreatDoor
namespace Go.Proofs.YtlaionhlejmjdaaGreatDoor
open Go.RowKit

theorem cst_one (w : Nat → Nat) (i : Nat) : cst w 1 i = pre w (i + 2) - pre w i := by
  rw [show (1 : Nat) = 0 + 1 from rfl, cst_succ]
  unfold cut spl argm
  rw [Nat.sub_self, cst_zero, cst_zero]
  rfl
theorem cst_two (w : Nat → Nat) (i : Nat) : cst w 2 i = pre w (i + 3) - pre w i + spl w 1 i (argm (spl w 1 i) 1) := by
  rw [show (2 : Nat) = 1 + 1 from rfl, cst_succ]
  rfl
theorem spl_one (w : Nat → Nat) (i : Nat) : spl w 1 i 0 = cst w 1 (i + 1) ∧ spl w 1 i 1 = cst w 1 i := by
  unfold spl
  exact ⟨by rw [cst_zero, Nat.zero_add], by rw [Nat.sub_self, cst_zero]; rfl⟩
theorem okW_a : okW [1, 2, 3] := ⟨by intro x hx; simp at hx; omega, by simp, by simp⟩
theorem okW_b : okW [5, 1, 1, 5] := ⟨by intro x hx; simp at hx; omega, by simp, by simp⟩
theorem K_a : K (wt [1, 2, 3]) 0 2 = 2 := by
  unfold K cut
  have h0 := (spl_one (wt [1, 2, 3]) 0).1
  have h1 := (spl_one (wt [1, 2, 3]) 0).2
  rw [cst_one] at h0 h1
  have e0 : spl (wt [1, 2, 3]) 1 0 0 = 5 := h0
  have e1 : spl (wt [1, 2, 3]) 1 0 1 = 3 := h1
  show 0 + 1 + argm (spl (wt [1, 2, 3]) 1 0) 1 = 2
  unfold argm argm
  rw [e0, e1]
  rfl
theorem lens_two (w : Nat → Nat) (i d : Nat) : lens w i (i + 1) d = [((d + 1 : Nat) : Int), ((d + 1 : Nat) : Int)] := by
  have hb := K_bound w (show i < i + 1 by omega)
  have e : K w i (i + 1) = i + 1 := by omega
  rw [lens_cut w d (by omega), e, show i + 1 - 1 = i from rfl, lens_self, lens_self]
  rfl
theorem rd_a (w : World) : Rd (w.alloc (.cells #[.int .i64 1, .int .i64 2, .int .i64 3] 3)) (w.heap.size + 1) (some ⟨w.heap.size, 0, none⟩) ([1, 2, 3].map (.int .i64)) := Rd.new w #[.int .i64 1, .int .i64 2, .int .i64 3] 3 (0, 0)
theorem rd_b (w : World) : Rd (w.alloc (.cells #[.int .i64 5, .int .i64 1, .int .i64 1, .int .i64 5] 3)) (w.heap.size + 1) (some ⟨w.heap.size, 0, none⟩) ([5, 1, 1, 5].map (.int .i64)) := Rd.new w #[.int .i64 5, .int .i64 1, .int .i64 1, .int .i64 5] 3 (0, 0)
theorem rd_c (w : World) : Rd (w.alloc (.cells #[.int .i64 2, .int .i64 3, .int .i64 3, .int .i64 1] 3)) (w.heap.size + 1) (some ⟨w.heap.size, 0, none⟩) ([2, 3, 3, 1].map (.int .i64)) := Rd.new w #[.int .i64 2, .int .i64 3, .int .i64 3, .int .i64 1] 3 (0, 0)
theorem rd_d (w : World) : Rd (w.alloc (.cells #[.int .i64 2, .int .i64 2, .int .i64 1] 3)) (w.heap.size + 1) (some ⟨w.heap.size, 0, none⟩) ([2, 2, 1].map (.int .i64)) := Rd.new w #[.int .i64 2, .int .i64 2, .int .i64 1] 3 (0, 0)
theorem rd_e (w : World) : Rd (w.alloc (.cells #[.int .i64 1, .int .i64 3, .int .i64 3, .int .i64 2] 3)) (w.heap.size + 1) (some ⟨w.heap.size, 0, none⟩) ([1, 3, 3, 2].map (.int .i64)) := Rd.new w #[.int .i64 1, .int .i64 3, .int .i64 3, .int .i64 2] 3 (0, 0)
theorem rd_bc (w : World) : ∃ B, Rd ((w.alloc (.cells #[.int .i64 5, .int .i64 1, .int .i64 1, .int .i64 5] 3)).alloc (.cells #[.int .i64 2, .int .i64 3, .int .i64 3, .int .i64 1] 3)) B (some ⟨w.heap.size, 0, none⟩) ([5, 1, 1, 5].map (.int .i64)) ∧
    Rd ((w.alloc (.cells #[.int .i64 5, .int .i64 1, .int .i64 1, .int .i64 5] 3)).alloc (.cells #[.int .i64 2, .int .i64 3, .int .i64 3, .int .i64 1] 3)) B (some ⟨w.heap.size + 1, 0, none⟩) ([2, 3, 3, 1].map (.int .i64)) := by
  have h1 := (rd_b w).kp0 ((Kp.refl [] _).alloc (.cells #[.int .i64 2, .int .i64 3, .int .i64 3, .int .i64 1] 3))
  have h2 := rd_c (w.alloc (.cells #[.int .i64 5, .int .i64 1, .int .i64 1, .int .i64 5] 3))
  have e : (w.alloc (.cells #[.int .i64 5, .int .i64 1, .int .i64 1, .int .i64 5] 3)).heap.size = w.heap.size + 1 := by simp
  rw [e] at h2
  exact ⟨_, h1.bound (Nat.le_succ _), h2⟩
theorem lensL_a : lensL [1, 2, 3] = [2, 2, 1] := by
  rw [lensL_more okW_a (by simp)]
  show lens _ 0 2 0 = _
  rw [lens_cut _ _ (by omega), K_a]
  show lens _ 0 1 1 ++ lens _ 2 2 1 = _
  rw [lens_self, show (1 : Nat) = 0 + 1 from rfl, lens_two]
  rfl
theorem spl_two (w : Nat → Nat) (i : Nat) : spl w 2 i 0 = cst w 2 (i + 1) ∧ spl w 2 i 1 = cst w 1 i + cst w 1 (i + 2) ∧ spl w 2 i 2 = cst w 2 i := by
  unfold spl
  exact ⟨by rw [cst_zero, Nat.zero_add], rfl, by rw [Nat.sub_self, cst_zero]; rfl⟩
theorem spl_b (i : Nat) (a b : Nat) (h0 : pre (wt [5, 1, 1, 5]) (i + 1 + 2) - pre (wt [5, 1, 1, 5]) (i + 1) = a) (h1 : pre (wt [5, 1, 1, 5]) (i + 2) - pre (wt [5, 1, 1, 5]) i = b) :
    argm (spl (wt [5, 1, 1, 5]) 1 i) 1 = (if b < a then 1 else 0) ∧ spl (wt [5, 1, 1, 5]) 1 i (argm (spl (wt [5, 1, 1, 5]) 1 i) 1) = min a b := by
  have g0 := (spl_one (wt [5, 1, 1, 5]) i).1
  have g1 := (spl_one (wt [5, 1, 1, 5]) i).2
  rw [cst_one, h0] at g0
  rw [cst_one, h1] at g1
  have e : argm (spl (wt [5, 1, 1, 5]) 1 i) 1 = if b < a then 1 else 0 := by
    unfold argm argm
    rw [g0, g1]
  refine ⟨e, ?_⟩
  rw [e]
  by_cases h : b < a
  · rw [if_pos h, g1]; omega
  · rw [if_neg h, g0]; omega
theorem K_b1 : K (wt [5, 1, 1, 5]) 1 3 = 3 := by
  show 1 + 1 + argm (spl (wt [5, 1, 1, 5]) 1 1) 1 = 3
  rw [(spl_b 1 6 2 rfl rfl).1]
  rfl
theorem K_b : K (wt [5, 1, 1, 5]) 0 3 = 1 := by
  show 0 + 1 + argm (spl (wt [5, 1, 1, 5]) 2 0) 2 = 1
  have h0 := (spl_two (wt [5, 1, 1, 5]) 0).1
  have h1 := (spl_two (wt [5, 1, 1, 5]) 0).2.1
  have h2 := (spl_two (wt [5, 1, 1, 5]) 0).2.2
  rw [cst_two, (spl_b 1 6 2 rfl rfl).2] at h0
  rw [cst_two, (spl_b 0 2 6 rfl rfl).2] at h2
  rw [cst_one, cst_one] at h1
  have e0 : spl (wt [5, 1, 1, 5]) 2 0 0 = 9 := h0
  have e1 : spl (wt [5, 1, 1, 5]) 2 0 1 = 12 := h1
  have e2 : spl (wt [5, 1, 1, 5]) 2 0 2 = 9 := h2
  unfold argm argm argm
  simp [e0, e1, e2]
theorem lensL_b : lensL [5, 1, 1, 5] = [1, 3, 3, 2] := by
  rw [lensL_more okW_b (by simp)]
  show lens _ 0 3 0 = _
  rw [lens_cut _ _ (by omega), K_b]
  show lens _ 0 0 1 ++ lens _ 1 3 1 = _
  rw [lens_self, lens_cut _ _ (show 1 < 3 by omega), K_b1]
  show _ ++ (lens _ 1 2 2 ++ lens _ 3 3 2) = _
  rw [lens_self, show lens (wt [5, 1, 1, 5]) 1 2 2 = _ from lens_two _ 1 2]
  rfl
theorem okC_c : okC [5, 1, 1, 5] [2, 3, 3, 1] := by
  refine ⟨rfl, okW_b, by simp, .inr ⟨by simp, ?_⟩⟩
  exact .node (a := [2, 3, 3]) (b := [1]) (.node (a := [2]) (b := [3, 3]) (.leaf 2) (.node (a := [3]) (b := [3]) (.leaf 3) (.leaf 3))) (.leaf 1)
theorem costV_c : costV [5, 1, 1, 5] [2, 3, 3, 1] = 21 := by rw [costV_ok okC_c]; rfl

end Go.Proofs.YtlaionhlejmjdaaGreatDoor
