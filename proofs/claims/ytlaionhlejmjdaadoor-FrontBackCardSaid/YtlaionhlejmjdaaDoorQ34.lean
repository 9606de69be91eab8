/-
  LAYER 12's law: texts in order, each once: the walk of sorted.
  CONDITIONS: texts in memory, at most 100000.
-/
import Derived.Test.YtlaionhlejmjdaaDoorQ33
import Derived.Test.YtlaionhlejmjdaaDoorQ08
import Derived.Test.YtlaionhlejmjdaaDoorQ06
import Derived.Test.YtlaionhlejmjdaaDoorQ24
import Derived.Deep.DeepCutAuto
import Derived.Deep.CutBlock
import Derived.Deep.RegionLaw
namespace Go.Proofs.YtlaionhlejmjdaaDoor
open Go.RowKit

theorem Tryd.info_str12 : (Tryd.prog.info? 9).map (fun i => (i.zero, i.size, i.bytes)) = some (some (.string ⟨#[]⟩), 1, 16) := by kernel_rfl
theorem findN_step {L : List ByteArray} {s t : ByteArray} {j : Nat} (hj : j ≤ findN L s) (ht : L[j]? = some t) : (lexN (txt t) (txt s) = true → j + 1 ≤ findN L s) ∧ (lexN (txt t) (txt s) = false → findN L s = j) := by
  constructor
  · intro h
    by_cases e : j = findN L s
    · rw [e] at ht
      exact absurd h (findN_at L s t ht)
    · omega
  · intro h
    by_cases e : j < findN L s
    · have := findN_pre L s j t e ht
      unfold LtT at this
      rw [h] at this
      cases this
    · omega
theorem own_oneS (w : World) (base : Nat) (e : TypeId) (u : Value) (hb : base ≤ w.heap.size) : (w.alloc (.cells #[u] e)).ownsRow base e 1 (.slice (some ⟨w.heap.size, 0, none⟩) 1 1) 1 [u] :=
  ⟨by simp, .inr ⟨_, 1, #[u], rfl, hb, Blk.new w e [u], Nat.le_refl _, by decide, by simp, by simp⟩⟩
theorem own_nilS (w : World) (base : Nat) (e : TypeId) (size : Nat) (hb : base ≤ w.heap.size) : (w.alloc (.cells #[] e)).ownsRow base e size (.slice (some ⟨w.heap.size, 0, none⟩) 0 0) 0 [] :=
  ⟨by simp, .inr ⟨_, 0, #[], rfl, hb, Blk.new w e [], Nat.le_refl _, Nat.zero_le _, by simp, by simp⟩⟩
theorem ocS (L : List ByteArray) : ∀ u ∈ L.map Value.string, u.oneCell' = true := by intro u hu; obtain ⟨x, _, rfl⟩ := List.mem_map.1 hu; rfl
theorem cutS {w : World} {B : Nat} {A : Option Addr} {m : List ByteArray} {k n c : Nat} (h : Rd w B A (m.map .string)) (hl : m.length = n) (hk : k ≤ n) (hc : n ≤ c) : Rd w B (if c = k then A else A.map fun x => x.add k) ((m.drop k).map .string) := by
  by_cases he : c = k
  · rw [List.drop_of_length_le (by omega)]
    exact Rd.nil _ _ _
  · rw [if_neg he]
    rcases A with _ | a
    · rcases m with _ | ⟨x, m⟩
      · rw [List.drop_nil]; exact Rd.nil _ _ _
      · obtain ⟨_, e, _⟩ := h 0 _ rfl
        cases e
    · rw [List.map_drop]
      exact h.drop k
theorem takeS {w : World} {B : Nat} {A : Option Addr} {m : List ByteArray} (h : Rd w B A (m.map .string)) (j : Nat) : Rd w B A ((m.take j).map .string) := by
  rw [List.map_take]; exact h.take j
theorem sort_take {l : List ByteArray} {k : Nat} {s : ByteArray} (h : l[k]? = some s) : sortS (l.take (k + 1)) = insS (sortS (l.take k)) s := by rw [take_succ_of h, sort_snoc]
set_option maxRecDepth 100000 in
set_option maxHeartbeats 4000000 in
theorem sorted_any (A : Option Addr) (n c B : Nat) (l : List ByteArray) (w : World) (hx : Rd w B A (l.map .string)) (hB : B ≤ w.heap.size) (hn : l.length = n) (hb : n ≤ 100000) :
    Calls Tryd.prog 7 #[.slice A n c] w fun e w' => ∃ (Ao : Option Addr) (no co : Nat), e = .returned (.slice Ao no co) ∧ w'.ownsRow w.heap.size 9 1 (.slice Ao no co) no ((sortS l).map .string) ∧ (sortS l).length = no ∧ no ≤ n ∧ Kp [] w w' := by
  obtain ⟨i0, hi, hz0, hz1, hz2⟩ := info_parts Tryd.info_str12
  have HX := Lib.hid hx
  have HB := Lib.hid hB
  have HN := Lib.hid hn; clear hn
  clear hx hB
  go_enter Tryd.func7, Tryd.ntmps7
  go_wp2_with fail
  go_loopw [3, 4] (fun v x wr => ∃ (k no co : Nat) (Ao : Option Addr), x = .int .i64 (k : Int) ∧ v = .slice Ao no co ∧ k ≤ n ∧ no ≤ k ∧ Hid (wr.ownsRow w.heap.size 9 1 (.slice Ao no co) no ((sortS (l.take k)).map .string)) ∧ Hid ((sortS (l.take k)).length = no) ∧ Hid (Kp [] w wr)) (fun _ x _ => n - (intOf x).toNat)
  case atStart => exact ⟨0, 0, 0, none, rfl, rfl, by omega, by omega, Lib.hid (World.ownsRow_nil _ _ _ 1), Lib.hid rfl, Lib.hid (Kp.refl _ _)⟩
  case round =>
    obtain ⟨k, no, co, Ao, rfl, rfl, hk, hno, HO, HL, HK⟩ := hrel
    by_cases hlt : k < n
    · obtain ⟨s, ad, hsk, rfl, hab, hcs⟩ := (HX.out.kp0 HK.out).str (k := k) (by rw [HN.out]; exact hlt)
      obtain ⟨L, hLD⟩ : ∃ L, sortS (l.take k) = L := ⟨_, rfl⟩
      rw [hLD] at HO HL
      have HLD := Lib.hid hLD
      have HSK := Lib.hid hsk
      obtain ⟨_, _, hfo, hoc, hocm, _⟩ := own_form HO.out
      injection hfo with f1 f2 f3
      subst f3
      have hi0 : (0 : Int) ≤ (k : Int) := by omega
      have hi1 : (k : Int) < (n : Int) := by omega
      clear hsk hab f1 f2 hLD
      go_upto_block 2 with (fail)
      go_cut [5] (fun s5 wx => ∃ j : Nat, s5 = .int .i64 (j : Int) ∧ j ≤ no ∧ Hid (findN L s = j) ∧ Hid (Kp [] wr wx))
      case first =>
        go_wp2_with fail
        go_loopw [5] (fun x wq => ∃ j : Nat, x = .int .i64 (j : Int) ∧ j ≤ no ∧ Hid (j ≤ findN L s) ∧ Hid (Kp [] wr wq)) (fun x _ => no - (intOf x).toNat)
        case atStart => exact ⟨0, rfl, by omega, Lib.hid (Nat.zero_le _), Lib.hid (Kp.refl _ _)⟩
        case round =>
          obtain ⟨j, rfl, hj, HLE, HKQ⟩ := hrel
          by_cases hjn : j < no
          · obtain ⟨t, ao, htk, rfl, _, hct⟩ := ((own_rd HO.out).kp0 HKQ.out).str (k := j) (by rw [HL.out]; exact hjn)
            have hcs1 := HKQ.out.cell hcs (by simp)
            have HST := Lib.hid (findN_step HLE.out htk)
            have hj0 : (0 : Int) ≤ (j : Int) := by omega
            have hj1 : (j : Int) < (no : Int) := by omega
            have HLT := Lib.hid (less_txt t s)
            clear htk hcs
            cases hxx : lexN (txt t) (txt s) with
            | true =>
              have hl : Op.bytesLess t.toList s.toList = true := by rw [HLT.out, hxx]
              have HLE2 := Lib.hid (HST.out.1 hxx)
              clear hxx
              go_wp2_with fail
              go_quiet (fail)
              go_wp2_with fail
              exact ⟨⟨j + 1, by go_num, by omega, HLE2, Lib.hid (HKQ.out.drewN _)⟩, by simp [intOf]; omega⟩
            | false =>
              have hl : Op.bytesLess t.toList s.toList = false := by rw [HLT.out, hxx]
              have HLE2 := Lib.hid (HST.out.2 hxx)
              clear hxx
              go_wp2_with fail
              go_quiet (fail)
              go_wp2_with fail
              go_meet
              exact ⟨j, rfl, hj, HLE2, Lib.hid (HKQ.out.drewN _)⟩
          · obtain rfl : no = j := by omega
            have HLE2 := Lib.hid (show findN L s = no from Nat.le_antisymm (by have := findN_le L s; rwa [HL.out] at this) HLE.out)
            clear hjn hcs
            go_wp2_with fail
            go_quiet (fail)
            go_wp2_with fail
            go_meet
            exact ⟨no, rfl, Nat.le_refl _, HLE2, Lib.hid (HKQ.out.drewN _)⟩
      case rest =>
        obtain ⟨j, rfl, hj, HJ, HKQ⟩ := hcut
        have HKC := Lib.hid (HK.out.trans HKQ.out)
        have hcs1 := HKQ.out.cell hcs (by simp)
        replace HO := Lib.hid (own_kp0 HO.out HKQ.out)
        replace HX := Lib.hid ((HX.out.kp0 HK.out).kp0 HKQ.out)
        clear hcs HKQ HK
        have hj0 : (0 : Int) ≤ (j : Int) := by omega
        have hjn0 : (j : Int) ≤ (no : Int) := by omega
        have hjc : j ≤ co := by omega
        have hjc0 : (j : Int) ≤ (co : Int) := by omega
        obtain ⟨F, hF⟩ : ∃ F, isF L s = F := ⟨_, rfl⟩
        have HF := Lib.hid hF
        clear hF
        by_cases hjn : j < no
        · obtain ⟨t, ao, htk, rfl, _, hct⟩ := (own_rd HO.out).str (k := j) (by rw [HL.out]; exact hjn)
          have hj1 : (j : Int) < (no : Int) := by omega
          have HFT := Lib.hid (show F = decide (t = s) from by rw [← HF.out]; unfold isF; rw [HJ.out, htk]; simp)
          clear htk
          by_cases hts : t = s
          · subst hts
            have HNEW := Lib.hid (show sortS (l.take (k + 1)) = L from by rw [sort_take HSK.out, HLD.out]; unfold insS; rw [if_pos (by rw [HF.out, HFT.out]; simp)])
            go_wp2_with fail
            go_quiet (fail)
            go_wp2_with fail
            exact ⟨⟨k + 1, no, co, some ao, by go_num, rfl, by omega, by omega, Lib.hid (by rw [HNEW.out]; exact own_kp0 HO.out ((Kp.refl _ _).drewN _)), Lib.hid (by rw [HNEW.out]; exact HL.out), Lib.hid (HKC.out.drewN _)⟩, by simp [intOf]; omega⟩
          · have hee := str_eq_false hts
            have HNF := Lib.hid (show isF L s = false from by rw [HF.out, HFT.out]; exact decide_eq_false hts)
            clear hts
            go_wp2_with fail
            go_quiet (fail)
            have hcs2 : (wc.drewN nq).cell? (ad.add k) = some (.string s) := hcs1
            have hk9 : Kp [] wc (wc.drewN nq) := (Kp.refl _ _).drewN nq
            generalize wc.drewN nq = w' at hcs2 hk9 ⊢
            have HK2 := Lib.hid (HKC.out.trans hk9)
            replace HO := Lib.hid (own_kp0 HO.out hk9)
            clear HKC hct hjn hj1 hcs1 hk9
            go_wp2_with fail
            generalize (some ao : Option Addr) = Ao at HO ⊢
            have HCUT := Lib.hid (cutS (own_rd HO.out) HL.out hj hoc)
            have HTK := Lib.hid (takeS (own_rd HO.out) j)
            obtain ⟨nj, hnj⟩ : ∃ nj, no - j = nj := ⟨_, rfl⟩
            have HDL := Lib.hid (show (L.drop j).length = nj by rw [List.length_drop, HL.out, hnj])
            have HTL := Lib.hid (show (L.take j).length = j by rw [List.length_take, HL.out]; omega)
            have HSZ := Lib.hid HK2.out.size
            have hnjb : nj ≤ 100000 := by omega
            go_region_law
              ((refine step_append_rd rfl (.tmp 49) (.tmp 52) 22 rfl w.heap.size 9 i0 (.string ⟨#[]⟩) 1 16 Tryd.underlying22 hi hz0 hz1 hz2 rfl (by decide) (.slice (some ⟨_, 0, none⟩) 1 1) 1 [.string s] (by rfl) (own_oneS _ _ _ _ HSZ.out) _ _ nj (co - j) ((L.drop j).map .string) (by rfl) (by rw [List.length_map, HDL.out, Nat.mul_one]) (HCUT.out.kp0 (show Kp [] w' _ from by first | exact ((Kp.refl _ _).alloc _) | exact ((Kp.refl _ _).drew.alloc _))) (ocS _) (by unfold maxLen; omega) (by omega) (Nat.le_trans HSZ.out (by simp)) ?_; intro v3 w3 hown3 hgrow3 hat3; generalize (if co = j then Ao else Option.map (fun x => x.add j) Ao) = Ac; obtain ⟨A3, c3, rfl, _⟩ := own_form hown3; have hk3 : Kp [] w' w3 := (show Kp [] w' _ from by first | exact ((Kp.refl _ _).alloc _) | exact ((Kp.refl _ _).drew.alloc _)).grown hgrow3 (fun x hx => .inr (by simp [Value.ownBlock] at hx; omega)); have HO3 := Lib.hid hown3; have HK3 := Lib.hid hk3; clear hown3 hgrow3 hat3 hk3))
            have HTK3 := Lib.hid (HTK.out.kp0 HK3.out)
            have HSZ3 := Lib.hid (Nat.le_trans HSZ.out HK3.out.size)
            have HKW := Lib.hid (HK2.out.trans HK3.out)
            have HL5 := Lib.hid (show (L.take j ++ s :: L.drop j).length = j + (1 + nj) by rw [List.length_append, HTL.out, List.length_cons, HDL.out]; omega)
            have HE5 := Lib.hid (show (L.take j).map Value.string ++ ([.string s] ++ (L.drop j).map .string) = (L.take j ++ s :: L.drop j).map .string by rw [List.map_append]; rfl)
            have hj1k : j + (1 + nj) ≤ k + 1 := by omega
            have HLN := Lib.hid (show ([.string s] ++ (L.drop j).map .string : List Value).length = (1 + nj) * 1 by rw [List.length_append, List.length_map, HDL.out]; simp)
            have HNEW := Lib.hid (show sortS (l.take (k + 1)) = L.take j ++ s :: L.drop j by rw [sort_take HSK.out, HLD.out]; unfold insS; rw [if_neg (by rw [HNF.out]; simp), HJ.out])
            clear HCUT HTK HK2 HSZ HO HDL hnj
            go_wp2_with first
              | (at_builtin; refine wpList_append_rd rfl (.tmp 54) (.tmp 57) 22 rfl w3.heap.size 9 i0 (.string ⟨#[]⟩) 1 16 Tryd.underlying22 hi hz0 hz1 hz2 rfl (by decide) (.slice (some ⟨w3.heap.size, 0, none⟩) 0 0) 0 [] rfl (own_nilS w3 w3.heap.size _ 1 (Nat.le_refl _)) _ _ j co ((L.take j).map .string) rfl (by rw [List.length_map, HTL.out, Nat.mul_one]) (HTK3.out.kp0 ((Kp.refl [] _).alloc _)) (ocS _) (by unfold maxLen; omega) (by omega) (by simp) ?_; intro v4 w4 hown4 hgrow4 hat4
                 rw [Nat.zero_add, List.nil_append] at hown4
                 obtain ⟨A4, c4, rfl, _⟩ := own_form hown4
                 have hk4 : Kp [] w3 w4 := ((Kp.refl [] w3).alloc _).grown hgrow4 (fun x hx => .inr (by simp [Value.ownBlock] at hx; omega))
                 have HO4 := Lib.hid (own_base hown4 HSZ3.out)
                 have HR4 := Lib.hid ((own_rd HO3.out).kp0 hk4)
                 have HK4 := Lib.hid (HKW.out.trans hk4)
                 have HSZ4 := Lib.hid (Nat.le_trans HSZ3.out hk4.size)
                 clear hown4 hgrow4 hat4 hk4)
              | (at_builtin; refine wpList_append_rd rfl (.tmp 58) (.tmp 59) 22 rfl w.heap.size 9 i0 (.string ⟨#[]⟩) 1 16 Tryd.underlying22 hi hz0 hz1 hz2 rfl (by decide) (.slice A4 j c4) j _ rfl HO4.out _ _ (1 + nj) c3 _ rfl HLN.out HR4.out (by intro u hu; rcases List.mem_append.1 hu with hu | hu; simp at hu; subst hu; rfl; exact ocS _ u hu) (by unfold maxLen; omega) (by omega) HSZ4.out ?_; intro v5 w5 hown5 hgrow5 hat5
                 obtain ⟨A5, c5, rfl, _⟩ := own_form hown5
                 have hk5 : Kp [] w w5 := HK4.out.grown hgrow5 (fun x hx => .inr (own_ge HO4.out hx).1)
                 rw [HE5.out, ← HNEW.out] at hown5
                 rw [← HNEW.out] at HL5
                 have HO5 := Lib.hid hown5
                 have HK5 := Lib.hid hk5
                 clear hown5 hgrow5 hat5 hk5)
            exact ⟨⟨k + 1, j + (1 + nj), c5, A5, by go_num, rfl, by omega, hj1k, HO5, HL5, HK5⟩, by simp [intOf]; omega⟩
        · obtain rfl : no = j := by omega
          have HNF := Lib.hid (show isF L s = false from by unfold isF; rw [HJ.out, List.getElem?_eq_none (by rw [HL.out]; exact Nat.le_refl _)]; simp)
          go_wp2_with fail
          go_quiet (fail)
          have hcs2 : (wc.drewN nq).cell? (ad.add k) = some (.string s) := hcs1
          have hk9 : Kp [] wc (wc.drewN nq) := (Kp.refl _ _).drewN nq
          generalize wc.drewN nq = w' at hcs2 hk9 ⊢
          have HK2 := Lib.hid (HKC.out.trans hk9)
          replace HO := Lib.hid (own_kp0 HO.out hk9)
          clear HKC hjn hcs1 hk9
          go_wp2_with fail
          have HCUT := Lib.hid (cutS (own_rd HO.out) HL.out hj hoc)
          have HTK := Lib.hid (takeS (own_rd HO.out) no)
          obtain ⟨nj, hnj⟩ : ∃ nj, no - no = nj := ⟨_, rfl⟩
          have HDL := Lib.hid (show (L.drop no).length = nj by rw [List.length_drop, HL.out, hnj])
          have HTL := Lib.hid (show (L.take no).length = no by rw [List.length_take, HL.out]; omega)
          have HSZ := Lib.hid HK2.out.size
          have hnjb : nj ≤ 100000 := by omega
          go_region_law
            ((refine step_append_rd rfl (.tmp 49) (.tmp 52) 22 rfl w.heap.size 9 i0 (.string ⟨#[]⟩) 1 16 Tryd.underlying22 hi hz0 hz1 hz2 rfl (by decide) (.slice (some ⟨_, 0, none⟩) 1 1) 1 [.string s] (by rfl) (own_oneS _ _ _ _ HSZ.out) _ _ nj (co - no) ((L.drop no).map .string) (by rfl) (by rw [List.length_map, HDL.out, Nat.mul_one]) (HCUT.out.kp0 (show Kp [] w' _ from by first | exact ((Kp.refl _ _).alloc _) | exact ((Kp.refl _ _).drew.alloc _))) (ocS _) (by unfold maxLen; omega) (by omega) (Nat.le_trans HSZ.out (by simp)) ?_; intro v3 w3 hown3 hgrow3 hat3; generalize (if co = no then Ao else Option.map (fun x => x.add no) Ao) = Ac; obtain ⟨A3, c3, rfl, _⟩ := own_form hown3; have hk3 : Kp [] w' w3 := (show Kp [] w' _ from by first | exact ((Kp.refl _ _).alloc _) | exact ((Kp.refl _ _).drew.alloc _)).grown hgrow3 (fun x hx => .inr (by simp [Value.ownBlock] at hx; omega)); have HO3 := Lib.hid hown3; have HK3 := Lib.hid hk3; clear hown3 hgrow3 hat3 hk3))
          have HTK3 := Lib.hid (HTK.out.kp0 HK3.out)
          have HSZ3 := Lib.hid (Nat.le_trans HSZ.out HK3.out.size)
          have HKW := Lib.hid (HK2.out.trans HK3.out)
          have HL5 := Lib.hid (show (L.take no ++ s :: L.drop no).length = no + (1 + nj) by rw [List.length_append, HTL.out, List.length_cons, HDL.out]; omega)
          have HE5 := Lib.hid (show (L.take no).map Value.string ++ ([.string s] ++ (L.drop no).map .string) = (L.take no ++ s :: L.drop no).map .string by rw [List.map_append]; rfl)
          have hj1k : no + (1 + nj) ≤ k + 1 := by omega
          have HLN := Lib.hid (show ([.string s] ++ (L.drop no).map .string : List Value).length = (1 + nj) * 1 by rw [List.length_append, List.length_map, HDL.out]; simp)
          have HNEW := Lib.hid (show sortS (l.take (k + 1)) = L.take no ++ s :: L.drop no by rw [sort_take HSK.out, HLD.out]; unfold insS; rw [if_neg (by rw [HNF.out]; simp), HJ.out])
          clear HCUT HTK HK2 HSZ HO HDL hnj
          go_wp2_with first
            | (at_builtin; refine wpList_append_rd rfl (.tmp 54) (.tmp 57) 22 rfl w3.heap.size 9 i0 (.string ⟨#[]⟩) 1 16 Tryd.underlying22 hi hz0 hz1 hz2 rfl (by decide) (.slice (some ⟨w3.heap.size, 0, none⟩) 0 0) 0 [] rfl (own_nilS w3 w3.heap.size _ 1 (Nat.le_refl _)) _ _ no co ((L.take no).map .string) rfl (by rw [List.length_map, HTL.out, Nat.mul_one]) (HTK3.out.kp0 ((Kp.refl [] _).alloc _)) (ocS _) (by unfold maxLen; omega) (by omega) (by simp) ?_; intro v4 w4 hown4 hgrow4 hat4
               rw [Nat.zero_add, List.nil_append] at hown4
               obtain ⟨A4, c4, rfl, _⟩ := own_form hown4
               have hk4 : Kp [] w3 w4 := ((Kp.refl [] w3).alloc _).grown hgrow4 (fun x hx => .inr (by simp [Value.ownBlock] at hx; omega))
               have HO4 := Lib.hid (own_base hown4 HSZ3.out)
               have HR4 := Lib.hid ((own_rd HO3.out).kp0 hk4)
               have HK4 := Lib.hid (HKW.out.trans hk4)
               have HSZ4 := Lib.hid (Nat.le_trans HSZ3.out hk4.size)
               clear hown4 hgrow4 hat4 hk4)
            | (at_builtin; refine wpList_append_rd rfl (.tmp 58) (.tmp 59) 22 rfl w.heap.size 9 i0 (.string ⟨#[]⟩) 1 16 Tryd.underlying22 hi hz0 hz1 hz2 rfl (by decide) (.slice A4 no c4) no _ rfl HO4.out _ _ (1 + nj) c3 _ rfl HLN.out HR4.out (by intro u hu; rcases List.mem_append.1 hu with hu | hu; simp at hu; subst hu; rfl; exact ocS _ u hu) (by unfold maxLen; omega) (by omega) HSZ4.out ?_; intro v5 w5 hown5 hgrow5 hat5
               obtain ⟨A5, c5, rfl, _⟩ := own_form hown5
               have hk5 : Kp [] w w5 := HK4.out.grown hgrow5 (fun x hx => .inr (own_ge HO4.out hx).1)
               rw [HE5.out, ← HNEW.out] at hown5
               rw [← HNEW.out] at HL5
               have HO5 := Lib.hid hown5
               have HK5 := Lib.hid hk5
               clear hown5 hgrow5 hat5 hk5)
          exact ⟨⟨k + 1, no + (1 + nj), c5, A5, by go_num, rfl, by omega, hj1k, HO5, HL5, HK5⟩, by simp [intOf]; omega⟩
    · obtain rfl : k = n := by omega
      have HEND := Lib.hid (show wr.ownsRow w.heap.size 9 1 (.slice Ao no co) no ((sortS l).map .string) ∧ (sortS l).length = no from by
        have h1 := HO.out
        have h2 := HL.out
        rw [List.take_of_length_le (by rw [HN.out]; exact Nat.le_refl _)] at h1 h2
        exact ⟨h1, h2⟩)
      clear HO HL
      go_wp2_with fail
      go_ret
      exact ⟨Ao, no, co, rfl, HEND.out.1, HEND.out.2, hno, HK.out⟩
end Go.Proofs.YtlaionhlejmjdaaDoor
