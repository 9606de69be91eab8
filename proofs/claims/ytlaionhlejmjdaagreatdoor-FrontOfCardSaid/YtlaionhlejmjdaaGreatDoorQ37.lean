/-
  LAYER 6's REFERENCE: Word, Bits, at.
  LAYER 6's REFERENCE: Bits: a text's words.
  CONDITIONS: as each lemma says.
-/
import Derived.Test.YtlaionhlejmjdaaGreatDoorQ28
import Derived.Test.YtlaionhlejmjdaaGreatDoorQ32
import Derived.Test.YtlaionhlejmjdaaGreatDoorQ36
namespace Go.Proofs.YtlaionhlejmjdaaGreatDoor
open Go.RowKit

/-- The word at a place. -/
theorem words_get {T : CT} {sg : List Nat} {ls : List Int} (h : CodeT T sg ls) {i s : Nat} (hs : sg[i]? = some s) : s < 257 ∧ ∃ u, T.word s = some u ∧ (wordsT T)[i]? = some u ∧ T.sub u = .leaf s ∧ 1 ≤ u.length ∧ u.length ≤ 256 := by
  obtain ⟨u, h1, h2, _⟩ := word_at h hs
  have hb := h.2.2.2.1 s (List.mem_of_getElem? hs)
  refine ⟨by omega, u, h1, by unfold wordsT; rw [List.getElem?_map, h2]; rfl, (word_sub h).1 h1, ?_, word_len h h1⟩
  exact List.length_pos_iff.2 (word_ne h h1)
theorem sub_words {T : CT} {l : List Bool} {s : Nat} (hl : T.sub l = .leaf s) : l ∈ wordsT T := by
  have hm : (s, l) ∈ T.al [] := mem_al.2 ⟨l, rfl, hl⟩
  exact List.mem_map.2 ⟨_, hm, rfl⟩
theorem WRow.get {w : World} {P : Nat → Prop} {hi : Nat} {ws : List (List Bool)} {l : List Value} {B : Nat} {A : Addr} (h : WRow w P hi ws l) (hr : Rd w B (some A) l) {i : Nat} {u : List Bool} (hu : ws[i]? = some u) :
    ∃ (ad : Addr) (c : Nat), w.cell? (A.add i) = some (.slice (some ad) u.length c) ∧ u.length ≤ c ∧ P ad.block ∧ ad.block < hi ∧ Rd w hi (some ad) (u.map .bool) := by
  obtain ⟨ad, c, h1, h2, h3, h4, h5⟩ := h.2 i u hu
  obtain ⟨a2, e1, _, e2⟩ := hr.at_ h1
  injection e1 with e1
  subst e1
  exact ⟨ad, c, e2, h2, h3, h4, h5⟩
theorem natRr {w : World} {B : Nat} {A : Option Addr} {sg : List Nat} (h : Rd w B A (sg.map fun (x : Nat) => .int .i64 (x : Int))) {k : Nat} (hk : k < sg.length) : ∃ s ad, sg[k]? = some s ∧ A = some ad ∧ ad.block < B ∧ w.cell? (ad.add k) = some (.int .i64 (s : Int)) := by
  obtain ⟨ad, h1, h2, h3⟩ := h.at_ (i := k) (u := .int .i64 (sg[k] : Int)) (by rw [List.getElem?_map, List.getElem?_eq_getElem hk]; rfl)
  exact ⟨_, ad, List.getElem?_eq_getElem hk, h1, h2, h3⟩
set_option maxRecDepth 100000 in
set_option maxHeartbeats 4000000 in
theorem rword_any (lo hi p : Nat) (k : Int) (T : CT) (sg : List Nat) (ls : List Int) (w : World) (h : RCode w lo hi p T sg ls) :
    Calls Tryz.prog 85 #[.pointer (some ⟨p, 0, none⟩), .int .i64 k] w fun e w' => (∃ v, e = .returned v ∧ WordV w (fun g => lo ≤ g) hi (wdI T k) v) ∧ w = w' := by
  obtain ⟨n, A1, A2, A3, c1, c2, c3, l, hn, hsl, hwn, q0, _, q2, hc1, _, hc3, r1, _, r3, hw⟩ := h.cells
  have hnb : n ≤ 257 := by rw [hn]; exact codeT_len h.1
  have HR1 := Lib.hid r1
  have HR3 := Lib.hid r3
  have HW := Lib.hid hw
  have HN := Lib.hid hn
  have HT := Lib.hid h.1
  clear h r1 r3 hw hn hsl hwn
  go_enter Tryz.func85, Tryz.ntmps85
  go_wp2_with fail
  go_loopw [5] (fun i wr => ∃ j : Nat, i = .int .i64 (j : Int) ∧ j ≤ n ∧ Hid (∀ i s, i < j → sg[i]? = some s → (s : Int) ≠ k) ∧ w = wr) (fun i _ => n - (intOf i).toNat)
  case atStart => exact ⟨0, rfl, by omega, Lib.hid (fun i s hi => by omega), rfl⟩
  case round =>
    obtain ⟨j, rfl, hj, HA, rfl⟩ := hrel
    by_cases hlt : j < n
    · obtain ⟨s, ad, hs, e, _, hcs⟩ := natRr HR1.out (k := j) (by rw [← HN.out]; exact hlt)
      injection e with e
      subst e
      obtain ⟨hs7, u, hu1, hu2, hu3, hu4, hu5⟩ := words_get HT.out hs
      obtain ⟨ad, cu, hcu, hle, hP, hhi, hru⟩ := HW.out.get HR3.out hu2
      have hb0 : (0 : Int) ≤ (j : Int) := by omega
      have hb1 : (j : Int) < (n : Int) := by omega
      by_cases hk : (s : Int) = k
      · subst hk
        have HV := Lib.hid (show WordV w (fun g => lo ≤ g) hi (wdI T (s : Int)) (.slice (some ad) u.length cu) from by
          unfold wdI
          rw [if_pos (by omega), Int.toNat_natCast, hu1]
          exact ⟨ad, cu, rfl, hle, hP, hhi, hru⟩)
        obtain ⟨nu, hnu⟩ : ∃ nu, nu = u.length := ⟨_, rfl⟩
        rw [← hnu] at hcu HV
        clear hs hu1 hu2 hu3 hnu hru hu4 hu5 hle hP hhi
        go_wp2_with fail
        go_ret
        exact ⟨⟨_, rfl, HV.out⟩, rfl⟩
      · have hkd : ((s : Int) == k) = false := by simpa using hk
        have HA2 := Lib.hid (show ∀ i s, i < j + 1 → sg[i]? = some s → (s : Int) ≠ k from fun i s' hi hs' => by
          by_cases hij : i = j
          · subst hij
            rw [hs] at hs'
            injection hs' with hs'
            subst hs'
            exact hk
          · exact HA.out i s' (by omega) hs')
        clear hs hu1 hu2 hu3 hru hu4 hu5 hle hP hhi hk hcu
        go_wp2_with fail
        exact ⟨⟨j + 1, by go_num, by omega, HA2, trivial⟩, by simp [intOf]; omega⟩
    · obtain rfl : j = n := by omega
      have HV := Lib.hid (show wdI T k = none from by
        unfold wdI
        split
        · rename_i hk
          refine word_none HT.out (fun hm => ?_)
          obtain ⟨i, hi, he⟩ := List.getElem_of_mem hm
          exact HA.out i k.toNat (by rw [HN.out]; exact hi) (by rw [List.getElem?_eq_getElem hi, he]) (by omega)
        · rfl)
      go_wp2_with fail
      go_ret
      exact ⟨⟨_, rfl, by rw [HV.out]; rfl⟩, rfl⟩
def atV (T : CT) (l : List Bool) : Int := match T.sub l with | .leaf s => (s : Int) | _ => -1
set_option maxRecDepth 100000 in
set_option maxHeartbeats 4000000 in
theorem rat6_any (lo hi p nl cl B : Nat) (Al : Option Addr) (l : List Bool) (T : CT) (sg : List Nat) (ls : List Int) (w : World) (h : RCode w lo hi p T sg ls) (hx : Rd w B Al (l.map .bool)) (hn : l.length = nl) (hb : nl ≤ 1000000000) :
    Calls Tryz.prog 94 #[.pointer (some ⟨p, 0, none⟩), .slice Al nl cl] w fun e w' => e = .returned (.int .i64 (atV T l)) ∧ Dr w w' := by
  obtain ⟨n, A1, A2, A3, c1, c2, c3, lw, hsn, hsl, hwn, q0, _, q2, hc1, _, hc3, r1, _, r3, hw⟩ := h.cells
  have hnb : n ≤ 257 := by rw [hsn]; exact codeT_len h.1
  have HR1 := Lib.hid r1
  have HR3 := Lib.hid r3
  have HW := Lib.hid hw
  have HSN := Lib.hid hsn
  have HWN := Lib.hid hwn
  have HT := Lib.hid h.1
  have HX := Lib.hid hx
  have HN := Lib.hid hn
  have Q0 := Lib.hid q0
  have Q2 := Lib.hid q2
  clear h r1 r3 hw hsn hsl hwn hx hn q0 q2
  go_enter Tryz.func94, Tryz.ntmps94
  go_wp2_with fail
  go_loopw [5] (fun i wr => ∃ j : Nat, i = .int .i64 (j : Int) ∧ j ≤ n ∧ Hid (∀ i u, i < j → (wordsT T)[i]? = some u → u ≠ l) ∧ Dr w wr) (fun i _ => n - (intOf i).toNat)
  case atStart => exact ⟨0, rfl, by omega, Lib.hid (fun i s hi => by omega), Dr.refl w⟩
  case round =>
    obtain ⟨j, rfl, hj, HA, hd⟩ := hrel
    have hkd := hd.kp []
    have q0 := hkd.cell Q0.out (by simp)
    have q2 := hkd.cell Q2.out (by simp)
    by_cases hlt : j < n
    · obtain ⟨s, ad1, hs, e, _, hcs⟩ := natRr (HR1.out.kp0 hkd) (k := j) (by rw [← HSN.out]; exact hlt)
      injection e with e
      subst e
      obtain ⟨hs7, u, hu1, hu2, hu3, hu4, hu5⟩ := words_get HT.out hs
      obtain ⟨ad, cu, hcu, hle, _, _, hru⟩ := (HW.out.kp hkd (by simp)).get (HR3.out.kp0 hkd) hu2
      have HU2 := Lib.hid hu2
      have HU3 := Lib.hid hu3
      have HRU := Lib.hid hru
      obtain ⟨nu, hnu⟩ : ∃ nu, u.length = nu := ⟨_, rfl⟩
      rw [hnu] at hcu hle hu5
      have HNU := Lib.hid hnu
      have hb0 : (0 : Int) ≤ (j : Int) := by omega
      have hb1 : (j : Int) < (n : Int) := by omega
      clear hu1 hu2 hu3 hu4 hru hnu hs hkd
      obtain ⟨wj, rfl⟩ : ∃ wj, wj = wr := ⟨_, rfl⟩
      have hdd := hd
      have HD := Lib.hid hdd
      clear hdd hd
      obtain ⟨d0, hd0⟩ : ∃ d0, d0 = decide (nu = nl) := ⟨_, rfl⟩
      have HEQ : ((nu : Int) == (nl : Int)) = d0 := by
        rw [hd0]
        by_cases h : nu = nl
        · subst h; simp
        · have h2 : (nu : Int) ≠ (nl : Int) := by omega
          rw [decide_eq_false h]
          simpa using h2
      have HD0 := Lib.hid hd0
      clear hd0
      go_wp2_with fail
      go_loopw [6, 7] (fun b i wr => ∃ (k : Nat) (d : Bool), i = .int .i64 (k : Int) ∧ b = .bool d ∧ k ≤ nl ∧ Hid (d = true → nu = nl ∧ u.take k = l.take k) ∧ Hid (d = false → u ≠ l) ∧ Dr wj wr) (fun _ i _ => nl - (intOf i).toNat)
      case atStart => exact ⟨0, d0, rfl, rfl, by omega, Lib.hid (fun h => ⟨of_decide_eq_true (HD0.out ▸ h), by simp⟩), Lib.hid (fun h e => by have := of_decide_eq_false (HD0.out ▸ h); rw [e, HN.out] at HNU; exact this HNU.out.symm), Dr.refl _⟩
      case round =>
        clear HEQ
        obtain ⟨k, d, rfl, rfl, hk, HD1, HD2, hdk⟩ := hrel
        have hkk := hdk.kp []
        have q2k := hkk.cell q2 (by simp)
        have q0k := hkk.cell q0 (by simp)
        have hcuk := hkk.cell hcu (by simp)
        have hcsk := hkk.cell hcs (by simp)
        cases d with
        | true =>
          obtain ⟨rfl, htk⟩ := HD1.out rfl
          by_cases hkl : k < nu
          · obtain ⟨x, ad9, hxk, e9, _, hcx⟩ := (HRU.out.kp0 hkk).bl (k := k) (by rw [HNU.out]; exact hkl)
            injection e9 with e9
            subst e9
            obtain ⟨y, bd, hyk, rfl, _, hcy⟩ := (HX.out.kp0 (HD.out.kp [] |>.trans hkk)).bl (k := k) (by rw [HN.out]; exact hkl)
            have hkb0 : (0 : Int) ≤ (k : Int) := by omega
            have hkb1 : (k : Int) < (nu : Int) := by omega
            have HE := Lib.hid (show (x == y) = true → nu = nu ∧ u.take (k + 1) = l.take (k + 1) from fun e => ⟨rfl, by rw [take_succ_of hxk, take_succ_of hyk, htk, eq_of_beq e]⟩)
            have HE2 := Lib.hid (show (x == y) = false → u ≠ l from fun e e2 => by
              rw [e2, hyk] at hxk
              injection hxk with hxk
              subst hxk
              simp at e)
            clear htk hxk hyk hkk
            go_wp2_with fail
            go_quiet (fail)
            go_wp2_with fail
            go_roundw
            case rel => exact ⟨k + 1, x == y, by go_num, rfl, by omega, HE, HE2, hdk.drewN _⟩
            case measure => simp [intOf]; omega
          · obtain rfl : k = nu := by omega
            have HUL := Lib.hid (show u = l from by
              rwa [List.take_of_length_le (by rw [HNU.out]; exact Nat.le_refl _), List.take_of_length_le (by rw [HN.out]; exact Nat.le_refl _)] at htk)
            have HAT := Lib.hid (show atV T l = (s : Int) from by unfold atV; rw [← HUL.out, HU3.out])
            have HDE := Lib.hid (show Dr w wr from HD.out.trans hdk)
            clear htk hkk
            go_wp2_with fail
            go_ret
            exact ⟨by rw [HAT.out]; rfl, HDE.out⟩
        | false =>
          have HA2 := Lib.hid (show ∀ i u, i < j + 1 → (wordsT T)[i]? = some u → u ≠ l from fun i u' hi hu' => by
            by_cases hij : i = j
            · subst hij
              rw [HU2.out] at hu'
              injection hu' with hu'
              subst hu'
              exact HD2.out rfl
            · exact HA.out i u' (by omega) hu')
          have HDE := Lib.hid (show Dr w wr from HD.out.trans hdk)
          clear hkk
          by_cases hkl : k < nl
          · have hkb1 : (k : Int) < (nl : Int) := by omega
            go_wp2_with fail
            exact ⟨⟨j + 1, by go_num, by omega, HA2, HDE.out⟩, by simp [intOf]; omega⟩
          · have hkb1 : ¬ (k : Int) < (nl : Int) := by omega
            go_wp2_with fail
            exact ⟨⟨j + 1, by go_num, by omega, HA2, HDE.out⟩, by simp [intOf]; omega⟩
    · obtain rfl : j = n := by omega
      have HV := Lib.hid (show atV T l = -1 from by
        unfold atV
        cases hsl : T.sub l with
        | leaf s =>
          obtain ⟨i, hi, he⟩ := List.getElem_of_mem (sub_words hsl)
          exact absurd rfl (HA.out i l (by rw [← HWN.out]; exact hi) (by rw [List.getElem?_eq_getElem hi, he]))
        | nil => rfl
        | node _ _ => rfl)
      go_wp2_with fail
      go_ret
      exact ⟨by rw [HV.out]; rfl, hd⟩
end Go.Proofs.YtlaionhlejmjdaaGreatDoor
namespace Go.Proofs.YtlaionhlejmjdaaGreatDoor
open Go.RowKit

theorem sgs_at {s : ByteArray} {k x : Nat} (h : (txt s)[k]? = some x) : (sgs (txt s))[k]? = some (x + 1) := by
  unfold sgs
  rw [List.getElem?_append_left (by rw [List.length_map]; exact (List.getElem?_eq_some_iff.1 h).1), List.getElem?_map, h]
  rfl
theorem sgs_end (s : ByteArray) : (sgs (txt s))[s.size]? = some 0 := by
  unfold sgs
  rw [List.getElem?_append_right (by rw [List.length_map, txt_len]; exact Nat.le_refl _), List.length_map, txt_len, Nat.sub_self]
  rfl
theorem sgs_len (s : ByteArray) : (sgs (txt s)).length = s.size + 1 := by unfold sgs; rw [List.length_append, List.length_map, txt_len]; rfl
set_option maxRecDepth 100000 in
set_option maxHeartbeats 4000000 in
theorem rbits6_any (lo hi p : Nat) (T : CT) (sg : List Nat) (ls : List Int) (s : ByteArray) (w : World) (h : RCode w lo hi p T sg ls) (hs : s.size ≤ 1000000) :
    Calls Tryz.prog 40 #[.pointer (some ⟨p, 0, none⟩), .string s] w (AllP w (encT T s)) := by
  obtain ⟨i0, hi0, hz0, hz1, hz2⟩ := info_parts Tryz.info_abool
  have HC := Lib.hid h
  clear h
  go_enter Tryz.func40, Tryz.ntmps40
  go_wp2_with fail
  go_loopw [6, 7] (fun v x wr => ∃ (k m c : Nat) (A : Option Addr) (r : List Bool), x = .int .i64 (k : Int) ∧ v = .slice A m c ∧ k ≤ s.size + 1 ∧ m ≤ 256 * k ∧ Hid (r.length = m) ∧ Hid (T.enc ((sgs (txt s)).take k) = some r) ∧ Hid (wr.ownsRow w.heap.size 4 1 (.slice A m c) m (r.map .bool)) ∧ Hid (Kp [] w wr)) (fun _ x _ => s.size + 1 - (intOf x).toNat)
  case atStart => exact ⟨0, 0, 0, none, [], rfl, rfl, by omega, by omega, Lib.hid rfl, Lib.hid (by simp [CT.enc]), Lib.hid (World.ownsRow_nil w _ _ _), Lib.hid (Kp.refl _ _)⟩
  case round =>
    obtain ⟨k, m, c, A, r, rfl, rfl, hk, hm, HR, HE, HO, HK⟩ := hrel
    have hk0 : (0 : Int) ≤ (k : Int) := by omega
    have hsm : s.size ≤ 9223372036854775807 := by omega
    have HZ := Lib.hid HK.out.size
    by_cases hlt : k < s.size
    · have HT := Lib.hid (txt_get s k hlt)
      obtain ⟨x, hx⟩ : ∃ x, s[k].toNat = x := ⟨_, rfl⟩
      have hx255 : x ≤ 255 := by rw [← hx]; have := s[k].toNat_lt; omega
      obtain ⟨y, hy⟩ : ∃ y, y = x + 1 := ⟨_, rfl⟩
      have HS := Lib.hid (show (sgs (txt s))[k]? = some y from by rw [hy]; exact sgs_at (show (txt s)[k]? = some x from by rw [HT.out, hx]))
      have hx0 : (0 : Int) ≤ (x : Int) := by omega
      have hx1 : (x : Int) ≤ 255 := by omega
      have hb1 : (k : Int) < (s.size : Int) := by omega
      have hb2 : (k : Int) ≤ (s.size : Int) := by omega
      have HY := Lib.hid (show wdI T (1 + (x : Int)) = T.word y from by unfold wdI; rw [if_pos (by omega)]; congr 1; omega)
      clear HT
      go_wp2_with fail
      refine (rword_any lo hi p (1 + (x : Int)) T sg ls wr (HC.out.kp0 HK.out)).mono ?_
      rintro e w2 ⟨⟨v, rfl, hv⟩, rfl⟩
      rw [HY.out] at hv
      cases ho : T.word y with
      | none =>
        rw [ho] at hv
        obtain rfl : v = .slice none 0 0 := hv
        have HN := Lib.hid (show encT T s = none from enc_none (s := y) (List.mem_of_getElem? HS.out) ho)
        clear ho
        go_wp2_with fail
        go_ret2
        rw [HN.out]
        exact ⟨⟨_, rfl⟩, HK.out⟩
      | some u =>
        rw [ho] at hv
        obtain ⟨ad, cc, rfl, hcc, hlo, hhi, hru⟩ := hv
        have hu := word_len HC.out.1 ho
        have hu1 := List.length_pos_iff.2 (word_ne HC.out.1 ho)
        have HEN := Lib.hid (show T.enc ((sgs (txt s)).take (k + 1)) = some (r ++ u) from by
          rw [take_succ_of HS.out]
          exact enc_snoc HE.out ho)
        obtain ⟨n, hn⟩ : ∃ n, n = u.length := ⟨_, rfl⟩
        rw [← hn] at hu hu1 hcc ⊢
        have HUN := Lib.hid hn
        have HRU := Lib.hid hru
        have hnz : ((n : Int) == 0) = false := by simp; omega
        clear hn hru hlo hhi ho
        go_wp2_with (at_builtin; go_loud (refine wpList_append_rd rfl (.tmp 31) (.tmp 32) 43 rfl w.heap.size 4 i0 (.bool false) 1 1 Tryz.underlying43 hi0 hz0 hz1 hz2 rfl (by decide) (.slice A m c) m _ rfl HO.out _ (some ad) n cc (u.map .bool) rfl (by rw [List.length_map, HUN.out, Nat.mul_one]) HRU.out (oc_bools _) (by unfold maxLen; omega) (by omega) HZ.out ?_); intro v3 w3 hown3 hgrow3 hat3; obtain ⟨A3, c3, rfl, _⟩ := own_form hown3)
        have HO3 := Lib.hid (show w3.ownsRow w.heap.size 4 1 (.slice A3 (m + n) c3) (m + n) ((r ++ u).map .bool) from by rw [List.map_append]; exact hown3)
        have HK3 := Lib.hid (HK.out.trans' ((Kp.refl _ _).grown hgrow3 (fun x hx => .inl (mem_ownL.2 hx))) (fun x hx => .inr (own_ge HO.out (mem_ownL.1 hx)).1))
        clear hown3 hgrow3 hat3
        exact ⟨⟨k + 1, m + n, c3, A3, r ++ u, by go_num, rfl, by omega, by omega, Lib.hid (by rw [List.length_append, HR.out, ← HUN.out]), HEN, HO3, HK3⟩, by first | (simp [intOf]; done) | (simp [intOf]; omega)⟩
    · by_cases hle : k = s.size
      · subst hle
        have HS := Lib.hid (sgs_end s)
        have HY := Lib.hid (show wdI T (0 : Int) = T.word 0 from by unfold wdI; rw [if_pos (by omega)]; rfl)
        have hb2 : ¬ (s.size : Int) < (s.size : Int) := by omega
        have hb3 : (s.size : Int) ≤ (s.size : Int) := by omega
        go_wp2_with fail
        refine (rword_any lo hi p (0 : Int) T sg ls wr (HC.out.kp0 HK.out)).mono ?_
        rintro e w2 ⟨⟨v, rfl, hv⟩, rfl⟩
        rw [HY.out] at hv
        cases ho : T.word 0 with
        | none =>
          rw [ho] at hv
          obtain rfl : v = .slice none 0 0 := hv
          have HN := Lib.hid (show encT T s = none from enc_none (s := 0) (List.mem_of_getElem? HS.out) ho)
          clear ho
          go_wp2_with fail
          go_ret2
          rw [HN.out]
          exact ⟨⟨_, rfl⟩, HK.out⟩
        | some u =>
          rw [ho] at hv
          obtain ⟨ad, cc, rfl, hcc, hlo, hhi, hru⟩ := hv
          have hu := word_len HC.out.1 ho
          have hu1 := List.length_pos_iff.2 (word_ne HC.out.1 ho)
          have HEN := Lib.hid (show T.enc ((sgs (txt s)).take (s.size + 1)) = some (r ++ u) from by
            rw [take_succ_of HS.out]
            exact enc_snoc HE.out ho)
          obtain ⟨n, hn⟩ : ∃ n, n = u.length := ⟨_, rfl⟩
          rw [← hn] at hu hu1 hcc ⊢
          have HUN := Lib.hid hn
          have HRU := Lib.hid hru
          have hnz : ((n : Int) == 0) = false := by simp; omega
          clear hn hru hlo hhi ho
          go_wp2_with (at_builtin; go_loud (refine wpList_append_rd rfl (.tmp 31) (.tmp 32) 43 rfl w.heap.size 4 i0 (.bool false) 1 1 Tryz.underlying43 hi0 hz0 hz1 hz2 rfl (by decide) (.slice A m c) m _ rfl HO.out _ (some ad) n cc (u.map .bool) rfl (by rw [List.length_map, HUN.out, Nat.mul_one]) HRU.out (oc_bools _) (by unfold maxLen; omega) (by omega) HZ.out ?_); intro v3 w3 hown3 hgrow3 hat3; obtain ⟨A3, c3, rfl, _⟩ := own_form hown3)
          have HO3 := Lib.hid (show w3.ownsRow w.heap.size 4 1 (.slice A3 (m + n) c3) (m + n) ((r ++ u).map .bool) from by rw [List.map_append]; exact hown3)
          have HK3 := Lib.hid (HK.out.trans' ((Kp.refl _ _).grown hgrow3 (fun x hx => .inl (mem_ownL.2 hx))) (fun x hx => .inr (own_ge HO.out (mem_ownL.1 hx)).1))
          clear hown3 hgrow3 hat3
          exact ⟨⟨s.size + 1, m + n, c3, A3, r ++ u, by go_num, rfl, by omega, by omega, Lib.hid (by rw [List.length_append, HR.out, ← HUN.out]), HEN, HO3, HK3⟩, by first | (simp [intOf]; done) | (simp [intOf]; omega)⟩
      · obtain rfl : k = s.size + 1 := by omega
        have HN := Lib.hid (show encT T s = some r from by
          have := HE.out
          rwa [List.take_of_length_le (by rw [sgs_len]; exact Nat.le_refl _)] at this)
        have hb2 : ¬ (((s.size + 1 : Nat)) : Int) ≤ (s.size : Int) := by omega
        go_wp2_with fail
        go_ret2
        rw [HN.out]
        exact ⟨A, m, c, HR.out.symm, rfl, HO.out, HK.out⟩
end Go.Proofs.YtlaionhlejmjdaaGreatDoor
