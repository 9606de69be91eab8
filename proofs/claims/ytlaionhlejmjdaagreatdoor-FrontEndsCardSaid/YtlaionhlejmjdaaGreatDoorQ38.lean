/-
  LAYER 6's REFERENCE: Word, Bits, at.
  LAYER 6's REFERENCE: Bits: a text's words.
  LAYER 6's REFERENCE: Get: a text out of the document's reader's bits.
  CONDITIONS: as each lemma says.
-/
import Derived.Test.YtlaionhlejmjdaaGreatDoorQ29
import Derived.Test.YtlaionhlejmjdaaGreatDoorQ33
import Derived.Test.YtlaionhlejmjdaaGreatDoorQ37
import Derived.Test.YtlaionhlejmjdaaGreatDoorQ26
namespace Go.Proofs.YtlaionhlejmjdaaGreatDoor
open Go.RowKit

/-- The word at a place. -/
theorem words_get {T : CT} {sg : List Nat} {ls : List Int} (h : CodeT T sg ls) {i s : Nat} (hs : sg[i]? = some s) : s < 257 ∧ ∃ u, T.word s = some u ∧ (wordsT T)[i]? = some u ∧ T.sub u = .leaf s ∧ 1 ≤ u.length ∧ u.length ≤ 256 := by
  obtain ⟨u, h1, h2, _⟩ := word_at h hs
  have hb := h.2.2.2.1 s (List.mem_of_getElem? hs)
  refine ⟨by omega, u, h1, by unfold wordsT; rw [List.getElem?_map, h2]; rfl, (word_sub h).1 h1, ?_, word_len h h1⟩
  exact List.length_pos_iff.2 (word_ne h h1)
theorem sub_words {T : CT} {l : List Bool} {s : Nat} (hl : T.sub l = .leaf s) : l ∈ wordsT T := by
  have hm : (s, l) ∈ T.al [] := mem_al.2 ⟨l, rfl, hl⟩
  exact List.mem_map.2 ⟨_, hm, rfl⟩
theorem WRow.get {w : World} {P : Nat → Prop} {hi : Nat} {ws : List (List Bool)} {l : List Value} {B : Nat} {A : Addr} (h : WRow w P hi ws l) (hr : Rd w B (some A) l) {i : Nat} {u : List Bool} (hu : ws[i]? = some u) :
    ∃ (ad : Addr) (c : Nat), w.cell? (A.add i) = some (.slice (some ad) u.length c) ∧ u.length ≤ c ∧ P ad.block ∧ ad.block < hi ∧ Rd w hi (some ad) (u.map .bool) := by
  obtain ⟨ad, c, h1, h2, h3, h4, h5⟩ := h.2 i u hu
  obtain ⟨a2, e1, _, e2⟩ := hr.at_ h1
  injection e1 with e1
  subst e1
  exact ⟨ad, c, e2, h2, h3, h4, h5⟩
theorem natRr {w : World} {B : Nat} {A : Option Addr} {sg : List Nat} (h : Rd w B A (sg.map fun (x : Nat) => .int .i64 (x : Int))) {k : Nat} (hk : k < sg.length) : ∃ s ad, sg[k]? = some s ∧ A = some ad ∧ ad.block < B ∧ w.cell? (ad.add k) = some (.int .i64 (s : Int)) := by
  obtain ⟨ad, h1, h2, h3⟩ := h.at_ (i := k) (u := .int .i64 (sg[k] : Int)) (by rw [List.getElem?_map, List.getElem?_eq_getElem hk]; rfl)
  exact ⟨_, ad, List.getElem?_eq_getElem hk, h1, h2, h3⟩
set_option maxRecDepth 100000 in
set_option maxHeartbeats 4000000 in
theorem rword_any (lo hi p : Nat) (k : Int) (T : CT) (sg : List Nat) (ls : List Int) (w : World) (h : RCode w lo hi p T sg ls) :
    Calls Tryz.prog 85 #[.pointer (some ⟨p, 0, none⟩), .int .i64 k] w fun e w' => (∃ v, e = .returned v ∧ WordV w (fun g => lo ≤ g) hi (wdI T k) v) ∧ w = w' := by
  obtain ⟨n, A1, A2, A3, c1, c2, c3, l, hn, hsl, hwn, q0, _, q2, hc1, _, hc3, r1, _, r3, hw⟩ := h.cells
  have hnb : n ≤ 257 := by rw [hn]; exact codeT_len h.1
  have HR1 := Lib.hid r1
  have HR3 := Lib.hid r3
  have HW := Lib.hid hw
  have HN := Lib.hid hn
  have HT := Lib.hid h.1
  clear h r1 r3 hw hn hsl hwn
  go_enter Tryz.func85, Tryz.ntmps85
  go_wp2_with fail
  go_loopw [5] (fun i wr => ∃ j : Nat, i = .int .i64 (j : Int) ∧ j ≤ n ∧ Hid (∀ i s, i < j → sg[i]? = some s → (s : Int) ≠ k) ∧ w = wr) (fun i _ => n - (intOf i).toNat)
  case atStart => exact ⟨0, rfl, by omega, Lib.hid (fun i s hi => by omega), rfl⟩
  case round =>
    obtain ⟨j, rfl, hj, HA, rfl⟩ := hrel
    by_cases hlt : j < n
    · obtain ⟨s, ad, hs, e, _, hcs⟩ := natRr HR1.out (k := j) (by rw [← HN.out]; exact hlt)
      injection e with e
      subst e
      obtain ⟨hs7, u, hu1, hu2, hu3, hu4, hu5⟩ := words_get HT.out hs
      obtain ⟨ad, cu, hcu, hle, hP, hhi, hru⟩ := HW.out.get HR3.out hu2
      have hb0 : (0 : Int) ≤ (j : Int) := by omega
      have hb1 : (j : Int) < (n : Int) := by omega
      by_cases hk : (s : Int) = k
      · subst hk
        have HV := Lib.hid (show WordV w (fun g => lo ≤ g) hi (wdI T (s : Int)) (.slice (some ad) u.length cu) from by
          unfold wdI
          rw [if_pos (by omega), Int.toNat_natCast, hu1]
          exact ⟨ad, cu, rfl, hle, hP, hhi, hru⟩)
        obtain ⟨nu, hnu⟩ : ∃ nu, nu = u.length := ⟨_, rfl⟩
        rw [← hnu] at hcu HV
        clear hs hu1 hu2 hu3 hnu hru hu4 hu5 hle hP hhi
        go_wp2_with fail
        go_ret
        exact ⟨⟨_, rfl, HV.out⟩, rfl⟩
      · have hkd : ((s : Int) == k) = false := by simpa using hk
        have HA2 := Lib.hid (show ∀ i s, i < j + 1 → sg[i]? = some s → (s : Int) ≠ k from fun i s' hi hs' => by
          by_cases hij : i = j
          · subst hij
            rw [hs] at hs'
            injection hs' with hs'
            subst hs'
            exact hk
          · exact HA.out i s' (by omega) hs')
        clear hs hu1 hu2 hu3 hru hu4 hu5 hle hP hhi hk hcu
        go_wp2_with fail
        exact ⟨⟨j + 1, by go_num, by omega, HA2, trivial⟩, by simp [intOf]; omega⟩
    · obtain rfl : j = n := by omega
      have HV := Lib.hid (show wdI T k = none from by
        unfold wdI
        split
        · rename_i hk
          refine word_none HT.out (fun hm => ?_)
          obtain ⟨i, hi, he⟩ := List.getElem_of_mem hm
          exact HA.out i k.toNat (by rw [HN.out]; exact hi) (by rw [List.getElem?_eq_getElem hi, he]) (by omega)
        · rfl)
      go_wp2_with fail
      go_ret
      exact ⟨⟨_, rfl, by rw [HV.out]; rfl⟩, rfl⟩
def atV (T : CT) (l : List Bool) : Int := match T.sub l with | .leaf s => (s : Int) | _ => -1
set_option maxRecDepth 100000 in
set_option maxHeartbeats 4000000 in
theorem rat6_any (lo hi p nl cl B : Nat) (Al : Option Addr) (l : List Bool) (T : CT) (sg : List Nat) (ls : List Int) (w : World) (h : RCode w lo hi p T sg ls) (hx : Rd w B Al (l.map .bool)) (hn : l.length = nl) (hb : nl ≤ 1000000000) :
    Calls Tryz.prog 94 #[.pointer (some ⟨p, 0, none⟩), .slice Al nl cl] w fun e w' => e = .returned (.int .i64 (atV T l)) ∧ Dr w w' := by
  obtain ⟨n, A1, A2, A3, c1, c2, c3, lw, hsn, hsl, hwn, q0, _, q2, hc1, _, hc3, r1, _, r3, hw⟩ := h.cells
  have hnb : n ≤ 257 := by rw [hsn]; exact codeT_len h.1
  have HR1 := Lib.hid r1
  have HR3 := Lib.hid r3
  have HW := Lib.hid hw
  have HSN := Lib.hid hsn
  have HWN := Lib.hid hwn
  have HT := Lib.hid h.1
  have HX := Lib.hid hx
  have HN := Lib.hid hn
  have Q0 := Lib.hid q0
  have Q2 := Lib.hid q2
  clear h r1 r3 hw hsn hsl hwn hx hn q0 q2
  go_enter Tryz.func94, Tryz.ntmps94
  go_wp2_with fail
  go_loopw [5] (fun i wr => ∃ j : Nat, i = .int .i64 (j : Int) ∧ j ≤ n ∧ Hid (∀ i u, i < j → (wordsT T)[i]? = some u → u ≠ l) ∧ Dr w wr) (fun i _ => n - (intOf i).toNat)
  case atStart => exact ⟨0, rfl, by omega, Lib.hid (fun i s hi => by omega), Dr.refl w⟩
  case round =>
    obtain ⟨j, rfl, hj, HA, hd⟩ := hrel
    have hkd := hd.kp []
    have q0 := hkd.cell Q0.out (by simp)
    have q2 := hkd.cell Q2.out (by simp)
    by_cases hlt : j < n
    · obtain ⟨s, ad1, hs, e, _, hcs⟩ := natRr (HR1.out.kp0 hkd) (k := j) (by rw [← HSN.out]; exact hlt)
      injection e with e
      subst e
      obtain ⟨hs7, u, hu1, hu2, hu3, hu4, hu5⟩ := words_get HT.out hs
      obtain ⟨ad, cu, hcu, hle, _, _, hru⟩ := (HW.out.kp hkd (by simp)).get (HR3.out.kp0 hkd) hu2
      have HU2 := Lib.hid hu2
      have HU3 := Lib.hid hu3
      have HRU := Lib.hid hru
      obtain ⟨nu, hnu⟩ : ∃ nu, u.length = nu := ⟨_, rfl⟩
      rw [hnu] at hcu hle hu5
      have HNU := Lib.hid hnu
      have hb0 : (0 : Int) ≤ (j : Int) := by omega
      have hb1 : (j : Int) < (n : Int) := by omega
      clear hu1 hu2 hu3 hu4 hru hnu hs hkd
      obtain ⟨wj, rfl⟩ : ∃ wj, wj = wr := ⟨_, rfl⟩
      have hdd := hd
      have HD := Lib.hid hdd
      clear hdd hd
      obtain ⟨d0, hd0⟩ : ∃ d0, d0 = decide (nu = nl) := ⟨_, rfl⟩
      have HEQ : ((nu : Int) == (nl : Int)) = d0 := by
        rw [hd0]
        by_cases h : nu = nl
        · subst h; simp
        · have h2 : (nu : Int) ≠ (nl : Int) := by omega
          rw [decide_eq_false h]
          simpa using h2
      have HD0 := Lib.hid hd0
      clear hd0
      go_wp2_with fail
      go_loopw [6, 7] (fun b i wr => ∃ (k : Nat) (d : Bool), i = .int .i64 (k : Int) ∧ b = .bool d ∧ k ≤ nl ∧ Hid (d = true → nu = nl ∧ u.take k = l.take k) ∧ Hid (d = false → u ≠ l) ∧ Dr wj wr) (fun _ i _ => nl - (intOf i).toNat)
      case atStart => exact ⟨0, d0, rfl, rfl, by omega, Lib.hid (fun h => ⟨of_decide_eq_true (HD0.out ▸ h), by simp⟩), Lib.hid (fun h e => by have := of_decide_eq_false (HD0.out ▸ h); rw [e, HN.out] at HNU; exact this HNU.out.symm), Dr.refl _⟩
      case round =>
        clear HEQ
        obtain ⟨k, d, rfl, rfl, hk, HD1, HD2, hdk⟩ := hrel
        have hkk := hdk.kp []
        have q2k := hkk.cell q2 (by simp)
        have q0k := hkk.cell q0 (by simp)
        have hcuk := hkk.cell hcu (by simp)
        have hcsk := hkk.cell hcs (by simp)
        cases d with
        | true =>
          obtain ⟨rfl, htk⟩ := HD1.out rfl
          by_cases hkl : k < nu
          · obtain ⟨x, ad9, hxk, e9, _, hcx⟩ := (HRU.out.kp0 hkk).bl (k := k) (by rw [HNU.out]; exact hkl)
            injection e9 with e9
            subst e9
            obtain ⟨y, bd, hyk, rfl, _, hcy⟩ := (HX.out.kp0 (HD.out.kp [] |>.trans hkk)).bl (k := k) (by rw [HN.out]; exact hkl)
            have hkb0 : (0 : Int) ≤ (k : Int) := by omega
            have hkb1 : (k : Int) < (nu : Int) := by omega
            have HE := Lib.hid (show (x == y) = true → nu = nu ∧ u.take (k + 1) = l.take (k + 1) from fun e => ⟨rfl, by rw [take_succ_of hxk, take_succ_of hyk, htk, eq_of_beq e]⟩)
            have HE2 := Lib.hid (show (x == y) = false → u ≠ l from fun e e2 => by
              rw [e2, hyk] at hxk
              injection hxk with hxk
              subst hxk
              simp at e)
            clear htk hxk hyk hkk
            go_wp2_with fail
            go_quiet (fail)
            go_wp2_with fail
            go_roundw
            case rel => exact ⟨k + 1, x == y, by go_num, rfl, by omega, HE, HE2, hdk.drewN _⟩
            case measure => simp [intOf]; omega
          · obtain rfl : k = nu := by omega
            have HUL := Lib.hid (show u = l from by
              rwa [List.take_of_length_le (by rw [HNU.out]; exact Nat.le_refl _), List.take_of_length_le (by rw [HN.out]; exact Nat.le_refl _)] at htk)
            have HAT := Lib.hid (show atV T l = (s : Int) from by unfold atV; rw [← HUL.out, HU3.out])
            have HDE := Lib.hid (show Dr w wr from HD.out.trans hdk)
            clear htk hkk
            go_wp2_with fail
            go_ret
            exact ⟨by rw [HAT.out]; rfl, HDE.out⟩
        | false =>
          have HA2 := Lib.hid (show ∀ i u, i < j + 1 → (wordsT T)[i]? = some u → u ≠ l from fun i u' hi hu' => by
            by_cases hij : i = j
            · subst hij
              rw [HU2.out] at hu'
              injection hu' with hu'
              subst hu'
              exact HD2.out rfl
            · exact HA.out i u' (by omega) hu')
          have HDE := Lib.hid (show Dr w wr from HD.out.trans hdk)
          clear hkk
          by_cases hkl : k < nl
          · have hkb1 : (k : Int) < (nl : Int) := by omega
            go_wp2_with fail
            exact ⟨⟨j + 1, by go_num, by omega, HA2, HDE.out⟩, by simp [intOf]; omega⟩
          · have hkb1 : ¬ (k : Int) < (nl : Int) := by omega
            go_wp2_with fail
            exact ⟨⟨j + 1, by go_num, by omega, HA2, HDE.out⟩, by simp [intOf]; omega⟩
    · obtain rfl : j = n := by omega
      have HV := Lib.hid (show atV T l = -1 from by
        unfold atV
        cases hsl : T.sub l with
        | leaf s =>
          obtain ⟨i, hi, he⟩ := List.getElem_of_mem (sub_words hsl)
          exact absurd rfl (HA.out i l (by rw [← HWN.out]; exact hi) (by rw [List.getElem?_eq_getElem hi, he]))
        | nil => rfl
        | node _ _ => rfl)
      go_wp2_with fail
      go_ret
      exact ⟨by rw [HV.out]; rfl, hd⟩
end Go.Proofs.YtlaionhlejmjdaaGreatDoor
namespace Go.Proofs.YtlaionhlejmjdaaGreatDoor
open Go.RowKit

theorem sgs_at {s : ByteArray} {k x : Nat} (h : (txt s)[k]? = some x) : (sgs (txt s))[k]? = some (x + 1) := by
  unfold sgs
  rw [List.getElem?_append_left (by rw [List.length_map]; exact (List.getElem?_eq_some_iff.1 h).1), List.getElem?_map, h]
  rfl
theorem sgs_end (s : ByteArray) : (sgs (txt s))[s.size]? = some 0 := by
  unfold sgs
  rw [List.getElem?_append_right (by rw [List.length_map, txt_len]; exact Nat.le_refl _), List.length_map, txt_len, Nat.sub_self]
  rfl
theorem sgs_len (s : ByteArray) : (sgs (txt s)).length = s.size + 1 := by unfold sgs; rw [List.length_append, List.length_map, txt_len]; rfl
set_option maxRecDepth 100000 in
set_option maxHeartbeats 4000000 in
theorem rbits6_any (lo hi p : Nat) (T : CT) (sg : List Nat) (ls : List Int) (s : ByteArray) (w : World) (h : RCode w lo hi p T sg ls) (hs : s.size ≤ 1000000) :
    Calls Tryz.prog 40 #[.pointer (some ⟨p, 0, none⟩), .string s] w (AllP w (encT T s)) := by
  obtain ⟨i0, hi0, hz0, hz1, hz2⟩ := info_parts Tryz.info_abool
  have HC := Lib.hid h
  clear h
  go_enter Tryz.func40, Tryz.ntmps40
  go_wp2_with fail
  go_loopw [6, 7] (fun v x wr => ∃ (k m c : Nat) (A : Option Addr) (r : List Bool), x = .int .i64 (k : Int) ∧ v = .slice A m c ∧ k ≤ s.size + 1 ∧ m ≤ 256 * k ∧ Hid (r.length = m) ∧ Hid (T.enc ((sgs (txt s)).take k) = some r) ∧ Hid (wr.ownsRow w.heap.size 4 1 (.slice A m c) m (r.map .bool)) ∧ Hid (Kp [] w wr)) (fun _ x _ => s.size + 1 - (intOf x).toNat)
  case atStart => exact ⟨0, 0, 0, none, [], rfl, rfl, by omega, by omega, Lib.hid rfl, Lib.hid (by simp [CT.enc]), Lib.hid (World.ownsRow_nil w _ _ _), Lib.hid (Kp.refl _ _)⟩
  case round =>
    obtain ⟨k, m, c, A, r, rfl, rfl, hk, hm, HR, HE, HO, HK⟩ := hrel
    have hk0 : (0 : Int) ≤ (k : Int) := by omega
    have hsm : s.size ≤ 9223372036854775807 := by omega
    have HZ := Lib.hid HK.out.size
    by_cases hlt : k < s.size
    · have HT := Lib.hid (txt_get s k hlt)
      obtain ⟨x, hx⟩ : ∃ x, s[k].toNat = x := ⟨_, rfl⟩
      have hx255 : x ≤ 255 := by rw [← hx]; have := s[k].toNat_lt; omega
      obtain ⟨y, hy⟩ : ∃ y, y = x + 1 := ⟨_, rfl⟩
      have HS := Lib.hid (show (sgs (txt s))[k]? = some y from by rw [hy]; exact sgs_at (show (txt s)[k]? = some x from by rw [HT.out, hx]))
      have hx0 : (0 : Int) ≤ (x : Int) := by omega
      have hx1 : (x : Int) ≤ 255 := by omega
      have hb1 : (k : Int) < (s.size : Int) := by omega
      have hb2 : (k : Int) ≤ (s.size : Int) := by omega
      have HY := Lib.hid (show wdI T (1 + (x : Int)) = T.word y from by unfold wdI; rw [if_pos (by omega)]; congr 1; omega)
      clear HT
      go_wp2_with fail
      refine (rword_any lo hi p (1 + (x : Int)) T sg ls wr (HC.out.kp0 HK.out)).mono ?_
      rintro e w2 ⟨⟨v, rfl, hv⟩, rfl⟩
      rw [HY.out] at hv
      cases ho : T.word y with
      | none =>
        rw [ho] at hv
        obtain rfl : v = .slice none 0 0 := hv
        have HN := Lib.hid (show encT T s = none from enc_none (s := y) (List.mem_of_getElem? HS.out) ho)
        clear ho
        go_wp2_with fail
        go_ret2
        rw [HN.out]
        exact ⟨⟨_, rfl⟩, HK.out⟩
      | some u =>
        rw [ho] at hv
        obtain ⟨ad, cc, rfl, hcc, hlo, hhi, hru⟩ := hv
        have hu := word_len HC.out.1 ho
        have hu1 := List.length_pos_iff.2 (word_ne HC.out.1 ho)
        have HEN := Lib.hid (show T.enc ((sgs (txt s)).take (k + 1)) = some (r ++ u) from by
          rw [take_succ_of HS.out]
          exact enc_snoc HE.out ho)
        obtain ⟨n, hn⟩ : ∃ n, n = u.length := ⟨_, rfl⟩
        rw [← hn] at hu hu1 hcc ⊢
        have HUN := Lib.hid hn
        have HRU := Lib.hid hru
        have hnz : ((n : Int) == 0) = false := by simp; omega
        clear hn hru hlo hhi ho
        go_wp2_with (at_builtin; go_loud (refine wpList_append_rd rfl (.tmp 31) (.tmp 32) 43 rfl w.heap.size 4 i0 (.bool false) 1 1 Tryz.underlying43 hi0 hz0 hz1 hz2 rfl (by decide) (.slice A m c) m _ rfl HO.out _ (some ad) n cc (u.map .bool) rfl (by rw [List.length_map, HUN.out, Nat.mul_one]) HRU.out (oc_bools _) (by unfold maxLen; omega) (by omega) HZ.out ?_); intro v3 w3 hown3 hgrow3 hat3; obtain ⟨A3, c3, rfl, _⟩ := own_form hown3)
        have HO3 := Lib.hid (show w3.ownsRow w.heap.size 4 1 (.slice A3 (m + n) c3) (m + n) ((r ++ u).map .bool) from by rw [List.map_append]; exact hown3)
        have HK3 := Lib.hid (HK.out.trans' ((Kp.refl _ _).grown hgrow3 (fun x hx => .inl (mem_ownL.2 hx))) (fun x hx => .inr (own_ge HO.out (mem_ownL.1 hx)).1))
        clear hown3 hgrow3 hat3
        exact ⟨⟨k + 1, m + n, c3, A3, r ++ u, by go_num, rfl, by omega, by omega, Lib.hid (by rw [List.length_append, HR.out, ← HUN.out]), HEN, HO3, HK3⟩, by first | (simp [intOf]; done) | (simp [intOf]; omega)⟩
    · by_cases hle : k = s.size
      · subst hle
        have HS := Lib.hid (sgs_end s)
        have HY := Lib.hid (show wdI T (0 : Int) = T.word 0 from by unfold wdI; rw [if_pos (by omega)]; rfl)
        have hb2 : ¬ (s.size : Int) < (s.size : Int) := by omega
        have hb3 : (s.size : Int) ≤ (s.size : Int) := by omega
        go_wp2_with fail
        refine (rword_any lo hi p (0 : Int) T sg ls wr (HC.out.kp0 HK.out)).mono ?_
        rintro e w2 ⟨⟨v, rfl, hv⟩, rfl⟩
        rw [HY.out] at hv
        cases ho : T.word 0 with
        | none =>
          rw [ho] at hv
          obtain rfl : v = .slice none 0 0 := hv
          have HN := Lib.hid (show encT T s = none from enc_none (s := 0) (List.mem_of_getElem? HS.out) ho)
          clear ho
          go_wp2_with fail
          go_ret2
          rw [HN.out]
          exact ⟨⟨_, rfl⟩, HK.out⟩
        | some u =>
          rw [ho] at hv
          obtain ⟨ad, cc, rfl, hcc, hlo, hhi, hru⟩ := hv
          have hu := word_len HC.out.1 ho
          have hu1 := List.length_pos_iff.2 (word_ne HC.out.1 ho)
          have HEN := Lib.hid (show T.enc ((sgs (txt s)).take (s.size + 1)) = some (r ++ u) from by
            rw [take_succ_of HS.out]
            exact enc_snoc HE.out ho)
          obtain ⟨n, hn⟩ : ∃ n, n = u.length := ⟨_, rfl⟩
          rw [← hn] at hu hu1 hcc ⊢
          have HUN := Lib.hid hn
          have HRU := Lib.hid hru
          have hnz : ((n : Int) == 0) = false := by simp; omega
          clear hn hru hlo hhi ho
          go_wp2_with (at_builtin; go_loud (refine wpList_append_rd rfl (.tmp 31) (.tmp 32) 43 rfl w.heap.size 4 i0 (.bool false) 1 1 Tryz.underlying43 hi0 hz0 hz1 hz2 rfl (by decide) (.slice A m c) m _ rfl HO.out _ (some ad) n cc (u.map .bool) rfl (by rw [List.length_map, HUN.out, Nat.mul_one]) HRU.out (oc_bools _) (by unfold maxLen; omega) (by omega) HZ.out ?_); intro v3 w3 hown3 hgrow3 hat3; obtain ⟨A3, c3, rfl, _⟩ := own_form hown3)
          have HO3 := Lib.hid (show w3.ownsRow w.heap.size 4 1 (.slice A3 (m + n) c3) (m + n) ((r ++ u).map .bool) from by rw [List.map_append]; exact hown3)
          have HK3 := Lib.hid (HK.out.trans' ((Kp.refl _ _).grown hgrow3 (fun x hx => .inl (mem_ownL.2 hx))) (fun x hx => .inr (own_ge HO.out (mem_ownL.1 hx)).1))
          clear hown3 hgrow3 hat3
          exact ⟨⟨s.size + 1, m + n, c3, A3, r ++ u, by go_num, rfl, by omega, by omega, Lib.hid (by rw [List.length_append, HR.out, ← HUN.out]), HEN, HO3, HK3⟩, by first | (simp [intOf]; done) | (simp [intOf]; omega)⟩
      · obtain rfl : k = s.size + 1 := by omega
        have HN := Lib.hid (show encT T s = some r from by
          have := HE.out
          rwa [List.take_of_length_le (by rw [sgs_len]; exact Nat.le_refl _)] at this)
        have hb2 : ¬ (((s.size + 1 : Nat)) : Int) ≤ (s.size : Int) := by omega
        go_wp2_with fail
        go_ret2
        rw [HN.out]
        exact ⟨A, m, c, HR.out.symm, rfl, HO.out, HK.out⟩
end Go.Proofs.YtlaionhlejmjdaaGreatDoor
namespace Go.Proofs.YtlaionhlejmjdaaGreatDoor
open Go.RowKit

/-- TwoR rows of the call's own, of whatever elements, that lie apart. -/
structure TwoR (w : World) (b : Nat) (t1 t2 : TypeId) (y z : Value) (m k : Nat) (v u : List Value) : Prop where
  o1 : w.ownsRow b t1 1 y m v
  o2 : w.ownsRow b t2 1 z k u
  ne : ∀ g, y.ownBlock = some g → z.ownBlock ≠ some g
section
variable {w w' : World} {b m k m' : Nat} {t1 t2 : TypeId} {y z y' : Value} {v u v' : List Value}
theorem TwoR.swap (h : TwoR w b t1 t2 y z m k v u) : TwoR w b t2 t1 z y k m u v := ⟨h.o2, h.o1, fun g h1 h2 => h.ne g h2 h1⟩
theorem TwoR.kp {S : List Nat} (h : TwoR w b t1 t2 y z m k v u) (hk : Kp S w w') (hS : ∀ g ∈ S, g < b) : TwoR w' b t1 t2 y z m k v u :=
  ⟨own_kp h.o1 hk (fun g hg hm => by have := (own_ge h.o1 hg).1; have := hS g hm; omega), own_kp h.o2 hk (fun g hg hm => by have := (own_ge h.o2 hg).1; have := hS g hm; omega), h.ne⟩
theorem TwoR.left {o : Obj} (h : TwoR w b t1 t2 y z m k v u) (hown : w'.ownsRow b t1 1 y' m' v') (hg : (w.alloc o).grownBy w' y.ownBlock) (hat : y'.ownBlock = y.ownBlock ∨ y'.ownBlock = some (w.alloc o).heap.size) : TwoR w' b t1 t2 y' z m' k v' u := by
  have hk : Kp (ownL y) w w' := ((Kp.refl _ w).alloc o).grown hg (fun g hg => .inl (mem_ownL.2 hg))
  refine ⟨hown, own_kp h.o2 hk (fun g hg hm => h.ne g (mem_ownL.1 hm) hg), fun g h1 h2 => ?_⟩
  rcases hat with e | e
  · exact h.ne g (e ▸ h1) h2
  · rw [e] at h1
    injection h1 with h1
    have := (own_ge h.o2 h2).2
    simp at h1
    omega
theorem TwoR.none_right (h : TwoR w b t1 t2 y z m k v u) : TwoR w b t1 t2 y (.slice none 0 0) m 0 v [] := ⟨h.o1, ⟨rfl, .inl ⟨rfl, rfl⟩⟩, fun g _ h2 => by cases h2⟩
end
theorem TwoR.nil (w : World) (b : Nat) (t1 t2 : TypeId) : TwoR w b t1 t2 (.slice none 0 0) (.slice none 0 0) 0 0 [] [] := ⟨⟨rfl, .inl ⟨rfl, rfl⟩⟩, ⟨rfl, .inl ⟨rfl, rfl⟩⟩, fun g h => by cases h⟩
theorem full_sub : ∀ {T : CT}, T.Full → ∀ {l : List Bool} {x y : CT}, T.sub l = .node x y → x.Full ∧ y.Full
  | .leaf s, _, [], x, y, h => by rw [CT.sub_nil] at h; cases h
  | .leaf s, _, b :: l, x, y, h => by rw [CT.sub_leaf] at h; cases h
  | .node a c, hf, [], x, y, h => by rw [CT.sub_nil] at h; injection h with h1 h2; subst h1 h2; exact hf
  | .node a c, hf, false :: l, x, y, h => full_sub hf.1 (show a.sub l = _ from h)
  | .node a c, hf, true :: l, x, y, h => full_sub hf.2 (show c.sub l = _ from h)
theorem kid_sub_ {x1 x2 : CT} (b : Bool) : (CT.node x1 x2).kid b = if b then x2 else x1 := by cases b <;> (show CT.sub _ [] = _; rw [CT.sub_nil]; rfl)
/-- Where a code's bits lead nowhere. -/
theorem kid_nil {T : CT} {sg : List Nat} {ls : List Int} (h : CodeT T sg ls) {l : List Bool} {x1 x2 : CT} (hl : T.sub l = .node x1 x2) (b : Bool) : (CT.node x1 x2).kid b = .nil ↔ sg.length = 1 ∧ b = true := by
  rw [kid_sub_]
  rcases h.2.2.2.2.2 with ⟨a, c, e, ha, hc, h2⟩ | ⟨s, e, hs⟩
  · have hf := full_sub (T := T) (by rw [e]; exact ⟨ha, hc⟩) hl
    refine ⟨fun hn => ?_, fun hn => by omega⟩
    cases b
    · rw [if_neg (by simp)] at hn; rw [hn] at hf; exact hf.1.elim
    · rw [if_pos rfl] at hn; rw [hn] at hf; exact hf.2.elim
  · have hl0 : l = [] := by
      cases l with
      | nil => rfl
      | cons d l =>
        rw [e] at hl
        cases d
        · have : (CT.leaf s).sub l = .node x1 x2 := hl
          cases l with
          | nil => rw [CT.sub_nil] at this; cases this
          | cons d l => rw [CT.sub_leaf] at this; cases this
        · have : CT.nil.sub l = .node x1 x2 := hl
          rw [CT.sub_none] at this
          cases this
    subst hl0
    rw [CT.sub_nil, e] at hl
    injection hl with h1 h2
    subst h1 h2
    rw [hs]
    cases b <;> simp
theorem sub_kid {T : CT} {lb : List Bool} {x1 x2 : CT} (h : T.sub lb = .node x1 x2) (b : Bool) : T.sub (lb ++ [b]) = (CT.node x1 x2).kid b := by rw [CT.sub_app, h]; rfl
/-- What the document's Get answers. -/
def RGetP (rp : Nat) (A : Option Addr) (N c a : Nat) (F : List Nat × Int × Nat × Bool) (w : World) (e : Ending) (w' : World) : Prop := e = .returned (.tuple #[.string (strN F.1), .int .i64 F.2.1]) ∧ RrM w' rp A N c (a + F.2.2.1) F.2.2.2 ∧ Kp [rp] w w'
set_option maxRecDepth 100000 in
set_option maxHeartbeats 4000000 in
theorem rget6_any (lo hi p rp N cA a B : Nat) (A : Option Addr) (bad : Bool) (bs : List Bool) (T : CT) (sg : List Nat) (ls : List Int) (w : World) (h : RCode w lo hi p T sg ls) (hr : RrM w rp A N cA a bad) (hx : Rd w B A (bs.map .bool)) (hN : bs.length = N) (hc : N ≤ cA) (ha : a ≤ N) (hN24 : N ≤ 16777216) (hB : B ≤ rp) (hhi : hi ≤ rp) :
    Calls Tryz.prog 54 #[.pointer (some ⟨p, 0, none⟩), .pointer (some ⟨rp, 0, none⟩)] w (RGetP rp A N cA a (getF T bs a bad) w) := by
  obtain ⟨i0, hi0, hz0, hz1, hz2⟩ := info_parts Tryz.info_abool
  obtain ⟨j0, hj0, hy0, hy1, hy2⟩ := info_parts Tryz.info_au8
  have hrw : rp < w.heap.size := Blk.lt hr
  have HC := Lib.hid h
  have HR := Lib.hid hr
  have HX := Lib.hid hx
  have HN := Lib.hid hN
  have HHI := Lib.hid (show ∀ g ∈ [rp], g < lo ∨ hi ≤ g from fun g hg => .inr (by rw [List.mem_singleton.1 hg]; exact hhi))
  have HRB := Lib.hid (show ∀ g ∈ [rp], B ≤ g from fun g hg => by rw [List.mem_singleton.1 hg]; exact hB)
  have HRW := Lib.hid (show ∀ g ∈ [rp], g < w.heap.size from fun g hg => by rw [List.mem_singleton.1 hg]; exact hrw)
  clear h hr hx hN
  cases bad with
  | true =>
    have HNX := Lib.hid (rrnext_any rp N cA a B A true bs w HR.out HX.out HN.out hc ha hN24 hB)
    rw [show rNum bs a true 1 = (0, a, true) from by unfold rNum; rw [if_pos (.inl rfl)], show ((0 : Nat) == 1) = false from rfl] at HNX
    go_enter Tryz.func54, Tryz.ntmps54
    go_wp2_with fail
    go_loopw [6, 7] (fun v x wr => v = .slice none 0 0 ∧ x = .slice none 0 0 ∧ w = wr) (fun _ _ _ => 0)
    case atStart => exact ⟨rfl, rfl, rfl⟩
    case round =>
      obtain ⟨rfl, rfl, rfl⟩ := hrel
      go_wp2_with fail
      refine HNX.out.mono ?_
      rintro e w2 ⟨rfl, hr2, hk2⟩
      have hc2 : w2.cell? ⟨rp, 2, none⟩ = some (.bool true) := hr2.cells.2.2
      have HR2 := Lib.hid hr2
      have HK2 := Lib.hid hk2
      clear hr2 hk2
      go_wp2_with fail
      go_ret2
      exact ⟨rfl, HR2.out, HK2.out⟩
  | false =>
    go_enter Tryz.func54, Tryz.ntmps54
    go_wp2_with fail
    go_loopw [6, 7] (fun v x wr => ∃ (j m c kb c2 : Nat) (A1 A2 : Option Addr) (o : List Nat) (lb : List Bool) (x1 x2 : CT), v = .slice A1 m c ∧ x = .slice A2 kb c2 ∧ a + j ≤ N ∧ m ≤ j ∧ kb ≤ j ∧ Hid (o.length = m ∧ ∀ y ∈ o, y < 256) ∧ Hid (lb.length = kb) ∧ Hid (T.sub lb = .node x1 x2) ∧ Hid (GetI (getF T bs a false) T (.node x1 x2) o (bs.drop (a + j)) j) ∧ Hid (RrM wr rp A N cA (a + j) false) ∧ Hid (TwoR wr w.heap.size 5 4 (.slice A1 m c) (.slice A2 kb c2) m kb (o.map fun (y : Nat) => .int .u8 (y : Int)) (lb.map .bool)) ∧ Hid (Kp [rp] w wr)) (fun _ _ wr => N - (match wr.cell? ⟨rp, 1, none⟩ with | some v => (intOf v).toNat | none => 0))
    case atStart =>
      obtain ⟨ta, tb, e⟩ := HC.out.1.node
      exact ⟨0, 0, 0, 0, 0, none, none, [], [], ta, tb, rfl, rfl, by omega, by omega, by omega, Lib.hid ⟨rfl, by simp⟩, Lib.hid rfl, Lib.hid (by rw [CT.sub_nil]; exact e), Lib.hid (by have := GetI.start T bs a; rw [e] at this ⊢; exact this), HR, Lib.hid (TwoR.nil w _ _ _), Lib.hid (Kp.refl _ _)⟩
    case round =>
      obtain ⟨j, m, c, kb, c2, A1, A2, o, lb, x1, x2, rfl, rfl, haj, hmj, hkj, HO, HLB, HSUB, HG, HRR, HTW, HK⟩ := hrel
      have HNX := Lib.hid (rrnext_any rp N cA (a + j) B A false bs wr HRR.out (HX.out.kp HK.out HRB.out) HN.out hc haj hN24 hB)
      have HREL := Lib.hid (show wr.cell? ⟨rp, 1, none⟩ = some (.int .i64 ((a + j : Nat) : Int)) from HRR.out.cells.2.1)
      by_cases hend : N ≤ a + j
      · rw [rNum_end (by rw [HN.out]; exact hend), show ((0 : Nat) == 1) = false from rfl] at HNX
        have HF := Lib.hid (show getF T bs a false = ([], 4, j, true) from by
          have := HG.out
          rw [List.drop_of_length_le (by rw [HN.out]; exact hend)] at this
          exact this.stop)
        go_wp2_with fail
        refine HNX.out.mono ?_
        rintro e w2 ⟨rfl, hr2, hk2⟩
        have hc2 : w2.cell? ⟨rp, 2, none⟩ = some (.bool true) := hr2.cells.2.2
        have HR2 := Lib.hid hr2
        have HK2 := Lib.hid (HK.out.trans hk2)
        clear hr2 hk2
        go_wp2_with fail
        go_ret2
        rw [HF.out]
        exact ⟨rfl, HR2.out, HK2.out⟩
      · obtain ⟨b, hb⟩ : ∃ b, bs[a + j]? = some b := ⟨_, List.getElem?_eq_getElem (by rw [HN.out]; omega)⟩
        have HD := Lib.hid (show bs.drop (a + j) = b :: bs.drop (a + j + 1) from by
          obtain ⟨h1, h2⟩ := List.getElem?_eq_some_iff.1 hb
          rw [List.drop_eq_getElem_cons h1, h2])
        rw [HD.out] at HG
        rw [rNum_at hb, show ((if b then 1 else 0 : Nat) == 1) = b from by cases b <;> rfl] at HNX
        have hlt : a + j + 1 ≤ N := by omega
        clear hb HD hend
        go_wp2_with fail
        refine HNX.out.mono ?_
        rintro e w2 ⟨rfl, hr2, hk2⟩
        have HR2 := Lib.hid (show RrM w2 rp A N cA (a + (j + 1)) false from hr2)
        have HK2 := Lib.hid (HK.out.trans hk2)
        have hc2 : w2.cell? ⟨rp, 2, none⟩ = some (.bool false) := hr2.cells.2.2
        have HTW2 := Lib.hid (HTW.out.kp hk2 HRW.out)
        have HSZ := Lib.hid HK2.out.size
        clear hr2 hk2 HNX HTW HRR HK
        obtain ⟨n, S1, S2, S3, d1, d2, d3, lw, hsn, hsl, _, q0, _, _, _, _, _, _, _, _, _⟩ := (HC.out.kp HK2.out HHI.out).cells
        have HSN := Lib.hid hsn
        have hpo : p ∉ ownL (.slice A2 kb c2) := fun hm => by
          have h1 := (own_ge HTW2.out.o2 (mem_ownL.1 hm)).1
          have h2 := HC.out.2.2.1
          omega
        have hro : ∀ g ∈ ownL (.slice A2 kb c2), w.heap.size ≤ g := fun g hm => (own_ge HTW2.out.o2 (mem_ownL.1 hm)).1
        have HPO := Lib.hid hpo
        have HRO := Lib.hid hro
        clear hsn hsl hpo hro
        have HKN := Lib.hid (kid_nil HC.out.1 HSUB.out b)
        have HSK := Lib.hid (sub_kid HSUB.out b)
        by_cases hkn : n = 1 ∧ b = true
        · obtain ⟨rfl, rfl⟩ := hkn
          have HF := Lib.hid (HG.out.none (HKN.out.2 ⟨HSN.out.symm, rfl⟩))
          have hnn : (((1 : Nat) : Int) == 1) = true := rfl
          go_wp2_with (at_builtin; go_loud (refine wpList_append_rd rfl (.tmp 16) (.tmp 18) 43 rfl (w.heap.size) 4 i0 (.bool false) 1 1 Tryz.underlying43 hi0 hz0 hz1 hz2 rfl (by decide) (.slice A2 kb c2) (kb) _ rfl (own_kp0 HTW2.out.o2 ((Kp.refl [] _).alloc _)) _ _ 1 1 [.bool true] rfl rfl (Rd.new w2 #[.bool true] 4 (0, 0)) (by intro u hu; simp at hu; subst hu; rfl) (by unfold maxLen; omega) (by omega) (by have := HSZ.out; simp; omega) ?_); intro v3 w3 hown3 hgrow3 hat3; obtain ⟨hka3, hga3⟩ := app_facts hgrow3 hat3; obtain ⟨A3', c3', rfl, _⟩ := own_form hown3; have hp3 : w3.cell? ⟨p, 0, none⟩ = some (.slice (some S1) 1 d1) := hka3.cell q0 HPO.out; have HTW3 := Lib.hid (HTW2.out.swap.left hown3 hgrow3 hat3).swap; have HK3 := Lib.hid (HK2.out.trans' hka3 (fun x hx => .inr (HRO.out x hx))); have HR3 := Lib.hid (HR2.out.kp hka3 (fun hm => by have := HRO.out _ hm; omega)); clear hown3 hgrow3 hat3 hka3 hga3 HR2 HTW2 HK2 q0 hc2)
          go_ret2
          rw [HF.out]
          exact ⟨rfl, HR3.out, HK3.out⟩
        · have HNIL := Lib.hid (show (CT.node x1 x2).kid b ≠ .nil from fun e => hkn (by have := HKN.out.1 e; rw [← HSN.out] at this; exact this))
          have HS255 := Lib.hid (show ∀ s, (CT.node x1 x2).kid b = .leaf s → s ≤ 256 from fun s hs => by
            have h1 : T.sub (lb ++ [b]) = .leaf s := by rw [HSK.out, hs]
            exact HC.out.1.2.2.2.1 _ (word_mem HC.out.1 ((word_sub HC.out.1).2 h1)))
          clear HKN
          by_cases hn1 : n = 1
          · subst hn1
            obtain rfl : b = false := by cases b <;> simp_all
            have hnn : (((1 : Nat) : Int) == 1) = true := rfl
            clear hkn
            go_wp2_with (at_builtin; go_loud (refine wpList_append_rd rfl (.tmp 16) (.tmp 18) 43 rfl (w.heap.size) 4 i0 (.bool false) 1 1 Tryz.underlying43 hi0 hz0 hz1 hz2 rfl (by decide) (.slice A2 kb c2) (kb) _ rfl (own_kp0 HTW2.out.o2 ((Kp.refl [] _).alloc _)) _ _ 1 1 [.bool false] rfl rfl (Rd.new w2 #[.bool false] 4 (0, 0)) (by intro u hu; simp at hu; subst hu; rfl) (by unfold maxLen; omega) (by omega) (by have := HSZ.out; simp; omega) ?_); intro v3 w3 hown3 hgrow3 hat3; obtain ⟨hka3, hga3⟩ := app_facts hgrow3 hat3; obtain ⟨A3', c3', rfl, _⟩ := own_form hown3; have hp3 : w3.cell? ⟨p, 0, none⟩ = some (.slice (some S1) 1 d1) := hka3.cell q0 HPO.out; have HTW3 := Lib.hid (HTW2.out.swap.left hown3 hgrow3 hat3).swap; have HK3 := Lib.hid (HK2.out.trans' hka3 (fun x hx => .inr (HRO.out x hx))); have HR3 := Lib.hid (HR2.out.kp hka3 (fun hm => by have := HRO.out _ hm; omega)); clear hown3 hgrow3 hat3 hka3 hga3 HR2 HTW2 HK2 q0 hc2)
            refine (rat6_any lo hi p (kb + 1) c3' _ A3' (lb ++ [false]) T sg ls w3 (HC.out.kp HK3.out HHI.out) (by rw [List.map_append]; exact own_rd HTW3.out.o2) (by rw [List.length_append, HLB.out]; rfl) (by omega)).mono ?_
            rintro e w4 ⟨rfl, hd4⟩
            have hk4 := hd4.kp []
            have HTW4 := Lib.hid (HTW3.out.kp hk4 (by simp))
            have HR4 := Lib.hid (HR3.out.kp0 hk4)
            have HK4 := Lib.hid (HK3.out.trans' hk4 (by simp))
            have HSZ4 := Lib.hid HK4.out.size
            have HM4 := Lib.hid (show w4.cell? ⟨rp, 1, none⟩ = some (.int .i64 ((a + (j + 1) : Nat) : Int)) from HR4.out.cells.2.1)
            clear hd4 hk4 HTW3 HR3 HK3 hp3
            cases hX : (CT.node x1 x2).kid false with
            | nil => exact absurd hX HNIL.out
            | leaf s =>
              have HAV := Lib.hid (show atV T (lb ++ [false]) = (s : Int) from by unfold atV; rw [HSK.out, hX])
              cases s with
              | zero =>
                rw [HAV.out, show ((0 : Nat) : Int) = 0 from rfl]
                have HF := Lib.hid (HG.out.fin hX)
                have hcv := run_strN w4 A1 m c _ o HO.out.1 HO.out.2 (own_rd HTW4.out.o1)
                clear hX
                go_wp2_with fail
                go_ret2
                rw [HF.out]
                exact ⟨rfl, HR4.out, HK4.out⟩
              | succ s =>
                rw [HAV.out]
                have HG2 := Lib.hid (HG.out.leaf hX)
                have hs255 : s ≤ 255 := by have := HS255.out _ hX; omega
                obtain ⟨s1, hs1⟩ : ∃ s1, s1 = s + 1 := ⟨_, rfl⟩
                rw [← hs1]
                have hs10 : ((s1 : Int) == 0) = false := by simp; omega
                have hs11 : decide ((0 : Int) < (s1 : Int)) = true := by simp; omega
                have hs12 : decide (0 < s1) = true := by simp; omega
                have hm2 : (m + 1) * 1 ≤ 140737488355328 := by omega
                have hw1 : IntKind.i64.wrap ((s1 : Int) - 1) = (s : Int) := by rw [IntKind.wrap_i64]; omega
                have hw2 : IntKind.u8.wrap (s : Int) = (s : Int) := by
                  simp only [IntKind.wrap, IntKind.signed, IntKind.bits]
                  simp
                  omega
                have HRO2 := Lib.hid (show ∀ g ∈ ownL (.slice A1 m c), w.heap.size ≤ g from fun g hm => (own_ge HTW4.out.o1 (mem_ownL.1 hm)).1)
                clear hX hs1
                obtain ⟨ta, tb, eT⟩ := HC.out.1.node
                have HET := Lib.hid eT
                have HG3 := Lib.hid (show GetI (getF T bs a false) T (.node ta tb) (o ++ [s]) (bs.drop (a + (j + 1))) (j + 1) from by have := HG2.out; rw [eT] at this ⊢; exact this)
                have HS3 := Lib.hid (show T.sub [] = .node ta tb from by rw [CT.sub_nil]; exact eT)
                have HOO := Lib.hid (show (o ++ [s]).length = m + 1 ∧ ∀ y ∈ o ++ [s], y < 256 from ⟨by rw [List.length_append, HO.out.1]; rfl, fun y hy => by
                  rcases List.mem_append.1 hy with h | h
                  · exact HO.out.2 y h
                  · rw [List.mem_singleton.1 h]; omega⟩)
                have hm1 : m + 1 ≤ maxLen := by unfold maxLen; omega
                have HZ4 := Lib.hid (show w.heap.size ≤ (w4.alloc (.cells #[.int .u8 (s : Int)] 5)).heap.size from by have := HSZ4.out; simp; omega)
                have HRN := Lib.hid (show rp ∉ ownL (.slice A1 m c) from fun hm => by have := HRO2.out _ hm; omega)
                have hz1 : a + (j + 1) ≤ N := by omega
                have hz2 : m + 1 ≤ j + 1 := by omega
                have hz3 : 0 ≤ j + 1 := by omega
                clear eT
                go_wp2_with (at_builtin; go_loud (refine wpList_append_rd rfl (.tmp 38) (.tmp 42) 50 rfl (w.heap.size) 5 j0 (.int .u8 0) 1 1 Tryz.underlying50 hj0 hy0 hy1 hy2 rfl (by decide) (.slice A1 m c) m _ rfl (own_kp0 HTW4.out.o1 ((Kp.refl [] _).alloc _)) _ _ 1 1 [.int .u8 (s : Int)] rfl rfl (Rd.new w4 #[.int .u8 (s : Int)] 5 (0, 0)) (by intro u hu; simp at hu; subst hu; rfl) hm1 hm2 HZ4.out ?_); intro v5 w5 hown5 hgrow5 hat5; obtain ⟨hka5, hga5⟩ := app_facts hgrow5 hat5; obtain ⟨A5', c5', rfl, _⟩ := own_form hown5; have HTW5 := Lib.hid (HTW4.out.left hown5 hgrow5 hat5).none_right; have HK5 := Lib.hid (HK4.out.trans' hka5 (fun x hx => .inr (HRO2.out x hx))); have HR5 := Lib.hid (HR4.out.kp hka5 HRN.out); clear hown5 hgrow5 hat5 hka5 hga5)
                clear hw1 hw2
                refine ⟨⟨j + 1, m + 1, c5', 0, 0, A5', none, o ++ [s], [], ta, tb, rfl, rfl, hz1, hz2, hz3, HOO, Lib.hid rfl, HS3, HG3, HR5, Lib.hid (by rw [List.map_append]; exact HTW5.out), HK5⟩, ?_⟩
                rw [HREL.out, HR5.out.cells.2.1]
                simp only [intOf]
                omega
            | node y1 y2 =>
              have HAV := Lib.hid (show atV T (lb ++ [false]) = -1 from by unfold atV; rw [HSK.out, hX])
              rw [HAV.out]
              have HG2 := Lib.hid (HG.out.node hX)
              have HSUB2 := Lib.hid (show T.sub (lb ++ [false]) = .node y1 y2 from by rw [HSK.out, hX])
              clear hX
              go_wp2_with fail
              refine ⟨⟨j + 1, m, c, kb + 1, c3', A1, A3', o, lb ++ [false], y1, y2, rfl, rfl, by omega, by omega, by omega, HO, Lib.hid (by rw [List.length_append, HLB.out]; rfl), HSUB2, HG2, HR4, Lib.hid (by rw [List.map_append]; exact HTW4.out), HK4⟩, ?_⟩
              rw [HREL.out, HM4.out]
              simp only [intOf]
              omega
          · have hnn : ((n : Int) == 1) = false := by simp; omega
            clear hkn hn1
            go_wp2_with (at_builtin; go_loud (refine wpList_append_rd rfl (.tmp 16) (.tmp 18) 43 rfl (w.heap.size) 4 i0 (.bool false) 1 1 Tryz.underlying43 hi0 hz0 hz1 hz2 rfl (by decide) (.slice A2 kb c2) (kb) _ rfl (own_kp0 HTW2.out.o2 ((Kp.refl [] _).alloc _)) _ _ 1 1 [.bool b] rfl rfl (Rd.new w2 #[.bool b] 4 (0, 0)) (by intro u hu; simp at hu; subst hu; rfl) (by unfold maxLen; omega) (by omega) (by have := HSZ.out; simp; omega) ?_); intro v3 w3 hown3 hgrow3 hat3; obtain ⟨hka3, hga3⟩ := app_facts hgrow3 hat3; obtain ⟨A3', c3', rfl, _⟩ := own_form hown3; have hp3 : w3.cell? ⟨p, 0, none⟩ = some (.slice (some S1) n d1) := hka3.cell q0 HPO.out; have HTW3 := Lib.hid (HTW2.out.swap.left hown3 hgrow3 hat3).swap; have HK3 := Lib.hid (HK2.out.trans' hka3 (fun x hx => .inr (HRO.out x hx))); have HR3 := Lib.hid (HR2.out.kp hka3 (fun hm => by have := HRO.out _ hm; omega)); clear hown3 hgrow3 hat3 hka3 hga3 HR2 HTW2 HK2 q0 hc2)
            refine (rat6_any lo hi p (kb + 1) c3' _ A3' (lb ++ [b]) T sg ls w3 (HC.out.kp HK3.out HHI.out) (by rw [List.map_append]; exact own_rd HTW3.out.o2) (by rw [List.length_append, HLB.out]; rfl) (by omega)).mono ?_
            rintro e w4 ⟨rfl, hd4⟩
            have hk4 := hd4.kp []
            have HTW4 := Lib.hid (HTW3.out.kp hk4 (by simp))
            have HR4 := Lib.hid (HR3.out.kp0 hk4)
            have HK4 := Lib.hid (HK3.out.trans' hk4 (by simp))
            have HSZ4 := Lib.hid HK4.out.size
            have HM4 := Lib.hid (show w4.cell? ⟨rp, 1, none⟩ = some (.int .i64 ((a + (j + 1) : Nat) : Int)) from HR4.out.cells.2.1)
            clear hd4 hk4 HTW3 HR3 HK3 hp3
            cases hX : (CT.node x1 x2).kid b with
            | nil => exact absurd hX HNIL.out
            | leaf s =>
              have HAV := Lib.hid (show atV T (lb ++ [b]) = (s : Int) from by unfold atV; rw [HSK.out, hX])
              cases s with
              | zero =>
                rw [HAV.out, show ((0 : Nat) : Int) = 0 from rfl]
                have HF := Lib.hid (HG.out.fin hX)
                have hcv := run_strN w4 A1 m c _ o HO.out.1 HO.out.2 (own_rd HTW4.out.o1)
                clear hX
                go_wp2_with fail
                go_ret2
                rw [HF.out]
                exact ⟨rfl, HR4.out, HK4.out⟩
              | succ s =>
                rw [HAV.out]
                have HG2 := Lib.hid (HG.out.leaf hX)
                have hs255 : s ≤ 255 := by have := HS255.out _ hX; omega
                obtain ⟨s1, hs1⟩ : ∃ s1, s1 = s + 1 := ⟨_, rfl⟩
                rw [← hs1]
                have hs10 : ((s1 : Int) == 0) = false := by simp; omega
                have hs11 : decide ((0 : Int) < (s1 : Int)) = true := by simp; omega
                have hs12 : decide (0 < s1) = true := by simp; omega
                have hm2 : (m + 1) * 1 ≤ 140737488355328 := by omega
                have hw1 : IntKind.i64.wrap ((s1 : Int) - 1) = (s : Int) := by rw [IntKind.wrap_i64]; omega
                have hw2 : IntKind.u8.wrap (s : Int) = (s : Int) := by
                  simp only [IntKind.wrap, IntKind.signed, IntKind.bits]
                  simp
                  omega
                have HRO2 := Lib.hid (show ∀ g ∈ ownL (.slice A1 m c), w.heap.size ≤ g from fun g hm => (own_ge HTW4.out.o1 (mem_ownL.1 hm)).1)
                clear hX hs1
                obtain ⟨ta, tb, eT⟩ := HC.out.1.node
                have HET := Lib.hid eT
                have HG3 := Lib.hid (show GetI (getF T bs a false) T (.node ta tb) (o ++ [s]) (bs.drop (a + (j + 1))) (j + 1) from by have := HG2.out; rw [eT] at this ⊢; exact this)
                have HS3 := Lib.hid (show T.sub [] = .node ta tb from by rw [CT.sub_nil]; exact eT)
                have HOO := Lib.hid (show (o ++ [s]).length = m + 1 ∧ ∀ y ∈ o ++ [s], y < 256 from ⟨by rw [List.length_append, HO.out.1]; rfl, fun y hy => by
                  rcases List.mem_append.1 hy with h | h
                  · exact HO.out.2 y h
                  · rw [List.mem_singleton.1 h]; omega⟩)
                have hm1 : m + 1 ≤ maxLen := by unfold maxLen; omega
                have HZ4 := Lib.hid (show w.heap.size ≤ (w4.alloc (.cells #[.int .u8 (s : Int)] 5)).heap.size from by have := HSZ4.out; simp; omega)
                have HRN := Lib.hid (show rp ∉ ownL (.slice A1 m c) from fun hm => by have := HRO2.out _ hm; omega)
                have hz1 : a + (j + 1) ≤ N := by omega
                have hz2 : m + 1 ≤ j + 1 := by omega
                have hz3 : 0 ≤ j + 1 := by omega
                clear eT
                go_wp2_with (at_builtin; go_loud (refine wpList_append_rd rfl (.tmp 38) (.tmp 42) 50 rfl (w.heap.size) 5 j0 (.int .u8 0) 1 1 Tryz.underlying50 hj0 hy0 hy1 hy2 rfl (by decide) (.slice A1 m c) m _ rfl (own_kp0 HTW4.out.o1 ((Kp.refl [] _).alloc _)) _ _ 1 1 [.int .u8 (s : Int)] rfl rfl (Rd.new w4 #[.int .u8 (s : Int)] 5 (0, 0)) (by intro u hu; simp at hu; subst hu; rfl) hm1 hm2 HZ4.out ?_); intro v5 w5 hown5 hgrow5 hat5; obtain ⟨hka5, hga5⟩ := app_facts hgrow5 hat5; obtain ⟨A5', c5', rfl, _⟩ := own_form hown5; have HTW5 := Lib.hid (HTW4.out.left hown5 hgrow5 hat5).none_right; have HK5 := Lib.hid (HK4.out.trans' hka5 (fun x hx => .inr (HRO2.out x hx))); have HR5 := Lib.hid (HR4.out.kp hka5 HRN.out); clear hown5 hgrow5 hat5 hka5 hga5)
                clear hw1 hw2
                refine ⟨⟨j + 1, m + 1, c5', 0, 0, A5', none, o ++ [s], [], ta, tb, rfl, rfl, hz1, hz2, hz3, HOO, Lib.hid rfl, HS3, HG3, HR5, Lib.hid (by rw [List.map_append]; exact HTW5.out), HK5⟩, ?_⟩
                rw [HREL.out, HR5.out.cells.2.1]
                simp only [intOf]
                omega
            | node y1 y2 =>
              have HAV := Lib.hid (show atV T (lb ++ [b]) = -1 from by unfold atV; rw [HSK.out, hX])
              rw [HAV.out]
              have HG2 := Lib.hid (HG.out.node hX)
              have HSUB2 := Lib.hid (show T.sub (lb ++ [b]) = .node y1 y2 from by rw [HSK.out, hX])
              clear hX
              go_wp2_with fail
              refine ⟨⟨j + 1, m, c, kb + 1, c3', A1, A3', o, lb ++ [b], y1, y2, rfl, rfl, by omega, by omega, by omega, HO, Lib.hid (by rw [List.length_append, HLB.out]; rfl), HSUB2, HG2, HR4, Lib.hid (by rw [List.map_append]; exact HTW4.out), HK4⟩, ?_⟩
              rw [HREL.out, HM4.out]
              simp only [intOf]
              omega
end Go.Proofs.YtlaionhlejmjdaaGreatDoor
