/-
  TreeWalks: the walk.
  CONDITIONS: the bounds that a row's reach gives.
-/
import Derived.Test.YtldmabkilgpgcaaGwalk
import Derived.Test.YtldmabkilgpgcaaMGrid4
import Derived.Test.YtldmabkilgpgcaaGaw
import Derived.Test.YtldmabkilgpgcaaGopen
import Derived.Test.YtldmabkilgpgcaaRegF
namespace Go.Proofs.Ytldmabkilgpgcaa
open Go.RowKit

theorem pc_drop : ∀ (k : Nat) (l : List (Nat × Nat)), (pc l).drop (k * 2) = pc (l.drop k)
  | 0, l => by simp
  | k + 1, [] => by simp [pc]
  | k + 1, p :: l => by
    show (.int .i64 (p.1 : Int) :: .int .i64 (p.2 : Int) :: pc l).drop ((k + 1) * 2) = _
    rw [show (k + 1) * 2 = k * 2 + 1 + 1 by omega, List.drop_succ_cons, List.drop_succ_cons, pc_drop k l, List.drop_succ_cons]
theorem cut2 {w : World} {B : Nat} {A : Option Addr} {m : List (Nat × Nat)} {k n c : Nat} (h : Rd w B A (pc m)) (hl : m.length = n) (hk : k ≤ n) (hc : n ≤ c) : Rd w B (if c = k then A else A.map fun x => x.add (k * 2)) (pc (m.drop k)) := by
  by_cases he : c = k
  · rw [List.drop_of_length_le (by omega)]
    exact Rd.nil _ _ _
  · rw [if_neg he]
    rcases A with _ | a
    · rcases m with _ | ⟨x, m⟩
      · rw [List.drop_nil]; exact Rd.nil _ _ _
      · obtain ⟨_, e, _⟩ := h 0 _ rfl
        cases e
    · rw [← pc_drop]
      exact h.drop (k * 2)
theorem own_nil2 (w : World) (base : Nat) (e : TypeId) (size : Nat) (hb : base ≤ w.heap.size) : (w.alloc (.cells #[] e)).ownsRow base e size (.slice (some ⟨w.heap.size, 0, none⟩) 0 0) 0 [] :=
  ⟨by simp, .inr ⟨_, 0, #[], rfl, hb, Blk.new w e [], Nat.le_refl _, Nat.zero_le _, by simp, by simp⟩⟩
theorem mem_up {a b : Nat} {l : List (Nat × Nat)} : (((a : Int), (b : Int)) ∈ l.map upI) ↔ (a, b) ∈ l := by
  rw [List.mem_map]
  constructor
  · rintro ⟨⟨x, y⟩, hm, he⟩
    unfold upI at he
    injection he with h1 h2
    simp only at h1 h2
    obtain rfl : x = a := by omega
    obtain rfl : y = b := by omega
    exact hm
  · intro h
    exact ⟨_, h, rfl⟩
theorem fresh_at {α : Type} {C : List α} {k : Nat} {x : α} (h : C.Nodup) (hx : C[k]? = some x) : x ∉ C.take k := by
  have hk := (List.getElem?_eq_some_iff.1 hx).1
  have e : C = C.take k ++ x :: C.drop (k + 1) := by
    have := List.take_append_drop k C
    rw [List.drop_eq_getElem_cons hk, (List.getElem?_eq_some_iff.1 hx).2] at this
    exact this.symm
  rw [e] at h
  intro hm
  exact (List.nodup_append.1 h).2.2 x hm x (by simp) rfl
theorem Rd.ixN {w : World} {B : Nat} {A : Option Addr} {l : List (Nat × Nat)} (h : Rd w B A (pc l)) {k : Nat} (hk : k < l.length) :
    ∃ (r c : Nat) (ad : Addr), l[k]? = some (r, c) ∧ A = some ad ∧ ad.block < B ∧ w.cell? (ad.add (k * 2)) = some (.int .i64 (r : Int)) ∧ w.cell? ⟨(ad.add (k * 2)).block, (ad.add (k * 2)).off + 1, none⟩ = some (.int .i64 (c : Int)) := by
  obtain ⟨p, hp⟩ : ∃ p, l[k]? = some p := ⟨_, List.getElem?_eq_getElem hk⟩
  rw [pc_I] at h
  obtain ⟨r, c, ad, h1, h2, h3, h4, h5⟩ := h.ixI (k := k) (by simpa using hk)
  rw [List.getElem?_map, hp] at h1
  injection h1 with h1
  unfold upI at h1
  injection h1 with e1 e2
  subst e1 e2
  exact ⟨p.1, p.2, ad, hp, h2, h3, h4, h5⟩
/-- Pairs inside are those of naturals. -/
theorem inside_nat {h : Nat} : ∀ {l : List (Int × Int)}, (l.any fun p => outI ((2 ^ h : Nat) : Int) p.1 p.2) = false → ∃ m : List (Nat × Nat), l = m.map upI ∧ ∀ p ∈ m, p.1 < 2 ^ h ∧ p.2 < 2 ^ h
  | [], _ => ⟨[], rfl, by simp⟩
  | p :: l, hh => by
    rw [List.any_cons, Bool.or_eq_false_iff] at hh
    obtain ⟨m, rfl, hm⟩ := inside_nat hh.2
    have h1 := hh.1
    unfold outI at h1
    simp only [Bool.not_eq_false', decide_eq_true_iff] at h1
    obtain ⟨a, b, c, d⟩ := h1
    refine ⟨(p.1.toNat, p.2.toNat) :: m, ?_, fun x hx => ?_⟩
    · rw [List.map_cons]
      unfold upI
      simp only [Int.toNat_of_nonneg a, Int.toNat_of_nonneg c]
    · rcases List.mem_cons.1 hx with rfl | hx
      · exact ⟨by simp only; omega, by simp only; omega⟩
      · exact hm x hx
set_option maxRecDepth 100000 in
set_option maxHeartbeats 4000000 in
theorem treewalks_any (s : Int) (A : Option Addr) (n c : Nat) (l : List (Int × Int)) (turn r cc : Int) (w : World) (hx : Rd w w.heap.size A (pcI l)) (hn : l.length = n) (hnb : n ≤ 140737488351232) (hc : n ≤ c) (hl : ∀ p ∈ l, Pok p)
    (hs0 : -9223372036854775808 ≤ s) (hs1 : s ≤ 9223372036854775807) (hr0 : -9223372036854775808 ≤ r) (hr1 : r ≤ 9223372036854775807) (hc0 : -9223372036854775808 ≤ cc) (hc1 : cc ≤ 9223372036854775807) :
    Calls Try.prog 7 #[.int .i64 s, .slice A n c, .int .i64 turn, .agg #[.int .i64 r, .int .i64 cc]] w fun e w' => e = .returned (.bool true) ∧ Kp [] w w' := by
  obtain ⟨i0, hi, hz0, hz1, hz2⟩ := info_parts Try.info_pair
  obtain ⟨iu, hu, hu0, hu1, hu2⟩ := info_parts Try.info_gu8
  have hk0 := (Kp.refl [] w).alloc (.cells #[.int .i64 r, .int .i64 cc] 24)
  have hb0 := Blk.new w 24 [.int .i64 r, .int .i64 cc]
  obtain ⟨w0, hw0⟩ : ∃ w0, w0 = w.alloc (.cells #[.int .i64 r, .int .i64 cc] 24) := ⟨_, rfl⟩
  obtain ⟨g, hg⟩ : ∃ g, g = w.heap.size := ⟨_, rfl⟩
  replace hk0 : Kp [] w w0 := by rw [hw0]; exact hk0
  replace hb0 : Blk w0 g 24 [.int .i64 r, .int .i64 cc] := by rw [hw0, hg]; exact hb0
  have HX := Lib.hid (hx.kp0 hk0)
  have HB := Lib.hid hb0
  have HK := Lib.hid hk0
  have HW0 := Lib.hid hw0
  have HG := Lib.hid hg
  have HN := Lib.hid hn; clear hn
  have HL := Lib.hid hl; clear hl
  clear hx hk0 hb0 hw0 hg
  go_enter Try.func7, Try.ntmps7
  go_wp2_with fail
  rw [← HW0.out, ← HG.out]
  refine (tawake_any w0).mono ?_
  rintro e w1 ⟨rfl, hk1⟩
  replace HX := Lib.hid (HX.out.kp0 hk1)
  replace HB := Lib.hid (HB.out.kp0 hk1)
  replace HK := Lib.hid (HK.out.trans hk1)
  clear hk1 HW0
  by_cases hbig : 150 < n
  · go_wp2_with fail
    go_ret
    exact ⟨rfl, HK.out⟩
  have hn150 : n ≤ 150 := by omega
  obtain ⟨hL, hh⟩ : ∃ hL, hL = hgt s := ⟨_, rfl⟩
  have HHG := Lib.hid hh.symm
  have HSP := Lib.hid (hgt_spec s)
  rw [← hh] at HSP
  clear hh
  by_cases hz : hL = 0
  · subst hz
    go_wp2_with fail
    refine (tof_arg s _ w1 HHG.out hs0 hs1).mono ?_
    rintro e w2 ⟨rfl, hk2⟩
    replace HK := Lib.hid (HK.out.trans hk2)
    clear hk2
    go_wp2_with fail
    go_ret
    exact ⟨rfl, HK.out⟩
  obtain ⟨h1, h17, hsp⟩ : 1 ≤ hL ∧ hL ≤ 17 ∧ s = ((2 ^ hL : Nat) : Int) := by
    rcases HSP.out with h' | h'
    · exact absurd h'.1 hz
    · exact h'
  cases hany : (l.any fun p => outI s p.1 p.2) with
  | true =>
    have HAN := Lib.hid hany
    clear hany hsp
    go_wp2_with fail
    refine (tof_out s hL n c _ A l w1 HHG.out hz HX.out HN.out (by omega) HAN.out (fun p hp => HL.out p hp)).mono ?_
    rintro e w2 ⟨rfl, hk2⟩
    replace HK := Lib.hid (HK.out.trans hk2)
    clear hk2
    go_wp2_with fail
    go_ret
    exact ⟨rfl, HK.out⟩
  | false =>
    rw [hsp] at hany
    obtain ⟨m, rfl, hm⟩ := inside_nat hany
    rw [← pc_I] at HX
    have hml : m.length = n := by have := HN.out; rwa [List.length_map] at this
    have HOF := Lib.hid (fun w1 (hx : Rd w1 w.heap.size A (pc m)) => tof_ok hL n c w.heap.size A m w1 h1 h17 hx hml (by omega) hm (k_all h1 m).1)
    rw [← hsp] at HOF
    have HML := Lib.hid hml
    have HM := Lib.hid hm
    have HSS := Lib.hid hsp
    clear hany hml hm hsp
    go_wp2_with fail
    refine (HOF.out w1 HX.out).mono ?_
    rintro e w2 ⟨S, p, q, rfl, ht, hS, hp, hk2⟩
    have HT := Lib.hid ht
    have HS := Lib.hid (And.intro hS hp)
    replace HX := Lib.hid (HX.out.kp0 hk2)
    replace HB := Lib.hid (HB.out.kp0 hk2)
    replace HK := Lib.hid (HK.out.trans hk2)
    clear ht hS hp hk2
    go_wp2_with fail
    have hpb := pickI_bound (x := turn) (n := (n : Int) + 1) (by omega)
    refine (pick_any turn ((n : Int) + 1) w2 (by omega)).mono ?_
    obtain ⟨k, hk⟩ : ∃ k : Nat, pickI turn ((n : Int) + 1) = (k : Int) := ⟨(pickI turn ((n : Int) + 1)).toNat, by omega⟩
    rw [hk] at hpb ⊢
    rintro e w3 ⟨rfl, rfl⟩
    have hkn : k ≤ n := by omega
    have hkc : k ≤ c := by omega
    have hkI : (k : Int) ≤ (n : Int) := by omega
    have hkcI : (k : Int) ≤ (c : Int) := by omega
    have hk0 : (0 : Int) ≤ (k : Int) := by omega
    clear hk hpb
    have HCUT := Lib.hid (cut2 HX.out HML.out hkn hc)
    have HSZ := Lib.hid HK.out.size
    have HLT := Lib.hid (show (∀ x ∈ S, x < w2.heap.size) ∧ p < w2.heap.size ∧ g < w2.heap.size from ⟨HT.out.2.1.lt, HT.out.1.lt, HB.out.lt⟩)
    obtain ⟨nk, hnk⟩ : ∃ nk, n - k = nk := ⟨_, rfl⟩
    have HNK := Lib.hid hnk
    have hnkb : nk ≤ 150 := by omega
    have HDL := Lib.hid (show (m.drop k).length = nk by rw [List.length_drop, HML.out, hnk])
    go_upto_region 9 with (fail)
    go_cut [12, 13] (fun s12 s13 wx => ∃ (S5 : List Nat) (p5 q5 : Nat), s12 = .pointer (some ⟨p5, 0, none⟩) ∧ s13 = .int .i64 0 ∧ Hid (TreeM wx S5 p5 q5 hL (kOf (levL hL [m])) (levL hL [m]) true) ∧ Hid (TreeM wx S p q hL (kOf (levL hL [m])) (levL hL [m]) true) ∧ Hid (Rd wx w.heap.size A (pc m)) ∧ Hid (Blk wx g 24 [.int .i64 r, .int .i64 cc]) ∧ Hid (Kp [] w wx))
    case first =>
      go_wp2_with first
                  | (at_builtin; refine wpList_append_rd rfl (.tmp 43) (.tmp 46) 22 rfl w2.heap.size 24 i0 (.agg #[.int .i64 0, .int .i64 0]) 2 16 Try.underlying22 hi hz0 hz1 hz2 rfl (by decide) (.slice (some ⟨w2.heap.size, 0, none⟩) 0 0) 0 [] rfl (own_nil2 w2 w2.heap.size _ 2 (Nat.le_refl _)) _ _ nk (c - k) (pc (m.drop k)) rfl (by rw [pc_len, HDL.out]) (HCUT.out.kp0 ((Kp.refl [] _).alloc _)) (oc_pc _) (by unfold maxLen; omega) (by omega) (by simp) ?_; intro v3 w3 hown3 hgrow3 hat3
                     generalize (if c = k then A else Option.map (fun x => x.add (k * 2)) A) = Ac
                     rw [Nat.zero_add, List.nil_append] at hown3
                     obtain ⟨A3, c3, rfl, _⟩ := own_form hown3
                     have hk3 : Kp [] w2 w3 := ((Kp.refl [] w2).alloc _).grown hgrow3 (fun x hx => .inr (by simp [Value.ownBlock] at hx; omega))
                     have HO3 := Lib.hid hown3
                     have HS23 := Lib.hid hk3.size
                     have HX3 := Lib.hid (HX.out.kp0 hk3)
                     have HB3 := Lib.hid (HB.out.kp0 hk3)
                     have HT3 := Lib.hid (HT.out.kp0 hk3)
                     have HK3 := Lib.hid (HK.out.trans hk3)
                     clear hown3 hgrow3 hat3 hk3)
                  | (at_builtin; refine wpList_append_rd rfl (.tmp 47) (.tmp 48) 22 rfl w2.heap.size 24 i0 (.agg #[.int .i64 0, .int .i64 0]) 2 16 Try.underlying22 hi hz0 hz1 hz2 rfl (by decide) (.slice A3 nk c3) nk _ rfl HO3.out _ _ n c (pc m) rfl (by rw [pc_len, HML.out]) HX3.out (oc_pc _) (by unfold maxLen; omega) (by omega) HS23.out ?_; intro v4 w4 hown4 hgrow4 hat4
                     obtain ⟨A4, c4, rfl, _⟩ := own_form hown4
                     have hk4 : Kp (ownL (.slice A3 nk c3)) w3 w4 := (Kp.refl _ w3).grown hgrow4 (fun x hx => .inl (mem_ownL.2 hx))
                     have H4 := Lib.hid (And.intro hown4 hk4)
                     clear hown4 hgrow4 hat4 hk4)
      obtain ⟨ho4, hk4⟩ := H4.out
      have hge : ∀ x ∈ ownL (.slice A3 nk c3), w2.heap.size ≤ x := fun x hx => (own_ge HO3.out (mem_ownL.1 hx)).1
      have HT4 := Lib.hid (HT3.out.kp hk4 (fun x hx hm => by have := hge x hm; have := HLT.out.1 x hx; omega) (fun hm => by have := hge _ hm; have := HLT.out.2.1; omega))
      have HX4 := Lib.hid (HX3.out.kp hk4 (fun x hx => Nat.le_trans HK.out.size (hge x hx)))
      have HB4 := Lib.hid (HB3.out.kp hk4 (fun hm => by have := hge _ hm; have := HLT.out.2.2; omega))
      have HK4 := Lib.hid (HK3.out.trans' hk4 (fun x hx => .inr (Nat.le_trans HK.out.size (hge x hx))))
      have hsame : SameS (m.drop k ++ m) m := fun x => by
        rw [List.mem_append]
        exact ⟨fun hx => by rcases hx with hx | hx; exact List.mem_of_mem_drop hx; exact hx, fun hx => .inr hx⟩
      have hlev : levL hL [m.drop k ++ m] = levL hL [m] := lev_same hL (same_one hsame)
      have hof := tof_ok hL (nk + n) c4 _ A4 (m.drop k ++ m) w4 h1 h17 (by rw [pc_append]; exact own_rd ho4) (by rw [List.length_append, HDL.out, HML.out]) (by omega) (fun x hx => HM.out x ((hsame x).1 hx)) (k_all h1 _).1
      rw [← HSS.out, hlev] at hof
      clear ho4 hk4 hge hsame hlev H4 HX3 HB3 HT3 HK3 HO3
      refine hof.mono ?_
      rintro e w5 ⟨S5, p5, q5, rfl, ht5, hS5, hp5, hk5⟩
      clear hof
      have HU5 := Lib.hid ht5
      have HT5 := Lib.hid (HT4.out.kp0 hk5)
      have HX5 := Lib.hid (HX4.out.kp0 hk5)
      have HB5 := Lib.hid (HB4.out.kp0 hk5)
      have HK5 := Lib.hid (HK4.out.trans hk5)
      clear ht5 hS5 hp5 hk5 HT4 HX4 HB4 HK4
      go_wp2_with fail
      go_meet
      exact ⟨S5, p5, q5, rfl, rfl, HU5, HT5, HX5, HB5, HK5⟩
    case rest =>
      obtain ⟨S5, p5, q5, rfl, rfl, HU5, HT5, HX5, HB5, HK5⟩ := hcut
      clear HCUT HSZ HLT HNK HDL hnkb hkn hkc hkI hkcI hk0 HT HX HB HK HS hnk
      obtain ⟨w5, hw5⟩ : ∃ w5, w5 = wc := ⟨_, rfl⟩
      subst hw5
      obtain ⟨bs, hbs⟩ : ∃ bs, bs = levL hL [m] := ⟨_, rfl⟩
      have HBS := Lib.hid hbs
      rw [← hbs] at HT5 HU5
      clear hbs
      have HTR := Lib.hid (treeB_range (bs := bs) h17)
      have hbl : bs.length ≤ 68 * 151 := by
        rw [HBS.out]
        exact Nat.le_trans (levL_len 150 hL [m] (by simp) (by simp [HML.out]; omega)) (by omega)
      have HBL := Lib.hid hbl
      obtain ⟨tb, htb⟩ : ∃ tb, tb = treeB hL bs := ⟨_, rfl⟩
      obtain ⟨z, hz9⟩ : ∃ z, z = 5 + (bs.length + 7) / 8 := ⟨_, rfl⟩
      have hzb : z ≤ 2000 := by omega
      have HZ := Lib.hid hz9
      have HTB := Lib.hid htb
      have HBY := Lib.hid (show ∀ S p q k w', TreeM w' S p q hL k bs true → Calls Try.prog 16 #[.pointer (some ⟨p, 0, none⟩)] w' fun e w'' => ∃ A c, e = .returned (.slice A z c) ∧ w''.ownsRow w'.heap.size 5 1 (.slice A z c) z (tb.map (.int .u8)) ∧ Kp [] w' w'' from fun S p q k w' ht => by
        refine (tbytes_any S p q hL k bs w' ht h17).mono ?_
        rintro e w'' ⟨A, m6, c6, hm6, rfl, ho, hk⟩
        rw [← hz9] at hm6
        subst hm6
        exact ⟨A, c6, rfl, by rw [htb]; exact ho, hk⟩)
      have HTL := Lib.hid (show tb.length = z by rw [htb, hz9]; unfold treeB headB; simp [bytesN]; omega)
      clear hbl htb hz9
      go_wp2_with fail
      refine (HBY.out S p q _ w5 HT5.out).mono ?_
      rintro e w6 ⟨A6, c6, rfl, ho6, hk6⟩
      have HO6 := Lib.hid ho6
      have HT6 := Lib.hid (HT5.out.kp0 hk6)
      have HU6 := Lib.hid (HU5.out.kp0 hk6)
      have HX6 := Lib.hid (HX5.out.kp0 hk6)
      have HB6 := Lib.hid (HB5.out.kp0 hk6)
      have HK6 := Lib.hid (HK5.out.trans hk6)
      have HS56 := Lib.hid hk6.size
      have HLT5 := Lib.hid (show (∀ x ∈ S, x < w5.heap.size) ∧ p < w5.heap.size ∧ g < w5.heap.size ∧ (∀ x ∈ S5, x < w5.heap.size) ∧ p5 < w5.heap.size from ⟨HT5.out.2.1.lt, HT5.out.1.lt, HB5.out.lt, HU5.out.2.1.lt, HU5.out.1.lt⟩)
      clear ho6 hk6 HT5 HU5 HX5 HB5
      go_wp2_with (at_builtin; go_loud (refine wpList_append_rd rfl (.tmp 55) (.tmp 56) 38 rfl w5.heap.size 5 iu (.int .u8 0) 1 1 Try.underlying38 hu hu0 hu1 hu2 rfl (by decide) (.slice A6 z c6) z _ rfl (own_kp0 HO6.out ((Kp.refl [] _).alloc _)) _ _ 2 2 [.int .u8 5, .int .u8 6] rfl rfl (Rd.new w6 #[.int .u8 5, .int .u8 6] 5 (0, 0)) (by intro u hu; simp at hu; rcases hu with rfl | rfl <;> rfl) (by unfold maxLen; omega) (by omega) (by have := HS56.out; simp; omega) ?_); intro v7 w7 hown7 hgrow7 hat7
                   obtain ⟨A7, c7, rfl, hz7, _⟩ := own_form hown7
                   obtain ⟨hk7, _⟩ := app_facts hgrow7 hat7
                   have H7 := Lib.hid (And.intro hown7 hk7)
                   clear hown7 hgrow7 hat7 hk7)
      have hge6 : ∀ x ∈ ownL (.slice A6 z c6), w5.heap.size ≤ x := fun x hx => (own_ge HO6.out (mem_ownL.1 hx)).1
      have hk7 := H7.out.2
      have HT7 := Lib.hid (HT6.out.kp hk7 (fun x hx hm => by have := hge6 x hm; have := HLT5.out.1 x hx; omega) (fun hm => by have := hge6 _ hm; have := HLT5.out.2.1; omega))
      have HU7 := Lib.hid (HU6.out.kp hk7 (fun x hx hm => by have := hge6 x hm; have := HLT5.out.2.2.2.1 x hx; omega) (fun hm => by have := hge6 _ hm; have := HLT5.out.2.2.2.2; omega))
      have HX7 := Lib.hid (HX6.out.kp hk7 (fun x hx => Nat.le_trans HK5.out.size (hge6 x hx)))
      have HB7 := Lib.hid (HB6.out.kp hk7 (fun hm => by have := hge6 _ hm; have := HLT5.out.2.2.1; omega))
      have HK7 := Lib.hid (HK6.out.trans' hk7 (fun x hx => .inr (Nat.le_trans HK5.out.size (hge6 x hx))))
      obtain ⟨C, hC, hCS, hClev⟩ := read_back (h := hL) (l := m) h1 h17 HM.out (by rw [← HBS.out]; have := HBL.out; omega) [5, 6]
      rw [← HBS.out] at hC hClev
      rw [← HTB.out, ← HZ.out] at hC
      have htr : ∀ y ∈ tb, 0 ≤ y ∧ y < 256 := by rw [HTB.out]; exact HTR.out
      have hrow : (intsN (tb.map Int.toNat ++ [5, 6])).map (Value.int .u8) = tb.map (.int .u8) ++ [.int .u8 5, .int .u8 6] := by
        have := intsN_bytes (b := tb) (fun y hy => by have := htr y hy; omega)
        unfold intsN at this ⊢
        rw [List.map_append, this, List.map_append]
        rfl
      have hrd := tread_any A7 (z + 2) c7 w7.heap.size (tb.map Int.toNat ++ [5, 6]) w7 (by rw [hrow]; exact own_rd H7.out.1) (by rw [List.length_append, List.length_map, HTL.out]; rfl) (by omega) hz7 (fun y hy => by
        rcases List.mem_append.1 hy with hy | hy
        · obtain ⟨v, hv, rfl⟩ := List.mem_map.1 hy
          have := htr v hv
          omega
        · simp at hy; omega)
      unfold ReadP at hrd
      rw [hC] at hrd
      have HRD := Lib.hid (show Calls Try.prog 23 #[.slice A7 (z + 2) c7] w7 fun e w' => Kp [] w7 w' ∧ ∃ S p q, e = .returned (.tuple #[.pointer (some ⟨p, 0, none⟩), .int .i64 (z : Int), .int .i64 0]) ∧ TreeM w' S p q hL (kOf bs) bs true from by
        refine hrd.mono ?_
        rintro e w' ⟨hk, h' | ⟨h', C', n', S, p, q, he, rfl, ht, _⟩⟩
        · exact absurd h'.1 (by simp)
        · injection he with he
          injection he with he1 he2
          injection he2 with he2 he3
          subst he1 he2 he3
          rw [hClev] at ht
          exact ⟨hk, S, p, q, rfl, ht⟩)
      clear hge6 hk7 hC hCS hClev htr hrow hrd H7 HT6 HU6 HX6 HB6 HK6 HO6 HLT5 HS56
      refine HRD.out.mono ?_
      clear HRD
      rintro e w8 ⟨hk8, S8, p8, q8, rfl, hr8⟩
      have HR8 := Lib.hid hr8
      have HT8 := Lib.hid (HT7.out.kp0 hk8)
      have HU8 := Lib.hid (HU7.out.kp0 hk8)
      have HX8 := Lib.hid (HX7.out.kp0 hk8)
      have HB8 := Lib.hid (HB7.out.kp0 hk8)
      have HK8 := Lib.hid (HK7.out.trans hk8)
      clear hk8 hr8 HT7 HU7 HX7 HB7 HK7
      go_wp2_with fail
      refine (HBY.out S p q _ w8 HT8.out).mono ?_
      rintro e w9 ⟨A9, c9, rfl, ho9, hk9⟩
      have HO9 := Lib.hid (own_rd ho9)
      clear ho9
      have HT9 := Lib.hid (HT8.out.kp0 hk9)
      have HU9 := Lib.hid (HU8.out.kp0 hk9)
      have HR9 := Lib.hid (HR8.out.kp0 hk9)
      have HX9 := Lib.hid (HX8.out.kp0 hk9)
      have HB9 := Lib.hid (HB8.out.kp0 hk9)
      have HK9 := Lib.hid (HK8.out.trans hk9)
      clear hk9 HT8 HU8 HR8 HX8 HB8 HK8
      clear HO9
      go_wp2_with fail
      refine (HBY.out S5 p5 q5 _ w9 HU9.out).mono ?_
      rintro e wa ⟨Aa, ca, rfl, hoa, hka⟩
      have HOa := Lib.hid (own_rd hoa)
      clear hoa
      have HTa := Lib.hid (HT9.out.kp0 hka)
      have HUa := Lib.hid (HU9.out.kp0 hka)
      have HRa := Lib.hid (HR9.out.kp0 hka)
      have HXa := Lib.hid (HX9.out.kp0 hka)
      have HBa := Lib.hid (HB9.out.kp0 hka)
      have HKa := Lib.hid (HK9.out.trans hka)
      clear hka HT9 HU9 HR9 HX9 HB9 HK9
      go_wp2_with fail
      refine (HBY.out S p q _ wa HTa.out).mono ?_
      rintro e wb ⟨Ab, cb, rfl, hob, hkb⟩
      have HOb := Lib.hid (own_rd hob)
      clear hob
      have HTb := Lib.hid (HTa.out.kp0 hkb)
      have HUb := Lib.hid (HUa.out.kp0 hkb)
      have HRb := Lib.hid (HRa.out.kp0 hkb)
      have HXb := Lib.hid (HXa.out.kp0 hkb)
      have HBb := Lib.hid (HBa.out.kp0 hkb)
      have HKb := Lib.hid (HKa.out.trans hkb)
      replace HOa := Lib.hid (HOa.out.kp0 hkb)
      clear hkb HTa HUa HRa HXa HBa HKa
      go_wp2_with fail
      refine (sameB Aa Ab z z ca cb _ _ tb tb wb HOa.out HOb.out HTL.out HTL.out (by omega) (by omega)).mono ?_
      rintro e wd ⟨rfl, hdd⟩
      have hkd := hdd.kp []
      clear hdd HOa HOb
      have HTd := Lib.hid (HTb.out.kp0 hkd)
      have HUd := Lib.hid (HUb.out.kp0 hkd)
      have HRd := Lib.hid (HRb.out.kp0 hkd)
      have HXd := Lib.hid (HXb.out.kp0 hkd)
      have HBd := Lib.hid (HBb.out.kp0 hkd)
      have HKd := Lib.hid (HKb.out.trans hkd)
      clear hkd HTb HUb HRb HXb HBb HKb
      rw [decide_eq_true (rfl : tb = tb)]
      go_wp2_with fail
      refine (HBY.out S8 p8 q8 _ wd HRd.out).mono ?_
      rintro e wf ⟨Af, cf, rfl, hof, hkf⟩
      have HOf := Lib.hid (own_rd hof)
      clear hof
      have HTf := Lib.hid (HTd.out.kp0 hkf)
      have HUf := Lib.hid (HUd.out.kp0 hkf)
      have HRf := Lib.hid (HRd.out.kp0 hkf)
      have HXf := Lib.hid (HXd.out.kp0 hkf)
      have HBf := Lib.hid (HBd.out.kp0 hkf)
      have HKf := Lib.hid (HKd.out.trans hkf)
      clear hkf HTd HUd HRd HXd HBd HKd
      go_wp2_with fail
      refine (HBY.out S p q _ wf HTf.out).mono ?_
      rintro e wg ⟨Ag, cg, rfl, hog, hkg⟩
      have HOg := Lib.hid (own_rd hog)
      clear hog
      have HTg := Lib.hid (HTf.out.kp0 hkg)
      have HUg := Lib.hid (HUf.out.kp0 hkg)
      have HRg := Lib.hid (HRf.out.kp0 hkg)
      have HXg := Lib.hid (HXf.out.kp0 hkg)
      have HBg := Lib.hid (HBf.out.kp0 hkg)
      have HKg := Lib.hid (HKf.out.trans hkg)
      replace HOf := Lib.hid (HOf.out.kp0 hkg)
      clear hkg HTf HUf HRf HXf HBf HKf
      go_wp2_with fail
      refine (sameB Af Ag z z cf cg _ _ tb tb wg HOf.out HOg.out HTL.out HTL.out (by omega) (by omega)).mono ?_
      rintro e wi ⟨rfl, hdi⟩
      have hki := hdi.kp []
      clear hdi HOf HOg
      have HTi := Lib.hid (HTg.out.kp0 hki)
      have HUi := Lib.hid (HUg.out.kp0 hki)
      have HRi := Lib.hid (HRg.out.kp0 hki)
      have HXi := Lib.hid (HXg.out.kp0 hki)
      have HBi := Lib.hid (HBg.out.kp0 hki)
      have HKi := Lib.hid (HKg.out.trans hki)
      clear hki HTg HUg HRg HXg HBg HKg
      rw [decide_eq_true (rfl : tb = tb)]
      go_wp2_with fail
      refine (tlen_any S8 p8 q8 hL _ bs true wi HRi.out).mono ?_
      rintro e wj ⟨rfl, rfl⟩
      go_wp2_with fail
      refine (tlen_any S p q hL _ bs true wi HTi.out).mono ?_
      rintro e wj ⟨rfl, rfl⟩
      clear HRi HUi
      go_wp2_with fail
      refine (walked_any S p q hL _ m bs wi HTi.out HBS.out h1 h17 (by rw [HML.out]; omega) HM.out).mono ?_
      rintro e wl ⟨hkl, C, Al, M, cl, rfl, hCL, hCR, hCS, hCN, hMk, hMc⟩
      have HCL := Lib.hid hCL
      have HCR := Lib.hid hCR
      have HCS := Lib.hid hCS
      have HCN := Lib.hid hCN
      have HMK := Lib.hid hMk
      clear hCL hCR hCS hCN hMk
      have HTl := Lib.hid (HTi.out.kp0 hkl)
      have HXl := Lib.hid (HXi.out.kp0 hkl)
      have HBl := Lib.hid (HBi.out.kp0 hkl)
      have HKl := Lib.hid (HKi.out.trans hkl)
      clear hkl HTi HXi HBi HKi
      go_wp2_with fail
      refine (tlen_any S p q hL _ bs true wl HTl.out).mono ?_
      rw [← HMK.out]
      rintro e wj ⟨rfl, rfl⟩
      have HMC := Lib.hid hMc
      clear hMc
      have HXL := Lib.hid (show Rd wl w.heap.size A (pcI (m.map upI)) from by rw [← pc_I]; exact HXl.out)
      have HCI := Lib.hid (show Rd wl wl.heap.size Al (pcI (C.map upI)) from by rw [← pc_I]; exact HCR.out)
      have HMI := Lib.hid (show (m.map upI).length = n by rw [List.length_map]; exact HML.out)
      have HCN2 := Lib.hid (show (C.map upI).length = M by rw [List.length_map]; exact HCL.out)
      have hM200 : M ≤ 1000000 := by
        have := HBL.out
        have h9 : kOf bs ≤ bs.length := by unfold kOf; have := List.count_le_length (a := true) (l := bs); omega
        rw [← HMK.out] at h9
        omega
      have HHAS := Lib.hid (show ∀ a b, a < 2 ^ hL → b < 2 ^ hL → hasW bs hL 0 (a, b) = decide ((a, b) ∈ m) from fun a b ha hb => by
        rw [HBS.out, Bool.eq_iff_iff, has_iff HM.out ⟨ha, hb⟩ h1, decide_eq_true_iff])
      clear HBY HTR HTB HTL HZ HOF HSS HSP
      go_wp2_with fail
      go_loopw [19] (fun x wr => ∃ k : Nat, x = .int .i64 (k : Int) ∧ k ≤ M ∧ Hid (Kp [] wl wr)) (fun x _ => M - (intOf x).toNat)
      case atStart => exact ⟨0, rfl, by omega, Lib.hid (Kp.refl _ _)⟩
      case round =>
        obtain ⟨i, rfl, hiM, HKR⟩ := hrel
        by_cases hlt : i < M
        · obtain ⟨a, b, ad, hxk, had, hab, hcx, hcy⟩ := (HCR.out.kp0 HKR.out).ixN (k := i) (by rw [HCL.out]; exact hlt)
          subst had
          have hmm : (a, b) ∈ m := (HCS.out _).1 (List.mem_of_getElem? hxk)
          have HAB := Lib.hid (HM.out _ hmm)
          have HF1 := Lib.hid (show decide (((a : Int), (b : Int)) ∈ (C.take i).map upI) = false by
            rw [decide_eq_false_iff_not, mem_up]; exact fresh_at HCN.out hxk)
          have HF2 := Lib.hid (show decide (((a : Int), (b : Int)) ∈ m.map upI) = true by
            rw [decide_eq_true_iff, mem_up]; exact hmm)
          have HF3 := Lib.hid (show hasW bs hL 0 (a, b) = true by
            rw [HHAS.out a b HAB.out.1 HAB.out.2]; exact decide_eq_true hmm)
          have HCT := Lib.hid (show ∀ w', Kp [] wr w' → Rd w' wl.heap.size (some ad) (pcI ((C.take i).map upI)) from fun w' hk => by
            rw [← pc_I]
            have h9 := ((HCR.out.kp0 HKR.out).kp0 hk).take (i * 2)
            have e9 : (pc C).take (i * 2) = pc (C.take i) := by
              have h8 := pc_append (C.take i) (C.drop i)
              rw [List.take_append_drop] at h8
              rw [h8, List.take_append_of_le_length (by rw [pc_len, List.length_take, HCL.out]; omega), List.take_of_length_le (by rw [pc_len, List.length_take, HCL.out]; omega)]
            rwa [e9] at h9)
          have HCTL := Lib.hid (show ((C.take i).map upI).length = i by rw [List.length_map, List.length_take, HCL.out]; omega)
          have hic : i ≤ cl := by have := HMC.out; omega
          have hi0 : (0 : Int) ≤ (i : Int) := by omega
          have hi1 : (i : Int) < (M : Int) := by omega
          have hi2 : (i : Int) ≤ (cl : Int) := by omega
          have HIN1 := Lib.hid (show ∀ w', Kp [] wr w' → Calls Try.prog 31 #[.slice (some ad) i cl, .agg #[.int .i64 (a : Int), .int .i64 (b : Int)]] w' fun e w'' => e = .returned (.bool false) ∧ Kp [] w' w'' from fun w' hk => by
            have h9 := in_any (some ad) i cl _ _ (a : Int) (b : Int) _ (HCT.out w' hk) HCTL.out (by omega)
            rw [HF1.out] at h9
            exact h9)
          have HIN2 := Lib.hid (show ∀ w', Kp [] wr w' → Calls Try.prog 31 #[.slice A n c, .agg #[.int .i64 (a : Int), .int .i64 (b : Int)]] w' fun e w'' => e = .returned (.bool true) ∧ Kp [] w' w'' from fun w' hk => by
            have h9 := in_any A n c _ _ (a : Int) (b : Int) _ ((HXL.out.kp0 HKR.out).kp0 hk) HMI.out (by omega)
            rw [HF2.out] at h9
            exact h9)
          have HIN3 := Lib.hid (show ∀ w', Kp [] wr w' → Calls Try.prog 32 #[.pointer (some ⟨p, 0, none⟩), .agg #[.int .i64 (a : Int), .int .i64 (b : Int)]] w' fun e w'' => e = .returned (.bool true) ∧ Kp [] w' w'' from fun w' hk => by
            have h9 := thas_in S p q hL _ a b bs _ ((HTl.out.kp0 HKR.out).kp0 hk) h17 HAB.out.1 HAB.out.2
            rw [HF3.out] at h9
            exact h9)
          clear hxk hmm hab HAB HF1 HF2 HF3 HCT HCTL
          go_wp2_with fail
          refine wp_region_facts (by kernel_rfl) 164 [118, 119, 120, 121, 122, 123, 124, 125, 126, 127, 128, 129, 130, 131, 132, 133, 134, 135, 136, 137, 138, 139, 140, 141, 142, 143] [[], [], [118, 119], [], [], [121, 122], [123], [120, 124], [125], [126], [126], [126], [128, 129, 126], [130, 126], [127, 131, 126], [132, 126], [126, 133], [134], [135], [135], [135], [137, 138, 135], [139, 135], [136, 140, 135], [141, 135], [135, 142]] (by kernel_rfl) (by kernel_rfl) rfl (factOf [(118, .eq (.slice (some ad) M cl)), (119, .eq (.int .i64 (i : Int))), (120, .eq (.slice (some ad) i cl)), (121, .eq (.slice (some ad) M cl)), (122, .eq (.int .i64 (i : Int))), (123, .eq (.pointer (some (ad.add (i * 2))))), (124, .eq (.agg #[.int .i64 (a : Int), .int .i64 (b : Int)])), (125, .eq (.bool false)), (126, .eq (.bool false)), (127, .eq (.slice A n c)), (128, .eq (.slice (some ad) M cl)), (129, .eq (.int .i64 (i : Int))), (130, .eq (.pointer (some (ad.add (i * 2))))), (131, .eq (.agg #[.int .i64 (a : Int), .int .i64 (b : Int)])), (132, .eq (.bool true)), (133, .eq (.bool false)), (134, .eq (.bool false)), (135, .eq (.bool false)), (136, .eq (.pointer (some ⟨p, 0, none⟩))), (137, .eq (.slice (some ad) M cl)), (138, .eq (.int .i64 (i : Int))), (139, .eq (.pointer (some (ad.add (i * 2))))), (140, .eq (.agg #[.int .i64 (a : Int), .int .i64 (b : Int)])), (141, .eq (.bool true)), (142, .eq (.bool false)), (143, .eq (.bool false))]) (factOf_stable _) _ (fun x => by simp only [fillL, Nat.reduceAdd, Nat.reduceEqDiff, ↓reduceIte]; rfl) ?_ ?_
          · refine ⟨?_, ?_, ?_, ?_, ?_, ?_, ?_, ?_, ?_, ?_, ?_, ?_, ?_, ?_, ?_, ?_, ?_, ?_, ?_, ?_, ?_, ?_, ?_, ?_, ?_, ?_, trivial⟩
            · intro fx w' fa hk hd ev  -- 118 = Op.move (Operand.tmp 17)
              have e17 : fa.tmps[17]?.getD undef = .slice (some ad) M cl := ev.old 17 rfl
              refine stepF_un rfl (fun K hK => ?_)
              exact stepF_val _ hK (run_move rfl e17 _) rfl
            · intro fx w' fa hk hd ev  -- 119 = Op.move (Operand.tmp 19)
              have e19 : fa.tmps[19]?.getD undef = .int .i64 (i : Int) := ev.old 19 rfl
              refine stepF_un rfl (fun K hK => ?_)
              exact stepF_val _ hK (run_move rfl e19 _) rfl
            · intro fx w' fa hk hd ev  -- 120 = Op.slice 22 (Operand.tmp 118) none (some (Operand.tmp 119)) 
              have h118 : fx 118 = .slice (some ad) M cl := hd.1
              have e118 : fa.tmps[118]?.getD undef = .slice (some ad) M cl := (ev.new 118 rfl).trans h118
              have h119 : fx 119 = .int .i64 (i : Int) := hd.2.1
              have e119 : fa.tmps[119]?.getD undef = .int .i64 (i : Int) := (ev.new 119 rfl).trans h119
              refine stepF_un rfl (fun K hK => ?_)
              go_simp
              exact hK _ _ rfl (Kp.refl _ _)
            · intro fx w' fa hk hd ev  -- 121 = Op.move (Operand.tmp 17)
              have e17 : fa.tmps[17]?.getD undef = .slice (some ad) M cl := ev.old 17 rfl
              refine stepF_un rfl (fun K hK => ?_)
              exact stepF_val _ hK (run_move rfl e17 _) rfl
            · intro fx w' fa hk hd ev  -- 122 = Op.move (Operand.tmp 19)
              have e19 : fa.tmps[19]?.getD undef = .int .i64 (i : Int) := ev.old 19 rfl
              refine stepF_un rfl (fun K hK => ?_)
              exact stepF_val _ hK (run_move rfl e19 _) rfl
            · intro fx w' fa hk hd ev  -- 123 = Op.indexAddr 22 (Operand.tmp 121) (Operand.tmp 122)
              have h121 : fx 121 = .slice (some ad) M cl := hd.1
              have e121 : fa.tmps[121]?.getD undef = .slice (some ad) M cl := (ev.new 121 rfl).trans h121
              have h122 : fx 122 = .int .i64 (i : Int) := hd.2.1
              have e122 : fa.tmps[122]?.getD undef = .int .i64 (i : Int) := (ev.new 122 rfl).trans h122
              refine stepF_un rfl (fun K hK => ?_)
              go_simp
              exact hK _ _ rfl (Kp.refl _ _)
            · intro fx w' fa hk hd ev  -- 124 = Op.load 24 (Operand.tmp 123)
              have h123 : fx 123 = .pointer (some (ad.add (i * 2))) := hd.1
              have e123 : fa.tmps[123]?.getD undef = .pointer (some (ad.add (i * 2))) := (ev.new 123 rfl).trans h123
              refine stepF_un rfl (fun K hK => ?_)
              have hcx1 := hk.cell hcx (by simp)
              have hcy1 := hk.cell hcy (by simp)
              go_simp
              exact hK _ _ rfl (Kp.refl _ _)
            · intro fx w' fa hk hd ev  -- 125 = Op.call { callee := Callee.value (Operand.func 31), args := 
              have h120 : fx 120 = .slice (some ad) i cl := hd.1
              have e120 : fa.tmps[120]?.getD undef = .slice (some ad) i cl := (ev.new 120 rfl).trans h120
              have h124 : fx 124 = .agg #[.int .i64 (a : Int), .int .i64 (b : Int)] := hd.2.1
              have e124 : fa.tmps[124]?.getD undef = .agg #[.int .i64 (a : Int), .int .i64 (b : Int)] := (ev.new 124 rfl).trans h124
              refine stepF_un rfl (fun K hK => ?_)
              go_simp
              refine ((HIN1.out w' hk)).mono ?_
              rintro e w1 ⟨rfl, hk1⟩
              exact hK _ _ rfl hk1
            · intro fx w' fa hk hd ev  -- 126 = Op.move (Operand.tmp 125)
              have h125 : fx 125 = .bool false := hd.1
              have e125 : fa.tmps[125]?.getD undef = .bool false := (ev.new 125 rfl).trans h125
              refine stepF_un rfl (fun K hK => ?_)
              exact stepF_val _ hK (run_move rfl e125 _) rfl
            · intro fx w' fa hk hd ev  -- 127 = Op.move (Operand.tmp 1)
              have h126 : fx 126 = .bool false := hd.1
              have e126 : fa.tmps[126]?.getD undef = .bool false := (ev.new 126 rfl).trans h126
              have e1 : fa.tmps[1]?.getD undef = .slice A n c := ev.old 1 rfl
              refine stepF_yes (i := 8) (g := 126) (b := false) rfl rfl rfl e126 (fun K hK => ?_)
              exact stepF_val _ hK (run_move rfl e1 _) rfl
            · intro fx w' fa hk hd ev  -- 128 = Op.move (Operand.tmp 17)
              have h126 : fx 126 = .bool false := hd.1
              have e126 : fa.tmps[126]?.getD undef = .bool false := (ev.new 126 rfl).trans h126
              have e17 : fa.tmps[17]?.getD undef = .slice (some ad) M cl := ev.old 17 rfl
              refine stepF_yes (i := 8) (g := 126) (b := false) rfl rfl rfl e126 (fun K hK => ?_)
              exact stepF_val _ hK (run_move rfl e17 _) rfl
            · intro fx w' fa hk hd ev  -- 129 = Op.move (Operand.tmp 19)
              have h126 : fx 126 = .bool false := hd.1
              have e126 : fa.tmps[126]?.getD undef = .bool false := (ev.new 126 rfl).trans h126
              have e19 : fa.tmps[19]?.getD undef = .int .i64 (i : Int) := ev.old 19 rfl
              refine stepF_yes (i := 8) (g := 126) (b := false) rfl rfl rfl e126 (fun K hK => ?_)
              exact stepF_val _ hK (run_move rfl e19 _) rfl
            · intro fx w' fa hk hd ev  -- 130 = Op.indexAddr 22 (Operand.tmp 128) (Operand.tmp 129)
              have h128 : fx 128 = .slice (some ad) M cl := hd.1
              have e128 : fa.tmps[128]?.getD undef = .slice (some ad) M cl := (ev.new 128 rfl).trans h128
              have h129 : fx 129 = .int .i64 (i : Int) := hd.2.1
              have e129 : fa.tmps[129]?.getD undef = .int .i64 (i : Int) := (ev.new 129 rfl).trans h129
              have h126 : fx 126 = .bool false := hd.2.2.1
              have e126 : fa.tmps[126]?.getD undef = .bool false := (ev.new 126 rfl).trans h126
              refine stepF_yes (i := 8) (g := 126) (b := false) rfl rfl rfl e126 (fun K hK => ?_)
              go_simp
              exact hK _ _ rfl (Kp.refl _ _)
            · intro fx w' fa hk hd ev  -- 131 = Op.load 24 (Operand.tmp 130)
              have h130 : fx 130 = .pointer (some (ad.add (i * 2))) := hd.1
              have e130 : fa.tmps[130]?.getD undef = .pointer (some (ad.add (i * 2))) := (ev.new 130 rfl).trans h130
              have h126 : fx 126 = .bool false := hd.2.1
              have e126 : fa.tmps[126]?.getD undef = .bool false := (ev.new 126 rfl).trans h126
              refine stepF_yes (i := 8) (g := 126) (b := false) rfl rfl rfl e126 (fun K hK => ?_)
              have hcx1 := hk.cell hcx (by simp)
              have hcy1 := hk.cell hcy (by simp)
              go_simp
              exact hK _ _ rfl (Kp.refl _ _)
            · intro fx w' fa hk hd ev  -- 132 = Op.call { callee := Callee.value (Operand.func 31), args := 
              have h127 : fx 127 = .slice A n c := hd.1
              have e127 : fa.tmps[127]?.getD undef = .slice A n c := (ev.new 127 rfl).trans h127
              have h131 : fx 131 = .agg #[.int .i64 (a : Int), .int .i64 (b : Int)] := hd.2.1
              have e131 : fa.tmps[131]?.getD undef = .agg #[.int .i64 (a : Int), .int .i64 (b : Int)] := (ev.new 131 rfl).trans h131
              have h126 : fx 126 = .bool false := hd.2.2.1
              have e126 : fa.tmps[126]?.getD undef = .bool false := (ev.new 126 rfl).trans h126
              refine stepF_yes (i := 8) (g := 126) (b := false) rfl rfl rfl e126 (fun K hK => ?_)
              go_simp
              refine ((HIN2.out w' hk)).mono ?_
              rintro e w1 ⟨rfl, hk1⟩
              exact hK _ _ rfl hk1
            · intro fx w' fa hk hd ev  -- 133 = Op.unOp UnOp.not 4 (Operand.tmp 132)
              have h132 : fx 132 = .bool true := hd.1
              have e132 : fa.tmps[132]?.getD undef = .bool true := (ev.new 132 rfl).trans h132
              have h126 : fx 126 = .bool false := hd.2.1
              have e126 : fa.tmps[126]?.getD undef = .bool false := (ev.new 126 rfl).trans h126
              refine stepF_yes (i := 8) (g := 126) (b := false) rfl rfl rfl e126 (fun K hK => ?_)
              go_simp
              exact hK _ _ rfl (Kp.refl _ _)
            · intro fx w' fa hk hd ev  -- 134 = Op.pick (Operand.tmp 126) (Operand.const (Value.bool true)) 
              have h126 : fx 126 = .bool false := hd.1
              have e126 : fa.tmps[126]?.getD undef = .bool false := (ev.new 126 rfl).trans h126
              have h133 : fx 133 = .bool false := hd.2.1
              have e133 : fa.tmps[133]?.getD undef = .bool false := (ev.new 133 rfl).trans h133
              refine stepF_un rfl (fun K hK => ?_)
              go_simp
              exact hK _ _ rfl (Kp.refl _ _)
            · intro fx w' fa hk hd ev  -- 135 = Op.move (Operand.tmp 134)
              have h134 : fx 134 = .bool false := hd.1
              have e134 : fa.tmps[134]?.getD undef = .bool false := (ev.new 134 rfl).trans h134
              refine stepF_un rfl (fun K hK => ?_)
              exact stepF_val _ hK (run_move rfl e134 _) rfl
            · intro fx w' fa hk hd ev  -- 136 = Op.move (Operand.tmp 9)
              have h135 : fx 135 = .bool false := hd.1
              have e135 : fa.tmps[135]?.getD undef = .bool false := (ev.new 135 rfl).trans h135
              have e9 : fa.tmps[9]?.getD undef = .pointer (some ⟨p, 0, none⟩) := ev.old 9 rfl
              refine stepF_yes (i := 17) (g := 135) (b := false) rfl rfl rfl e135 (fun K hK => ?_)
              exact stepF_val _ hK (run_move rfl e9 _) rfl
            · intro fx w' fa hk hd ev  -- 137 = Op.move (Operand.tmp 17)
              have h135 : fx 135 = .bool false := hd.1
              have e135 : fa.tmps[135]?.getD undef = .bool false := (ev.new 135 rfl).trans h135
              have e17 : fa.tmps[17]?.getD undef = .slice (some ad) M cl := ev.old 17 rfl
              refine stepF_yes (i := 17) (g := 135) (b := false) rfl rfl rfl e135 (fun K hK => ?_)
              exact stepF_val _ hK (run_move rfl e17 _) rfl
            · intro fx w' fa hk hd ev  -- 138 = Op.move (Operand.tmp 19)
              have h135 : fx 135 = .bool false := hd.1
              have e135 : fa.tmps[135]?.getD undef = .bool false := (ev.new 135 rfl).trans h135
              have e19 : fa.tmps[19]?.getD undef = .int .i64 (i : Int) := ev.old 19 rfl
              refine stepF_yes (i := 17) (g := 135) (b := false) rfl rfl rfl e135 (fun K hK => ?_)
              exact stepF_val _ hK (run_move rfl e19 _) rfl
            · intro fx w' fa hk hd ev  -- 139 = Op.indexAddr 22 (Operand.tmp 137) (Operand.tmp 138)
              have h137 : fx 137 = .slice (some ad) M cl := hd.1
              have e137 : fa.tmps[137]?.getD undef = .slice (some ad) M cl := (ev.new 137 rfl).trans h137
              have h138 : fx 138 = .int .i64 (i : Int) := hd.2.1
              have e138 : fa.tmps[138]?.getD undef = .int .i64 (i : Int) := (ev.new 138 rfl).trans h138
              have h135 : fx 135 = .bool false := hd.2.2.1
              have e135 : fa.tmps[135]?.getD undef = .bool false := (ev.new 135 rfl).trans h135
              refine stepF_yes (i := 17) (g := 135) (b := false) rfl rfl rfl e135 (fun K hK => ?_)
              go_simp
              exact hK _ _ rfl (Kp.refl _ _)
            · intro fx w' fa hk hd ev  -- 140 = Op.load 24 (Operand.tmp 139)
              have h139 : fx 139 = .pointer (some (ad.add (i * 2))) := hd.1
              have e139 : fa.tmps[139]?.getD undef = .pointer (some (ad.add (i * 2))) := (ev.new 139 rfl).trans h139
              have h135 : fx 135 = .bool false := hd.2.1
              have e135 : fa.tmps[135]?.getD undef = .bool false := (ev.new 135 rfl).trans h135
              refine stepF_yes (i := 17) (g := 135) (b := false) rfl rfl rfl e135 (fun K hK => ?_)
              have hcx1 := hk.cell hcx (by simp)
              have hcy1 := hk.cell hcy (by simp)
              go_simp
              exact hK _ _ rfl (Kp.refl _ _)
            · intro fx w' fa hk hd ev  -- 141 = Op.call { callee := Callee.value (Operand.func 32), args := 
              have h136 : fx 136 = .pointer (some ⟨p, 0, none⟩) := hd.1
              have e136 : fa.tmps[136]?.getD undef = .pointer (some ⟨p, 0, none⟩) := (ev.new 136 rfl).trans h136
              have h140 : fx 140 = .agg #[.int .i64 (a : Int), .int .i64 (b : Int)] := hd.2.1
              have e140 : fa.tmps[140]?.getD undef = .agg #[.int .i64 (a : Int), .int .i64 (b : Int)] := (ev.new 140 rfl).trans h140
              have h135 : fx 135 = .bool false := hd.2.2.1
              have e135 : fa.tmps[135]?.getD undef = .bool false := (ev.new 135 rfl).trans h135
              refine stepF_yes (i := 17) (g := 135) (b := false) rfl rfl rfl e135 (fun K hK => ?_)
              go_simp
              refine ((HIN3.out w' hk)).mono ?_
              rintro e w1 ⟨rfl, hk1⟩
              exact hK _ _ rfl hk1
            · intro fx w' fa hk hd ev  -- 142 = Op.unOp UnOp.not 4 (Operand.tmp 141)
              have h141 : fx 141 = .bool true := hd.1
              have e141 : fa.tmps[141]?.getD undef = .bool true := (ev.new 141 rfl).trans h141
              have h135 : fx 135 = .bool false := hd.2.1
              have e135 : fa.tmps[135]?.getD undef = .bool false := (ev.new 135 rfl).trans h135
              refine stepF_yes (i := 17) (g := 135) (b := false) rfl rfl rfl e135 (fun K hK => ?_)
              go_simp
              exact hK _ _ rfl (Kp.refl _ _)
            · intro fx w' fa hk hd ev  -- 143 = Op.pick (Operand.tmp 135) (Operand.const (Value.bool true)) 
              have h135 : fx 135 = .bool false := hd.1
              have e135 : fa.tmps[135]?.getD undef = .bool false := (ev.new 135 rfl).trans h135
              have h142 : fx 142 = .bool false := hd.2.1
              have e142 : fa.tmps[142]?.getD undef = .bool false := (ev.new 142 rfl).trans h142
              refine stepF_un rfl (fun K hK => ?_)
              go_simp
              exact hK _ _ rfl (Kp.refl _ _)
          · intro fx w' hk hd
            have h118 : fx 118 = .slice (some ad) M cl := hd.1
            have h119 : fx 119 = .int .i64 (i : Int) := hd.2.1
            have h120 : fx 120 = .slice (some ad) i cl := hd.2.2.1
            have h121 : fx 121 = .slice (some ad) M cl := hd.2.2.2.1
            have h122 : fx 122 = .int .i64 (i : Int) := hd.2.2.2.2.1
            have h123 : fx 123 = .pointer (some (ad.add (i * 2))) := hd.2.2.2.2.2.1
            have h124 : fx 124 = .agg #[.int .i64 (a : Int), .int .i64 (b : Int)] := hd.2.2.2.2.2.2.1
            have h125 : fx 125 = .bool false := hd.2.2.2.2.2.2.2.1
            have h126 : fx 126 = .bool false := hd.2.2.2.2.2.2.2.2.1
            have h127 : fx 127 = .slice A n c := hd.2.2.2.2.2.2.2.2.2.1
            have h128 : fx 128 = .slice (some ad) M cl := hd.2.2.2.2.2.2.2.2.2.2.1
            have h129 : fx 129 = .int .i64 (i : Int) := hd.2.2.2.2.2.2.2.2.2.2.2.1
            have h130 : fx 130 = .pointer (some (ad.add (i * 2))) := hd.2.2.2.2.2.2.2.2.2.2.2.2.1
            have h131 : fx 131 = .agg #[.int .i64 (a : Int), .int .i64 (b : Int)] := hd.2.2.2.2.2.2.2.2.2.2.2.2.2.1
            have h132 : fx 132 = .bool true := hd.2.2.2.2.2.2.2.2.2.2.2.2.2.2.1
            have h133 : fx 133 = .bool false := hd.2.2.2.2.2.2.2.2.2.2.2.2.2.2.2.1
            have h134 : fx 134 = .bool false := hd.2.2.2.2.2.2.2.2.2.2.2.2.2.2.2.2.1
            have h135 : fx 135 = .bool false := hd.2.2.2.2.2.2.2.2.2.2.2.2.2.2.2.2.2.1
            have h136 : fx 136 = .pointer (some ⟨p, 0, none⟩) := hd.2.2.2.2.2.2.2.2.2.2.2.2.2.2.2.2.2.2.1
            have h137 : fx 137 = .slice (some ad) M cl := hd.2.2.2.2.2.2.2.2.2.2.2.2.2.2.2.2.2.2.2.1
            have h138 : fx 138 = .int .i64 (i : Int) := hd.2.2.2.2.2.2.2.2.2.2.2.2.2.2.2.2.2.2.2.2.1
            have h139 : fx 139 = .pointer (some (ad.add (i * 2))) := hd.2.2.2.2.2.2.2.2.2.2.2.2.2.2.2.2.2.2.2.2.2.1
            have h140 : fx 140 = .agg #[.int .i64 (a : Int), .int .i64 (b : Int)] := hd.2.2.2.2.2.2.2.2.2.2.2.2.2.2.2.2.2.2.2.2.2.2.1
            have h141 : fx 141 = .bool true := hd.2.2.2.2.2.2.2.2.2.2.2.2.2.2.2.2.2.2.2.2.2.2.2.1
            have h142 : fx 142 = .bool false := hd.2.2.2.2.2.2.2.2.2.2.2.2.2.2.2.2.2.2.2.2.2.2.2.2.1
            have h143 : fx 143 = .bool false := hd.2.2.2.2.2.2.2.2.2.2.2.2.2.2.2.2.2.2.2.2.2.2.2.2.2.1
            rw [h143]
            have HKR2 := Lib.hid (HKR.out.trans hk)
            clear hk hd
            go_wp2_with fail
            exact ⟨⟨i + 1, by go_num, by omega, HKR2⟩, by simp [intOf]; omega⟩
        · obtain rfl : M = i := by omega
          clear hlt hiM
          go_wp2_with fail
          go_loopw [20] (fun x wq => ∃ j : Nat, x = .int .i64 (j : Int) ∧ j ≤ n ∧ Hid (Kp [] wl wq)) (fun x _ => n - (intOf x).toNat)
          case atStart => exact ⟨0, rfl, by omega, HKR⟩
          case round =>
            clear HKR
            obtain ⟨j, rfl, hjn, HKR⟩ := hrel
            by_cases hlt : j < n
            · obtain ⟨a, b, ad, hxk, had, hab, hcx, hcy⟩ := (HXl.out.kp0 HKR.out).ixN (k := j) (by rw [HML.out]; exact hlt)
              subst had
              have HF := Lib.hid (show decide (((a : Int), (b : Int)) ∈ C.map upI) = true by
                rw [decide_eq_true_iff, mem_up]; exact (HCS.out _).2 (List.mem_of_getElem? hxk))
              have hi0 : (0 : Int) ≤ (j : Int) := by omega
              have hi1 : (j : Int) < (n : Int) := by omega
              clear hxk hab
              go_wp2_with fail
              refine (in_any Al M cl _ _ (a : Int) (b : Int) _ (HCI.out.kp0 HKR.out) HCN2.out (by omega)).mono ?_
              rw [HF.out]
              rintro e w7 ⟨rfl, hk7⟩
              have HKR2 := Lib.hid (HKR.out.trans hk7)
              clear hk7 hcx hcy
              go_wp2_with fail
              exact ⟨⟨j + 1, by go_num, by omega, HKR2⟩, by simp [intOf]; omega⟩
            · obtain rfl : n = j := by omega
              obtain ⟨R, hR⟩ : ∃ R, R = decide ((r, cc) ∈ m.map upI) := ⟨_, rfl⟩
              have HR := Lib.hid hR
              clear hR hlt hjn
              obtain ⟨wk, hwk⟩ : ∃ wk, wk = wr := ⟨_, rfl⟩
              have HIP := Lib.hid (show ∀ w', Kp [] wr w' → Calls Try.prog 31 #[.slice A n c, .agg #[.int .i64 r, .int .i64 cc]] w' fun e w'' => e = .returned (.bool R) ∧ Kp [] w' w'' from fun w' hk => by
                have h9 := in_any A n c _ _ r cc _ ((HXL.out.kp0 HKR.out).kp0 hk) HMI.out (by omega)
                rw [← HR.out] at h9
                exact h9)
              have HHP := Lib.hid (show ∀ w', Kp [] wr w' → Calls Try.prog 32 #[.pointer (some ⟨p, 0, none⟩), .agg #[.int .i64 r, .int .i64 cc]] w' fun e w'' => e = .returned (.bool R) ∧ Kp [] w' w'' from fun w' hk => by
                have ht9 := (HTl.out.kp0 HKR.out).kp0 hk
                cases ho : outI ((2 ^ hL : Nat) : Int) r cc with
                | true =>
                  have h9 := thas_out S p q hL _ r cc bs _ ht9 h17 ho hr0 hr1 hc0 hc1
                  have e9 : R = false := by
                    rw [HR.out, decide_eq_false_iff_not]
                    intro hm
                    obtain ⟨x, hx, he⟩ := List.mem_map.1 hm
                    have hb := HM.out x hx
                    unfold upI at he
                    injection he with e1 e2
                    unfold outI at ho
                    simp only [Bool.not_eq_true', decide_eq_false_iff_not] at ho
                    exact ho ⟨by omega, by rw [← e1]; exact Int.ofNat_lt.2 hb.1, by omega, by rw [← e2]; exact Int.ofNat_lt.2 hb.2⟩
                  rw [e9]
                  exact h9
                | false =>
                  unfold outI at ho
                  simp only [Bool.not_eq_false', decide_eq_true_iff] at ho
                  obtain ⟨o1, o2, o3, o4⟩ := ho
                  obtain ⟨a, rfl⟩ : ∃ a : Nat, r = (a : Int) := ⟨r.toNat, by omega⟩
                  obtain ⟨b, rfl⟩ : ∃ b : Nat, cc = (b : Int) := ⟨cc.toNat, by omega⟩
                  have h9 := thas_in S p q hL _ a b bs _ ht9 h17 (Int.ofNat_lt.1 o2) (Int.ofNat_lt.1 o4)
                  rw [HHAS.out a b (Int.ofNat_lt.1 o2) (Int.ofNat_lt.1 o4)] at h9
                  have e9 : decide ((a, b) ∈ m) = R := by rw [HR.out, Bool.eq_iff_iff, decide_eq_true_iff, decide_eq_true_iff, mem_up]
                  rw [e9] at h9
                  exact h9)
              have hq0 : wr.cell? ⟨g, 0, none⟩ = some (.int .i64 r) := by rw [(HBl.out.kp0 HKR.out).cell]; rfl
              have hq1 : wr.cell? ⟨g, 1, none⟩ = some (.int .i64 cc) := by rw [(HBl.out.kp0 HKR.out).cell]; rfl
              clear hwk HR
              go_wp2_with fail
              refine wp_region_facts (by kernel_rfl) 164 [8, 157, 158, 159, 160, 161, 162, 163] [[], [], [157, 158], [], [], [160, 161], [159, 162], [163]] (by kernel_rfl) (by kernel_rfl) rfl (factOf [(157, .eq (.pointer (some ⟨p, 0, none⟩))), (158, .eq (.agg #[.int .i64 r, .int .i64 cc])), (159, .eq (.bool R)), (160, .eq (.slice A n c)), (161, .eq (.agg #[.int .i64 r, .int .i64 cc])), (162, .eq (.bool R)), (163, .eq (.bool true)), (8, .eq (.bool true))]) (factOf_stable _) _ (fun x => by simp only [fillL, Nat.reduceAdd, Nat.reduceEqDiff, ↓reduceIte]; rfl) ?_ ?_
              · refine ⟨?_, ?_, ?_, ?_, ?_, ?_, ?_, ?_, trivial⟩
                · intro fx w' fa hk hd ev  -- 157 = Op.move (Operand.tmp 9)
                  have e9 : fa.tmps[9]?.getD undef = .pointer (some ⟨p, 0, none⟩) := ev.old 9 rfl
                  refine stepF_un rfl (fun K hK => ?_)
                  exact stepF_val _ hK (run_move rfl e9 _) rfl
                · intro fx w' fa hk hd ev  -- 158 = Op.load 24 (Operand.tmp 7)
                  have e7 : fa.tmps[7]?.getD undef = .pointer (some ⟨g, 0, none⟩) := ev.old 7 rfl
                  refine stepF_un rfl (fun K hK => ?_)
                  have hq01 := hk.cell hq0 (by simp)
                  have hq11 := hk.cell hq1 (by simp)
                  go_simp
                  exact hK _ _ rfl (Kp.refl _ _)
                · intro fx w' fa hk hd ev  -- 159 = Op.call { callee := Callee.value (Operand.func 32), args := 
                  have h157 : fx 157 = .pointer (some ⟨p, 0, none⟩) := hd.1
                  have e157 : fa.tmps[157]?.getD undef = .pointer (some ⟨p, 0, none⟩) := (ev.new 157 rfl).trans h157
                  have h158 : fx 158 = .agg #[.int .i64 r, .int .i64 cc] := hd.2.1
                  have e158 : fa.tmps[158]?.getD undef = .agg #[.int .i64 r, .int .i64 cc] := (ev.new 158 rfl).trans h158
                  refine stepF_un rfl (fun K hK => ?_)
                  go_simp
                  refine ((HHP.out w' hk)).mono ?_
                  rintro e w1 ⟨rfl, hk1⟩
                  exact hK _ _ rfl hk1
                · intro fx w' fa hk hd ev  -- 160 = Op.move (Operand.tmp 1)
                  have e1 : fa.tmps[1]?.getD undef = .slice A n c := ev.old 1 rfl
                  refine stepF_un rfl (fun K hK => ?_)
                  exact stepF_val _ hK (run_move rfl e1 _) rfl
                · intro fx w' fa hk hd ev  -- 161 = Op.load 24 (Operand.tmp 7)
                  have e7 : fa.tmps[7]?.getD undef = .pointer (some ⟨g, 0, none⟩) := ev.old 7 rfl
                  refine stepF_un rfl (fun K hK => ?_)
                  have hq01 := hk.cell hq0 (by simp)
                  have hq11 := hk.cell hq1 (by simp)
                  go_simp
                  exact hK _ _ rfl (Kp.refl _ _)
                · intro fx w' fa hk hd ev  -- 162 = Op.call { callee := Callee.value (Operand.func 31), args := 
                  have h160 : fx 160 = .slice A n c := hd.1
                  have e160 : fa.tmps[160]?.getD undef = .slice A n c := (ev.new 160 rfl).trans h160
                  have h161 : fx 161 = .agg #[.int .i64 r, .int .i64 cc] := hd.2.1
                  have e161 : fa.tmps[161]?.getD undef = .agg #[.int .i64 r, .int .i64 cc] := (ev.new 161 rfl).trans h161
                  refine stepF_un rfl (fun K hK => ?_)
                  go_simp
                  refine ((HIP.out w' hk)).mono ?_
                  rintro e w1 ⟨rfl, hk1⟩
                  exact hK _ _ rfl hk1
                · intro fx w' fa hk hd ev  -- 163 = Op.binOp BinOp.eql 4 (Operand.tmp 159) (Operand.tmp 162) 4
                  have h159 : fx 159 = .bool R := hd.1
                  have e159 : fa.tmps[159]?.getD undef = .bool R := (ev.new 159 rfl).trans h159
                  have h162 : fx 162 = .bool R := hd.2.1
                  have e162 : fa.tmps[162]?.getD undef = .bool R := (ev.new 162 rfl).trans h162
                  refine stepF_un rfl (fun K hK => ?_)
                  go_simp
                  exact hK _ _ rfl (Kp.refl _ _)
                · intro fx w' fa hk hd ev  -- 8 = Op.assign (Operand.tmp 163)
                  have h163 : fx 163 = .bool true := hd.1
                  have e163 : fa.tmps[163]?.getD undef = .bool true := (ev.new 163 rfl).trans h163
                  refine stepF_un rfl (fun K hK => ?_)
                  exact stepF_val _ hK (run_assign rfl e163 _) rfl
              · intro fx w' hk hd
                have h8 : fx 8 = .bool true := hd.1
                have h157 : fx 157 = .pointer (some ⟨p, 0, none⟩) := hd.2.1
                have h158 : fx 158 = .agg #[.int .i64 r, .int .i64 cc] := hd.2.2.1
                have h159 : fx 159 = .bool R := hd.2.2.2.1
                have h160 : fx 160 = .slice A n c := hd.2.2.2.2.1
                have h161 : fx 161 = .agg #[.int .i64 r, .int .i64 cc] := hd.2.2.2.2.2.1
                have h162 : fx 162 = .bool R := hd.2.2.2.2.2.2.1
                have h163 : fx 163 = .bool true := hd.2.2.2.2.2.2.2.1
                rw [h8]
                have HKR2 := Lib.hid (HKl.out.trans (HKR.out.trans hk))
                clear hk hd
                go_wp2_with fail
                go_ret
                exact ⟨rfl, HKR2.out⟩
end Go.Proofs.Ytldmabkilgpgcaa
