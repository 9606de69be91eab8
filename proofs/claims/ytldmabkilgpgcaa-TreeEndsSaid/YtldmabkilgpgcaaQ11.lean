/-
  LAYER 15 (tree): a tree in memory; Of.
  CONDITIONS: as each says.
-/
import Derived.Test.YtldmabkilgpgcaaQ06
import Derived.Test.YtldmabkilgpgcaaQ10
import Derived.Test.YtldmabkilgpgcaaQ07
namespace Go.Proofs.Ytldmabkilgpgcaa
open Go.RowKit

/-- Pairs of any numbers as cells. -/
def pcI (l : List (Int × Int)) : List Value := l.flatMap fun p => [.int .i64 p.1, .int .i64 p.2]
theorem pcI_get {l : List (Int × Int)} {i : Nat} {p : Int × Int} (h : l[i]? = some p) : (pcI l)[i * 2]? = some (.int .i64 p.1) ∧ (pcI l)[i * 2 + 1]? = some (.int .i64 p.2) := by
  induction l generalizing i with
  | nil => simp at h
  | cons q l ih =>
    have e : pcI (q :: l) = .int .i64 q.1 :: .int .i64 q.2 :: pcI l := rfl
    rw [e]
    cases i with
    | zero => simp at h; subst h; simp
    | succ i =>
      rw [show (i + 1) * 2 = i * 2 + 1 + 1 by omega]
      simp only [List.getElem?_cons_succ] at h ⊢
      exact ih h
theorem pcI_len (l : List (Int × Int)) : (pcI l).length = l.length * 2 := by
  induction l with
  | nil => rfl
  | cons p l ih => unfold pcI at ih ⊢; rw [List.flatMap_cons, List.length_append, ih, List.length_cons]; simp; omega
theorem oc_pcI (l : List (Int × Int)) : ∀ u ∈ pcI l, u.oneCell' = true := by
  intro u hu
  unfold pcI at hu
  obtain ⟨p, _, hp⟩ := List.mem_flatMap.1 hu
  simp only [List.mem_cons, List.not_mem_nil, or_false] at hp
  rcases hp with rfl | rfl <;> rfl
theorem Rd.ixI {w : World} {B : Nat} {A : Option Addr} {l : List (Int × Int)} (h : Rd w B A (pcI l)) {k : Nat} (hk : k < l.length) :
    ∃ r c ad, l[k]? = some (r, c) ∧ A = some ad ∧ ad.block < B ∧ w.cell? (ad.add (k * 2)) = some (.int .i64 r) ∧ w.cell? ⟨(ad.add (k * 2)).block, (ad.add (k * 2)).off + 1, none⟩ = some (.int .i64 c) := by
  obtain ⟨p, hp⟩ : ∃ p, l[k]? = some p := ⟨_, List.getElem?_eq_getElem hk⟩
  obtain ⟨h1, h2⟩ := pcI_get hp
  obtain ⟨ad, e1, hb, c1⟩ := h _ _ h1
  obtain ⟨ad2, e2, _, c2⟩ := h _ _ h2
  rw [e1] at e2
  injection e2 with e2
  subst e2
  rw [← addr_add_add, addr_fld _ (by omega)] at c2
  exact ⟨p.1, p.2, ad, hp, e1, hb, c1, c2⟩
def upI (p : Nat × Nat) : Int × Int := ((p.1 : Int), (p.2 : Int))
theorem pc_I (l : List (Nat × Nat)) : pc l = pcI (l.map upI) := by
  unfold pc pcI
  rw [List.flatMap_map]
  rfl
theorem g_take {α : Type} {l : List α} {k : Nat} {x : α} (h : l[k]? = some x) : l.take (k + 1) = l.take k ++ [x] := by rw [List.take_add_one, h]; rfl
set_option maxRecDepth 100000 in
set_option maxHeartbeats 4000000 in
theorem index_pair (g n c B : Nat) (A : Option Addr) (lb : Array Value) (p : Int × Int → Bool) (l : List (Int × Int)) (w : World) (hx : Rd w B A (pcI l)) (hn : l.length = n) (hb : n ≤ 1000000000) (eg : ∀ args w, (callFunc g args).run Try.prog w = .ok (.enter g args) w)
    (hf : ∀ x ∈ l, ∀ w1, Kp [] w w1 → Calls Try.prog g (#[.agg #[.int .i64 x.1, .int .i64 x.2]] ++ lb) w1 fun e w' => e = .returned (.bool (p x)) ∧ Kp [] w1 w') :
    Calls Try.prog 58 #[.slice A n c, .func (.func g) #[] lb] w fun e w' => ∃ k : Int, e = .returned (.int .i64 k) ∧ (decide (0 ≤ k) = l.any p) ∧ Kp [] w w' := by
  have HX := Lib.hid hx; clear hx
  have HN := Lib.hid hn; clear hn
  have HF := Lib.hid hf; clear hf
  go_enter Try.func58, Try.ntmps58
  go_wp2_with fail
  go_loopw [8] (fun x wr => ∃ k : Nat, x = .int .i64 (k : Int) ∧ k ≤ n ∧ Hid (∀ y ∈ l.take k, p y = false) ∧ Hid (Kp [] w wr)) (fun x _ => n - (intOf x).toNat)
  case atStart => exact ⟨0, rfl, by omega, Lib.hid (fun y hy => by simp at hy), Lib.hid (Kp.refl _ _)⟩
  case round =>
    obtain ⟨k, rfl, hk, HNO, HK⟩ := hrel
    by_cases hlt : k < n
    · obtain ⟨r, c1, ad, hxk, rfl, _, hcx, hcy⟩ := (HX.out.kp0 HK.out).ixI (k := k) (by rw [HN.out]; exact hlt)
      have hc := HF.out (r, c1) (List.mem_of_getElem? hxk) wr HK.out
      have hi0 : (0 : Int) ≤ (k : Int) := by omega
      have hi1 : (k : Int) < (n : Int) := by omega
      cases hp : p (r, c1) <;> rw [hp] at hc
      · have HNO2 := Lib.hid (show ∀ y ∈ l.take (k + 1), p y = false from fun y hy => by
          rw [g_take hxk] at hy
          rcases List.mem_append.1 hy with h | h
          · exact HNO.out y h
          · obtain rfl : y = (r, c1) := by simpa using h
            exact hp)
        clear hp hxk HNO
        go_wp2_with fail
        refine hc.mono ?_
        rintro e w' ⟨rfl, hk'⟩
        go_wp2_with fail
        exact ⟨⟨k + 1, by go_num, by omega, HNO2, Lib.hid (HK.out.trans hk')⟩, by simp [intOf]; omega⟩
      · have HAN := Lib.hid (show l.any p = true from List.any_eq_true.2 ⟨(r, c1), List.mem_of_getElem? hxk, hp⟩)
        clear hp hxk HNO
        go_wp2_with fail
        refine hc.mono ?_
        rintro e w' ⟨rfl, hk'⟩
        go_wp2_with fail
        go_ret
        exact ⟨_, rfl, by rw [HAN.out]; simp, HK.out.trans hk'⟩
    · obtain rfl : n = k := by omega
      have HAN := Lib.hid (show l.any p = false from by
        rw [List.any_eq_false]
        intro y hy
        have := HNO.out y (by rw [List.take_of_length_le (by rw [HN.out]; exact Nat.le_refl _)]; exact hy)
        simp [this])
      go_wp2_with fail
      go_ret
      exact ⟨-1, rfl, by rw [HAN.out]; rfl, HK.out⟩
set_option maxRecDepth 100000 in
set_option maxHeartbeats 4000000 in
theorem contains_pair (g n c B : Nat) (A : Option Addr) (lb : Array Value) (p : Int × Int → Bool) (l : List (Int × Int)) (w : World) (hx : Rd w B A (pcI l)) (hn : l.length = n) (hb : n ≤ 1000000000) (eg : ∀ args w, (callFunc g args).run Try.prog w = .ok (.enter g args) w)
    (hf : ∀ x ∈ l, ∀ w1, Kp [] w w1 → Calls Try.prog g (#[.agg #[.int .i64 x.1, .int .i64 x.2]] ++ lb) w1 fun e w' => e = .returned (.bool (p x)) ∧ Kp [] w1 w') :
    Calls Try.prog 35 #[.slice A n c, .func (.func g) #[] lb] w fun e w' => e = .returned (.bool (l.any p)) ∧ Kp [] w w' := by
  have HX := Lib.hid hx; clear hx
  have HN := Lib.hid hn; clear hn
  have HF := Lib.hid hf; clear hf
  have EG := Lib.hid eg; clear eg
  obtain ⟨q, hq⟩ : ∃ q, q = l.any p := ⟨_, rfl⟩
  rw [← hq]
  have HQ := Lib.hid hq; clear hq
  go_enter Try.func35, Try.ntmps35
  go_wp2_with fail
  refine (index_pair g n c B A lb p l w HX.out HN.out hb EG.out HF.out).mono ?_
  rw [← HQ.out]
  rintro e w' ⟨k, rfl, hk, hkp⟩
  cases q with
  | true =>
    have h0 : 0 ≤ k := by simpa using hk
    go_wp2_with fail
    go_ret
    exact ⟨rfl, hkp⟩
  | false =>
    have h0 : k < 0 := by simpa using hk
    go_wp2_with fail
    go_ret
    exact ⟨rfl, hkp⟩
set_option maxRecDepth 100000 in
set_option maxHeartbeats 4000000 in
theorem ofc_any (b : Nat) (s r c : Int) (w : World) (hcell : w.cell? ⟨b, 0, none⟩ = some (.int .i64 s)) (hs0 : 0 ≤ s) (hs : s ≤ 131072) (hr0 : -9223372036854775808 ≤ r) (hr1 : r ≤ 9223372036854775807) (hc0 : -9223372036854775808 ≤ c) (hc1 : c ≤ 9223372036854775807) :
    Calls Try.prog 36 (#[.agg #[.int .i64 r, .int .i64 c]] ++ #[.pointer (some ⟨b, 0, none⟩)]) w fun e w' => e = .returned (.bool (outI s r c)) ∧ Kp [] w w' := by
  have hcell2 := ((Kp.refl [] w).alloc (.cells #[.int .i64 r, .int .i64 c] 24)).cell hcell (by simp)
  go_enter Try.func36, Try.ntmps36
  go_wp2_with fail
  refine (outside_any s r c _ hs0 hs hr0 hr1 hc0 hc1).mono ?_
  rintro e w1 ⟨rfl, hk⟩
  go_wp2_with fail
  go_ret
  exact ⟨rfl, ((Kp.refl [] w).alloc _).trans hk⟩
/-- A tree in memory. -/
def TreeM (w : World) (S : List Nat) (p q h k : Nat) (bs : List Bool) (c : Bool) : Prop := Blk w p 70 [.pointer (some ⟨q, 0, none⟩), .int .i64 (h : Int), .int .i64 (k : Int)] ∧ VecM w S q bs c ∧ p ∉ S
theorem TreeM.kp {w w' : World} {S T : List Nat} {p q h k : Nat} {bs : List Bool} {c : Bool} (ht : TreeM w S p q h k bs c) (hk : Kp T w w') (h1 : ∀ g ∈ S, g ∉ T) (h2 : p ∉ T) : TreeM w' S p q h k bs c := ⟨ht.1.kp hk h2, ht.2.1.kp hk h1, ht.2.2⟩
theorem TreeM.kp0 {w w' : World} {S : List Nat} {p q h k : Nat} {bs : List Bool} {c : Bool} (ht : TreeM w S p q h k bs c) (hk : Kp [] w w') : TreeM w' S p q h k bs c := ht.kp hk (by simp) (by simp)
theorem TreeM.cells {w : World} {S : List Nat} {p q h k : Nat} {bs : List Bool} {c : Bool} (ht : TreeM w S p q h k bs c) : w.cell? ⟨p, 0, none⟩ = some (.pointer (some ⟨q, 0, none⟩)) ∧ w.cell? ⟨p, 1, none⟩ = some (.int .i64 (h : Int)) ∧ w.cell? ⟨p, 2, none⟩ = some (.int .i64 (k : Int)) :=
  ⟨by rw [ht.1.cell]; rfl, by rw [ht.1.cell]; rfl, by rw [ht.1.cell]; rfl⟩
theorem TreeM.set_ {w : World} {S : List Nat} {p q h k0 k : Nat} {bs : List Bool} {c : Bool} (ht : TreeM w S p q h k0 bs c) {v : Int} (hv : v = (k : Int)) : TreeM (w.setCell ⟨p, 2, none⟩ (.int .i64 v)) S p q h k bs c := by
  obtain ⟨h1, h2, h3⟩ := ht
  subst hv
  exact ⟨h1.set_ 2 _, h2.kp ((Kp.refl [p] w).setCell (.inl (by simp)) _) (fun g hg hm => by simp only [List.mem_singleton] at hm; subst hm; exact h3 hg), h3⟩
set_option maxRecDepth 100000 in
set_option maxHeartbeats 4000000 in
theorem tthere_any (S : List Nat) (p q h k : Nat) (bs : List Bool) (c : Bool) (w : World) (ht : TreeM w S p q h k bs c) :
    Calls Try.prog 44 #[.pointer (some ⟨p, 0, none⟩)] w fun e w' => e = .returned (.bool true) ∧ w = w' := by
  obtain ⟨c0, _, _⟩ := ht.cells
  have HT := Lib.hid ht; clear ht
  go_enter Try.func44, Try.ntmps44
  go_wp2_with fail
  go_ret
  exact ⟨rfl, rfl⟩
set_option maxRecDepth 100000 in
set_option maxHeartbeats 4000000 in
theorem tnodes_any (S : List Nat) (p q h k n : Nat) (bs : List Bool) (c : Bool) (w : World) (ht : TreeM w S p q h k bs c) (hn : bs.length = n) :
    Calls Try.prog 20 #[.pointer (some ⟨p, 0, none⟩)] w fun e w' => e = .returned (.int .i64 ((n / 4 : Nat) : Int)) ∧ w = w' := by
  obtain ⟨c0, _, _⟩ := ht.cells
  have hn16 : n ≤ 16777216 := by rw [← hn]; exact ht.2.1.tail.2.2.2
  have htd : Int.tdiv (n : Int) 4 = ((n / 4 : Nat) : Int) := rfl
  have HT := Lib.hid ht; clear ht
  have HN := Lib.hid hn; clear hn
  go_enter Try.func20, Try.ntmps20
  go_wp2_with fail
  refine (tthere_any S p q h k bs c w HT.out).mono ?_
  rintro e w1 ⟨rfl, rfl⟩
  go_wp2_with fail
  refine (vlen_any S q n bs c w HT.out.2.1 HN.out).mono ?_
  rintro e w1 ⟨rfl, rfl⟩
  go_wp2_with fail
  go_ret
  exact ⟨by simp, rfl⟩
set_option maxRecDepth 100000 in
set_option maxHeartbeats 4000000 in
theorem tlen_any (S : List Nat) (p q h k : Nat) (bs : List Bool) (c : Bool) (w : World) (ht : TreeM w S p q h k bs c) :
    Calls Try.prog 19 #[.pointer (some ⟨p, 0, none⟩)] w fun e w' => e = .returned (.int .i64 (k : Int)) ∧ w = w' := by
  obtain ⟨_, _, c2⟩ := ht.cells
  have HT := Lib.hid ht; clear ht
  go_enter Try.func19, Try.ntmps19
  go_wp2_with fail
  refine (tthere_any S p q h k bs c w HT.out).mono ?_
  rintro e w1 ⟨rfl, rfl⟩
  go_wp2_with fail
  go_ret
  exact ⟨rfl, rfl⟩
set_option maxRecDepth 100000 in
set_option maxHeartbeats 4000000 in
theorem theight_any (S : List Nat) (p q h k : Nat) (bs : List Bool) (c : Bool) (w : World) (ht : TreeM w S p q h k bs c) :
    Calls Try.prog 21 #[.pointer (some ⟨p, 0, none⟩)] w fun e w' => e = .returned (.int .i64 (h : Int)) ∧ w = w' := by
  obtain ⟨_, c1, _⟩ := ht.cells
  have HT := Lib.hid ht; clear ht
  go_enter Try.func21, Try.ntmps21
  go_wp2_with fail
  refine (tthere_any S p q h k bs c w HT.out).mono ?_
  rintro e w1 ⟨rfl, rfl⟩
  go_wp2_with fail
  go_ret
  exact ⟨rfl, rfl⟩
theorem g_pow {h : Nat} (hh : h ≤ 17) : wrap64 ((2 : Int) ^ h) = ((2 ^ h : Nat) : Int) := by
  have hp : 2 ^ h ≤ 2 ^ 17 := Nat.pow_le_pow_right (by omega) hh
  have e : (2 : Int) ^ h = ((2 ^ h : Nat) : Int) := by rw [Int.natCast_pow]; rfl
  rw [e]
  generalize 2 ^ h = P at hp
  unfold wrap64
  omega
set_option maxRecDepth 100000 in
set_option maxHeartbeats 4000000 in
theorem tside2_any (S : List Nat) (p q h k : Nat) (bs : List Bool) (c : Bool) (w : World) (ht : TreeM w S p q h k bs c) (hh : h ≤ 17) :
    Calls Try.prog 18 #[.pointer (some ⟨p, 0, none⟩)] w fun e w' => e = .returned (.int .i64 ((2 ^ h : Nat) : Int)) ∧ w = w' := by
  obtain ⟨_, c1, _⟩ := ht.cells
  have HT := Lib.hid ht; clear ht
  go_enter Try.func18, Try.ntmps18
  go_wp2_with fail
  refine (tthere_any S p q h k bs c w HT.out).mono ?_
  rintro e w1 ⟨rfl, rfl⟩
  go_wp2_with fail
  go_ret
  exact ⟨congrArg (fun x => Ending.returned (.int .i64 x)) (g_pow hh), rfl⟩
set_option maxRecDepth 100000 in
set_option maxHeartbeats 4000000 in
theorem tof_arg (s : Int) (v : Value) (w : World) (h0 : hgt s = 0) (hs0 : -9223372036854775808 ≤ s) (hs1 : s ≤ 9223372036854775807) :
    Calls Try.prog 10 #[.int .i64 s, v] w fun e w' => e = .returned (.tuple #[.pointer none, .int .i64 2]) ∧ Kp [] w w' := by
  have HK := Lib.hid ((Kp.refl [] w).alloc (.cells #[.int .i64 s] 3))
  have H0 := Lib.hid h0; clear h0
  go_enter Try.func10, Try.ntmps10
  go_wp2_with fail
  refine (height_any s _ hs0 hs1).mono ?_
  rw [H0.out]
  rintro e w1 ⟨rfl, rfl⟩
  go_wp2_with fail
  go_ret2
  exact ⟨rfl, HK.out⟩
set_option maxRecDepth 100000 in
set_option maxHeartbeats 4000000 in
theorem tof_out (s : Int) (h n c B : Nat) (A : Option Addr) (l : List (Int × Int)) (w : World) (hh : hgt s = h) (h0 : h ≠ 0) (hx : Rd w B A (pcI l)) (hn : l.length = n) (hb : n ≤ 1000000) (ho : (l.any fun p => outI s p.1 p.2) = true)
    (hl : ∀ p ∈ l, (-9223372036854775808 ≤ p.1 ∧ p.1 ≤ 9223372036854775807) ∧ (-9223372036854775808 ≤ p.2 ∧ p.2 ≤ 9223372036854775807)) :
    Calls Try.prog 10 #[.int .i64 s, .slice A n c] w fun e w' => e = .returned (.tuple #[.pointer none, .int .i64 6]) ∧ Kp [] w w' := by
  obtain ⟨h1, h17, hsp⟩ : 1 ≤ h ∧ h ≤ 17 ∧ s = ((2 ^ h : Nat) : Int) := by
    rw [← hh] at h0 ⊢
    rcases hgt_spec s with h | h
    · exact absurd h.1 h0
    · exact h
  have hp17 : 2 ^ h ≤ 2 ^ 17 := Nat.pow_le_pow_right (by omega) h17
  have hs0 : 0 ≤ s := by rw [hsp]; exact Int.natCast_nonneg _
  have hs1 : s ≤ 131072 := by rw [hsp]; exact Int.ofNat_le.2 hp17
  have hk := (Kp.refl [] w).alloc (.cells #[.int .i64 s] 3)
  have HX := Lib.hid (hx.kp0 hk)
  have HK := Lib.hid hk
  have HC := Lib.hid (show (w.alloc (.cells #[.int .i64 s] 3)).cell? ⟨w.heap.size, 0, none⟩ = some (.int .i64 s) by rw [(Blk.new w 3 [.int .i64 s]).cell]; rfl)
  have HH := Lib.hid hh; clear hh
  have HN := Lib.hid hn; clear hn
  have HO := Lib.hid ho; clear ho
  have HL := Lib.hid hl; clear hl
  clear hx hk hsp hp17
  go_enter Try.func10, Try.ntmps10
  go_wp2_with fail
  refine (height_any s _ (by omega) (by omega)).mono ?_
  rw [HH.out]
  rintro e w1 ⟨rfl, rfl⟩
  go_wp2_with fail
  refine (contains_pair 36 n c B A #[.pointer (some ⟨w.heap.size, 0, none⟩)] (fun p => outI s p.1 p.2) l _ HX.out HN.out (by omega) (enters_fn Try.func36 (by kernel_rfl) rfl) (fun x hx w1 hk1 => ofc_any w.heap.size s x.1 x.2 w1 (hk1.cell HC.out (by simp)) hs0 hs1 (HL.out x hx).1.1 (HL.out x hx).1.2 (HL.out x hx).2.1 (HL.out x hx).2.2)).mono ?_
  rw [HO.out]
  rintro e w1 ⟨rfl, hk1⟩
  go_wp2_with fail
  go_ret2
  exact ⟨rfl, HK.out.trans hk1⟩
/-- How many pairs a tree of bits has. -/
def kOf (bs : List Bool) : Nat := bs.count true - (bs.length / 4 - 1)
set_option maxRecDepth 100000 in
set_option maxHeartbeats 4000000 in
theorem tof_ok (h n c B : Nat) (A : Option Addr) (l : List (Nat × Nat)) (w : World) (h1 : 1 ≤ h) (h17 : h ≤ 17) (hx : Rd w B A (pc l)) (hn : l.length = n) (hb : n ≤ 200000) (hl : ∀ p ∈ l, p.1 < 2 ^ h ∧ p.2 < 2 ^ h) (hkc : (levL h [l]).length / 4 - 1 ≤ (levL h [l]).count true) :
    Calls Try.prog 10 #[.int .i64 ((2 ^ h : Nat) : Int), .slice A n c] w fun e w' => ∃ S p q, e = .returned (.tuple #[.pointer (some ⟨p, 0, none⟩), .int .i64 0]) ∧ TreeM w' S p q h (kOf (levL h [l])) (levL h [l]) true ∧ (∀ x ∈ S, w.heap.size ≤ x) ∧ w.heap.size ≤ p ∧ Kp [] w w' := by
  obtain ⟨s, hsp⟩ : ∃ s : Int, s = ((2 ^ h : Nat) : Int) := ⟨_, rfl⟩
  have hp17 : 2 ^ h ≤ 2 ^ 17 := Nat.pow_le_pow_right (by omega) h17
  have hs0 : 0 ≤ s := by rw [hsp]; exact Int.natCast_nonneg _
  have hs1 : s ≤ 131072 := by rw [hsp]; exact Int.ofNat_le.2 hp17
  have hgs : hgt s = h := by rw [hsp]; exact hgt_pow h1 h17
  have hin : (l.map upI).any (fun p => outI s p.1 p.2) = false := by
    rw [List.any_eq_false]
    intro p hp
    obtain ⟨p0, hp0, rfl⟩ := List.mem_map.1 hp
    obtain ⟨a, b⟩ := hl p0 hp0
    have a' := Int.ofNat_lt.2 a
    have b' := Int.ofNat_lt.2 b
    unfold outI upI
    rw [hsp, decide_eq_true ⟨Int.natCast_nonneg _, a', Int.natCast_nonneg _, b'⟩]
    simp
  have hl2 : ∀ p ∈ l, p.1 < 131072 ∧ p.2 < 131072 := fun p hp => ⟨Nat.lt_of_lt_of_le (hl p hp).1 hp17, Nat.lt_of_lt_of_le (hl p hp).2 hp17⟩
  rw [← hsp]
  have hk := (Kp.refl [] w).alloc (.cells #[.int .i64 s] 3)
  have HX := Lib.hid (hx.kp0 hk)
  have HK := Lib.hid hk
  have HC := Lib.hid (show (w.alloc (.cells #[.int .i64 s] 3)).cell? ⟨w.heap.size, 0, none⟩ = some (.int .i64 s) by rw [(Blk.new w 3 [.int .i64 s]).cell]; rfl)
  have HL2 := Lib.hid hl2
  have HLL := Lib.hid (levL_len n h [l] (by simp) (by simp [hn]))
  have HKC := Lib.hid hkc
  obtain ⟨bs, hbs⟩ : ∃ bs, bs = levL h [l] := ⟨_, rfl⟩
  rw [← hbs] at HLL HKC ⊢
  have HN := Lib.hid hn; clear hn
  have HIN := Lib.hid hin; clear hin
  have HGS := Lib.hid hgs; clear hgs
  have HBS := Lib.hid hbs; clear hbs
  clear hx hk hsp hp17 hl hl2 hkc
  go_enter Try.func10, Try.ntmps10
  go_wp2_with fail
  refine (height_any s _ (by omega) (by omega)).mono ?_
  rw [HGS.out]
  rintro e w1 ⟨rfl, rfl⟩
  have hne : (h : Int) ≠ 0 := by omega
  go_wp2_with fail
  refine (contains_pair 36 n c B A #[.pointer (some ⟨w.heap.size, 0, none⟩)] (fun p => outI s p.1 p.2) (l.map upI) _ (by rw [← pc_I]; exact HX.out) (by rw [List.length_map]; exact HN.out) (by omega) (enters_fn Try.func36 (by kernel_rfl) rfl) (fun x hx w1 hk1 => ofc_any w.heap.size s x.1 x.2 w1 (hk1.cell HC.out (by simp)) hs0 hs1 ?_ ?_ ?_ ?_)).mono ?_
  · obtain ⟨p0, hp0, rfl⟩ := List.mem_map.1 hx; unfold upI; omega
  · obtain ⟨p0, hp0, rfl⟩ := List.mem_map.1 hx; have := (HL2.out p0 hp0).1; unfold upI; omega
  · obtain ⟨p0, hp0, rfl⟩ := List.mem_map.1 hx; unfold upI; omega
  · obtain ⟨p0, hp0, rfl⟩ := List.mem_map.1 hx; have := (HL2.out p0 hp0).2; unfold upI; omega
  rw [HIN.out]
  rintro e w2 ⟨rfl, hk2⟩
  replace HX := Lib.hid (HX.out.kp0 hk2)
  replace HK := Lib.hid (HK.out.trans hk2)
  clear hk2 HC
  go_wp2_with fail
  have hkb := (Kp.refl [] w2).alloc (.cells #[.slice A n c] 22)
  refine (levels_any h 1 1 n _ _ [l] _ ?_ rfl (by omega) (by simp [HN.out]) (by omega) h17 rfl ?_).mono ?_
  · refine ⟨[.slice A n c], ⟨rd_new' _ #[.slice A n c] 22 rfl, fun _ _ _ => by simp⟩, rfl, fun i m hi => ?_⟩
    match i, hi with
    | 0, hi =>
      simp only [List.getElem?_cons_zero, Option.some.injEq] at hi
      subst hi
      refine ⟨A, c, by rw [HN.out]; rfl, ?_, fun _ _ _ => by simp⟩
      rcases l with _ | ⟨p, l'⟩
      · exact Rd.nil _ _ _
      · refine Rd.kp0 (fun i u hu => ?_) hkb
        obtain ⟨ad, e, _, hc⟩ := HX.out i u hu
        have := World.block_lt_of_cell? w2 _ hc
        rw [addr_add_block] at this
        exact ⟨ad, e, by simp; omega, hc⟩
    | i + 1, hi => simp at hi
  · intro l' hl' p hp
    simp only [List.mem_singleton] at hl'
    subst hl'
    exact HL2.out p hp
  rw [← HBS.out]
  rintro e w3 ⟨Ao, no, co, rfl, hno, hnb, ho, hk3⟩
  have HO := Lib.hid (own_rd ho)
  have HNO := Lib.hid hno.symm
  replace HK := Lib.hid (HK.out.trans (hkb.trans hk3))
  clear ho hno hk3 hkb
  go_wp2_with fail
  refine (bof_any Ao no co _ bs w3 HO.out HNO.out (by omega)).mono ?_
  rintro e w4 ⟨S, q, rfl, hv, hS, hk4⟩
  have HS := Lib.hid (show ∀ x ∈ S, w.heap.size ≤ x from fun x hx => Nat.le_trans HK.out.size (hS x hx))
  replace HK := Lib.hid (HK.out.trans hk4)
  have hq : q < w4.heap.size := hv.lt q (by obtain ⟨g, ws, A, na, ca, av, _, _, _, _, _, _, _, _, rfl⟩ := hv; simp)
  have HV := Lib.hid hv; clear hv
  clear hS hk4
  go_wp2_with fail
  obtain ⟨gt, hgt⟩ : ∃ gt, gt = w4.heap.size := ⟨_, rfl⟩
  rw [← hgt]
  obtain ⟨w5, hw5⟩ : ∃ w5, w5 = w4.alloc (.cells #[.pointer (some ⟨q, 0, none⟩), .int .i64 (h : Int), .int .i64 0] 70) := ⟨_, rfl⟩
  rw [← hw5]
  have hk5 : Kp [] w4 w5 := by rw [hw5]; exact (Kp.refl [] w4).alloc _
  have hb5 : Blk w5 gt 70 [.pointer (some ⟨q, 0, none⟩), .int .i64 (h : Int), .int .i64 0] := by rw [hw5, hgt]; exact Blk.new w4 _ _
  have hSl := HV.out.lt
  refine (vones_any S q bs false w5 (HV.out.kp0 hk5)).mono ?_
  rintro e w6 ⟨rfl, S', hv6, hk6, hg6, _⟩
  have hS' : ∀ x ∈ S', w.heap.size ≤ x := fun x hx => by
    rcases hg6 x hx with h | h
    · exact HS.out x h
    · exact Nat.le_trans (Nat.le_trans HK.out.size hk5.size) h
  have hgS' : gt ∉ S' := fun hm => by
    rcases hg6 _ hm with h | h
    · have := hSl _ h; omega
    · have := hb5.lt; omega
  have hb6 := hb5.kp hk6 (fun hm => by have := hSl _ hm; omega)
  have HT6 := Lib.hid (show TreeM w6 S' gt q h 0 bs true from ⟨hb6, hv6, hgS'⟩)
  have hk46 : Kp S w4 w6 := (hk5.mono (by simp)).trans hk6
  have HK6 := Lib.hid (HK.out.trans' hk46 (fun x hx => .inr (HS.out x hx)))
  have HS6 := Lib.hid hS'
  have HGT := Lib.hid (show w.heap.size ≤ gt by rw [hgt]; exact HK.out.size)
  have hq2 : w6.cell? ⟨gt, 2, none⟩ = some (.int .i64 0) := by rw [hb6.cell]; rfl
  have hf2 := hb6.free 2
  obtain ⟨m, hm⟩ : ∃ m, m = no / 4 := ⟨_, rfl⟩
  obtain ⟨ct, hct⟩ : ∃ ct, ct = bs.count true := ⟨_, rfl⟩
  have hctb : ct ≤ no := by rw [hct, ← HNO.out]; exact List.count_le_length
  have hkct : m - 1 ≤ ct := by have := HKC.out; rw [HNO.out, ← hm, ← hct] at this; exact this
  have HKO := Lib.hid (show kOf bs = ct - (m - 1) by unfold kOf; rw [HNO.out, ← hm, ← hct])
  have HND := Lib.hid (show ∀ w', TreeM w' S' gt q h 0 bs true → Calls Try.prog 20 #[.pointer (some ⟨gt, 0, none⟩)] w' fun e w'' => e = .returned (.int .i64 (m : Int)) ∧ w' = w'' from fun w' ht => by rw [hm]; exact tnodes_any S' gt q h 0 no bs true w' ht HNO.out)
  rw [← hct]
  have hmb : m ≤ 16777216 := by omega
  clear hw5 hk5 hb5 hSl hv6 hk6 hg6 hS' hgS' hb6 hk46 hm hct hgt hq HV HS HK
  obtain ⟨X, hX⟩ : ∃ X : Int, (m : Int) - 1 = X := ⟨_, rfl⟩
  go_wp2_with fail
  refine (HND.out w6 HT6.out).mono ?_
  rintro e w7 ⟨rfl, rfl⟩
  have hXb : X ≤ 16777216 := by omega
  have hXa : -1 ≤ X := by omega
  have HX1 := Lib.hid hX
  rcases Int.lt_or_le X 0 with hX0 | hX0
  · go_wp2_with fail
    go_ret2
    exact ⟨S', gt, q, rfl, HT6.out.set_ (by have := HX1.out; have := HKO.out; omega), HS6.out, HGT.out, HK6.out.setCell (.inr HGT.out) _⟩
  · go_wp2_with fail
    go_ret2
    exact ⟨S', gt, q, rfl, HT6.out.set_ (by have := HX1.out; have := HKO.out; omega), HS6.out, HGT.out, HK6.out.setCell (.inr HGT.out) _⟩
end Go.Proofs.Ytldmabkilgpgcaa
