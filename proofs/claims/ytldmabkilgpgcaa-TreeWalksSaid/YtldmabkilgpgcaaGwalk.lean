/-
  LAYER 15 (tree): walked: from node 0 on, quarter by quarter.
  CONDITIONS: at most 200 pairs.
-/
import Derived.Test.YtldmabkilgpgcaaGin
namespace Go.Proofs.Ytldmabkilgpgcaa
open Go.RowKit

theorem node_at2 {pre : List Bool} {off a k q : Nat} {sq : List (List (Nat × Nat))} {l : List (Nat × Nat)} (hA : Ahead pre off sq.length) (h : sq[k]? = some l) (hq : q < 4) (hne : (part a l q).isEmpty = false) :
    kidV (pre ++ levL (a + 1) sq) ((off + k : Nat) : Int) q = if a = 0 then 0 else off + sq.length + ((bitsL a sq).take (4 * k + q)).count true := by
  have hth := (node_at (a := a) hA h hq).1
  obtain ⟨hA1, hA2⟩ := hA
  have hk : k < sq.length := (List.getElem?_eq_some_iff.1 h).1
  have hlev : levL (a + 1) sq = bitsL a sq ++ levL a (nextL a sq) := rfl
  have hbl := bitsL_len a sq
  have hlen : (pre ++ levL (a + 1) sq).length = 4 * off + (4 * sq.length + (levL a (nextL a sq)).length) := by rw [hlev, List.length_append, List.length_append, hbl, hA1]
  unfold kidV
  rw [hth, hne]
  simp only [Bool.not_false, if_true, Int.toNat_natCast]
  have hcnt : cntI (pre ++ levL (a + 1) sq) (4 * (off + k) + q) + 1 = off + sq.length + ((bitsL a sq).take (4 * k + q)).count true := by
    unfold cntI
    rw [hlev, List.take_append, List.take_of_length_le (by omega), hA1, show 4 * (off + k) + q - 4 * off = 4 * k + q by omega, List.take_append_of_le_length (by omega), List.count_append]
    omega
  rw [hcnt, hlen]
  obtain ⟨hc, _⟩ := List.getElem?_eq_some_iff.1 (next_at h hq hne)
  rcases Nat.eq_zero_or_pos a with rfl | ha
  · rw [if_pos (by unfold levL; simp; omega), if_pos rfl]
  · obtain ⟨b, rfl⟩ : ∃ b, a = b + 1 := ⟨a - 1, by omega⟩
    have : (levL (b + 1) (nextL (b + 1) sq)).length ≥ 4 * (nextL (b + 1) sq).length := by
      unfold levL
      rw [List.length_append, bitsL_len]
      omega
    rw [if_neg (by omega), if_neg (by omega)]
/-- Places with their nodes, as cells. -/
def tc (f : Nat → Nat) : Nat → List (Nat × Nat) → List Value
  | _, [] => []
  | i, c :: C => .int .i64 (c.1 : Int) :: .int .i64 (c.2 : Int) :: .int .i64 (f i : Int) :: tc f (i + 1) C
theorem tc_snoc (f : Nat → Nat) : ∀ (i : Nat) (C : List (Nat × Nat)) (c : Nat × Nat), tc f i (C ++ [c]) = tc f i C ++ [.int .i64 (c.1 : Int), .int .i64 (c.2 : Int), .int .i64 (f (i + C.length) : Int)]
  | i, [], c => rfl
  | i, x :: C, c => by
    show _ :: _ :: _ :: tc f (i + 1) (C ++ [c]) = _
    rw [tc_snoc f (i + 1) C c, List.length_cons, show i + 1 + C.length = i + (C.length + 1) by omega]
    rfl
theorem tc_len (f : Nat → Nat) : ∀ (i : Nat) (C : List (Nat × Nat)), (tc f i C).length = C.length * 3
  | _, [] => rfl
  | i, c :: C => by
    show (tc f (i + 1) C).length + 1 + 1 + 1 = _
    rw [tc_len f (i + 1) C, List.length_cons]
    omega
theorem tc_get (f : Nat → Nat) : ∀ {i k : Nat} {C : List (Nat × Nat)} {c : Nat × Nat}, C[k]? = some c → (tc f i C)[k * 3]? = some (.int .i64 (c.1 : Int)) ∧ (tc f i C)[k * 3 + 1]? = some (.int .i64 (c.2 : Int)) ∧ (tc f i C)[k * 3 + 2]? = some (.int .i64 (f (i + k) : Int))
  | i, _, [], c, h => by simp at h
  | i, 0, x :: C, c, h => by
    simp only [List.getElem?_cons_zero, Option.some.injEq] at h
    subst h
    exact ⟨rfl, rfl, rfl⟩
  | i, k + 1, x :: C, c, h => by
    simp only [List.getElem?_cons_succ] at h
    obtain ⟨h1, h2, h3⟩ := tc_get f (i := i + 1) h
    rw [show (k + 1) * 3 = k * 3 + 1 + 1 + 1 by omega, show i + (k + 1) = i + 1 + k by omega]
    exact ⟨h1, h2, h3⟩
theorem oc_tc (f : Nat → Nat) : ∀ (i : Nat) (C : List (Nat × Nat)), ∀ u ∈ tc f i C, u.oneCell' = true
  | _, [], u, h => by cases h
  | i, c :: C, u, h => by
    simp only [tc, List.mem_cons] at h
    rcases h with rfl | rfl | rfl | h
    · rfl
    · rfl
    · rfl
    · exact oc_tc f (i + 1) C u h
theorem Rd.ixT {w : World} {B : Nat} {A : Option Addr} {f : Nat → Nat} {C : List (Nat × Nat)} (h : Rd w B A (tc f 0 C)) {k : Nat} (hk : k < C.length) :
    ∃ r c ad, C[k]? = some (r, c) ∧ A = some ad ∧ ad.block < B ∧ w.cell? (ad.add (k * 3)) = some (.int .i64 ((r : Nat) : Int)) ∧ w.cell? ⟨(ad.add (k * 3)).block, (ad.add (k * 3)).off + 1, none⟩ = some (.int .i64 ((c : Nat) : Int)) ∧ w.cell? ⟨(ad.add (k * 3)).block, (ad.add (k * 3)).off + 2, none⟩ = some (.int .i64 ((f k : Nat) : Int)) := by
  obtain ⟨p, hp⟩ : ∃ p, C[k]? = some p := ⟨_, List.getElem?_eq_getElem hk⟩
  obtain ⟨h1, h2, h3⟩ := tc_get f (i := 0) hp
  rw [Nat.zero_add] at h3
  obtain ⟨ad, e1, hb, c1⟩ := h _ _ h1
  obtain ⟨ad2, e2, _, c2⟩ := h _ _ h2
  rw [e1] at e2
  injection e2 with e2
  subst e2
  obtain ⟨ad3, e3, _, c3⟩ := h _ _ h3
  rw [e1] at e3
  injection e3 with e3
  subst e3
  rw [← addr_add_add, addr_fld _ (by omega)] at c2
  rw [← addr_add_add, addr_fld _ (by omega)] at c3
  exact ⟨p.1, p.2, ad, hp, e1, hb, c1, c2, c3⟩
theorem Try.info_three : (Try.prog.info? 95).map (fun i => (i.zero, i.size, i.bytes)) = some (some (.agg #[.int .i64 0, .int .i64 0, .int .i64 0]), 3, 24) := by kernel_rfl
/-- A level of a tree: so many levels left, the bits ahead, the squares and their places. -/
def LevT (bs : List Bool) (a off : Nat) (C : List (Nat × Nat)) (sq : List (List (Nat × Nat))) : Prop := ∃ pre, bs = pre ++ levL a sq ∧ Ahead pre off sq.length ∧ Tog (AtC a) C sq
/-- What nodes stand at a level: in a row, as long as there are levels. -/
def nodeF (a off : Nat) (i : Nat) : Nat := if a = 0 then 0 else off + i
theorem kid_lt (bs : List Bool) (nd : Int) (q : Nat) (h : kidV bs nd q ≠ 0) : kidV bs nd q < bs.length / 4 := by
  unfold kidV at h ⊢
  by_cases h1 : thereV bs nd q = true
  · rw [if_pos h1] at h ⊢
    by_cases h2 : bs.length / 4 ≤ cntI bs (4 * nd.toNat + q) + 1
    · rw [if_pos h2] at h
      exact absurd rfl h
    · rw [if_neg h2]
      omega
  · rw [if_neg h1] at h
    exact absurd rfl h
theorem Rd.atT {w : World} {B : Nat} {ad : Addr} {f : Nat → Nat} {C : List (Nat × Nat)} (h : Rd w B (some ad) (tc f 0 C)) {k r c : Nat} (hp : C[k]? = some (r, c)) :
    w.cell? (ad.add (k * 3)) = some (.int .i64 (r : Int)) ∧ w.cell? ⟨(ad.add (k * 3)).block, (ad.add (k * 3)).off + 1, none⟩ = some (.int .i64 (c : Int)) ∧ w.cell? ⟨(ad.add (k * 3)).block, (ad.add (k * 3)).off + 2, none⟩ = some (.int .i64 ((f k : Nat) : Int)) := by
  obtain ⟨r', c', ad', hp', e, _, h1, h2, h3⟩ := h.ixT (List.getElem?_eq_some_iff.1 hp).1
  rw [hp] at hp'
  injection hp' with hp'
  injection hp' with e1 e2
  injection e with e
  subst e1 e2 e
  exact ⟨h1, h2, h3⟩
theorem tc_ne {f : Nat → Nat} {C : List (Nat × Nat)} {k : Nat} {c : Nat × Nat} (h : C[k]? = some c) : tc f 0 C ≠ [] := by
  cases C with
  | nil => simp at h
  | cons x C => simp [tc]
theorem wrap_id {z : Int} (h0 : 0 ≤ z) (h1 : z ≤ 1000000) : IntKind.wrap .i64 z = z := by rw [IntKind.wrap_i64]; omega
theorem wrap2u {r u x : Nat} (hr : r < 131072) (hu : u ≤ 1) (h : 2 * (r : Int) + (u : Int) = (x : Int)) : IntKind.wrap .i64 (IntKind.wrap .i64 (2 * (r : Int)) + IntKind.wrap .i64 (u : Int)) = (x : Int) := by
  rw [wrap_id (z := 2 * (r : Int)) (by omega) (by omega), wrap_id (z := (u : Int)) (by omega) (by omega), wrap_id (by omega) (by omega), h]
theorem wrap2v {r u x : Nat} (hr : r < 131072) (hu : u ≤ 1) (h : 2 * (r : Int) + (u : Int) = (x : Int)) : IntKind.wrap .i64 (IntKind.wrap .i64 (2 * (r : Int)) + (u : Int)) = (x : Int) := by
  rw [wrap_id (z := 2 * (r : Int)) (by omega) (by omega), wrap_id (by omega) (by omega), h]
theorem tog_same {h : Nat} (h1 : 1 ≤ h) {l w : List (Nat × Nat)} (ht : Tog (AtC 0) w (sqF h [l])) : SameS w l := fun p => by
  have hm := sqF_mem h [l] p
  simp only [List.mem_singleton, exists_eq_left] at hm
  rw [← hm]
  constructor
  · intro hp
    obtain ⟨m, hm, ha⟩ := ht.left hp
    obtain ⟨x, m', rfl⟩ := List.exists_cons_of_ne_nil (sqF_ne1 h1 [l] m hm)
    have := ha x (by simp)
    simp only [Nat.pow_zero, Nat.div_one] at this
    exact ⟨_, hm, by rw [show p = x from Prod.ext this.1.symm this.2.symm]; simp⟩
  · rintro ⟨m, hm, hp⟩
    obtain ⟨c, hc, ha⟩ := ht.right hm
    have := ha p hp
    simp only [Nat.pow_zero, Nat.div_one] at this
    rwa [show p = c from Prod.ext this.1 this.2]
theorem count_on {L : List Bool} {i : Nat} {b : Bool} (h : L[i]? = some b) : (L.take (i + 1)).count true = (L.take i).count true + b.toNat := by
  rw [List.take_add_one, h, Option.toList_some, List.count_append]
  cases b <;> rfl
set_option maxRecDepth 100000 in
set_option maxHeartbeats 4000000 in
theorem walked_any (S : List Nat) (p q h kk : Nat) (l : List (Nat × Nat)) (bs : List Bool) (w : World) (ht : TreeM w S p q h kk bs true) (hbs : bs = levL h [l]) (h1 : 1 ≤ h) (h17 : h ≤ 17) (hll : l.length ≤ 200) (hl : ∀ p ∈ l, p.1 < 2 ^ h ∧ p.2 < 2 ^ h) :
    Calls Try.prog 30 #[.pointer (some ⟨p, 0, none⟩)] w fun e w' => Kp [] w w' ∧ ∃ (C : List (Nat × Nat)) (A : Option Addr) (n c : Nat), e = .returned (.tuple #[.slice A n c, .bool true]) ∧ C.length = n ∧ Rd w' w'.heap.size A (pc C) ∧ SameS C l ∧ C.Nodup ∧ n = kOf bs ∧ n ≤ c := by
  obtain ⟨i0, hi, hz0, hz1, hz2⟩ := info_parts Try.info_three
  obtain ⟨i1, hi', hy0, hy1, hy2⟩ := info_parts Try.info_pair
  have HHT := Lib.hid (show ∀ w', TreeM w' S p q h kk bs true → Calls Try.prog 21 #[.pointer (some ⟨p, 0, none⟩)] w' fun e w'' => e = .returned (.int .i64 (h : Int)) ∧ w' = w'' from fun w' ht => theight_any S p q h kk bs true w' ht)
  obtain ⟨M, hM⟩ : ∃ M, M = bs.length / 4 := ⟨_, rfl⟩
  have HND := Lib.hid (show ∀ w', TreeM w' S p q h kk bs true → Calls Try.prog 20 #[.pointer (some ⟨p, 0, none⟩)] w' fun e w'' => e = .returned (.int .i64 (M : Int)) ∧ w' = w'' from fun w' ht => by rw [hM]; exact tnodes_any S p q h kk _ bs true w' ht rfl)
  have HM := Lib.hid hM
  have HL0 := Lib.hid (show LevT bs h 0 [(0, 0)] [l] from ⟨[], by rw [hbs]; rfl, ⟨rfl, rfl⟩, .cons (fun p hp => ⟨Nat.div_eq_of_lt (hl p hp).1, Nat.div_eq_of_lt (hl p hp).2⟩) .nil⟩)
  have HSQ := Lib.hid (show [l].flatten.length ≤ 200 by simpa using hll)
  have HT := Lib.hid ht
  have HBS := Lib.hid hbs
  clear ht hM hl hbs
  go_enter Try.func30, Try.ntmps30
  go_wp2_with fail
  have HRF := Lib.hid (show RF (w.alloc (.cells #[.int .i64 0, .int .i64 0, .int .i64 0] 95)) [] (some ⟨w.heap.size, 0, none⟩) (tc (nodeF h 0) 0 [(0, 0)]) from ⟨by
    have := rd_new' w #[.int .i64 0, .int .i64 0, .int .i64 0] 95 rfl
    have e : tc (nodeF h 0) 0 [(0, 0)] = [.int .i64 0, .int .i64 0, .int .i64 0] := by unfold tc tc nodeF; simp
    rw [e]
    exact this, fun _ _ _ => by simp⟩)
  have HK0 := Lib.hid ((Kp.refl [] w).alloc (.cells #[.int .i64 0, .int .i64 0, .int .i64 0] 95))
  have HF0 := Lib.hid (show sqF h [l] = sqF h [l] from rfl)
  go_loopw [4, 5] (fun lv x wr => ∃ (i off n c : Nat) (A : Option Addr) (C : List (Nat × Nat)) (sq : List (List (Nat × Nat))), x = .int .i64 (i : Int) ∧ lv = .slice A n c ∧ i ≤ h ∧ n ≤ 200 + 1 ∧ Hid (C.length = n) ∧ Hid (sq.flatten.length ≤ 200) ∧ Hid (LevT bs (h - i) off C sq) ∧ Hid (sqF (h - i) sq = sqF h [l]) ∧ Hid (RF wr [] A (tc (nodeF (h - i) off) 0 C)) ∧ Hid (∀ p ∈ C, p.1 < 2 ^ i ∧ p.2 < 2 ^ i) ∧ Hid (Kp [] w wr) ∧ Hid C.Nodup) (fun _ x _ => h - (intOf x).toNat)
  case atStart => exact ⟨0, 0, 1, 1, _, [(0, 0)], [l], rfl, rfl, by omega, by omega, Lib.hid rfl, HSQ, HL0, HF0, HRF, Lib.hid (by simp), HK0, Lib.hid (by simp)⟩
  case round =>
    clear HRF HK0 HL0 HSQ HF0
    obtain ⟨i, off, n, c, A, C, sq, rfl, rfl, hih, hn, HC, HSQ, HLT, HSF, HF, HB, HK, HNDU⟩ := hrel
    have HT1 := Lib.hid (HT.out.kp0 HK.out)
    by_cases hlt : i < h
    · obtain ⟨a, ha⟩ : ∃ a, h - i = a + 1 := ⟨h - i - 1, by omega⟩
      rw [ha] at HLT HSF HF
      have hia : h - (i + 1) = a := by omega
      go_wp2_with fail
      refine (HHT.out wr HT1.out).mono ?_
      rintro e w1 ⟨rfl, rfl⟩
      go_wp2_with fail
      obtain ⟨pre, hpre, hAh, hTog⟩ := HLT.out
      have hCs : C.length = sq.length := hTog.len
      have HPRE := Lib.hid hpre
      have HAH := Lib.hid hAh
      have HTG := Lib.hid hTog
      have HSN := Lib.hid (show sq.length = n by rw [← hCs, HC.out])
      have HBL := Lib.hid (show (bitsL a sq).length = 4 * n by rw [bitsL_len, HSN.out])
      have HN0 := Lib.hid (World.ownsRow_nil wr w.heap.size 95 3)
      have HF0 := Lib.hid (show RF wr (ownL (.slice none 0 0)) A (tc (nodeF (a + 1) off) 0 C) from HF.out)
      have hi17 : i ≤ 16 := by omega
      clear hpre hAh hTog hCs HF HLT HT1
      go_loopw [6, 7] (fun v x wr => ∃ (k nn cn : Nat) (An : Option Addr) (D : List (Nat × Nat)), x = .int .i64 (k : Int) ∧ v = .slice An nn cn ∧ k ≤ n ∧ nn ≤ 4 * k ∧ Hid (D = kidsC (C.take k) (bitsL a sq)) ∧ Hid (D.length = nn) ∧ Hid (nn = ((bitsL a sq).take (4 * k)).count true) ∧ Hid (wr.ownsRow w.heap.size 95 3 (.slice An nn cn) nn (tc (nodeF a (off + n)) 0 D)) ∧ Hid (RF wr (ownL (.slice An nn cn)) A (tc (nodeF (a + 1) off) 0 C)) ∧ Hid (Kp [] w wr)) (fun _ x _ => n - (intOf x).toNat)
      case atStart => exact ⟨0, 0, 0, none, [], rfl, rfl, by omega, by omega, Lib.hid rfl, Lib.hid rfl, Lib.hid rfl, HN0, HF0, HK⟩
      case round =>
        clear HN0 HF0 HK
        obtain ⟨k, nn, cn, An, D, rfl, rfl, hk, hnn, HD, HDL, HNC, HO, HF, HK⟩ := hrel
        have HT2 := Lib.hid (HT.out.kp0 HK.out)
        by_cases hkn : k < n
        · obtain ⟨r, cc, ad, hp, rfl, _, hq1, hq2, hq3⟩ := HF.out.1.ixT (k := k) (by rw [HC.out]; exact hkn)
          have hb2 := HB.out _ (List.mem_of_getElem? hp)
          have hp17 : 2 ^ i ≤ 2 ^ 17 := Nat.pow_le_pow_right (by omega) (by omega)
          have hrb : r < 131072 := Nat.lt_of_lt_of_le hb2.1 hp17
          have hcb : cc < 131072 := Nat.lt_of_lt_of_le hb2.2 hp17
          have HP := Lib.hid hp
          obtain ⟨nd, hnd⟩ : ∃ nd, nd = off + k := ⟨_, rfl⟩
          rw [show nodeF (a + 1) off k = nd by unfold nodeF; rw [if_neg (by omega), hnd]] at hq3
          obtain ⟨lk, hlk⟩ : ∃ lk, sq[k]? = some lk := ⟨_, List.getElem?_eq_getElem (by rw [HSN.out]; exact hkn)⟩
          have HLK := Lib.hid hlk
          have HNDE := Lib.hid hnd
          have hi0 : (0 : Int) ≤ (k : Int) := by omega
          have hi1 : (k : Int) < (n : Int) := by omega
          clear hp hb2 hp17 hlk hnd
          go_wp2_with fail
          refine (tkids_any S p q h kk (nd : Int) bs wr HT2.out).mono ?_
          rintro e w3 ⟨rfl, hk3⟩
          have HK3 := Lib.hid (HK.out.trans hk3)
          have HO3 := Lib.hid (own_kp0 HO.out hk3)
          have HF3 := Lib.hid (HF.out.step hk3 (by simp) (fun x hx => .inl hx))
          clear hk3 hq1 hq2 hq3 HO HF HK HT2
          rw [show kidsA bs (nd : Int) = .agg #[.int .i64 (kidV bs (nd : Int) 0 : Int), .int .i64 (kidV bs (nd : Int) 1 : Int), .int .i64 (kidV bs (nd : Int) 2 : Int), .int .i64 (kidV bs (nd : Int) 3 : Int)] from rfl, show thereA bs (nd : Int) = .agg #[.bool (thereV bs (nd : Int) 0), .bool (thereV bs (nd : Int) 1), .bool (thereV bs (nd : Int) 2), .bool (thereV bs (nd : Int) 3)] from rfl]
          go_upto_region 10 with fail
          have p9 := (Blk.new w3 57 [.int .i64 (kidV bs (nd : Int) 0 : Int), .int .i64 (kidV bs (nd : Int) 1 : Int), .int .i64 (kidV bs (nd : Int) 2 : Int), .int .i64 (kidV bs (nd : Int) 3 : Int)]).alloc (.cells #[.bool (thereV bs (nd : Int) 0), .bool (thereV bs (nd : Int) 1), .bool (thereV bs (nd : Int) 2), .bool (thereV bs (nd : Int) 3)] 58)
          have q9 := Blk.new (w3.alloc (.cells #[.int .i64 (kidV bs (nd : Int) 0 : Int), .int .i64 (kidV bs (nd : Int) 1 : Int), .int .i64 (kidV bs (nd : Int) 2 : Int), .int .i64 (kidV bs (nd : Int) 3 : Int)] 57)) 58 [.bool (thereV bs (nd : Int) 0), .bool (thereV bs (nd : Int) 1), .bool (thereV bs (nd : Int) 2), .bool (thereV bs (nd : Int) 3)]
          rw [show (w3.alloc (.cells #[.int .i64 (kidV bs (nd : Int) 0 : Int), .int .i64 (kidV bs (nd : Int) 1 : Int), .int .i64 (kidV bs (nd : Int) 2 : Int), .int .i64 (kidV bs (nd : Int) 3 : Int)] 57)).heap.size = w3.heap.size + 1 by simp] at q9
          have hk39 : Kp [] w3 ((w3.alloc (.cells #[.int .i64 (kidV bs (nd : Int) 0 : Int), .int .i64 (kidV bs (nd : Int) 1 : Int), .int .i64 (kidV bs (nd : Int) 2 : Int), .int .i64 (kidV bs (nd : Int) 3 : Int)] 57)).alloc (.cells #[.bool (thereV bs (nd : Int) 0), .bool (thereV bs (nd : Int) 1), .bool (thereV bs (nd : Int) 2), .bool (thereV bs (nd : Int) 3)] 58)) := ((Kp.refl [] w3).alloc _).alloc _
          obtain ⟨w9, hw9⟩ : ∃ w9, w9 = (w3.alloc (.cells #[.int .i64 (kidV bs (nd : Int) 0 : Int), .int .i64 (kidV bs (nd : Int) 1 : Int), .int .i64 (kidV bs (nd : Int) 2 : Int), .int .i64 (kidV bs (nd : Int) 3 : Int)] 57)).alloc (.cells #[.bool (thereV bs (nd : Int) 0), .bool (thereV bs (nd : Int) 1), .bool (thereV bs (nd : Int) 2), .bool (thereV bs (nd : Int) 3)] 58) := ⟨_, rfl⟩
          rw [← hw9]
          obtain ⟨gk, hgk⟩ : ∃ gk, gk = w3.heap.size := ⟨_, rfl⟩
          replace p9 : Blk w9 gk 57 [.int .i64 (kidV bs (nd : Int) 0 : Int), .int .i64 (kidV bs (nd : Int) 1 : Int), .int .i64 (kidV bs (nd : Int) 2 : Int), .int .i64 (kidV bs (nd : Int) 3 : Int)] := by rw [hw9, hgk]; exact p9
          replace q9 : Blk w9 (gk + 1) 58 [.bool (thereV bs (nd : Int) 0), .bool (thereV bs (nd : Int) 1), .bool (thereV bs (nd : Int) 2), .bool (thereV bs (nd : Int) 3)] := by rw [hw9, hgk]; exact q9
          replace hk39 : Kp [] w3 w9 := by rw [hw9]; exact hk39
          rw [← hgk]
          have HG := Lib.hid (show gk ∉ ownL (.slice An nn cn) ∧ gk + 1 ∉ ownL (.slice An nn cn) from ⟨fun hm => by have := (own_ge HO3.out (mem_ownL.1 hm)).2; omega, fun hm => by have := (own_ge HO3.out (mem_ownL.1 hm)).2; omega⟩)
          have HPA := Lib.hid p9
          have HPB := Lib.hid q9
          have HO9 := Lib.hid (own_kp0 HO3.out hk39)
          have HF9 := Lib.hid (HF3.out.step hk39 (by simp) (fun x hx => .inl hx))
          have HK9 := Lib.hid (HK3.out.trans hk39)
          obtain ⟨D0, hD0⟩ : ∃ D0, D0 = D := ⟨_, rfl⟩
          have HD0 := Lib.hid hD0
          clear hw9 hgk p9 q9 hk39 HO3 HF3 HK3 hD0
          go_wp2_with fail
          go_loopw [6, 10] (fun v x wr => ∃ (j nn cn : Nat) (An : Option Addr) (D : List (Nat × Nat)), x = .int .i64 (j : Int) ∧ v = .slice An nn cn ∧ j ≤ 4 ∧ nn ≤ 4 * k + j ∧ Hid (D = D0 ++ kidsQ (r, cc) ((bitsL a sq).drop (4 * k)) j) ∧ Hid (D.length = nn) ∧ Hid (nn = ((bitsL a sq).take (4 * k + j)).count true) ∧ Hid (wr.ownsRow w.heap.size 95 3 (.slice An nn cn) nn (tc (nodeF a (off + n)) 0 D)) ∧ Hid (RF wr (ownL (.slice An nn cn)) (some ad) (tc (nodeF (a + 1) off) 0 C)) ∧ Hid (Blk wr gk 57 [.int .i64 (kidV bs (nd : Int) 0 : Int), .int .i64 (kidV bs (nd : Int) 1 : Int), .int .i64 (kidV bs (nd : Int) 2 : Int), .int .i64 (kidV bs (nd : Int) 3 : Int)]) ∧ Hid (Blk wr (gk + 1) 58 [.bool (thereV bs (nd : Int) 0), .bool (thereV bs (nd : Int) 1), .bool (thereV bs (nd : Int) 2), .bool (thereV bs (nd : Int) 3)]) ∧ Hid (gk ∉ ownL (.slice An nn cn) ∧ gk + 1 ∉ ownL (.slice An nn cn)) ∧ Hid (Kp [] w wr)) (fun _ x _ => 4 - (intOf x).toNat)
          case atStart => exact ⟨0, nn, cn, An, D, rfl, rfl, by omega, by omega, Lib.hid (by rw [HD0.out]; simp [kidsQ]), HDL, Lib.hid (by rw [Nat.add_zero]; exact HNC.out), HO9, HF9, HPA, HPB, HG, HK9⟩
          case round =>
            clear HO9 HF9 HPA HPB HG HK9 hnn
            obtain ⟨j, nn, cn, An, D, rfl, rfl, hj, hnn, HDQ, HDL, HNC, HO, HF, HPA, HPB, HG, HK⟩ := hrel
            by_cases hj4 : j < 4
            · obtain ⟨b, hb⟩ : ∃ b, b = thereV bs (nd : Int) j := ⟨_, rfl⟩
              obtain ⟨K1, hK1⟩ : ∃ K1, K1 = kidV bs (nd : Int) j := ⟨_, rfl⟩
              have hna := (node_at (a := a) (q := j) HAH.out HLK.out hj4).1
              rw [← HPRE.out, ← HNDE.out, ← hb] at hna
              have hbat := bits_at (a := a) (q := j) HLK.out hj4
              rw [← hna] at hbat
              have HBV := Lib.hid (show ((bitsL a sq).drop (4 * k)).getD j false = b by rw [List.getD_eq_getElem?_getD, List.getElem?_drop, hbat]; rfl)
              have HCO := Lib.hid (count_on hbat)
              have hcx : wr.cell? ⟨gk, j, none⟩ = some (.int .i64 (K1 : Int)) := by
                rw [HPA.out.cell, hK1]
                rcases (show j = 0 ∨ j = 1 ∨ j = 2 ∨ j = 3 by omega) with rfl | rfl | rfl | rfl <;> rfl
              have hcy : wr.cell? ⟨gk + 1, j, none⟩ = some (.bool b) := by
                rw [HPB.out.cell, hb]
                rcases (show j = 0 ∨ j = 1 ∨ j = 2 ∨ j = 3 by omega) with rfl | rfl | rfl | rfl <;> rfl
              have hj0 : (0 : Int) ≤ (j : Int) := by omega
              have hj1 : (j : Int) < 4 := by omega
              have HT3 := Lib.hid (HT.out.kp0 HK.out)
              have HKV := Lib.hid (show b = true → K1 = if a = 0 then 0 else off + n + nn from fun hbt => by
                rw [hbt] at hna
                rw [hK1, HPRE.out, HNDE.out, node_at2 HAH.out HLK.out hj4 (by simpa using hna.symm), HSN.out, ← HNC.out])
              have HKM := Lib.hid (show K1 ≠ 0 → K1 < M from fun h0 => by rw [hK1] at h0 ⊢; rw [HM.out]; exact kid_lt _ _ _ h0)
              clear hb hK1 hna hbat
              cases b with
              | false =>
                go_wp2_with fail
                exact ⟨⟨j + 1, nn, cn, An, D, by go_num, rfl, by omega, by omega, Lib.hid (by rw [HDQ.out, kidsQ_off hj4 HBV.out]), HDL, Lib.hid (HNC.out.trans HCO.out.symm), HO, HF, HPA, HPB, HG, HK⟩, by simp [intOf]; omega⟩
              | true =>
                have hKv := HKV.out rfl
                have hnn2 : nn ≤ 1000 := by omega
                have HKF := Lib.hid (show nodeF a (off + n) (0 + D.length) = K1 by unfold nodeF; rw [hKv, Nat.zero_add, HDL.out])
                have HADN := Lib.hid (show ∀ m, (ad.add m).block ∉ ownL (.slice An nn cn) from fun m hm => by rw [addr_add_block] at hm; exact HF.out.2 ad rfl (tc_ne HP.out) hm)
                obtain ⟨c0, c1, c2⟩ := HF.out.1.atT HP.out
                rw [show nodeF (a + 1) off k = nd by unfold nodeF; rw [if_neg (by omega), HNDE.out]] at c2
                obtain ⟨u, hu⟩ : ∃ u, u = j / 2 := ⟨_, rfl⟩
                obtain ⟨v, hv⟩ : ∃ v, v = j % 2 := ⟨_, rfl⟩
                have hjd : Int.tdiv (j : Int) 2 = (u : Int) := by rw [hu]; rfl
                have hjm : Int.tmod (j : Int) 2 = (v : Int) := by rw [hv]; rfl
                have hu1 : u ≤ 1 := by omega
                have hv1 : v ≤ 1 := by omega
                obtain ⟨x0, hx0⟩ : ∃ x0, x0 = 2 * r + u := ⟨_, rfl⟩
                obtain ⟨x1, hx1⟩ : ∃ x1, x1 = 2 * cc + v := ⟨_, rfl⟩
                have hy0 : 2 * (r : Int) + (u : Int) = (x0 : Int) := by omega
                have hy1 : 2 * (cc : Int) + (v : Int) = (x1 : Int) := by omega
                have hxb0 : x0 ≤ 262144 := by omega
                have hxb1 : x1 ≤ 262144 := by omega
                have HKC := Lib.hid (show kidC (r, cc) j = (x0, x1) by unfold kidC; rw [hx0, hx1, hu, hv])
                have HSZ := Lib.hid HK.out.size
                clear hu hv hx0 hx1
                have hlast : (a = 0 ∧ decide ((i : Int) < (h : Int) - 1) = false) ∨ (a ≠ 0 ∧ decide ((i : Int) < (h : Int) - 1) = true ∧ ¬ K1 ≤ nd ∧ ¬ M ≤ K1) := by
                  rcases Nat.eq_zero_or_pos a with h0 | h0
                  · exact .inl ⟨h0, decide_eq_false (by omega)⟩
                  · rw [if_neg (by omega)] at hKv
                    have h2 := HNDE.out
                    have h3 := HKM.out (by omega)
                    exact .inr ⟨by omega, decide_eq_true (by omega), by omega, by omega⟩
                have HFIN := Lib.hid (show True from trivial)
                clear hKv
                rcases hlast with ⟨_, hdl⟩ | ⟨_, hdl, hd2, hd3⟩
                · go_wp2_with fail
                  go_quiet ((first
                    | (go_at_call 21; exact quiet_eq (HHT.out _ (HT3.out.kp0 ((Kp.refl [] _).drewN _))))
                    | (go_at_call 20; exact quiet_eq (HND.out _ (HT3.out.kp0 ((Kp.refl [] _).drewN _))))))
                  go_wp2_with fail
                  obtain ⟨wq, hwq⟩ : ∃ wq, wq = wr.drewN nq := ⟨_, rfl⟩
                  rw [← hwq]
                  have hkq : Kp [] wr wq := by rw [hwq]; exact (Kp.refl [] wr).drewN nq
                  have d0 := hkq.cell c0 (by simp)
                  have d1 := hkq.cell c1 (by simp)
                  have dx := hkq.cell hcx (by simp)
                  have HOq := Lib.hid (own_kp0 HO.out hkq)
                  have HFq := Lib.hid (HF.out.step hkq (by simp) (fun x hx => .inl hx))
                  have HPAq := Lib.hid (HPA.out.kp0 hkq)
                  have HPBq := Lib.hid (HPB.out.kp0 hkq)
                  have HKq := Lib.hid (HK.out.trans hkq)
                  have HW0 := Lib.hid (show IntKind.wrap .i64 (IntKind.wrap .i64 (2 * (r : Int)) + IntKind.wrap .i64 (u : Int)) = (x0 : Int) from wrap2u hrb hu1 hy0)
                  have HW1 := Lib.hid (show IntKind.wrap .i64 (IntKind.wrap .i64 (2 * (cc : Int)) + (v : Int)) = (x1 : Int) from wrap2v hcb hv1 hy1)
                  clear hwq hkq c0 c1 c2 hcx hcy
                  go_region_held3 (fun w' => w'.cell? (ad.add (k * 3)) = some (.int .i64 (r : Int)) ∧ w'.cell? ⟨(ad.add (k * 3)).block, (ad.add (k * 3)).off + 1, none⟩ = some (.int .i64 (cc : Int)) ∧ w'.cell? ⟨gk, j, none⟩ = some (.int .i64 (K1 : Int))) (go_keep)
                    ((refine step_append_rd rfl (.tmp 69) (.tmp 92) 96 rfl w.heap.size 95 i0 (.agg #[.int .i64 0, .int .i64 0, .int .i64 0]) 3 24 Try.underlying96 hi hz0 hz1 hz2 rfl (by decide) (.slice An nn cn) nn _ (by rfl) (own_kp0 HOq.out (show Kp [] wq _ from by first | exact ((Kp.refl _ _).alloc _) | exact ((Kp.refl _ _).drew.alloc _))) _ _ 1 1 [.int .i64 (IntKind.wrap .i64 (IntKind.wrap .i64 (2 * (r : Int)) + IntKind.wrap .i64 (u : Int))), .int .i64 (IntKind.wrap .i64 (IntKind.wrap .i64 (2 * (cc : Int)) + (v : Int))), .int .i64 (K1 : Int)] (by rfl) rfl (rd_new' _ #[.int .i64 (IntKind.wrap .i64 (IntKind.wrap .i64 (2 * (r : Int)) + IntKind.wrap .i64 (u : Int))), .int .i64 (IntKind.wrap .i64 (IntKind.wrap .i64 (2 * (cc : Int)) + (v : Int))), .int .i64 (K1 : Int)] 95 rfl) (by simp [Value.oneCell']) (by unfold maxLen; omega) (by omega) (Nat.le_trans HKq.out.size (by simp)) ?_; intro v5 w5 hown5 hgrow5 hat5; rw [HW0.out, HW1.out] at hown5; obtain ⟨A5, c5, rfl, _⟩ := own_form hown5; have hk5 : Kp (ownL (.slice An nn cn)) wq w5 := (show Kp (ownL (.slice An nn cn)) wq _ from by first | exact ((Kp.refl _ _).alloc _) | exact ((Kp.refl _ _).drew.alloc _)).grown hgrow5 (fun x hx => .inl (mem_ownL.2 hx)); have e0 : w5.cell? (ad.add (k * 3)) = some (.int .i64 (r : Int)) := hk5.cell d0 (HADN.out _); have e1 : w5.cell? ⟨(ad.add (k * 3)).block, (ad.add (k * 3)).off + 1, none⟩ = some (.int .i64 (cc : Int)) := hk5.cell d1 (HADN.out _); have e2 : w5.cell? ⟨gk, j, none⟩ = some (.int .i64 (K1 : Int)) := hk5.cell dx HG.out.1; have H5 := Lib.hid (And.intro hown5 (And.intro hk5 (own_new hat5))); clear hown5 hgrow5 hat5 hk5))
                  obtain ⟨ho5, hk5, hn5⟩ := H5.out
                  have HO5 := Lib.hid (show w5.ownsRow w.heap.size 95 3 (.slice A5 (nn + 1) c5) (nn + 1) (tc (nodeF a (off + n)) 0 (D ++ [(x0, x1)])) by rw [tc_snoc, HKF.out]; exact ho5)
                  have HF5 := Lib.hid (HFq.out.step hk5 (fun _ h => h) hn5)
                  have HG5 := Lib.hid (show gk ∉ ownL (.slice A5 (nn + 1) c5) ∧ gk + 1 ∉ ownL (.slice A5 (nn + 1) c5) from ⟨fun hm => by rcases hn5 _ hm with h | h; exact HG.out.1 h; have := HPAq.out.lt; omega, fun hm => by rcases hn5 _ hm with h | h; exact HG.out.2 h; have := HPBq.out.lt; omega⟩)
                  have HPA5 := Lib.hid (HPAq.out.kp hk5 HG.out.1)
                  have HPB5 := Lib.hid (HPBq.out.kp hk5 HG.out.2)
                  have HK5 := Lib.hid (HKq.out.trans' hk5 (fun x hx => .inr (own_ge HOq.out (mem_ownL.1 hx)).1))
                  clear ho5 hk5 hn5 H5
                  go_wp2_with fail
                  exact ⟨⟨j + 1, nn + 1, c5, A5, D ++ [(x0, x1)], by go_num, rfl, by omega, by omega, Lib.hid (by rw [HDQ.out, kidsQ_on hj4 HBV.out, List.append_assoc, HKC.out]), Lib.hid (by rw [List.length_append, HDL.out]; rfl), Lib.hid (by rw [HNC.out]; exact HCO.out.symm), HO5, HF5, HPA5, HPB5, HG5, HK5⟩, by simp [intOf]; omega⟩
                · go_wp2_with fail
                  go_quiet ((first
                    | (go_at_call 21; exact quiet_eq (HHT.out _ (HT3.out.kp0 ((Kp.refl [] _).drewN _))))
                    | (go_at_call 20; exact quiet_eq (HND.out _ (HT3.out.kp0 ((Kp.refl [] _).drewN _))))))
                  go_wp2_with fail
                  obtain ⟨wq, hwq⟩ : ∃ wq, wq = wr.drewN nq := ⟨_, rfl⟩
                  rw [← hwq]
                  have hkq : Kp [] wr wq := by rw [hwq]; exact (Kp.refl [] wr).drewN nq
                  have d0 := hkq.cell c0 (by simp)
                  have d1 := hkq.cell c1 (by simp)
                  have dx := hkq.cell hcx (by simp)
                  have HOq := Lib.hid (own_kp0 HO.out hkq)
                  have HFq := Lib.hid (HF.out.step hkq (by simp) (fun x hx => .inl hx))
                  have HPAq := Lib.hid (HPA.out.kp0 hkq)
                  have HPBq := Lib.hid (HPB.out.kp0 hkq)
                  have HKq := Lib.hid (HK.out.trans hkq)
                  have HW0 := Lib.hid (show IntKind.wrap .i64 (IntKind.wrap .i64 (2 * (r : Int)) + IntKind.wrap .i64 (u : Int)) = (x0 : Int) from wrap2u hrb hu1 hy0)
                  have HW1 := Lib.hid (show IntKind.wrap .i64 (IntKind.wrap .i64 (2 * (cc : Int)) + (v : Int)) = (x1 : Int) from wrap2v hcb hv1 hy1)
                  clear hwq hkq c0 c1 c2 hcx hcy
                  go_region_held3 (fun w' => w'.cell? (ad.add (k * 3)) = some (.int .i64 (r : Int)) ∧ w'.cell? ⟨(ad.add (k * 3)).block, (ad.add (k * 3)).off + 1, none⟩ = some (.int .i64 (cc : Int)) ∧ w'.cell? ⟨gk, j, none⟩ = some (.int .i64 (K1 : Int))) (go_keep)
                    ((refine step_append_rd rfl (.tmp 69) (.tmp 92) 96 rfl w.heap.size 95 i0 (.agg #[.int .i64 0, .int .i64 0, .int .i64 0]) 3 24 Try.underlying96 hi hz0 hz1 hz2 rfl (by decide) (.slice An nn cn) nn _ (by rfl) (own_kp0 HOq.out (show Kp [] wq _ from by first | exact ((Kp.refl _ _).alloc _) | exact ((Kp.refl _ _).drew.alloc _))) _ _ 1 1 [.int .i64 (IntKind.wrap .i64 (IntKind.wrap .i64 (2 * (r : Int)) + IntKind.wrap .i64 (u : Int))), .int .i64 (IntKind.wrap .i64 (IntKind.wrap .i64 (2 * (cc : Int)) + (v : Int))), .int .i64 (K1 : Int)] (by rfl) rfl (rd_new' _ #[.int .i64 (IntKind.wrap .i64 (IntKind.wrap .i64 (2 * (r : Int)) + IntKind.wrap .i64 (u : Int))), .int .i64 (IntKind.wrap .i64 (IntKind.wrap .i64 (2 * (cc : Int)) + (v : Int))), .int .i64 (K1 : Int)] 95 rfl) (by simp [Value.oneCell']) (by unfold maxLen; omega) (by omega) (Nat.le_trans HKq.out.size (by simp)) ?_; intro v5 w5 hown5 hgrow5 hat5; rw [HW0.out, HW1.out] at hown5; obtain ⟨A5, c5, rfl, _⟩ := own_form hown5; have hk5 : Kp (ownL (.slice An nn cn)) wq w5 := (show Kp (ownL (.slice An nn cn)) wq _ from by first | exact ((Kp.refl _ _).alloc _) | exact ((Kp.refl _ _).drew.alloc _)).grown hgrow5 (fun x hx => .inl (mem_ownL.2 hx)); have e0 : w5.cell? (ad.add (k * 3)) = some (.int .i64 (r : Int)) := hk5.cell d0 (HADN.out _); have e1 : w5.cell? ⟨(ad.add (k * 3)).block, (ad.add (k * 3)).off + 1, none⟩ = some (.int .i64 (cc : Int)) := hk5.cell d1 (HADN.out _); have e2 : w5.cell? ⟨gk, j, none⟩ = some (.int .i64 (K1 : Int)) := hk5.cell dx HG.out.1; have H5 := Lib.hid (And.intro hown5 (And.intro hk5 (own_new hat5))); clear hown5 hgrow5 hat5 hk5))
                  obtain ⟨ho5, hk5, hn5⟩ := H5.out
                  have HO5 := Lib.hid (show w5.ownsRow w.heap.size 95 3 (.slice A5 (nn + 1) c5) (nn + 1) (tc (nodeF a (off + n)) 0 (D ++ [(x0, x1)])) by rw [tc_snoc, HKF.out]; exact ho5)
                  have HF5 := Lib.hid (HFq.out.step hk5 (fun _ h => h) hn5)
                  have HG5 := Lib.hid (show gk ∉ ownL (.slice A5 (nn + 1) c5) ∧ gk + 1 ∉ ownL (.slice A5 (nn + 1) c5) from ⟨fun hm => by rcases hn5 _ hm with h | h; exact HG.out.1 h; have := HPAq.out.lt; omega, fun hm => by rcases hn5 _ hm with h | h; exact HG.out.2 h; have := HPBq.out.lt; omega⟩)
                  have HPA5 := Lib.hid (HPAq.out.kp hk5 HG.out.1)
                  have HPB5 := Lib.hid (HPBq.out.kp hk5 HG.out.2)
                  have HK5 := Lib.hid (HKq.out.trans' hk5 (fun x hx => .inr (own_ge HOq.out (mem_ownL.1 hx)).1))
                  clear ho5 hk5 hn5 H5
                  go_wp2_with fail
                  exact ⟨⟨j + 1, nn + 1, c5, A5, D ++ [(x0, x1)], by go_num, rfl, by omega, by omega, Lib.hid (by rw [HDQ.out, kidsQ_on hj4 HBV.out, List.append_assoc, HKC.out]), Lib.hid (by rw [List.length_append, HDL.out]; rfl), Lib.hid (by rw [HNC.out]; exact HCO.out.symm), HO5, HF5, HPA5, HPB5, HG5, HK5⟩, by simp [intOf]; omega⟩
            · obtain rfl : j = 4 := by omega
              go_wp2_with fail
              exact ⟨⟨k + 1, nn, cn, An, D, by go_num, rfl, by omega, by omega, Lib.hid (by rw [HDQ.out, HD0.out, HD.out, kidsC_snoc HP.out]), HDL, Lib.hid (by rw [HNC.out, show 4 * k + 4 = 4 * (k + 1) by omega]), HO, HF, HK⟩, by simp [intOf]; omega⟩
        · obtain rfl : k = n := by omega
          have HCT := Lib.hid (show C.take k = C from List.take_of_length_le (Nat.le_of_eq HC.out))
          have htg2 : Tog (AtC a) D (nextL a sq) := by
            have := kids_tog (r := []) HTG.out
            rw [List.append_nil] at this
            rw [HD.out, HCT.out]
            exact this
          have hnl := nextL_len a sq
          have hnn3 : nn ≤ 200 + 1 := by rw [← HDL.out, htg2.len]; have := HSQ.out; omega
          have HTG2 := Lib.hid htg2
          have HSQ2 := Lib.hid (show (nextL a sq).flatten.length ≤ 200 by rw [hnl.1]; exact HSQ.out)
          clear htg2 hnl
          go_wp2_with fail
          exact ⟨⟨i + 1, off + k, nn, cn, An, D, nextL a sq, by go_num, rfl, by omega, hnn3, HDL, HSQ2, Lib.hid (by rw [hia]; exact ⟨pre ++ bitsL a sq, by rw [HPRE.out, List.append_assoc]; rfl, by rw [← HSN.out]; exact HAH.out.next a, HTG2.out⟩), Lib.hid (by rw [hia]; exact HSF.out), Lib.hid (by rw [hia]; exact ⟨own_rd HO.out, fun _ _ _ => by simp⟩), Lib.hid (by rw [HD.out]; exact kids_lt (fun p hp => HB.out p (by rw [HCT.out] at hp; exact hp))), HK, Lib.hid (by rw [HD.out, HCT.out]; exact kids_nodup HNDU.out)⟩, by simp [intOf]; omega⟩
    · obtain rfl : i = h := by omega
      rw [Nat.sub_self] at HLT HSF HF
      have HTOG := Lib.hid (show Tog (AtC 0) C (sqF i [l]) by obtain ⟨pre, _, _, htog⟩ := HLT.out; rw [← HSF.out]; exact htog)
      go_wp2_with fail
      refine (HHT.out wr HT1.out).mono ?_
      rintro e w1 ⟨rfl, rfl⟩
      have HN0 := Lib.hid (World.ownsRow_nil wr w.heap.size 24 2)
      have HF0 := Lib.hid (show RF wr (ownL (.slice none 0 0)) A (tc (nodeF 0 off) 0 C) from HF.out)
      clear HLT HSF HF HT1 HSQ
      go_wp2_with fail
      go_loopw [11, 12] (fun v x wr => ∃ (k co : Nat) (Ao : Option Addr), x = .int .i64 (k : Int) ∧ v = .slice Ao k co ∧ k ≤ n ∧ Hid (wr.ownsRow w.heap.size 24 2 (.slice Ao k co) k (pc (C.take k))) ∧ Hid (RF wr (ownL (.slice Ao k co)) A (tc (nodeF 0 off) 0 C)) ∧ Hid (Kp [] w wr)) (fun _ x _ => n - (intOf x).toNat)
      case atStart => exact ⟨0, 0, none, rfl, rfl, by omega, HN0, HF0, HK⟩
      case round =>
        clear HN0 HF0 HK
        obtain ⟨k, co, Ao, rfl, rfl, hk, HO, HF, HK⟩ := hrel
        by_cases hkn : k < n
        · obtain ⟨r, cc, ad, hp, rfl, _, c0, c1, _⟩ := HF.out.1.ixT (k := k) (by rw [HC.out]; exact hkn)
          have HP := Lib.hid hp
          have HADN := Lib.hid (show ∀ m, (ad.add m).block ∉ ownL (.slice Ao k co) from fun m hm => by rw [addr_add_block] at hm; exact HF.out.2 ad rfl (tc_ne HP.out) hm)
          have hi0 : (0 : Int) ≤ (k : Int) := by omega
          have hi1 : (k : Int) < (n : Int) := by omega
          have hkb : k ≤ 1000 := by omega
          clear hp
          go_wp2_with fail
          go_region_held3 (fun w' => w'.cell? (ad.add (k * 3)) = some (.int .i64 (r : Int)) ∧ w'.cell? ⟨(ad.add (k * 3)).block, (ad.add (k * 3)).off + 1, none⟩ = some (.int .i64 (cc : Int))) (go_keep)
            ((refine step_append_rd rfl (.tmp 101) (.tmp 113) 22 rfl w.heap.size 24 i1 (.agg #[.int .i64 0, .int .i64 0]) 2 16 Try.underlying22 hi' hy0 hy1 hy2 rfl (by decide) (.slice Ao k co) k _ (by rfl) (own_kp0 HO.out (show Kp [] wr _ from by first | exact ((Kp.refl _ _).alloc _) | exact ((Kp.refl _ _).drew.alloc _))) _ _ 1 1 [.int .i64 (r : Int), .int .i64 (cc : Int)] (by rfl) rfl (rd_new' _ #[.int .i64 (r : Int), .int .i64 (cc : Int)] 24 rfl) (by simp [Value.oneCell']) (by unfold maxLen; omega) (by omega) (Nat.le_trans HK.out.size (by simp)) ?_; intro v5 w5 hown5 hgrow5 hat5; obtain ⟨A5, c5, rfl, _⟩ := own_form hown5; have hk5 : Kp (ownL (.slice Ao k co)) wr w5 := (show Kp (ownL (.slice Ao k co)) wr _ from by first | exact ((Kp.refl _ _).alloc _) | exact ((Kp.refl _ _).drew.alloc _)).grown hgrow5 (fun x hx => .inl (mem_ownL.2 hx)); have e0 : w5.cell? (ad.add (k * 3)) = some (.int .i64 (r : Int)) := hk5.cell c0 (HADN.out _); have e1 : w5.cell? ⟨(ad.add (k * 3)).block, (ad.add (k * 3)).off + 1, none⟩ = some (.int .i64 (cc : Int)) := hk5.cell c1 (HADN.out _); have H5 := Lib.hid (And.intro hown5 (And.intro hk5 (own_new hat5))); clear hown5 hgrow5 hat5 hk5))
          obtain ⟨ho5, hk5, hn5⟩ := H5.out
          have HO5 := Lib.hid (show w5.ownsRow w.heap.size 24 2 (.slice A5 (k + 1) c5) (k + 1) (pc (C.take (k + 1))) by rw [g_take HP.out, pc_snoc]; exact ho5)
          have HF5 := Lib.hid (HF.out.step hk5 (fun _ h => h) hn5)
          have HK5 := Lib.hid (HK.out.trans' hk5 (fun x hx => .inr (own_ge HO.out (mem_ownL.1 hx)).1))
          clear ho5 hk5 hn5 H5
          go_wp2_with fail
          exact ⟨⟨k + 1, c5, A5, by go_num, rfl, by omega, HO5, HF5, HK5⟩, by simp [intOf]; omega⟩
        · obtain rfl : k = n := by omega
          have HCT := Lib.hid (show C.take k = C from List.take_of_length_le (Nat.le_of_eq HC.out))
          go_wp2_with fail
          go_ret2
          exact ⟨HK.out, C, Ao, k, co, rfl, HC.out, by rw [← HCT.out]; exact own_rd HO.out, tog_same h1 HTOG.out, HNDU.out, by rw [← HC.out, HTOG.out.len, HBS.out]; exact ((k_all h1 l).2).symm, by obtain ⟨_, _, e, hle, _⟩ := own_form HO.out; injection e with _ _ e3; subst e3; exact hle⟩
end Go.Proofs.Ytldmabkilgpgcaa
