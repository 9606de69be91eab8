/-
  LAYER 15 (tree), the document's: Of, of pairs inside.
  CONDITIONS: as each says.
-/
import Derived.Test.YtldmabkilgpgcaaQ17
import Derived.Test.YtldmabkilgpgcaaQ08
import Derived.Deep.CutBlock
namespace Go.Proofs.Ytldmabkilgpgcaa
open Go.RowKit

/-- The document's tree in memory; lo: all its blocks are that or newer. -/
def RTree (w : World) (lo p h : Nat) (L : List (Nat × Nat)) (bs : List Bool) : Prop :=
  ∃ (AL Ab Ak : Option Addr) (nL cL nb cb nk ck : Nat), Blk w p 75 [.int .i64 ((2 ^ h : Nat) : Int), .int .i64 (h : Int), .slice AL nL cL, .slice Ab nb cb, .slice Ak nk ck] ∧ L.length = nL ∧ nL ≤ cL ∧ Rd w w.heap.size AL (pc L) ∧ bs.length = nb ∧ nb ≤ cb ∧ Rd w w.heap.size Ab (bs.map .bool) ∧
    bs.length = 4 * nk ∧ nk ≤ ck ∧ Rd w w.heap.size Ak ((kidsF bs nk (4 * nk)).map (.int .i64)) ∧ lo ≤ p ∧ (∀ ad, AL = some ad → lo ≤ ad.block) ∧ (∀ ad, Ab = some ad → lo ≤ ad.block) ∧ ∀ ad, Ak = some ad → lo ≤ ad.block
theorem RTree.kp {w w' : World} {lo p h : Nat} {L : List (Nat × Nat)} {bs : List Bool} {S : List Nat} (ht : RTree w lo p h L bs) (hk : Kp S w w') (hS : ∀ x ∈ S, x < lo) : RTree w' lo p h L bs := by
  obtain ⟨AL, Ab, Ak, nL, cL, nb, cb, nk, ck, h1, h2, h3, h4, h5, h6, h7, h8, h9, h10, l0, l1, l2, l3⟩ := ht
  have ne : ∀ {A : Option Addr}, (∀ ad, A = some ad → lo ≤ ad.block) → ∀ ad, A = some ad → ad.block ∉ S := fun h ad had hm => by have := h ad had; have := hS _ hm; omega
  exact ⟨AL, Ab, Ak, nL, cL, nb, cb, nk, ck, h1.kp hk (fun hm => by have := hS _ hm; omega), h2, h3, (h4.kp_ne hk (ne l1)).bound hk.size, h5, h6, (h7.kp_ne hk (ne l2)).bound hk.size, h8, h9, (h10.kp_ne hk (ne l3)).bound hk.size, l0, l1, l2, l3⟩
theorem RTree.kp0 {w w' : World} {lo p h : Nat} {L : List (Nat × Nat)} {bs : List Bool} (ht : RTree w lo p h L bs) (hk : Kp [] w w') : RTree w' lo p h L bs := ht.kp hk (by simp)
theorem Try.info_square : (Try.prog.info? 77).map (fun i => (i.zero, i.size, i.bytes)) = some (some (.agg #[.int .i64 0, .int .i64 0, .int .i64 0, .slice none 0 0]), 4, 48) := by kernel_rfl
theorem Try.info_four : (Try.prog.info? 57).map (fun i => (i.zero, i.size, i.bytes)) = some (some (.agg #[.int .i64 0, .int .i64 0, .int .i64 0, .int .i64 0]), 4, 32) := by kernel_rfl
set_option maxRecDepth 100000 in
set_option maxHeartbeats 4000000 in
theorem rof_ok (h n c B : Nat) (A : Option Addr) (l : List (Nat × Nat)) (w : World) (h1 : 1 ≤ h) (h17 : h ≤ 17) (hx : Rd w B A (pc l)) (hB : B ≤ w.heap.size) (hn : l.length = n) (hb : n ≤ 1300) (hl : ∀ p ∈ l, p.1 < 2 ^ h ∧ p.2 < 2 ^ h) :
    Calls Try.prog 11 #[.int .i64 ((2 ^ h : Nat) : Int), .slice A n c] w fun e w' => ∃ (p : Nat) (L : List (Nat × Nat)), e = .returned (.tuple #[.pointer (some ⟨p, 0, none⟩), .int .i64 0]) ∧ RTree w' w.heap.size p h L (levL h [L]) ∧ L.Nodup ∧ (∀ x, x ∈ L ↔ x ∈ l) ∧ Kp [] w w' := by
  obtain ⟨i0, hti, hz0, hz1, hz2⟩ := info_parts Try.info_square
  obtain ⟨i4, hi4, hy0, hy1, hy2⟩ := info_parts Try.info_four
  obtain ⟨ib, hib, hw0, hw1, hw2⟩ := info_parts Try.info_gbool
  have hp17 : 2 ^ h ≤ 2 ^ 17 := Nat.pow_le_pow_right (by omega) h17
  have hp1 : 2 ^ 1 ≤ 2 ^ h := Nat.pow_le_pow_right (by omega) h1
  obtain ⟨s, hs⟩ : ∃ s, s = 2 ^ h := ⟨_, rfl⟩
  have HS := Lib.hid hs
  have HSI := Lib.hid (show sideI (s : Int) = (s : Int) from (side_is (by omega)).2 ⟨h, h1, h17, by rw [hs]⟩)
  have HX := Lib.hid hx
  have HB := Lib.hid hB
  have HLI := Lib.hid (show ∀ p ∈ l, p.1 < s ∧ p.2 < s from by rw [hs]; exact hl)
  rw [← hs] at hp17 hp1 ⊢
  have hsa : 2 ≤ s := hp1
  have hsb : s ≤ 131072 := hp17
  have hs2 : ¬ (s : Int) < 2 := by omega
  have HN := Lib.hid hn; clear hn
  clear hx hB hl hs hp17 hp1
  go_enter Try.func11, Try.ntmps11
  go_wp2_with fail
  refine (rside_any (s : Int) (s : Int) (s : Int) w (by omega)).mono ?_
  rw [HSI.out]
  rintro e w1 ⟨rfl, rfl⟩
  go_wp2_with fail
  go_loopw [6] (fun x wr => ∃ k : Nat, x = .int .i64 (k : Int) ∧ k ≤ n ∧ w = wr) (fun x _ => n - (intOf x).toNat)
  case atStart => exact ⟨0, rfl, by omega, rfl⟩
  case round =>
    obtain ⟨k, rfl, hk, rfl⟩ := hrel
    by_cases hlt : k < n
    · obtain ⟨r, c1, ad, hxk, had, _, hcx, hcy⟩ := HX.out.ixN (k := k) (by rw [HN.out]; exact hlt)
      subst had
      have hi0 : (0 : Int) ≤ (k : Int) := by omega
      have hi1 : (k : Int) < (n : Int) := by omega
      obtain ⟨q1, q2⟩ := HLI.out _ (List.mem_of_getElem? hxk)
      simp only at q1 q2
      have q5 : ¬ (r : Int) < 0 := by omega
      have q6 : ¬ (s : Int) ≤ (r : Int) := by omega
      have q7 : ¬ (c1 : Int) < 0 := by omega
      have q8 : ¬ (s : Int) ≤ (c1 : Int) := by omega
      clear hxk
      go_wp2_with fail
      exact ⟨⟨k + 1, by go_num, by omega, trivial⟩, by simp [intOf]; omega⟩
    · obtain rfl : n = k := by omega
      clear hlt hk
      go_wp2_with fail
      refine (rsorted_any A n c B l w HX.out HB.out HN.out (by omega)).mono ?_
      rintro e w1 ⟨AL, nL, cL, L, rfl, hoL, hLn, hLs, hLm, hnL, hk1⟩
      obtain ⟨_, _, hfo, hcL, _, _, hloL⟩ := own_form hoL
      injection hfo with f1 f2 f3
      subst f3 f1
      clear f2
      have HLOL := Lib.hid (show ∀ ad, AL = some ad → w.heap.size ≤ ad.block from fun ad had => (hloL ad had).2.2.1)
      clear hloL
      have HRL := Lib.hid (own_rd hoL)
      have HLN := Lib.hid hLn
      have HLS := Lib.hid hLs
      have HLM := Lib.hid hLm
      have HK1 := Lib.hid hk1
      have HLI2 := Lib.hid (show ∀ x ∈ L, x.1 < s ∧ x.2 < s from fun x hx => HLI.out x ((hLm x).1 hx))
      clear hoL hLn hLs hLm hk1 HX HB HN
      obtain ⟨p, hp⟩ : ∃ p, p = w1.heap.size := ⟨_, rfl⟩
      obtain ⟨w2, hw2'⟩ : ∃ w2, w2 = w1.alloc (.cells #[.int .i64 (s : Int), .int .i64 0, .slice AL nL cL, .slice none 0 0, .slice none 0 0] 75) := ⟨_, rfl⟩
      have hk2 : Kp [] w1 w2 := by rw [hw2']; exact (Kp.refl [] w1).alloc _
      have HBP := Lib.hid (show Blk w2 p 75 [.int .i64 (s : Int), .int .i64 0, .slice AL nL cL, .slice none 0 0, .slice none 0 0] from by rw [hw2', hp]; exact Blk.new w1 _ _)
      have HK2 := Lib.hid hk2
      have HRL2 := Lib.hid (show Rd w2 p AL (pc L) from by rw [hp]; exact HRL.out.kp0 hk2)
      have HPW := Lib.hid (show w1.heap.size ≤ p from by rw [hp]; exact Nat.le_refl _)
      have HP2 := Lib.hid (show w2.heap.size = p + 1 from by rw [hw2', hp]; simp)
      have HW2 := Lib.hid hw2'
      have HPE := Lib.hid hp
      clear hk2 hw2' hp
      go_upto_block 2 with (fail)
      rw [← HW2.out, ← HPE.out]
      clear HW2 HPE
      go_cut [8] (fun s8 wx => Hid (Blk wx p 75 [.int .i64 (s : Int), .int .i64 (h : Int), .slice AL nL cL, .slice none 0 0, .slice none 0 0]) ∧ Hid (Kp [p] w2 wx) ∧ Hid (wx.heap.size = p + 1))
      case first =>
        go_wp2_with fail
        go_loopw [8] (fun v wx => ∃ k y : Nat, v = .int .i64 (y : Int) ∧ k ≤ h ∧ y ≤ 131072 ∧ 1 ≤ y ∧ Hid (y = 2 ^ (h - k)) ∧ Hid (Blk wx p 75 [.int .i64 (s : Int), .int .i64 (k : Int), .slice AL nL cL, .slice none 0 0, .slice none 0 0]) ∧ Hid (Kp [p] w2 wx) ∧ Hid (wx.heap.size = p + 1)) (fun v _ => (intOf v).toNat)
        case atStart => exact ⟨0, s, rfl, by omega, by omega, by omega, Lib.hid (by rw [Nat.sub_zero]; exact HS.out), HBP, Lib.hid (Kp.refl _ _), HP2⟩
        case round =>
          clear HBP HP2
          obtain ⟨k, y, rfl, hk, hy, hy1, HY, HBP, HKP, HP2⟩ := hrel
          by_cases hkH : k < h
          · have HY2 := Lib.hid (show y / 2 = 2 ^ (h - (k + 1)) by rw [HY.out, show h - k = (h - (k + 1)) + 1 by omega, Nat.pow_succ, Nat.mul_div_cancel _ (by omega)])
            have hy2 : 1 ≤ y / 2 := by rw [HY2.out]; exact Nat.pow_pos (by omega)
            have htd : Int.tdiv (y : Int) 2 = ((y / 2 : Nat) : Int) := rfl
            have hc1 : wr.cell? ⟨p, 1, none⟩ = some (.int .i64 (k : Int)) := by rw [HBP.out.cell]; rfl
            have hf1 := HBP.out.free 1
            have hge : (y : Int) > 1 := by omega
            go_wp2_with fail
            exact ⟨⟨k + 1, y / 2, by go_num, by omega, by omega, hy2, HY2, Lib.hid (HBP.out.set_ 1 _), Lib.hid (HKP.out.setCell (.inl (by simp)) _), Lib.hid (by simpa using HP2.out)⟩, by simp [intOf]; omega⟩
          · obtain rfl : h = k := by omega
            obtain rfl : y = 1 := by rw [HY.out, Nat.sub_self]
            go_wp2_with fail
            go_meet
            exact ⟨HBP, HKP, HP2⟩
      case rest =>
        obtain ⟨HBP2, HKP, HP3⟩ := hcut
        replace HRL2 := Lib.hid (HRL2.out.kp HKP.out (fun x hx => by simp only [List.mem_singleton] at hx; omega))
        replace HK2 := Lib.hid (HK2.out.trans' HKP.out (fun x hx => .inr (by simp only [List.mem_singleton] at hx; subst hx; exact HPW.out)))
        clear HBP HP2 HKP
        have hc2 : wc.cell? ⟨p, 2, none⟩ = some (.slice AL nL cL) := by rw [HBP2.out.cell]; rfl
        obtain ⟨w3, hw3⟩ : ∃ w3, w3 = wc.alloc (.cells #[.int .i64 0, .int .i64 0, .int .i64 (s : Int), .slice AL nL cL] 77) := ⟨_, rfl⟩
        have hk3 : Kp [] wc w3 := by rw [hw3]; exact (Kp.refl [] wc).alloc _
        have HP4 := HP3
        have hgn : Blk w3 (p + 1) 77 [.int .i64 0, .int .i64 0, .int .i64 (s : Int), .slice AL nL cL] := by rw [hw3, ← HP3.out]; exact Blk.new wc _ _
        have hps : w3.heap.size = p + 2 := by rw [hw3]; simp [HP3.out]
        have HST := Lib.hid (show RSt w3 [] p s h nL cL AL (some ⟨p + 1, 0, none⟩) none none 1 1 0 0 0 0 [(h, (0, 0), L)] [] [] from by
          refine ⟨HBP2.out.kp0 hk3, [.int .i64 0, .int .i64 0, .int .i64 (s : Int), .slice AL nL cL], ?_, ⟨rfl, fun j e hj => ?_⟩, by simp⟩
          · refine (OwnAll.cons (OwnAll.cons (OwnAll.cons (OwnAll.nil _ _) (World.ownsRow_nil _ _ _ 4) (by simp [ownL, Value.ownBlock])) (World.ownsRow_nil _ _ _ 1) (by simp [ownL, Value.ownBlock])) ?_ ?_)
            · exact ⟨by simp, .inr ⟨p + 1, 1, _, rfl, Nat.le_refl _, hgn, Nat.le_refl _, by decide, by simp, by simp⟩⟩
            · intro x hx hm
              obtain ⟨i, r, hi, hm⟩ := mem_oBlocks.1 hm
              match i, hi with
              | 0, hi => simp at hi; subst hi; simp [ownL, Value.ownBlock] at hm
              | 1, hi => simp at hi; subst hi; simp [ownL, Value.ownBlock] at hm
          · match j, hj with
            | 0, hj =>
              simp only [List.getElem?_cons_zero, Option.some.injEq] at hj
              subst hj
              refine ⟨AL, cL, ?_, ((HRL2.out.kp0 hk3).bound (by omega)), fun ad ha hne hm => ?_⟩
              · simp only [HLN.out, Nat.zero_mul, ← HS.out]
                rfl
              · obtain ⟨ad', e', hlt, _⟩ := HRL2.out.lt hne
                rw [ha] at e'
                injection e' with e'
                subst e'
                simp only [List.nil_append, List.mem_cons] at hm
                rcases hm with hm | hm
                · omega
                · obtain ⟨i, r, hi, hm⟩ := mem_oBlocks.1 hm
                  match i, hi with
                  | 0, hi => simp [rRows] at hi; subst hi; simp [ownL, Value.ownBlock] at hm; omega
                  | 1, hi => simp [rRows] at hi; subst hi; simp [ownL, Value.ownBlock] at hm
                  | 2, hi => simp [rRows] at hi; subst hi; simp [ownL, Value.ownBlock] at hm
            | j + 1, hj => simp at hj)
        have HK3 := Lib.hid (HK2.out.trans hk3)
        have HBF := Lib.hid (Bfs.start (L := L) h1 (by rw [← HS.out]; exact HLI2.out))
        have HW3 := Lib.hid hw3
        have HPE := Lib.hid HP4.out
        replace HRL2 := Lib.hid (HRL2.out.kp0 hk3)
        clear hk3 hw3 hgn hps HK2 HP3 HP4
        go_upto_region 14 with (fail)
        rw [← HW3.out, HPE.out]
        clear HW3 HPE hc2 HBP2
        go_wp2_with fail
        go_loopw [9, 10] (fun v9 v10 wr => ∃ (i nq cn nb cb ck : Nat) (An Ab Ak : Option Addr) (Q : List Ent) (bs : List Bool) (ks : List Int), v9 = .slice An nq cn ∧ v10 = .int .i64 (i : Int) ∧ i ≤ nq ∧ nq ≤ 95000 ∧ Hid (Bfs h L i Q bs ks) ∧ Hid (Q.length = nq) ∧ Hid (RSt wr [] p s h nL cL AL An Ab Ak nq cn nb cb i ck Q bs ks) ∧ Hid (Kp [] w1 wr)) (fun _ v10 _ => 100000 - (intOf v10).toNat)
        case atStart => exact ⟨0, 1, 1, 0, 0, 0, _, none, none, _, [], [], rfl, rfl, by omega, by omega, HBF, Lib.hid rfl, HST, HK3⟩
        case round =>
          clear HBF HST HK3
          obtain ⟨i, nq, cn, nb, cb, ck, An, Ab, Ak, Q, bs, ks, rfl, rfl, hi, hnq, HBF, HQ, HST, HK⟩ := hrel
          by_cases hlt2 : i < nq
          · obtain ⟨a, e, he, he1, hat, hsub, hfit, hah, hbl, hbL, hcnt, hnext⟩ := HBF.out.step (by rw [HQ.out]; exact hlt2)
            obtain ⟨a1, ⟨c1, c2⟩, le⟩ := e
            simp only at he1 hat hsub hfit hnext
            subst he1
            have hlev : (levL h [L]).length ≤ 4 * 1301 * h := levL_len 1300 h [L] (by simp) (by simp [HLN.out]; omega)
            have hlev2 : (levL h [L]).length ≤ 88468 := Nat.le_trans hlev (by omega)
            have hbc : bs.count true ≤ bs.length := List.count_le_length
            have HE := Lib.hid he
            have HAT := Lib.hid hat
            have HSUB := Lib.hid (show le.length ≤ 1300 ∧ ∀ p ∈ le, p.1 < 131072 ∧ p.2 < 131072 from
              ⟨Nat.le_trans hsub.length_le (by rw [HLN.out]; omega), fun p hp => by have := HLI2.out p (hsub.subset hp); omega⟩)
            have HFIT := Lib.hid hfit
            have HBL := Lib.hid hbl
            have HNX := Lib.hid hnext
            have hnq2 : nq ≤ 88466 := by rw [HQ.out] at hcnt; omega
            have hiq : i ≤ 23000 := by omega
            clear he hat hsub hfit hbl hnext hlev hlev2 hbc hbL hcnt
            obtain ⟨g, hg⟩ : ∃ g, g = wr.heap.size := ⟨_, rfl⟩
            obtain ⟨w4, hw4⟩ : ∃ w4, w4 = wr.alloc (.cells #[.int .i64 0, .int .i64 0, .int .i64 0, .int .i64 0] 57) := ⟨_, rfl⟩
            have hk4 : Kp [] wr w4 := by rw [hw4]; exact (Kp.refl [] wr).alloc _
            have BG := Lib.hid (show Blk w4 g 57 (upTo (.int .i64 0) (fun j => .int .i64 (kidV1 a nq (a + 1, (c1, c2), le) j)) 0) from by rw [hw4, hg]; exact Blk.new wr _ _)
            have HST4 := Lib.hid (show RSt w4 [g] p s h nL cL AL An Ab Ak nq cn nb cb i ck (Q ++ if a = 0 then [] else entP a (a + 1, (c1, c2), le) 0) (bs ++ bitP a (a + 1, (c1, c2), le) 0) ks from by
              have := HST.out.add hk4 (x := g) (by rw [hg]; exact Nat.le_refl _) (by rw [hg, hw4]; simp)
              have e1 : (Q ++ if a = 0 then [] else entP a (a + 1, (c1, c2), le) 0) = Q := by cases a <;> simp [entP]
              rw [e1, show bitP a (a + 1, (c1, c2), le) 0 = [] from rfl, List.append_nil]
              exact this)
            have HK4 := Lib.hid (HK.out.trans hk4)
            have HGW := Lib.hid (show w1.heap.size ≤ g from by rw [hg]; exact HK.out.size)
            have HW4 := Lib.hid hw4
            have HGE := Lib.hid hg
            have HQ4 := Lib.hid (show (Q ++ if a = 0 then [] else entP a (a + 1, (c1, c2), le) 0).length = nq from by
              have e1 : (Q ++ if a = 0 then [] else entP a (a + 1, (c1, c2), le) 0) = Q := by cases a <;> simp [entP]
              rw [e1]; exact HQ.out)
            clear hk4 hw4 hg HST HK
            go_upto_region 18 with (fail)
            rw [← HW4.out, ← HGE.out]
            clear HW4 HGE
            go_wp2_with fail
            go_loopw [9, 12] (fun v9 v12 wq => ∃ (q mq cn nb cb : Nat) (An Ab : Option Addr), v9 = .slice An mq cn ∧ v12 = .int .i64 (q : Int) ∧ q ≤ 4 ∧ mq ≤ nq + q ∧ Hid ((Q ++ if a = 0 then [] else entP a (a + 1, (c1, c2), le) q).length = mq) ∧
              Hid (RSt wq [g] p s h nL cL AL An Ab Ak mq cn nb cb i ck (Q ++ if a = 0 then [] else entP a (a + 1, (c1, c2), le) q) (bs ++ bitP a (a + 1, (c1, c2), le) q) ks) ∧ Hid (Blk wq g 57 (upTo (.int .i64 0) (fun j => .int .i64 (kidV1 a nq (a + 1, (c1, c2), le) j)) q)) ∧ Hid (Kp [] w1 wq)) (fun _ v12 _ => 4 - (intOf v12).toNat)
            case atStart => exact ⟨0, nq, cn, nb, cb, An, Ab, rfl, rfl, by omega, by omega, HQ4, HST4, BG, HK4⟩
            case round =>
              clear HQ4 HST4 BG HK4
              have HQ0 := HQ
              clear HQ
              obtain ⟨q, mq, cn, nb, cb, An, Ab, rfl, rfl, hq, hmq, HQ, HST, BG, HK⟩ := hrel
              by_cases hq4 : q < 4
              · obtain ⟨an, A2, c9, hAn, x0, x1, x2, x3, hrd2⟩ := HST.out.at_ (i := i) (e := (a + 1, (c1, c2), le)) (by rw [List.getElem?_append_left (by rw [HQ0.out]; exact hlt2)]; exact HE.out)
                subst hAn
                obtain ⟨half, hh⟩ : ∃ half, half = 2 ^ a := ⟨_, rfl⟩
                have hpw : (2 : Nat) ^ (a + 1) = 2 * half := by rw [hh, Nat.pow_succ, Nat.mul_comm]
                obtain ⟨r0, hr0⟩ : ∃ r0, r0 = c1 * (2 * half) := ⟨_, rfl⟩
                obtain ⟨c0, hc0⟩ : ∃ c0, c0 = c2 * (2 * half) := ⟨_, rfl⟩
                obtain ⟨R, hR⟩ : ∃ R, R = r0 + q / 2 * half := ⟨_, rfl⟩
                obtain ⟨C, hC⟩ : ∃ C, C = c0 + q % 2 * half := ⟨_, rfl⟩
                obtain ⟨m9, hm9⟩ : ∃ m9, le.length = m9 := ⟨_, rfl⟩
                simp only [hpw, ← hr0, ← hc0, hm9] at x0 x1 x2 x3
                have hRk : R = (kidC (c1, c2) q).1 * half := by rw [hR, hr0]; unfold kidC; simp only; rw [Nat.add_mul]; congr 1; rw [← Nat.mul_assoc, Nat.mul_comm c1 2]
                have hCk : C = (kidC (c1, c2) q).2 * half := by rw [hC, hc0]; unfold kidC; simp only; rw [Nat.add_mul]; congr 1; rw [← Nat.mul_assoc, Nat.mul_comm c2 2]
                have hpart : le.filter (inSq R C half) = part a le q := by rw [hRk, hCk, hh]; exact inSq_part HAT.out
                have hhb : 1 ≤ half ∧ half ≤ 65536 := by
                  rw [hh]
                  exact ⟨Nat.pow_pos (by omega), Nat.le_trans (Nat.pow_le_pow_right (by omega) (show a ≤ 16 by omega)) (by decide)⟩
                have hfit := HFIT.out
                unfold FitC at hfit
                simp only [hpw] at hfit
                rw [Nat.add_mul, Nat.add_mul, ← hr0, ← hc0, ← HS.out] at hfit
                have hr0b : r0 ≤ 131072 := by omega
                have hc0b : c0 ≤ 131072 := by omega
                have HQC := Lib.hid (rquarter_any r0 c0 half q A2 m9 c9 wr.heap.size le wr hrd2 (Nat.le_refl _) hm9 (by have := HSUB.out.1; omega) hq4 hhb.1 hhb.2 hr0b hc0b HSUB.out.2 R C hR hC)
                rw [hpart] at HQC
                have HRC := Lib.hid (And.intro hRk hCk)
                have HHA := Lib.hid hh
                have hha1 := hhb.1
                have hi0 : (0 : Int) ≤ (i : Int) := by omega
                have hi1 : (i : Int) < (mq : Int) := by
                  have h9 := HQ.out
                  rw [List.length_append, HQ0.out] at h9
                  omega
                clear hh hpw hr0 hc0 hR hC hRk hCk hpart hfit hhb hr0b hc0b hrd2 hm9
                go_wp2_with fail
                refine HQC.out.mono ?_
                rintro e w5 ⟨Ao, no, co, rfl, hoq, hno, hk5⟩
                obtain ⟨g13, hg13⟩ : ∃ g13, g13 = w5.heap.size := ⟨_, rfl⟩
                obtain ⟨w6, hw6⟩ : ∃ w6, w6 = w5.alloc (.cells #[.int .i64 (R : Int), .int .i64 (C : Int), .int .i64 (half : Int), .slice Ao no co] 77) := ⟨_, rfl⟩
                have hk6 : Kp [] w5 w6 := by rw [hw6]; exact (Kp.refl [] w5).alloc _
                have B13 := Lib.hid (show Blk w6 g13 77 [.int .i64 (R : Int), .int .i64 (C : Int), .int .i64 (half : Int), .slice Ao no co] from by rw [hw6, hg13]; exact Blk.new w5 _ _)
                have HRO := Lib.hid (((own_rd hoq).kp0 hk6).bound hk6.size)
                obtain ⟨qs0, hqs0, _⟩ := HST.out.nodes
                have HAPO := Lib.hid (show (∀ ad, Ao = some ad → wr.heap.size ≤ ad.block ∧ ad.block < w6.heap.size) ∧ (∀ x ∈ [g] ++ p :: oBlocks (rRows (some an) Ab Ak mq cn nb cb i ck qs0 (bs ++ bitP a (a + 1, (c1, c2), le) q) ks), x < wr.heap.size) ∧ wr.heap.size ≤ g13 from
                  ⟨fun ad had => by
                    obtain ⟨_, _, hf, _, _, _, h9⟩ := own_form hoq
                    injection hf with f1 f2 f3
                    have := h9 ad (by rw [← f1]; exact had)
                    exact ⟨this.2.2.1, Nat.lt_of_lt_of_le this.2.2.2 hk6.size⟩, HST.out.lt hqs0, by rw [hg13]; exact hk5.size⟩)
                clear hqs0
                have HST6 := Lib.hid (HST.out.kp0 (hk5.trans hk6))
                have BG6 := Lib.hid (BG.out.kp0 (hk5.trans hk6))
                have HK6 := Lib.hid (HK.out.trans (hk5.trans hk6))
                have HNO := Lib.hid hno
                have HW6 := Lib.hid hw6
                have HG13 := Lib.hid hg13
                have HZ6 := Lib.hid (show p + 1 ≤ w6.heap.size from HST6.out.blk.lt)
                obtain ⟨bsq, hbsq⟩ : ∃ bsq, bsq = bs ++ bitP a (a + 1, (c1, c2), le) q := ⟨_, rfl⟩
                have HBSQ := Lib.hid hbsq
                have hnb : nb ≤ 95000 := by
                  have h9 := HST6.out.bits.1
                  rw [List.length_map, List.length_append, bitP_len (by omega), HBL.out] at h9
                  omega
                rw [← hbsq] at HST6
                have hc3 : w6.cell? ⟨p, 3, none⟩ = some (.slice Ab nb cb) := by rw [HST6.out.blk.cell]; rfl
                have y2 : w6.cell? ⟨g13, 2, none⟩ = some (.int .i64 (half : Int)) := by rw [B13.out.cell]; rfl
                have y3 : w6.cell? ⟨g13, 3, none⟩ = some (.slice Ao no co) := by rw [B13.out.cell]; rfl
                have HNP := Lib.hid (show p ∉ ownL (.slice Ab nb cb) from fun hm => by have := (own_ge HST6.out.bits (mem_ownL.1 hm)).1; omega)
                have HFR := Lib.hid (show ∃ l, Blk w6 p 75 l from ⟨_, HST6.out.blk⟩)
                have HGB := Lib.hid (show g ∉ ownL (.slice Ab nb cb) ∧ g ≠ p ∧ g13 ∉ ownL (.slice Ab nb cb) ∧ g13 ≠ p ∧ g ≠ g13 from by
                  obtain ⟨_, qs9, _, _, h4⟩ := HST6.out
                  have h5 := h4 g (by simp)
                  have h6 := HAPO.out.2.1 g (by simp)
                  have h7 := HAPO.out.2.1 p (by simp)
                  have h8 := HAPO.out.2.2
                  refine ⟨fun hm => h5.2 (List.mem_cons_of_mem _ (oBlocks_at (i := 1) rfl g hm)), fun e9 => h5.2 (by rw [e9]; simp), fun hm => ?_, by omega, by omega⟩
                  have := HAPO.out.2.1 g13 (rblocks_mem.2 (.inr (.inr (.inr (.inl hm)))))
                  omega)
                clear hno hw6 hg13 hbsq hoq hk5 hk6 HST BG HK x0 x1 x2 x3
                go_upto_region 22 with (fail)
                rw [← HW6.out, ← HG13.out]
                clear HW6 HG13
                obtain ⟨bb, hbb⟩ : ∃ bb, bb = !(part a le q).isEmpty := ⟨_, rfl⟩
                have hdec : decide (0 < no) = bb := by
                  rw [hbb, ← HNO.out]
                  rcases part a le q with _ | ⟨x, l9⟩
                  · rfl
                  · simp
                have HBB := Lib.hid hbb
                clear hbb
                go_cut [11] (fun s11 wx => s11 = .pointer (some ⟨g, 0, none⟩) ∧ ∃ (A7 : Option Addr) (c7 : Nat), Hid (RSt wx [g] p s h nL cL AL (some an) A7 Ak mq cn (nb + 1) c7 i ck (Q ++ if a = 0 then [] else entP a (a + 1, (c1, c2), le) q) (bsq ++ [bb]) ks) ∧ Hid (Kp [] w1 wx) ∧ Hid (Blk wx g 57 (upTo (.int .i64 0) (fun j => .int .i64 (kidV1 a nq (a + 1, (c1, c2), le) j)) q)) ∧
                  Hid (Blk wx g13 77 [.int .i64 (R : Int), .int .i64 (C : Int), .int .i64 (half : Int), .slice Ao no co]) ∧ Hid (Rd wx wx.heap.size Ao (pc (part a le q))) ∧ Hid (∀ ad, Ao = some ad → ∀ x, x ∈ [g] ∨ x = p ∨ x ∈ ownL (.slice (some an) mq cn) ∨ x ∈ ownL (.slice A7 (nb + 1) c7) ∨ x ∈ ownL (.slice Ak i ck) → ad.block ≠ x))
                case first =>
                  have hc3' : (w6.alloc (.cells #[.bool bb] 4)).cell? ⟨p, 3, none⟩ = some (.slice Ab nb cb) := ((Kp.refl [] w6).alloc _).cell hc3 (by simp)
                  go_region_law
                    ((refine step_append_rd rfl (.tmp 105) (.tmp 110) 67 rfl (p + 1) 4 ib (.bool false) 1 1 Try.underlying67 hib hw0 hw1 hw2 rfl (by decide) (.slice Ab nb cb) nb _ (by rfl) (own_kp0 HST6.out.bits (show Kp [] w6 _ from by first | exact ((Kp.refl _ _).alloc _) | exact ((Kp.refl _ _).drew.alloc _))) _ _ 1 1 [.bool bb] (by rfl) rfl (rd_new' _ #[.bool bb] 4 rfl) (by simp [Value.oneCell']) (by unfold maxLen; omega) (by omega) (Nat.le_trans HZ6.out (by simp)) ?_; intro v7 w7 hown7 hgrow7 hat7; obtain ⟨A7, c7, rfl, _⟩ := own_form hown7; have hk7 : Kp (ownL (.slice Ab nb cb)) w6 w7 := (show Kp (ownL (.slice Ab nb cb)) w6 _ from by first | exact ((Kp.refl _ _).alloc _) | exact ((Kp.refl _ _).drew.alloc _)).grown hgrow7 (fun x hx => .inl (mem_ownL.2 hx)); have e1 : w7.cell? ⟨p, 3, none⟩ = some (.slice Ab nb cb) := hk7.cell hc3 HNP.out; have e4 : w7.frozen? ⟨p, 3, none⟩ = false := hk7.free1 HFR.out HNP.out; have hn7 : ∀ x ∈ ownL (.slice A7 (nb + 1) c7), x ∈ ownL (.slice Ab nb cb) ∨ w6.heap.size ≤ x := own_new hat7; have H7 := Lib.hid (And.intro (HST6.out.bit hown7 hk7 hn7) (And.intro hk7 hn7)); clear hown7 hgrow7 hat7 hk7 hn7))
                  all_goals
                    have HST8 := Lib.hid H7.out.1
                    have HK8 := Lib.hid ((HK6.out.trans' H7.out.2.1 (fun x hx => .inr (by have := (own_ge HST6.out.bits (mem_ownL.1 hx)).1; have := HPW.out; omega))).setCell (p := ⟨p, 3, none⟩) (.inr HPW.out) (.slice A7 (nb + 1) c7))
                    have BG8 := Lib.hid ((BG6.out.kp H7.out.2.1 HGB.out.1).far (p := ⟨p, 3, none⟩) HGB.out.2.1 (.slice A7 (nb + 1) c7))
                    have B138 := Lib.hid ((B13.out.kp H7.out.2.1 HGB.out.2.2.1).far (p := ⟨p, 3, none⟩) HGB.out.2.2.2.1 (.slice A7 (nb + 1) c7))
                    have HRO8 := Lib.hid (show Rd (w7.setCell ⟨p, 3, none⟩ (.slice A7 (nb + 1) c7)) (w7.setCell ⟨p, 3, none⟩ (.slice A7 (nb + 1) c7)).heap.size Ao (pc (part a le q)) from by
                      have h9 := HRO.out.kp_ne H7.out.2.1 (fun ad had hm => by
                        have := (HAPO.out.1 ad had).1
                        have := HAPO.out.2.1 ad.block (rblocks_mem.2 (.inr (.inr (.inr (.inl hm)))))
                        omega)
                      have h10 : Kp [p] w7 (w7.setCell ⟨p, 3, none⟩ (.slice A7 (nb + 1) c7)) := (Kp.refl [p] w7).setCell (.inl (by simp)) _
                      refine (h9.kp_ne h10 (fun ad had hm => ?_)).bound (show w6.heap.size ≤ (w7.setCell ⟨p, 3, none⟩ (.slice A7 (nb + 1) c7)).heap.size from Nat.le_trans H7.out.2.1.size h10.size)
                      have := (HAPO.out.1 ad had).1
                      have := HAPO.out.2.1 p (by simp)
                      simp only [List.mem_singleton] at hm
                      omega)
                    have HAP8 := Lib.hid (show ∀ ad, Ao = some ad → ∀ x, x ∈ [g] ∨ x = p ∨ x ∈ ownL (.slice (some an) mq cn) ∨ x ∈ ownL (.slice A7 (nb + 1) c7) ∨ x ∈ ownL (.slice Ak i ck) → ad.block ≠ x from fun ad had x hx => by
                      have h9 := HAPO.out.1 ad had
                      have old : x ∈ [g] ++ p :: oBlocks (rRows (some an) Ab Ak mq cn nb cb i ck qs0 (bs ++ bitP a (a + 1, (c1, c2), le) q) ks) → ad.block ≠ x := fun hm => by have := HAPO.out.2.1 x hm; omega
                      rcases hx with hx | hx | hx | hx | hx
                      · exact old (rblocks_mem.2 (.inl hx))
                      · exact old (rblocks_mem.2 (.inr (.inl hx)))
                      · exact old (rblocks_mem.2 (.inr (.inr (.inl hx))))
                      · rcases H7.out.2.2 x hx with h | h
                        · exact old (rblocks_mem.2 (.inr (.inr (.inr (.inl h)))))
                        · omega
                      · exact old (rblocks_mem.2 (.inr (.inr (.inr (.inr hx))))))
                    go_wp2_with fail
                    go_meet
                    exact ⟨rfl, A7, c7, HST8, HK8, BG8, B138, HRO8, HAP8⟩
                case rest =>
                  obtain ⟨rfl, A7, c7, HST8, HK8, BG8, B138, HRO8, HAP8⟩ := hcut
                  clear HST6 HK6 BG6 B13 HRO HAPO HFR HNP HZ6 hc3 y2 y3 hdec
                  have y2 : wc.cell? ⟨g13, 2, none⟩ = some (.int .i64 (half : Int)) := by rw [B138.out.cell]; rfl
                  have y3 : wc.cell? ⟨g13, 3, none⟩ = some (.slice Ao no co) := by rw [B138.out.cell]; rfl
                  have z1 : wc.cell? ⟨g, q, none⟩ = some (.int .i64 0) := by rw [BG8.out.cell]; exact upTo_at _ _ hq4
                  have z2 := BG8.out.free q
                  have hj0 : (0 : Int) ≤ (q : Int) := by omega
                  have hj1 : (q : Int) < 4 := by omega
                  have HB8 := Lib.hid (show bsq ++ [bb] = bs ++ bitP a (a + 1, (c1, c2), le) (q + 1) from by rw [HBSQ.out, HBB.out, bitP_succ hq4, List.append_assoc])
                  rw [HB8.out] at HST8
                  cases hem : (part a le q).isEmpty with
                  | true =>
                    obtain rfl : no = 0 := by rw [← HNO.out]; exact List.length_eq_zero_iff.2 (List.isEmpty_iff.1 hem)
                    have HEN := Lib.hid (show (Q ++ if a = 0 then [] else entP a (a + 1, (c1, c2), le) q) = (Q ++ if a = 0 then [] else entP a (a + 1, (c1, c2), le) (q + 1)) from by rw [entP_no hq4 hem])
                    rw [HEN.out] at HST8 HQ
                    have HUP := Lib.hid (show (upTo (.int .i64 0) (fun j => .int .i64 (kidV1 a nq (a + 1, (c1, c2), le) j)) q).set q (.int .i64 (-2)) = upTo (.int .i64 0) (fun j => .int .i64 (kidV1 a nq (a + 1, (c1, c2), le) j)) (q + 1) from by
                      have h9 := upTo_set (.int .i64 0) (fun j => .int .i64 (kidV1 a nq (a + 1, (c1, c2), le) j)) hq4
                      rw [show kidV1 a nq (a + 1, (c1, c2), le) q = -2 by unfold kidV1; simp [hem]] at h9
                      exact h9)
                    have z6 : (wc.setCell ⟨g, q, none⟩ (.int .i64 (-2))).cell? ⟨g13, 3, none⟩ = some (.slice Ao 0 co) := by
                      rw [(B138.out.far (p := ⟨g, q, none⟩) (Ne.symm HGB.out.2.2.2.2) _).cell]; rfl
                    clear hem
                    go_wp2_with fail
                    refine ⟨⟨q + 1, mq, cn, nb + 1, c7, some an, A7, rfl, by go_num, by omega, by omega, HQ, Lib.hid (HST8.out.kp ((Kp.refl [g] wc).setCell (.inl (by simp)) _) (by simp)), Lib.hid ?_, Lib.hid (HK8.out.setCell (.inr HGW.out) _)⟩, by simp [intOf]; omega⟩
                    have h9 := BG8.out.set_ q (.int .i64 (-2))
                    rw [HUP.out] at h9
                    exact h9
                  | false =>
                    have hno0 : 0 < no := by
                      rw [← HNO.out]
                      rcases h9 : part a le q with _ | ⟨x, l9⟩
                      · rw [h9] at hem; cases hem
                      · simp
                    rcases Nat.eq_zero_or_pos a with ha0 | ha0
                    · subst ha0
                      obtain rfl : half = 1 := HHA.out
                      have HUP := Lib.hid (show ((upTo (.int .i64 0) (fun j => .int .i64 (kidV1 0 nq (0 + 1, (c1, c2), le) j)) q).set q (.int .i64 (-2))).set q (.int .i64 (-1)) = upTo (.int .i64 0) (fun j => .int .i64 (kidV1 0 nq (0 + 1, (c1, c2), le) j)) (q + 1) from by
                        have h9 := upTo_set (.int .i64 0) (fun j => .int .i64 (kidV1 0 nq (0 + 1, (c1, c2), le) j)) hq4
                        rw [show kidV1 0 nq (0 + 1, (c1, c2), le) q = -1 by unfold kidV1; simp [hem]] at h9
                        rw [List.set_set]
                        exact h9)
                      have z3 : (wc.setCell ⟨g, q, none⟩ (.int .i64 (-2))).cell? ⟨g, q, none⟩ = some (.int .i64 (-2)) := by
                        rw [(BG8.out.set_ q (.int .i64 (-2))).cell, List.getElem?_set_self (by unfold upTo; simpa using hq4)]
                      have z4 := (BG8.out.set_ q (.int .i64 (-2))).free q
                      have z5 : (wc.setCell ⟨g, q, none⟩ (.int .i64 (-2))).cell? ⟨g13, 2, none⟩ = some (.int .i64 1) := by
                        rw [(B138.out.far (p := ⟨g, q, none⟩) (Ne.symm HGB.out.2.2.2.2) _).cell]; rfl
                      have z6 : (wc.setCell ⟨g, q, none⟩ (.int .i64 (-2))).cell? ⟨g13, 3, none⟩ = some (.slice Ao no co) := by
                        rw [(B138.out.far (p := ⟨g, q, none⟩) (Ne.symm HGB.out.2.2.2.2) _).cell]; rfl
                      have z7 : ((wc.setCell ⟨g, q, none⟩ (.int .i64 (-2))).setCell ⟨g, q, none⟩ (.int .i64 (-1))).cell? ⟨g13, 2, none⟩ = some (.int .i64 1) := by
                        rw [((B138.out.far (p := ⟨g, q, none⟩) (Ne.symm HGB.out.2.2.2.2) _).far (p := ⟨g, q, none⟩) (Ne.symm HGB.out.2.2.2.2) _).cell]; rfl
                      have z8 : ((wc.setCell ⟨g, q, none⟩ (.int .i64 (-2))).setCell ⟨g, q, none⟩ (.int .i64 (-1))).cell? ⟨g13, 3, none⟩ = some (.slice Ao no co) := by
                        rw [((B138.out.far (p := ⟨g, q, none⟩) (Ne.symm HGB.out.2.2.2.2) _).far (p := ⟨g, q, none⟩) (Ne.symm HGB.out.2.2.2.2) _).cell]; rfl
                      clear hem
                      go_wp2_with fail
                      refine ⟨⟨q + 1, mq, cn, nb + 1, c7, some an, A7, rfl, by go_num, by omega, by omega, HQ, Lib.hid ((HST8.out.kp ((Kp.refl [g] wc).setCell (.inl (by simp)) _) (by simp)).kp ((Kp.refl [g] _).setCell (.inl (by simp)) _) (by simp)), Lib.hid ?_, Lib.hid ((HK8.out.setCell (.inr HGW.out) _).setCell (.inr HGW.out) _)⟩, by simp [intOf]; omega⟩
                      have h9 := (BG8.out.set_ q (.int .i64 (-2))).set_ q (.int .i64 (-1))
                      rw [HUP.out] at h9
                      exact h9
                    · have hh2 : 2 ≤ half := by rw [HHA.out]; exact Nat.pow_le_pow_right (n := 2) (by omega) (show 1 ≤ a from ha0)
                      have ha1 : a ≠ 0 := by omega
                      have hmqe : mq = nq + (entP a (a + 1, (c1, c2), le) q).length := by
                        have h9 := HQ.out
                        rw [if_neg ha1, List.length_append, HQ0.out] at h9
                        omega
                      have HUP := Lib.hid (show ((upTo (.int .i64 0) (fun j => .int .i64 (kidV1 a nq (a + 1, (c1, c2), le) j)) q).set q (.int .i64 (-2))).set q (.int .i64 (mq : Int)) = upTo (.int .i64 0) (fun j => .int .i64 (kidV1 a nq (a + 1, (c1, c2), le) j)) (q + 1) from by
                        have h9 := upTo_set (.int .i64 0) (fun j => .int .i64 (kidV1 a nq (a + 1, (c1, c2), le) j)) hq4
                        rw [show kidV1 a nq (a + 1, (c1, c2), le) q = (mq : Int) by unfold kidV1; simp [hem, ha1, hmqe]] at h9
                        rw [List.set_set]
                        exact h9)
                      have HEN := Lib.hid (show (Q ++ if a = 0 then [] else entP a (a + 1, (c1, c2), le) q) ++ [(a, kidC (c1, c2) q, part a le q)] = (Q ++ if a = 0 then [] else entP a (a + 1, (c1, c2), le) (q + 1)) from by
                        rw [if_neg ha1, if_neg ha1, entP_yes hq4 hem, List.append_assoc])
                      have z3 : (wc.setCell ⟨g, q, none⟩ (.int .i64 (-2))).cell? ⟨g, q, none⟩ = some (.int .i64 (-2)) := by
                        rw [(BG8.out.set_ q (.int .i64 (-2))).cell, List.getElem?_set_self (by unfold upTo; simpa using hq4)]
                      have z4 := (BG8.out.set_ q (.int .i64 (-2))).free q
                      have z5 : (wc.setCell ⟨g, q, none⟩ (.int .i64 (-2))).cell? ⟨g13, 2, none⟩ = some (.int .i64 (half : Int)) := by
                        rw [(B138.out.far (p := ⟨g, q, none⟩) (Ne.symm HGB.out.2.2.2.2) _).cell]; rfl
                      have z6 : (wc.setCell ⟨g, q, none⟩ (.int .i64 (-2))).cell? ⟨g13, 3, none⟩ = some (.slice Ao no co) := by
                        rw [(B138.out.far (p := ⟨g, q, none⟩) (Ne.symm HGB.out.2.2.2.2) _).cell]; rfl
                      have k9 : Kp [g] wc ((wc.setCell ⟨g, q, none⟩ (.int .i64 (-2))).setCell ⟨g, q, none⟩ (.int .i64 (mq : Int))) := ((Kp.refl [g] wc).setCell (.inl (by simp)) _).setCell (.inl (by simp)) _
                      have B139 := ((B138.out.far (p := ⟨g, q, none⟩) (Ne.symm HGB.out.2.2.2.2) (.int .i64 (-2))).far (p := ⟨g, q, none⟩) (Ne.symm HGB.out.2.2.2.2) (.int .i64 (mq : Int)))
                      have BG9 := (BG8.out.set_ q (.int .i64 (-2))).set_ q (.int .i64 (mq : Int))
                      rw [HUP.out] at BG9
                      have HST9 := HST8.out.kp k9 (by simp)
                      have HK9 := HK8.out.trans' k9 (fun x hx => .inr (by simp only [List.mem_singleton] at hx; subst hx; exact HGW.out))
                      have HRO9 := (HRO8.out.kp_ne k9 (fun ad had hm => HAP8.out ad had ad.block (.inl hm) rfl)).bound k9.size
                      obtain ⟨w9, hw9⟩ : ∃ w9, w9 = (wc.setCell ⟨g, q, none⟩ (.int .i64 (-2))).setCell ⟨g, q, none⟩ (.int .i64 (mq : Int)) := ⟨_, rfl⟩
                      rw [← hw9] at B139 BG9 HST9 HK9 HRO9
                      obtain ⟨qs, hqs, _⟩ := HST9.nodes
                      have y0 : w9.cell? ⟨g13, 0, none⟩ = some (.int .i64 (R : Int)) := by rw [B139.cell]; rfl
                      have y1 : w9.cell? ⟨g13, 1, none⟩ = some (.int .i64 (C : Int)) := by rw [B139.cell]; rfl
                      have y2' : w9.cell? ⟨g13, 2, none⟩ = some (.int .i64 (half : Int)) := by rw [B139.cell]; rfl
                      have y3' : w9.cell? ⟨g13, 3, none⟩ = some (.slice Ao no co) := by rw [B139.cell]; rfl
                      have HST' := Lib.hid HST9
                      have HK' := Lib.hid HK9
                      have HRO' := Lib.hid HRO9
                      have BG' := Lib.hid BG9
                      have HQS := Lib.hid hqs
                      have HW9 := Lib.hid hw9
                      have HZ9 := Lib.hid (show p + 1 ≤ w9.heap.size from HST9.blk.lt)
                      have hmq2 : mq ≤ 90000 := by omega
                      have HVE := Lib.hid (show ([.int .i64 (R : Int), .int .i64 (C : Int), .int .i64 (half : Int), .slice Ao no co] : List Value) = [.int .i64 (((kidC (c1, c2) q).1 * 2 ^ a : Nat) : Int), .int .i64 (((kidC (c1, c2) q).2 * 2 ^ a : Nat) : Int), .int .i64 ((2 ^ a : Nat) : Int), .slice Ao (part a le q).length co] from by
                        rw [← HHA.out, ← HRC.out.1, ← HRC.out.2, HNO.out])
                      clear hem hmqe k9 B139 BG9 HST9 HK9 HRO9 hw9 hqs HST8 HK8 HRO8 BG8 B138
                      go_upto_region 28 with (fail)
                      rw [← HW9.out]
                      clear HW9 z1 z2 z3 z4 z5 z6 y2 y3
                      go_wp2_with (at_builtin; go_loud (refine wpList_append_rd rfl (.tmp 140) (.tmp 142) 78 rfl (p + 1) 77 i0 (.agg #[.int .i64 0, .int .i64 0, .int .i64 0, .slice none 0 0]) 4 48 Try.underlying78 hti hz0 hz1 hz2 rfl (by decide) (.slice (some an) mq cn) mq _ rfl (own_kp0 HQS.out ((Kp.refl [] _).alloc _)) _ _ 1 1 [.int .i64 (R : Int), .int .i64 (C : Int), .int .i64 (half : Int), .slice Ao no co] rfl rfl (rd_new' w9 #[.int .i64 (R : Int), .int .i64 (C : Int), .int .i64 (half : Int), .slice Ao no co] 77 rfl) (by intro u hu; simp at hu; rcases hu with rfl | rfl | rfl | rfl <;> rfl) (by unfold maxLen; omega) (by omega) (Nat.le_trans HZ9.out (by simp)) ?_); intro v5 w5 hown5 hgrow5 hat5
                                   obtain ⟨A5, c5, rfl, _⟩ := own_form hown5
                                   obtain ⟨hk5, hn5⟩ := app_facts hgrow5 hat5
                                   have H5 := Lib.hid (HST'.out.node HQS.out hown5 hk5 hn5 (e := (a, kidC (c1, c2) q, part a le q)) HVE.out HRO'.out (fun ad had x hx => HAP8.out ad had x (rblocks_mem.1 hx)))
                                   have HK5 := Lib.hid (HK'.out.trans' hk5 (fun x hx => .inr (by have := (own_ge HQS.out (mem_ownL.1 hx)).1; have := HPW.out; omega)))
                                   have BG5 := Lib.hid (BG'.out.kp hk5 (fun hm => by
                                     obtain ⟨_, qs9, _, _, h4⟩ := HST'.out
                                     exact (h4 g (by simp)).2 (List.mem_cons_of_mem _ (oBlocks_at (i := 0) rfl g hm))))
                                   clear hown5 hgrow5 hat5 hk5 hn5)
                      rw [HEN.out] at H5
                      have HQ5 := Lib.hid (show (Q ++ if a = 0 then [] else entP a (a + 1, (c1, c2), le) (q + 1)).length = mq + 1 from by rw [← HEN.out, List.length_append, HQ.out]; rfl)
                      exact ⟨⟨q + 1, mq + 1, c5, nb + 1, c7, A5, A7, rfl, by go_num, by omega, by omega, HQ5, H5, BG5, HK5⟩, by simp [intOf]; omega⟩
              · obtain rfl : q = 4 := by omega
                obtain ⟨k0, hk0⟩ : ∃ k0, k0 = kidV1 a nq (a + 1, (c1, c2), le) 0 := ⟨_, rfl⟩
                obtain ⟨k1, hk1⟩ : ∃ k1, k1 = kidV1 a nq (a + 1, (c1, c2), le) 1 := ⟨_, rfl⟩
                obtain ⟨k2, hk2⟩ : ∃ k2, k2 = kidV1 a nq (a + 1, (c1, c2), le) 2 := ⟨_, rfl⟩
                obtain ⟨k3, hk3⟩ : ∃ k3, k3 = kidV1 a nq (a + 1, (c1, c2), le) 3 := ⟨_, rfl⟩
                have hmq0 : nq ≤ mq := by have h9 := HQ.out; rw [List.length_append, HQ0.out] at h9; omega
                have HN2 := Lib.hid (show Bfs h L (i + 1) (Q ++ if a = 0 then [] else entP a (a + 1, (c1, c2), le) 4) (bs ++ bitP a (a + 1, (c1, c2), le) 4) (ks ++ [k0, k1, k2, k3]) from by
                  have h9 := HNX.out
                  rw [HQ0.out] at h9
                  rw [hk0, hk1, hk2, hk3]
                  exact h9)
                have BG2 := Lib.hid (show Blk wr g 57 [.int .i64 k0, .int .i64 k1, .int .i64 k2, .int .i64 k3] from by rw [hk0, hk1, hk2, hk3]; exact BG.out)
                have g0 : wr.cell? ⟨g, 0, none⟩ = some (.int .i64 k0) := by rw [BG2.out.cell]; rfl
                have g1 : wr.cell? ⟨g, 1, none⟩ = some (.int .i64 k1) := by rw [BG2.out.cell]; rfl
                have g2 : wr.cell? ⟨g, 2, none⟩ = some (.int .i64 k2) := by rw [BG2.out.cell]; rfl
                have g3 : wr.cell? ⟨g, 3, none⟩ = some (.int .i64 k3) := by rw [BG2.out.cell]; rfl
                have hc4 : wr.cell? ⟨p, 4, none⟩ = some (.slice Ak i ck) := by rw [HST.out.blk.cell]; rfl
                have hc4' : (wr.alloc (.cells #[.int .i64 k0, .int .i64 k1, .int .i64 k2, .int .i64 k3] 57)).cell? ⟨p, 4, none⟩ = some (.slice Ak i ck) := ((Kp.refl [] wr).alloc _).cell hc4 (by simp)
                have HNP := Lib.hid (show p ∉ ownL (.slice Ak i ck) from fun hm => by have := (own_ge HST.out.kids (mem_ownL.1 hm)).1; omega)
                have HFR := Lib.hid (show ∃ l, Blk wr p 75 l from ⟨_, HST.out.blk⟩)
                have HZ6 := Lib.hid (show p + 1 ≤ wr.heap.size from HST.out.blk.lt)
                clear hk0 hk1 hk2 hk3 BG BG2 HNX HE HAT HSUB HFIT HBL
                go_wp2_with fail
                refine wp_region_tail (by kernel_rfl) 10 161 7 151 [144, 145, 146, 147, 148, 149, 150, 151, 152, 153] [[], [], [145], [145, 146], [145, 146, 147], [], [149], [145, 146, 147, 148, 149, 150], [144], [144, 152]] [144, 145, 146, 147, 148, 149, 152, 153] [151] [.pointer (some ⟨p, 0, none⟩), .pointer (some ⟨p, 0, none⟩), .pointer (some ⟨p, 0, none⟩), .pointer (some ⟨p, 4, none⟩), .slice Ak i ck, .agg #[.int .i64 k0, .int .i64 k1, .int .i64 k2, .int .i64 k3], .pointer (some ⟨p, 0, none⟩), .pointer (some ⟨p, 4, none⟩)] [(144, .eq (.pointer (some ⟨p, 0, none⟩))), (145, .eq (.pointer (some ⟨p, 0, none⟩))), (146, .eq (.pointer (some ⟨p, 0, none⟩))), (147, .eq (.pointer (some ⟨p, 4, none⟩))), (148, .eq (.slice Ak i ck)), (149, .eq (.agg #[.int .i64 k0, .int .i64 k1, .int .i64 k2, .int .i64 k3])), (150, SFact.vals 1 ([.int .i64 k0, .int .i64 k1, .int .i64 k2, .int .i64 k3])), (151, (⟨AppP wr (p + 1) 57 4 (i + 1) (.slice Ak i ck) (ks.map (.int .i64) ++ [.int .i64 k0, .int .i64 k1, .int .i64 k2, .int .i64 k3]), AppP.st⟩ : SFact)), (152, .eq (.pointer (some ⟨p, 0, none⟩))), (153, .eq (.pointer (some ⟨p, 4, none⟩)))] rfl (by kernel_rfl) (by kernel_rfl) (by kernel_rfl) rfl rfl _ (fun x => by simp only [fillL, Nat.reduceAdd, Nat.reduceEqDiff, ↓reduceIte]; rfl) ?_ ?_ ?_
                · refine ⟨?_, ?_, ?_, ?_, ?_, ?_, ?_, ?_, ?_, ?_, trivial⟩
                  · intro fx w' fa hd ev  -- 144 = Op.move (Operand.tmp 7)
                    have e7 : fa.tmps[7]?.getD undef = .pointer (some ⟨p, 0, none⟩) := ev.old 7 rfl
                    refine stepF_un rfl (fun K hK => ?_)
                    exact stepF_val _ hK (run_move rfl e7 _) rfl
                  · intro fx w' fa hk hd ev  -- 145 = Op.move (Operand.tmp 7)
                    have e7 : fa.tmps[7]?.getD undef = .pointer (some ⟨p, 0, none⟩) := ev.old 7 rfl
                    refine stepF_un rfl (fun K hK => ?_)
                    exact stepF_val _ hK (run_move rfl e7 _) rfl
                  · intro fx w' fa hk hd ev  -- 146 = Op.nilCheck (Operand.tmp 145)
                    have h145 : fx 145 = .pointer (some ⟨p, 0, none⟩) := hd.1
                    have e145 : fa.tmps[145]?.getD undef = .pointer (some ⟨p, 0, none⟩) := (ev.new 145 rfl).trans h145
                    refine stepF_un rfl (fun K hK => ?_)
                    go_simp
                    exact hK _ _ rfl (Kp.refl _ _)
                  · intro fx w' fa hk hd ev  -- 147 = Op.fieldAddr 75 (Operand.tmp 146) 4
                    have h146 : fx 146 = .pointer (some ⟨p, 0, none⟩) := hd.2.1
                    have e146 : fa.tmps[146]?.getD undef = .pointer (some ⟨p, 0, none⟩) := (ev.new 146 rfl).trans h146
                    refine stepF_un rfl (fun K hK => ?_)
                    go_simp
                    exact hK _ _ rfl (Kp.refl _ _)
                  · intro fx w' fa hk hd ev  -- 148 = Op.load 73 (Operand.tmp 147)
                    have h147 : fx 147 = .pointer (some ⟨p, 4, none⟩) := hd.2.2.1
                    have e147 : fa.tmps[147]?.getD undef = .pointer (some ⟨p, 4, none⟩) := (ev.new 147 rfl).trans h147
                    refine stepF_un rfl (fun K hK => ?_)
                    have hc41 := hk.cell hc4 (by simp)
                    go_simp
                    exact hK _ _ rfl (Kp.refl _ _)
                  · intro fx w' fa hk hd ev  -- 149 = Op.load 57 (Operand.tmp 11)
                    have e11 : fa.tmps[11]?.getD undef = .pointer (some ⟨g, 0, none⟩) := ev.old 11 rfl
                    refine stepF_un rfl (fun K hK => ?_)
                    have g01 := hk.cell g0 (by simp)
                    have g11 := hk.cell g1 (by simp)
                    have g21 := hk.cell g2 (by simp)
                    have g31 := hk.cell g3 (by simp)
                    go_simp
                    exact hK _ _ rfl (Kp.refl _ _)
                  · intro fx w' fa hk hd ev  -- 150 = Op.buildSlice 73 1 #[(0, Operand.tmp 149)]
                    have h149 : fx 149 = .agg #[.int .i64 k0, .int .i64 k1, .int .i64 k2, .int .i64 k3] := hd.1
                    have e149 : fa.tmps[149]?.getD undef = .agg #[.int .i64 k0, .int .i64 k1, .int .i64 k2, .int .i64 k3] := (ev.new 149 rfl).trans h149
                    refine stepF_un rfl (fun K hK => ?_)
                    go_simp
                    exact hK _ _ (vals_new w' ([.int .i64 k0, .int .i64 k1, .int .i64 k2, .int .i64 k3]) 57 1) ((Kp.refl _ _).alloc _)
                  · exact trivial
                  · intro fx w' fa hd ev  -- 152 = Op.nilCheck (Operand.tmp 144)
                    have h144 : fx 144 = .pointer (some ⟨p, 0, none⟩) := hd.1
                    have e144 : fa.tmps[144]?.getD undef = .pointer (some ⟨p, 0, none⟩) := (ev.new 144 rfl).trans h144
                    refine stepF_un rfl (fun K hK => ?_)
                    go_simp
                    exact hK _ _ rfl (Kp.refl _ _)
                  · intro fx w' fa hd ev  -- 153 = Op.fieldAddr 75 (Operand.tmp 152) 4
                    have h152 : fx 152 = .pointer (some ⟨p, 0, none⟩) := hd.2.1
                    have e152 : fa.tmps[152]?.getD undef = .pointer (some ⟨p, 0, none⟩) := (ev.new 152 rfl).trans h152
                    refine stepF_un rfl (fun K hK => ?_)
                    go_simp
                    exact hK _ _ rfl (Kp.refl _ _)
                · intro o1 ho1 fx w' fa hk hd ev K hK  -- 151 = Op.call { callee := Callee.builtin Builtin.append, args := #
                  obtain rfl := Option.some.inj ho1
                  have h148 : fx 148 = .slice Ak i ck := hd.2.2.2.1
                  have e148 : fa.tmps[148]?.getD undef = .slice Ak i ck := (ev.new 148 rfl).trans h148
                  have h150 : (SFact.vals 1 ([.int .i64 k0, .int .i64 k1, .int .i64 k2, .int .i64 k3]) : SFact).p (fx 150) w' := hd.2.2.2.2.2.1
                  obtain ⟨A150, c150, v150, hc150, hr150⟩ := h150
                  have e150 : fa.tmps[150]?.getD undef = .slice A150 1 c150 := (ev.new 150 rfl).trans v150
                  exact wp_append_app 148 150 73 rfl (p + 1) 57 i4 (.agg #[.int .i64 0, .int .i64 0, .int .i64 0, .int .i64 0]) 4 32 Try.underlying73 hi4 hy0 hy1 hy2 rfl (by decide) (.slice Ak i ck) i _ e148 HST.out.kids hk _ A150 1 c150 _ e150 rfl hr150 (by intro u hu; simp at hu; rcases hu with rfl | rfl | rfl | rfl <;> rfl) (by unfold maxLen; omega) (by omega) HZ6.out hK
                · intro fx w' hd
                  have h144 : fx 144 = .pointer (some ⟨p, 0, none⟩) := hd.1
                  have h145 : fx 145 = .pointer (some ⟨p, 0, none⟩) := hd.2.1
                  have h146 : fx 146 = .pointer (some ⟨p, 0, none⟩) := hd.2.2.1
                  have h147 : fx 147 = .pointer (some ⟨p, 4, none⟩) := hd.2.2.2.1
                  have h148 : fx 148 = .slice Ak i ck := hd.2.2.2.2.1
                  have h149 : fx 149 = .agg #[.int .i64 k0, .int .i64 k1, .int .i64 k2, .int .i64 k3] := hd.2.2.2.2.2.1
                  have hP : (AppP wr (p + 1) 57 4 (i + 1) (.slice Ak i ck) (ks.map (.int .i64) ++ [.int .i64 k0, .int .i64 k1, .int .i64 k2, .int .i64 k3])) (fx 151) w' := hd.2.2.2.2.2.2.1
                  have h152 : fx 152 = .pointer (some ⟨p, 0, none⟩) := hd.2.2.2.2.2.2.2.1
                  have h153 : fx 153 = .pointer (some ⟨p, 4, none⟩) := hd.2.2.2.2.2.2.2.2.1
                  change Oper.wp _ _ _ _ _ _
                  obtain ⟨A7, c7, h151, hown7, hk7, hn7⟩ := hP
                  have e1 : w'.cell? ⟨p, 4, none⟩ = some (.slice Ak i ck) := hk7.cell hc4 HNP.out
                  have e4 : w'.frozen? ⟨p, 4, none⟩ = false := hk7.free1 HFR.out HNP.out
                  have HST8 := Lib.hid (HST.out.kid (k4 := [k0, k1, k2, k3]) hown7 hk7 hn7).drop
                  have HK8 := Lib.hid ((HK.out.trans' hk7 (fun x hx => .inr (by have := (own_ge HST.out.kids (mem_ownL.1 hx)).1; have := HPW.out; omega))).setCell (p := ⟨p, 4, none⟩) (.inr HPW.out) (.slice A7 (i + 1) c7))
                  rw [h151, h153]
                  clear hd hown7 hk7 hn7 HST HK HFR HNP HZ6
                  go_simp
                  go_wp2_with fail
                  exact ⟨⟨i + 1, mq, cn, nb, cb, c7, An, Ab, A7, _, _, _, rfl, by go_num, by omega, by omega, HN2, HQ, HST8, HK8⟩, by simp [intOf]; omega⟩
          · obtain rfl : i = nq := by omega
            obtain ⟨hd1, hd2, hd3⟩ := HBF.out.done HQ.out.symm
            have hlev : (levL h [L]).length ≤ 4 * 1301 * h := levL_len 1300 h [L] (by simp) (by simp [HLN.out]; omega)
            have hlev2 : bs.length ≤ 88468 := by rw [hd1]; exact Nat.le_trans hlev (by omega)
            have hnbl : bs.length = nb := by have h9 := HST.out.bits.1; rw [List.length_map] at h9; omega
            have hc3 : wr.cell? ⟨p, 3, none⟩ = some (.slice Ab nb cb) := by rw [HST.out.blk.cell]; rfl
            have HFIN := Lib.hid (show RTree wr w.heap.size p h L (levL h [L]) from by
              obtain ⟨_, _, f1, f2, _, _, f9⟩ := own_form HST.out.bits
              injection f1 with f0 _ f3
              subst f3 f0
              obtain ⟨_, _, k1, k2, _, _, k9⟩ := own_form HST.out.kids
              injection k1 with k0 _ k3
              subst k3 k0
              have hwp : w.heap.size ≤ p := Nat.le_trans HK1.out.size HPW.out
              rw [← hd1]
              refine ⟨AL, Ab, Ak, nL, cL, nb, cb, i, ck, ?_, HLN.out, hcL, (HRL.out.kp0 HK.out).bound HK.out.size, hnbl, f2, own_rd HST.out.bits, hd2, k2, ?_, hwp, HLOL.out, fun ad had => by have := (f9 ad had).2.2.1; omega, fun ad had => by have := (k9 ad had).2.2.1; omega⟩
              · rw [← HS.out]; exact HST.out.blk
              · rw [← hd3]; exact own_rd HST.out.kids)
            have hnb2 : nb ≤ 88468 := by omega
            clear hd1 hd2 hd3 hlev hlev2 hnbl
            go_wp2_with fail
            go_ret2
            exact ⟨p, L, rfl, HFIN.out, sorted_nodup HLS.out, HLM.out, HK1.out.trans HK.out⟩
end Go.Proofs.Ytldmabkilgpgcaa
