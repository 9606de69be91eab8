/-
  THE STATEMENT TuckerFull OF LAYER 5, its walk: for every three numbers the call returns true and writes to nothing that was there.
  CONDITIONS: rows of at most 2^47 bytes.
-/
import Derived.Test.YtbikidbaiegehaaTgrown
namespace Go.Proofs.Ytbikidbaiegehaa
open Go.RowKit

theorem okF_of_dl {ls : List Int} (h : Dl 0 ls) (h2 : 2 ≤ ls.length) (h3 : ls.length ≤ 257) : okF ls := ⟨h3, .inr ⟨h2, h⟩⟩
theorem not_okF {ls : List Int} (h : ¬ Dl 0 ls) (h2 : 2 ≤ ls.length) : ¬ okF ls := fun hf => h (okF_dl hf h2)
theorem ways_le {l : List Int} (h : ∀ x ∈ l, 0 ≤ x) : ways 40 l ≤ l.length * 1099511627776 := by
  induction l with
  | nil => exact Nat.le_refl _
  | cons y l ih =>
    have h1 := ih (fun x hx => h x (by simp [hx]))
    have h2 := h y (by simp)
    have h3 : 2 ^ (40 - y).toNat ≤ 2 ^ 40 := Nat.pow_le_pow_right (by omega) (by omega)
    show 2 ^ (40 - y).toNat + ways 40 l ≤ (l.length + 1) * 1099511627776
    omega

/-- append, where its guard says yes. -/
theorem wpList_append_rd_g {P : Program} {w : World} {ops : Array Oper} {rest : List Oper} {o : Oper} {a : Act} {Q : Exit → Act → World → Prop} (hgd : Region.wanted o (yielded ops a.tmps) = true) (s x : Operand) (t : TypeId)
    (ho : o.op = .call { callee := .builtin .append, args := #[s, x], argTypes := #[t, t] })
    (base : Nat) (e : TypeId) (i : TypeInfo) (z : Value) (size bytes : Nat) (ht : P.underlying t = some (.slice e)) (hi : P.info? e = some i) (hz : i.zero = some z)
    (hsize : i.size = size) (hby : i.bytes = bytes) (hzs : z.cells.size = size) (hsz : 0 < size)
    (v : Value) (n : Nat) (xs : List Value) (hs : a.eval s = v) (hown : w.ownsRow base e size v n xs)
    (B : Nat) (A : Option Addr) (m c : Nat) (news : List Value) (hx : a.eval x = .slice A m c) (hl : news.length = m * size) (hr : Rd w B A news) (h1 : ∀ u ∈ news, u.oneCell' = true)
    (h63 : n + m ≤ maxLen) (hbytes : (n + m) * bytes ≤ 140737488355328) (hbase : base ≤ w.heap.size)
    (h : ∀ v' w', w'.ownsRow base e size v' (n + m) (xs ++ news) → w.grownBy w' v.ownBlock → (v'.ownBlock = v.ownBlock ∨ v'.ownBlock = some w.heap.size) → wpList P ops Q rest (a.put o.dst v') w') :
    wpList P ops Q (o :: rest) a w :=
  BigFrame.wpList_want hgd fun _ hK => wp_append_rd s x t ho base e i z size bytes ht hi hz hsize hby hzs hsz v n xs hs hown B A m c news hx hl hr h1 h63 hbytes hbase fun v' w' h2 h3 h4 => hK _ _ (h v' w' h2 h3 h4)

open Classical in
set_option maxRecDepth 100000 in
set_option maxHeartbeats 2000000 in
theorem full_any (n : Int) (A : Option Addr) (nc c B : Nat) (cuts : List Int) (at_ : Int) (w : World) (hx : Rd w B A (cuts.map (.int .i64))) (hn : cuts.length = nc) :
    Calls Try.prog 11 #[.int .i64 n, .slice A nc c, .int .i64 at_] w fun e w' => e = .returned (.bool true) ∧ Kp [] w w' := by
  obtain ⟨i0, hi, hz0, hz1, hz2⟩ := info_parts Try.info_int
  have HX := Lib.hid hx.here; clear hx
  have HN := Lib.hid hn; clear hn
  go_enter Try.func11, Try.ntmps11
  go_wp2_with fail
  refine (awake_any _).mono ?_
  rintro e w1 ⟨rfl, hk1⟩
  have HK1 := Lib.hid hk1; clear hk1
  by_cases h300 : 300 < nc
  · go_wp2_with fail
    go_ret
    exact ⟨rfl, HK1.out⟩
  · have hpb := pickI_bound (x := n) (n := 39) (by omega)
    obtain ⟨p, hp⟩ : ∃ p : Nat, pickI n 39 = (p : Int) := ⟨(pickI n 39).toNat, by omega⟩
    have hp39 : p < 39 := by omega
    obtain ⟨N, hN⟩ : ∃ N, N = 2 + p := ⟨_, rfl⟩
    have hwN : IntKind.i64.wrap (2 + (p : Int)) = (N : Int) := by rw [IntKind.wrap_i64]; omega
    have HNB := Lib.hid (show 2 ≤ N ∧ N ≤ 40 by omega)
    have HP := Lib.hid hp
    clear hpb hp hN hp39
    go_wp2_with fail
    refine (pick_any n 39 _ (by omega)).mono ?_
    rintro e w2 ⟨rfl, rfl⟩
    rw [HP.out]
    go_wp2_with fail
    refine (grown_any A N nc c _ cuts w1 (HX.out.kp0 HK1.out) HN.out (by omega) HNB.out.1 (by have := HNB.out; omega)).mono ?_
    rintro e w3 ⟨g, ls, rfl, hb3, hl3, hd3, hg3, hk3⟩
    have HB3 := Lib.hid hb3; clear hb3
    have HL3 := Lib.hid hl3; clear hl3
    have HD3 := Lib.hid hd3; clear hd3
    have HG3 := Lib.hid (Nat.le_trans HK1.out.size hg3); clear hg3
    have HK3 := Lib.hid (HK1.out.trans hk3); clear hk3
    have hokF : okF ls := okF_of_dl HD3.out (by rw [HL3.out]; exact HNB.out.1) (by have := HL3.out; have := HNB.out; omega)
    have HOK := Lib.hid hokF; clear hokF
    go_wp2_with fail
    refine (tfits_any _ N N _ ls w3 (HB3.out.rd HB3.out.lt) HL3.out (by have := HNB.out; omega)).mono ?_
    rintro e w4 ⟨rfl, hk4⟩
    rw [show decide (okF ls) = true from decide_eq_true HOK.out]
    have HB4 := Lib.hid (HB3.out.kp0 hk4); clear HB3
    have HK4 := Lib.hid (HK3.out.trans hk4); clear hk4 HK3
    go_wp2_with fail
    go_loopw [8, 9] (fun y x wr => ∃ k : Nat, x = .int .i64 (k : Int) ∧ k ≤ N ∧ y = .int .i64 ((ways 40 (ls.take k) : Nat) : Int) ∧ w4 = wr) (fun _ x _ => N - (intOf x).toNat)
    case atStart => exact ⟨0, rfl, by omega, rfl, rfl⟩
    case round =>
      obtain ⟨k, rfl, hk, rfl, rfl⟩ := hrel
      by_cases hkN : k < N
      · obtain ⟨x, hx⟩ : ∃ x, ls[k]? = some x := ⟨_, List.getElem?_eq_getElem (by rw [HL3.out]; exact hkN)⟩
        have cx : w4.cell? ⟨g, k, none⟩ = some (.int .i64 x) := by rw [HB4.out.cell, List.getElem?_map, hx]; rfl
        have hxb := HD3.out.bound x (List.mem_of_getElem? hx)
        have hxm : 0 ≤ x ∧ x ≤ 40 := by have := HL3.out; have := HNB.out; omega
        obtain ⟨e, he⟩ : ∃ e : Nat, 40 - x = (e : Int) := ⟨(40 - x).toNat, by omega⟩
        have hwe : IntKind.i64.wrap (40 - x) = (e : Int) := by rw [IntKind.wrap_i64]; omega
        have hpw : (2 : Nat) ^ e ≤ 2 ^ 40 := Nat.pow_le_pow_right (by omega) (by omega)
        obtain ⟨q, hq⟩ : ∃ q, q = 2 ^ e := ⟨_, rfl⟩
        obtain ⟨s, hs⟩ : ∃ s, s = ways 40 (ls.take k) := ⟨_, rfl⟩
        have hsb : s ≤ 40 * 1099511627776 := by
          rw [hs]
          refine Nat.le_trans (ways_le (fun z hz => ?_)) (Nat.mul_le_mul_right _ (by rw [List.length_take]; have := HNB.out; omega))
          have := HD3.out.bound z (List.mem_of_mem_take hz)
          omega
        have HNX := Lib.hid (show s + q = ways 40 (ls.take (k + 1)) by
          rw [take_succ_of hx, ways_app, hs, hq]
          show _ = _ + (2 ^ (40 - x).toNat + 0)
          rw [show (40 - x).toNat = e from by omega]
          omega)
        have he40 : e ≤ 40 := by omega
        have hq40 : q ≤ 1099511627776 := by omega
        have hws : IntKind.i64.wrap ((s : Int) + (q : Int)) = ((s + q : Nat) : Int) := by rw [IntKind.wrap_i64]; omega
        have hpq : (2 : Int) ^ e = (q : Int) := by rw [hq]; exact (Int.natCast_pow 2 e).symm
        have hwp : IntKind.i64.wrap ((2 : Int) ^ e) = (q : Int) := by rw [hpq, IntKind.wrap_i64]; omega
        have hN40 : N ≤ 40 := HNB.out.2
        rw [← hs]
        clear hx hxb he hpw hs hsb hxm hq hpq
        go_wp2_with fail
        exact ⟨⟨k + 1, by go_num, by omega, by rw [← HNX.out]; go_num, trivial⟩, by simp [intOf]; omega⟩
      · obtain rfl : N = k := by omega
        have hall : ways 40 (ls.take N) = 1099511627776 := by
          rw [List.take_of_length_le (by rw [HL3.out]; exact Nat.le_refl _), ways_dl HD3.out (fun x hx => by have := HD3.out.bound x hx; have := HL3.out; have := HNB.out; omega)]
          rfl
        rw [hall]
        clear hall hk hkN
        have hN40 : N ≤ 40 := HNB.out.2
        have hpb := pickI_bound (x := at_) (n := (N : Int)) (by have := HNB.out; omega)
        obtain ⟨k, hk⟩ : ∃ k : Nat, pickI at_ (N : Int) = (k : Int) := ⟨(pickI at_ (N : Int)).toNat, by omega⟩
        have hkN : k < N := by omega
        have HKP := Lib.hid hk; clear hk hpb
        go_wp2_with fail
        refine (pick_any at_ N _ (by omega)).mono ?_
        rintro e w5 ⟨rfl, rfl⟩
        rw [HKP.out]
        obtain ⟨y, hy⟩ : ∃ y, ls[k]? = some y := ⟨_, List.getElem?_eq_getElem (by rw [HL3.out]; exact hkN)⟩
        have hyb := HD3.out.bound y (List.mem_of_getElem? hy)
        have hym : 0 ≤ y ∧ y ≤ 40 := by have := HL3.out; omega
        have HY := Lib.hid hy; clear hy hyb
        have hsz : w.heap.size ≤ w4.heap.size := HK4.out.size
        have hN2 : 2 ≤ N := HNB.out.1
        have hwy : IntKind.i64.wrap (y + 1) = y + 1 := by rw [IntKind.wrap_i64]; omega
        go_wp2_with (at_builtin; refine wpList_append_rd rfl (.tmp 43) (.tmp 44) 41 rfl w4.heap.size 3 i0 (.int .i64 0) 1 8 Try.underlying41 hi hz0 hz1 hz2 rfl (by decide) _ 0 _ rfl (own_empty w4 (Nat.le_refl _)) _ _ N N (ls.map (.int .i64)) rfl (by rw [List.length_map, HL3.out, Nat.mul_one]) ((HB4.out.rd HB4.out.lt).kp0 ((Kp.refl [] w4).alloc _)) (oc_ints _ _) (by unfold maxLen; omega) (by omega) (by simp) ?_; intro v5 w5 hown5 hgrow5 hat5
                     simp only [Nat.zero_add, List.nil_append] at hown5
                     rcases own_blk hown5 with ⟨_, h0, _⟩ | ⟨g5, cap5, rest5, rfl, hge5, hblk5, hnc5, hcm5, hl5, hcl5⟩
                     · exact absurd h0 (by omega)
                     have cy5 : w5.cell? ⟨g5, k, none⟩ = some (.int .i64 y) := by
                       rw [hblk5.cell, List.getElem?_append_left (by rw [List.length_map, HL3.out]; exact hkN), List.getElem?_map, HY.out]; rfl
                     have cf5 := hblk5.free k
                     have HK5 := Lib.hid (((Kp.refl [] w4).alloc (.cells #[] 3)).grown hgrow5 (fun x hx => .inr (own_ge (own_empty w4 (Nat.le_refl _)) hx).1))
                     have HB5 := Lib.hid hblk5
                     have HGE := Lib.hid hge5
                     clear hown5 hgrow5 hat5 hblk5 hge5 hl5 hcl5 hcm5)
        have HN1 := Lib.hid (not_okF (not_longer HD3.out HY.out) (by rw [List.length_set, HL3.out]; exact HNB.out.1))
        have hset := HB5.out.set_ k (.int .i64 (y + 1))
        rw [List.set_append_left _ _ (by rw [List.length_map, HL3.out]; exact hkN), ← List.map_set] at hset
        have hrd : Rd (w5.setCell ⟨g5, k, none⟩ (.int .i64 (y + 1))) (w5.setCell ⟨g5, k, none⟩ (.int .i64 (y + 1))).heap.size (some ⟨g5, 0, none⟩) ((ls.set k (y + 1)).map (.int .i64)) := by
          have := (hset.rd hset.lt).take ((ls.set k (y + 1)).map (Value.int .i64)).length
          rwa [List.take_left'] at this
          rfl
        refine (tfits_any _ N cap5 _ (ls.set k (y + 1)) _ hrd (by rw [List.length_set, HL3.out]) (by omega)).mono ?_
        rintro e w6 ⟨rfl, hk6⟩
        rw [show decide (okF (ls.set k (y + 1))) = false from decide_eq_false HN1.out]
        have HK6 := Lib.hid ((HK5.out.setCell (.inr HGE.out) (.int .i64 (y + 1))).trans hk6)
        have HB6 := Lib.hid (HB4.out.kp0 HK6.out)
        clear hk6 hset hrd cy5 cf5 HK5 HB5
        have cy6 : w6.cell? ⟨g, k, none⟩ = some (.int .i64 y) := by rw [HB6.out.cell, List.getElem?_map, HY.out]; rfl
        have HN2 := Lib.hid (not_okF (not_more HD3.out HY.out) (by rw [List.length_append, HL3.out]; have := HNB.out; omega))
        have HOW := Lib.hid (show w6.ownsRow w.heap.size 3 1 (.slice (some ⟨g, 0, none⟩) N N) N (ls.map (.int .i64)) from own_of_blk (rest := []) (by simpa using HB6.out) HG3.out (Nat.le_refl _) (by unfold maxLen; omega) (by rw [List.length_map, HL3.out, Nat.mul_one]) (by rw [List.append_nil, List.length_map, HL3.out, Nat.mul_one]))
        have HKA := Lib.hid (HK4.out.trans HK6.out)
        have HRX := Lib.hid (show Rd (w6.alloc (.cells #[.int .i64 y] 3)) (w6.heap.size + 1) (some ⟨w6.heap.size, 0, none⟩) [.int .i64 y] from Rd.new w6 #[.int .i64 y] 3 (0, 0))
        go_wp2_with (at_builtin; refine wpList_append_rd_g (by rfl) (.tmp 60) (.tmp 65) 41 rfl w.heap.size 3 i0 (.int .i64 0) 1 8 Try.underlying41 hi hz0 hz1 hz2 rfl (by decide) _ N _ rfl (own_kp0 HOW.out ((Kp.refl [] _).alloc _)) _ _ 1 1 [.int .i64 y] rfl rfl HRX.out (by simp [Value.oneCell']) (by unfold maxLen; omega) (by omega) (Nat.le_trans HKA.out.size (by simp)) ?_; intro v7 w7 hown7 hgrow7 hat7
                     obtain ⟨A7, c7, rfl, _⟩ := own_form hown7)
        have hrd7 := own_rd hown7
        have HK7 := Lib.hid ((HKA.out.alloc (.cells #[.int .i64 y] 3)).grown hgrow7 (fun x hx => .inr (own_ge HOW.out hx).1))
        rw [show ls.map (Value.int .i64) ++ [.int .i64 y] = (ls ++ [y]).map (.int .i64) from by simp] at hrd7
        refine (tfits_any A7 (N + 1) c7 _ (ls ++ [y]) w7 hrd7 (by rw [List.length_append, HL3.out]; rfl) (by omega)).mono ?_
        rintro e w8 ⟨rfl, hk8⟩
        rw [show decide (okF (ls ++ [y])) = false from decide_eq_false HN2.out]
        have HK8 := Lib.hid (HK7.out.trans hk8)
        clear hk8 hrd7 hown7 hgrow7 hat7
        go_wp2_with fail
        go_ret
        exact ⟨rfl, HK8.out⟩
end Go.Proofs.Ytbikidbaiegehaa
