/-
  TreeEnds: the walk.
  CONDITIONS: none.
-/
import Derived.Test.YtldmabkilgpgcaaQ20
import Derived.Test.YtldmabkilgpgcaaQ13
namespace Go.Proofs.Ytldmabkilgpgcaa
open Go.RowKit

theorem wp_append_full_rd {P : Program} {w : World} {o : Oper} {a : Act} {K : Act → World → Prop} {Q : Exit → Act → World → Prop} {d : Nat} {Φ : Nat → Value → World → Prop}
    (hK : ∀ v w'', Φ d v w'' → Kp [] w w'' → K (a.put o.dst v) w'') (s x : Nat) (t : TypeId)
    (ho : o.op = .call { callee := .builtin .append, args := #[.tmp s, .tmp x], argTypes := #[t, t] })
    (e : TypeId) (i : TypeInfo) (z : Value) (size bytes : Nat) (ht : P.underlying t = some (.slice e)) (hi : P.info? e = some i) (hz : i.zero = some z) (hsize : i.size = size) (hby : i.bytes = bytes) (hzs : z.cells.size = size) (hsz : 0 < size)
    (b : Addr) (n cap B B' : Nat) (xs ys : List Value) (hs : a.tmps[s]?.getD undef = .slice (some b) n cap) (hl : xs.length = n * size) (hr : Rd w B (some b) xs)
    (ad : Addr) (m c : Nat) (hx : a.tmps[x]?.getD undef = .slice (some ad) m c) (hm : ys.length = m * size) (hr2 : Rd w B' (some ad) ys)
    (hfull : cap < n + m) (b1 : n + m ≤ maxLen) (b2 : (n + m) * bytes ≤ 140737488355328)
    (h : ∀ v' w', w'.ownsRow w.heap.size e size v' (n + m) (xs ++ ys) → Kp [] w w' → Φ d v' w') : o.wp P a w K Q := by
  have he1 : a.eval (.tmp s) = .slice (some b) n cap := eval_of hs
  have he2 : a.eval (.tmp x) = .slice (some ad) m c := eval_of hx
  have hc : ∀ {A : Addr} {B : Nat} {zs : List Value}, Rd w B (some A) zs → ∀ j u, zs[j]? = some u → w.cell? (A.add j) = some u := by
    intro A B zs hr j u hu
    obtain ⟨ad', e', _, hc⟩ := hr j u hu
    injection e' with e'
    subst e'
    exact hc
  obtain ⟨v', w', hrun, r1, r2⟩ := run_append_arg_grows (P := P) w t o.type e i z size bytes ht hi hz hsize hby hzs hsz b n cap xs hl (hc hr) ad m c ys hm (hc hr2) hfull b1 b2
  have hk : Kp [] w w' := (Kp.refl [] w).grown r2 (by simp)
  unfold Oper.wp
  simp [execOp, ho, resolve, invoke, builtin, he1, he2, hrun, Result.andThen]
  exact hK _ _ (h v' w' r1 hk) hk
theorem wpList_append_full {P : Program} {w : World} {ops : Array Oper} {rest : List Oper} {o : Oper} {a : Act} {Q : Exit → Act → World → Prop} (hgd : Region.wanted o (yielded ops a.tmps) = true) (s x : Operand) (t : TypeId)
    (ho : o.op = .call { callee := .builtin .append, args := #[s, x], argTypes := #[t, t] })
    (e : TypeId) (i : TypeInfo) (z : Value) (size bytes : Nat) (ht : P.underlying t = some (.slice e)) (hi : P.info? e = some i) (hz : i.zero = some z) (hsize : i.size = size) (hby : i.bytes = bytes) (hzs : z.cells.size = size) (hsz : 0 < size)
    (b : Addr) (n cap B B' : Nat) (xs ys : List Value) (he1 : a.eval s = .slice (some b) n cap) (hl : xs.length = n * size) (hr : Rd w B (some b) xs)
    (ad : Addr) (m c : Nat) (he2 : a.eval x = .slice (some ad) m c) (hm : ys.length = m * size) (hr2 : Rd w B' (some ad) ys)
    (hfull : cap < n + m) (b1 : n + m ≤ maxLen) (b2 : (n + m) * bytes ≤ 140737488355328)
    (h : ∀ v' w', w'.ownsRow w.heap.size e size v' (n + m) (xs ++ ys) → Kp [] w w' → wpList P ops Q rest (a.put o.dst v') w') : wpList P ops Q (o :: rest) a w :=
  BigFrame.wpList_want hgd fun _ hK => by
    have hc : ∀ {A : Addr} {B : Nat} {zs : List Value}, Rd w B (some A) zs → ∀ j u, zs[j]? = some u → w.cell? (A.add j) = some u := by
      intro A B zs hr j u hu
      obtain ⟨ad', e', _, hc⟩ := hr j u hu
      injection e' with e'
      subst e'
      exact hc
    obtain ⟨v', w', hrun, r1, r2⟩ := run_append_arg_grows (P := P) w t o.type e i z size bytes ht hi hz hsize hby hzs hsz b n cap xs hl (hc hr) ad m c ys hm (hc hr2) hfull b1 b2
    have hk : Kp [] w w' := (Kp.refl [] w).grown r2 (by simp)
    unfold Oper.wp
    simp [execOp, ho, resolve, invoke, builtin, he1, he2, hrun, Result.andThen]
    exact hK _ _ (h v' w' r1 hk)
theorem bits_u8 (op : BinOp) (x y : Int) : 0 ≤ bits op .u8 x y ∧ bits op .u8 x y ≤ 255 := by
  have : ∀ z : Int, 0 ≤ IntKind.u8.wrap z ∧ IntKind.u8.wrap z ≤ 255 := by
    intro z
    simp only [IntKind.wrap, IntKind.signed, IntKind.bits]
    simp
    omega
  exact this _
theorem vals_of_own {w : World} {base : Nat} {e : TypeId} {size n : Nat} {v : Value} {xs : List Value} (h : w.ownsRow base e size v n xs) : (SFact.vals n xs).p v w := by
  obtain ⟨A, c, rfl, hc, _⟩ := own_form h
  exact ⟨A, c, rfl, hc, own_rd h⟩
theorem pcI_one (a b : Int) : pcI [(a, b)] = [.int .i64 a, .int .i64 b] := by simp [pcI]
theorem Pok.small {r c : Nat} (hr : r ≤ 1000000) (hc : c ≤ 1000000) : Pok ((r : Int), (c : Int)) := by
  unfold Pok
  constructor <;> constructor <;> simp only <;> omega
/-- append, where its guard says yes. -/
theorem wpList_append_rd_g {P : Program} {w : World} {ops : Array Oper} {rest : List Oper} {o : Oper} {a : Act} {Q : Exit → Act → World → Prop} (hgd : Region.wanted o (yielded ops a.tmps) = true) (s x : Operand) (t : TypeId)
    (ho : o.op = .call { callee := .builtin .append, args := #[s, x], argTypes := #[t, t] })
    (base : Nat) (e : TypeId) (i : TypeInfo) (z : Value) (size bytes : Nat) (ht : P.underlying t = some (.slice e)) (hi : P.info? e = some i) (hz : i.zero = some z)
    (hsize : i.size = size) (hby : i.bytes = bytes) (hzs : z.cells.size = size) (hsz : 0 < size)
    (v : Value) (n : Nat) (xs : List Value) (hs : a.eval s = v) (hown : w.ownsRow base e size v n xs)
    (B : Nat) (A : Option Addr) (m c : Nat) (news : List Value) (hx : a.eval x = .slice A m c) (hl : news.length = m * size) (hr : Rd w B A news) (h1 : ∀ u ∈ news, u.oneCell' = true)
    (h63 : n + m ≤ maxLen) (hbytes : (n + m) * bytes ≤ 140737488355328) (hbase : base ≤ w.heap.size)
    (h : ∀ v' w', w'.ownsRow base e size v' (n + m) (xs ++ news) → w.grownBy w' v.ownBlock → (v'.ownBlock = v.ownBlock ∨ v'.ownBlock = some w.heap.size) → wpList P ops Q rest (a.put o.dst v') w') :
    wpList P ops Q (o :: rest) a w :=
  BigFrame.wpList_want hgd fun _ hK => wp_append_rd s x t ho base e i z size bytes ht hi hz hsize hby hzs hsz v n xs hs hown B A m c news hx hl hr h1 h63 hbytes hbase fun v' w' h2 h3 h4 => hK _ _ (h v' w' h2 h3 h4)
set_option maxRecDepth 100000 in
set_option maxHeartbeats 4000000 in
theorem tends_any (w : World) : Calls Try.prog 6 #[] w fun e w' => e = .returned (.bool true) ∧ Kp [] w w' := by
  obtain ⟨i0, hi, hz0, hz1, hz2⟩ := info_parts Try.info_pair
  obtain ⟨iu, hu, hu0, hu1, hu2⟩ := info_parts Try.info_u8
  go_enter Try.func6, Try.ntmps6
  go_wp2_with fail
  go_loopw [1] (fun x wr => ∃ k : Nat, x = .int .i64 (k : Int) ∧ k ≤ 4096 ∧ Hid (Kp [] w wr)) (fun x _ => 4096 - (intOf x).toNat)
  case atStart => exact ⟨0, rfl, by omega, Lib.hid (Kp.refl _ _)⟩
  case round =>
    obtain ⟨k, rfl, hk, HKR⟩ := hrel
    by_cases hlt : k < 4096
    · skip
      obtain ⟨wk, hwk⟩ : ∃ wk, wk = wr := ⟨_, rfl⟩
      rw [← hwk] at HKR ⊢
      clear hwk
      have hk0 : (0 : Int) ≤ (k : Int) := by omega
      have hk1 : (k : Int) ≤ 4095 := by omega
      have hkd : decide ((k : Int) < 4096) = true := by simp; omega
      go_wp2_with fail
      go_loopw [2, 4] (fun v x wr => ∃ (j n c : Nat) (A : Option Addr) (l : List (Int × Int)), x = .int .i64 (j : Int) ∧ v = .slice A n c ∧ j ≤ 16 ∧ n ≤ j ∧ Hid (l.length = n) ∧ Hid (∀ p ∈ l, Pok p) ∧ Hid (wr.ownsRow wk.heap.size 24 2 (.slice A n c) n (pcI l)) ∧ Hid (Kp [] wk wr)) (fun _ x _ => 16 - (intOf x).toNat)
      case atStart => exact ⟨0, 0, 0, none, [], rfl, rfl, by omega, by omega, Lib.hid rfl, Lib.hid (by simp), Lib.hid (World.ownsRow_nil wk _ _ _), Lib.hid (Kp.refl _ _)⟩
      case round =>
        obtain ⟨j, n, c, A, l, rfl, rfl, hj, hnj, HN, HL, HO, HK⟩ := hrel
        by_cases hjt : j < 16
        · have hj0 : (0 : Int) ≤ (j : Int) := by omega
          have hj1 : (j : Int) ≤ 15 := by omega
          obtain ⟨q, hq⟩ : ∃ q, q = j / 4 := ⟨_, rfl⟩
          obtain ⟨r, hr⟩ : ∃ r, r = j % 4 := ⟨_, rfl⟩
          have hq9 : (j : Int) / 4 = (q : Int) := by omega
          have hr9 : (j : Int) % 4 = (r : Int) := by omega
          have HP := Lib.hid (show Pok ((q : Int), (r : Int)) from Pok.small (by omega) (by omega))
          have HSZ := Lib.hid HK.out.size
          clear hq hr
          go_wp2_with (at_builtin; go_loud (refine wpList_append_rd rfl (.tmp 31) (.tmp 37) 22 rfl (wk.heap.size) 24 i0 (.agg #[.int .i64 0, .int .i64 0]) 2 16 Try.underlying22 hi hz0 hz1 hz2 rfl (by decide) (.slice A n c) (n) _ rfl (own_kp0 HO.out ((Kp.refl [] _).alloc _)) _ _ 1 1 [.int .i64 (q : Int), .int .i64 (r : Int)] rfl rfl (Rd.new wr #[.int .i64 (q : Int), .int .i64 (r : Int)] 24 (0, 0)) (by intro u hu; simp at hu; rcases hu with rfl | rfl <;> rfl) (by unfold maxLen; omega) (by omega) (by have := HSZ.out; simp; omega) ?_); intro v3 w3 hown3 hgrow3 hat3; obtain ⟨hka3, hga3⟩ := app_facts hgrow3 hat3; obtain ⟨A3', c3', rfl, _⟩ := own_form hown3)
          · have HO3 := Lib.hid (show w3.ownsRow wk.heap.size 24 2 (.slice A3' (n + 1) c3') (n + 1) (pcI (l ++ [((q : Int), (r : Int))])) from by rw [pcI_append]; exact hown3)
            have HK3 := Lib.hid (HK.out.trans' hka3 (fun x hx => .inr (own_ge HO.out (mem_ownL.1 hx)).1))
            exact ⟨⟨j + 1, n + 1, c3', A3', l ++ [((q : Int), (r : Int))], by go_num, rfl, by omega, by omega, Lib.hid (by rw [List.length_append, HN.out]; rfl), Lib.hid (fun p hp => by rcases List.mem_append.1 hp with h | h; exact HL.out p h; rw [List.mem_singleton.1 h]; exact HP.out), HO3, HK3⟩, by simp [intOf]; omega⟩
          · exact ⟨⟨j + 1, n, c, A, l, by go_num, rfl, by omega, by omega, HN, HL, HO, HK⟩, by simp [intOf]; omega⟩
        · have hj16 : decide ((j : Int) < 16) = false := by simp; omega
          obtain ⟨j0, hj0⟩ : ∃ j0, j0 = j := ⟨_, rfl⟩
          rw [← hj0] at hj16 hnj hjt hj ⊢
          have hnl16 : n ≤ 16 := by omega
          clear hj0
          obtain ⟨wb, hwb⟩ : ∃ wb, wb = wr := ⟨_, rfl⟩
          rw [← hwb] at HO HK ⊢
          clear hwb
          have HKb := Lib.hid (HKR.out.trans HK.out)
          have HWB := Lib.hid (Nat.le_trans HKR.out.size HK.out.size)
          obtain ⟨nl, hnl⟩ : ∃ nl, nl = n := ⟨_, rfl⟩
          obtain ⟨cl, hcl⟩ : ∃ cl, cl = c := ⟨_, rfl⟩
          obtain ⟨Al, hAl⟩ : ∃ Al, Al = A := ⟨_, rfl⟩
          obtain ⟨ll, hll⟩ : ∃ ll, ll = l := ⟨_, rfl⟩
          rw [← hnl, ← hcl, ← hAl] at HO ⊢
          rw [← hll] at HO HL HN
          rw [← hnl] at HN hnl16
          have HRL := Lib.hid (own_rd HO.out)
          have HLL := HL
          have HNL := HN
          clear hnl hcl hAl hll HO HK HL HN
          go_wp2_with fail
          go_loopw [3, 5] (fun v x wr => ∃ (j n c : Nat) (A : Option Addr) (l : List (Int × Int)), x = .int .i64 (j : Int) ∧ v = .slice A n c ∧ j ≤ 4 ∧ n ≤ j ∧ Hid (l.length = n) ∧ Hid (∀ p ∈ l, Pok p) ∧ Hid (wr.ownsRow wb.heap.size 24 2 (.slice A n c) n (pcI l)) ∧ Hid (Kp [] wb wr)) (fun _ x _ => 4 - (intOf x).toNat)
          case atStart => exact ⟨0, 0, 0, none, [], rfl, rfl, by omega, by omega, Lib.hid rfl, Lib.hid (by simp), Lib.hid (World.ownsRow_nil wb _ _ _), Lib.hid (Kp.refl _ _)⟩
          case round =>
            obtain ⟨j, n, c, A, l, rfl, rfl, hj, hnj, HN, HL, HO, HK⟩ := hrel
            by_cases hjt : j < 4 ∧ k < 16
            · have hj0 : (0 : Int) ≤ (j : Int) := by omega
              have hj1 : (j : Int) ≤ 3 := by omega
              obtain ⟨q, hq⟩ : ∃ q, q = j / 2 := ⟨_, rfl⟩
              obtain ⟨r, hr⟩ : ∃ r, r = j % 2 := ⟨_, rfl⟩
              have hq9 : (j : Int) / 2 = (q : Int) := by omega
              have hr9 : (j : Int) % 2 = (r : Int) := by omega
              have HP := Lib.hid (show Pok ((q : Int), (r : Int)) from Pok.small (by omega) (by omega))
              have HSZ := Lib.hid HK.out.size
              clear hq hr
              have hk16 : (k : Int) ≤ 15 := by omega
              go_wp2_with (at_builtin; go_loud (refine wpList_append_rd rfl (.tmp 52) (.tmp 58) 22 rfl (wb.heap.size) 24 i0 (.agg #[.int .i64 0, .int .i64 0]) 2 16 Try.underlying22 hi hz0 hz1 hz2 rfl (by decide) (.slice A n c) (n) _ rfl (own_kp0 HO.out ((Kp.refl [] _).alloc _)) _ _ 1 1 [.int .i64 (q : Int), .int .i64 (r : Int)] rfl rfl (Rd.new wr #[.int .i64 (q : Int), .int .i64 (r : Int)] 24 (0, 0)) (by intro u hu; simp at hu; rcases hu with rfl | rfl <;> rfl) (by unfold maxLen; omega) (by omega) (by have := HSZ.out; simp; omega) ?_); intro v3 w3 hown3 hgrow3 hat3; obtain ⟨hka3, hga3⟩ := app_facts hgrow3 hat3; obtain ⟨A3', c3', rfl, _⟩ := own_form hown3)
              · have HO3 := Lib.hid (show w3.ownsRow wb.heap.size 24 2 (.slice A3' (n + 1) c3') (n + 1) (pcI (l ++ [((q : Int), (r : Int))])) from by rw [pcI_append]; exact hown3)
                have HK3 := Lib.hid (HK.out.trans' hka3 (fun x hx => .inr (own_ge HO.out (mem_ownL.1 hx)).1))
                exact ⟨⟨j + 1, n + 1, c3', A3', l ++ [((q : Int), (r : Int))], by go_num, rfl, by omega, by omega, Lib.hid (by rw [List.length_append, HN.out]; rfl), Lib.hid (fun p hp => by rcases List.mem_append.1 hp with h | h; exact HL.out p h; rw [List.mem_singleton.1 h]; exact HP.out), HO3, HK3⟩, by simp [intOf]; omega⟩
              · exact ⟨⟨j + 1, n, c, A, l, by go_num, rfl, by omega, by omega, HN, HL, HO, HK⟩, by simp [intOf]; omega⟩
            · have HKw := Lib.hid (HKb.out.trans HK.out)
              have HRL2 := Lib.hid ((HRL.out.kp0 HK.out).bound HK.out.size)
              have HB2 := Lib.hid (show wb.heap.size ≤ wr.heap.size from HK.out.size)
              obtain ⟨a5, ha5⟩ : ∃ a5, a5 = k % 5 := ⟨_, rfl⟩
              obtain ⟨a4, ha4⟩ : ∃ a4, a4 = k % 4 := ⟨_, rfl⟩
              obtain ⟨a7, ha7⟩ : ∃ a7, a7 = k % 7 := ⟨_, rfl⟩
              obtain ⟨a3, ha3⟩ : ∃ a3, a3 = k % 3 := ⟨_, rfl⟩
              obtain ⟨a2, ha2⟩ : ∃ a2, a2 = k % 2 := ⟨_, rfl⟩
              have h5 : (k : Int) % 5 = (a5 : Int) := by omega
              have h4 : (k : Int) % 4 = (a4 : Int) := by omega
              have h7 : (k : Int) % 7 = (a7 : Int) := by omega
              have h3 : (k : Int) % 3 = (a3 : Int) := by omega
              have h2 : (k : Int) % 2 = (a2 : Int) := by omega
              have b5 : a5 ≤ 4 := by omega
              have b4 : a4 ≤ 3 := by omega
              have b7 : a7 ≤ 6 := by omega
              have b3 : a3 ≤ 2 := by omega
              have b2 : a2 ≤ 1 := by omega
              have hs1 : (0 : Int) ≤ (a7 : Int) := by omega
              have hs2 : (a7 : Int) ≤ 6 := by omega
              clear ha5 ha4 ha7 ha3 ha2 HK HKb HRL
              by_cases hkl : k < 16
              · have hj4d : decide ((j : Int) < 4) = false := by simp; omega
                have hk16d : decide ((k : Int) < 16) = true := by simp; omega
                by_cases hz5 : a5 = 0
                · have hb5 : ((a5 : Int) == 0) = true := by simp; omega
                  go_wp2_with fail
                  (with_reducible refine (treeof_any 4 Al nl cl ll (0 : Int) (a4 : Int) ((a7 : Int) - 1) wr HRL2.out HNL.out (by omega) HLL.out (by omega) (by omega) (by omega) (by omega) (by omega) (by omega) (by omega) (by omega)).mono ?_)
                  rintro e w5 ⟨rfl, hk5⟩
                  have HK5 := Lib.hid (HKw.out.trans hk5)
                  have HO5 := Lib.hid (own_kp0 HO.out hk5)
                  have HB5 := Lib.hid (Nat.le_trans HB2.out hk5.size)
                  clear hk5
                  go_wp2_with (at_builtin; go_loud (refine wpList_append_rd_g (by rfl) (.tmp 80) (.tmp 81) 22 rfl wb.heap.size 24 i0 (.agg #[.int .i64 0, .int .i64 0]) 2 16 Try.underlying22 hi hz0 hz1 hz2 rfl (by decide) (.slice A n c) n (pcI l) rfl HO5.out _ A n c (pcI l) rfl (by rw [pcI_len, HN.out]) (own_rd HO5.out) (oc_pcI l) (by unfold maxLen; omega) (by omega) HB5.out ?_); intro v6 w6 hown6 hgrow6 hat6; obtain ⟨A6, c6, rfl, _⟩ := own_form hown6)
                  have HR6 := Lib.hid (show Rd w6 w6.heap.size A6 (pcI (l ++ l)) from by rw [pcI_append]; exact own_rd hown6)
                  have HK6 := Lib.hid (HK5.out.trans' ((Kp.refl _ _).grown hgrow6 (fun x hx => .inl (mem_ownL.2 hx))) (fun x hx => .inr (by have := (own_ge HO5.out (mem_ownL.1 hx)).1; have := HWB.out; omega)))
                  clear hown6 hgrow6 hat6
                  refine (treeof_any 2 A6 (n + n) c6 (l ++ l) (a3 : Int) (a2 : Int) (a3 : Int) w6 HR6.out (by rw [List.length_append, HN.out]) (by omega) (fun p hp => by rcases List.mem_append.1 hp with h | h <;> exact HL.out p h) (by omega) (by omega) (by omega) (by omega) (by omega) (by omega) (by omega) (by omega)).mono ?_
                  rintro e w7 ⟨rfl, hk7⟩
                  have HK7 := Lib.hid (HK6.out.trans hk7)
                  clear hk7
                  go_wp2_with fail
                  exact ⟨⟨k + 1, by go_num, by omega, HK7⟩, by simp [intOf]; omega⟩
                · have hb5 : ((a5 : Int) == 0) = false := by simp; omega
                  obtain ⟨w5, hw5⟩ : ∃ w5, w5 = wr := ⟨_, rfl⟩
                  rw [← hw5] at HKw HO HB2 ⊢
                  have HK5 := HKw
                  have HO5 := HO
                  have HB5 := HB2
                  clear hw5 HKw HO HB2
                  go_wp2_with (at_builtin; go_loud (refine wpList_append_rd_g (by rfl) (.tmp 80) (.tmp 81) 22 rfl wb.heap.size 24 i0 (.agg #[.int .i64 0, .int .i64 0]) 2 16 Try.underlying22 hi hz0 hz1 hz2 rfl (by decide) (.slice A n c) n (pcI l) rfl HO5.out _ A n c (pcI l) rfl (by rw [pcI_len, HN.out]) (own_rd HO5.out) (oc_pcI l) (by unfold maxLen; omega) (by omega) HB5.out ?_); intro v6 w6 hown6 hgrow6 hat6; obtain ⟨A6, c6, rfl, _⟩ := own_form hown6)
                  have HR6 := Lib.hid (show Rd w6 w6.heap.size A6 (pcI (l ++ l)) from by rw [pcI_append]; exact own_rd hown6)
                  have HK6 := Lib.hid (HK5.out.trans' ((Kp.refl _ _).grown hgrow6 (fun x hx => .inl (mem_ownL.2 hx))) (fun x hx => .inr (by have := (own_ge HO5.out (mem_ownL.1 hx)).1; have := HWB.out; omega)))
                  clear hown6 hgrow6 hat6
                  refine (treeof_any 2 A6 (n + n) c6 (l ++ l) (a3 : Int) (a2 : Int) (a3 : Int) w6 HR6.out (by rw [List.length_append, HN.out]) (by omega) (fun p hp => by rcases List.mem_append.1 hp with h | h <;> exact HL.out p h) (by omega) (by omega) (by omega) (by omega) (by omega) (by omega) (by omega) (by omega)).mono ?_
                  rintro e w7 ⟨rfl, hk7⟩
                  have HK7 := Lib.hid (HK6.out.trans hk7)
                  clear hk7
                  go_wp2_with fail
                  exact ⟨⟨k + 1, by go_num, by omega, HK7⟩, by simp [intOf]; omega⟩
              · have hk16d : decide ((k : Int) < 16) = false := by simp; omega
                by_cases hj4 : j < 4
                · have hj4d : decide ((j : Int) < 4) = true := by simp; omega
                  by_cases hz5 : a5 = 0
                  · have hb5 : ((a5 : Int) == 0) = true := by simp; omega
                    go_wp2_with fail
                    (with_reducible refine (treeof_any 4 Al nl cl ll (0 : Int) (a4 : Int) ((a7 : Int) - 1) wr HRL2.out HNL.out (by omega) HLL.out (by omega) (by omega) (by omega) (by omega) (by omega) (by omega) (by omega) (by omega)).mono ?_)
                    rintro e w5 ⟨rfl, hk5⟩
                    have HK5 := Lib.hid (HKw.out.trans hk5)
                    have HO5 := Lib.hid (own_kp0 HO.out hk5)
                    have HB5 := Lib.hid (Nat.le_trans HB2.out hk5.size)
                    clear hk5
                    go_wp2_with fail
                    exact ⟨⟨k + 1, by go_num, by omega, HK5⟩, by simp [intOf]; omega⟩
                  · have hb5 : ((a5 : Int) == 0) = false := by simp; omega
                    obtain ⟨w5, hw5⟩ : ∃ w5, w5 = wr := ⟨_, rfl⟩
                    rw [← hw5] at HKw HO HB2 ⊢
                    have HK5 := HKw
                    have HO5 := HO
                    have HB5 := HB2
                    clear hw5 HKw HO HB2
                    go_wp2_with fail
                    exact ⟨⟨k + 1, by go_num, by omega, HK5⟩, by simp [intOf]; omega⟩
                · have hj4d : decide ((j : Int) < 4) = false := by simp; omega
                  by_cases hz5 : a5 = 0
                  · have hb5 : ((a5 : Int) == 0) = true := by simp; omega
                    go_wp2_with fail
                    (with_reducible refine (treeof_any 4 Al nl cl ll (0 : Int) (a4 : Int) ((a7 : Int) - 1) wr HRL2.out HNL.out (by omega) HLL.out (by omega) (by omega) (by omega) (by omega) (by omega) (by omega) (by omega) (by omega)).mono ?_)
                    rintro e w5 ⟨rfl, hk5⟩
                    have HK5 := Lib.hid (HKw.out.trans hk5)
                    have HO5 := Lib.hid (own_kp0 HO.out hk5)
                    have HB5 := Lib.hid (Nat.le_trans HB2.out hk5.size)
                    clear hk5
                    go_wp2_with fail
                    exact ⟨⟨k + 1, by go_num, by omega, HK5⟩, by simp [intOf]; omega⟩
                  · have hb5 : ((a5 : Int) == 0) = false := by simp; omega
                    obtain ⟨w5, hw5⟩ : ∃ w5, w5 = wr := ⟨_, rfl⟩
                    rw [← hw5] at HKw HO HB2 ⊢
                    have HK5 := HKw
                    have HO5 := HO
                    have HB5 := HB2
                    clear hw5 HKw HO HB2
                    go_wp2_with fail
                    exact ⟨⟨k + 1, by go_num, by omega, HK5⟩, by simp [intOf]; omega⟩
    · have HW := Lib.hid (show Kp [] w wr from HKR.out)
      obtain ⟨w1, hw1⟩ : ∃ w1, w1 = wr := ⟨_, rfl⟩
      rw [← hw1] at HW ⊢
      clear HKR hw1
      have hk4 : decide ((k : Int) < 4096) = false := by simp; omega
      go_wp2_with fail
      clear hk4
      go_loopw [6] (fun x wr => ∃ k : Nat, x = .int .i64 ((k : Int) - 1) ∧ k ≤ 21 ∧ Hid (Kp [] w1 wr)) (fun x _ => 21 - (intOf x + 1).toNat)
      case atStart => exact ⟨0, rfl, by omega, Lib.hid (Kp.refl _ _)⟩
      case round =>
        obtain ⟨y, rfl, hh, HK⟩ := hrel
        by_cases hlt : y < 21
        · skip
          have hd : decide ((y : Int) - 1 < 20) = true := by simp; omega
          have hh1 : (y : Int) ≤ 20 := by omega
          obtain ⟨m, hm⟩ : ∃ m, m = y - 1 := ⟨_, rfl⟩
          have hmx : max ((y : Int) - 1) 0 = (m : Int) := by omega
          have hm0 : (0 : Int) ≤ (m : Int) := by omega
          have hm1 : (m : Int) ≤ 19 := by omega
          have hm19 : m ≤ 19 := by omega
          have hmE : (if (y : Int) - 1 < 0 then 0 else (y : Int) - 1).toNat = m := by split <;> omega
          have HME := Lib.hid hmE
          clear hmE
          obtain ⟨s, hs⟩ : ∃ s, s = 2 ^ m := ⟨_, rfl⟩
          have HSV := Lib.hid (show wrap64 (2 ^ (if (y : Int) - 1 < 0 then 0 else (y : Int) - 1).toNat) = (s : Int) from by
            rw [HME.out, hs]
            have h2 : ((2 : Int) ^ m) = ((2 ^ m : Nat) : Int) := by simp
            have h3 : (2 ^ m : Nat) ≤ 2 ^ 19 := Nat.pow_le_pow_right (by decide) hm19
            rw [h2]
            generalize 2 ^ m = z at h3 ⊢
            clear hs h2 HME hmx
            unfold wrap64
            omega)
          have hs1 : 1 ≤ s := by rw [hs]; exact Nat.one_le_two_pow
          have hs9 : s ≤ 524288 := by rw [hs]; exact Nat.le_trans (Nat.pow_le_pow_right (by decide) hm19) (by decide)
          clear hs hm hmx
          obtain ⟨sm, hsm⟩ : ∃ sm, sm = s - 1 := ⟨_, rfl⟩
          obtain ⟨s2, hs2⟩ : ∃ s2, s2 = s / 2 := ⟨_, rfl⟩
          have hsm9 : (s : Int) - 1 = (sm : Int) := by omega
          have hs29 : (s : Int) / 2 = (s2 : Int) := by omega
          have hs0 : (0 : Int) ≤ (s : Int) := by omega
          have hsm0 : sm ≤ 524287 := by omega
          have hs20 : s2 ≤ 262144 := by omega
          clear HME
          go_upto_region 21 with fail
          all_goals
            rw [HSV.out]
            generalize (if (y : Int) - 1 < 0 then (0 : Int) else (y : Int) - 1) = z9
            clear HSV hsm hs2
            go_wp2_with fail
            have hb := Blk.new wr 24 [.int .i64 0, .int .i64 0, .int .i64 (sm : Int), .int .i64 0, .int .i64 0, .int .i64 (sm : Int), .int .i64 (s2 : Int), .int .i64 (s2 : Int), .int .i64 (sm : Int), .int .i64 (sm : Int)]
            obtain ⟨w2, hw2⟩ : ∃ w2, w2 = wr.alloc (.cells #[.int .i64 0, .int .i64 0, .int .i64 (sm : Int), .int .i64 0, .int .i64 0, .int .i64 (sm : Int), .int .i64 (s2 : Int), .int .i64 (s2 : Int), .int .i64 (sm : Int), .int .i64 (sm : Int)] 24) := ⟨_, rfl⟩
            obtain ⟨g, hg⟩ : ∃ g, g = wr.heap.size := ⟨_, rfl⟩
            have HK2 := Lib.hid (show Kp [] w1 w2 from by rw [hw2]; exact HK.out.alloc _)
            replace hb : Blk w2 g 24 [.int .i64 0, .int .i64 0, .int .i64 (sm : Int), .int .i64 0, .int .i64 0, .int .i64 (sm : Int), .int .i64 (s2 : Int), .int .i64 (s2 : Int), .int .i64 (sm : Int), .int .i64 (sm : Int)] := by rw [hw2, hg]; exact hb
            rw [← hw2, ← hg]
            obtain ⟨l5, hl5⟩ : ∃ l5 : List (Int × Int), l5 = [(0, 0), ((sm : Int), 0), (0, (sm : Int)), ((s2 : Int), (s2 : Int)), ((sm : Int), (sm : Int))] := ⟨_, rfl⟩
            have HL5 := Lib.hid (show l5.length = 5 by rw [hl5]; rfl)
            have HP5 := Lib.hid (show ∀ p ∈ l5, Pok p from by
              rw [hl5]
              intro p hp
              simp only [List.mem_cons, List.not_mem_nil, or_false] at hp
              rcases hp with rfl | rfl | rfl | rfl | rfl <;> constructor <;> constructor <;> simp only <;> omega)
            have HRD := Lib.hid (show Rd w2 w2.heap.size (some ⟨g, 0, none⟩) (pcI l5) from by rw [hl5]; exact hb.rd hb.lt)
            have c0 : w2.cell? ⟨g, 0, none⟩ = some (.int .i64 0) := by rw [hb.cell]; rfl
            have c1 : w2.cell? ⟨g, 1, none⟩ = some (.int .i64 0) := by rw [hb.cell]; rfl
            have c2 : w2.cell? ⟨g, 2, none⟩ = some (.int .i64 (sm : Int)) := by rw [hb.cell]; rfl
            have c3 : w2.cell? ⟨g, 3, none⟩ = some (.int .i64 0) := by rw [hb.cell]; rfl
            have HC125 := Lib.hid (fun w' (hk : Kp [] w2 w') => treeof_any ((s : Int)) (some ⟨g, 0, none⟩) 5 5 l5 ((sm : Int)) (0) ((y : Int) - 1) w' ((HRD.out.kp0 hk).bound hk.size) HL5.out (by omega) HP5.out (by omega) (by omega) (by omega) (by omega) (by omega) (by omega) (by omega) (by omega))
            have HC134 := Lib.hid (fun w' (hk : Kp [] w2 w') => treeof_any ((s : Int) + 1) (some ⟨g, 0, none⟩) 5 5 l5 (0) (0) (0) w' ((HRD.out.kp0 hk).bound hk.size) HL5.out (by omega) HP5.out (by omega) (by omega) (by omega) (by omega) (by omega) (by omega) (by omega) (by omega))
            have HC143 := Lib.hid (fun w' (hk : Kp [] w2 w') => treeof_any ((sm : Int)) none 0 0 [] (0) (0) (0) w' (Rd.nil _ _ _) rfl (by omega) (by simp) (by omega) (by omega) (by omega) (by omega) (by omega) (by omega) (by omega) (by omega))
            have HC156 := Lib.hid (fun (A9 : Option Addr) (c9 : Nat) w' (hr9 : Rd w' w'.heap.size A9 (pcI l5 ++ pcI [_])) => treeof_any ((s : Int)) A9 6 c9 (l5 ++ [(((s : Int)), (0))]) (0) (0) (0) w' (by rw [pcI_append]; exact hr9) (by rw [List.length_append, HL5.out]; rfl) (by omega) (fun p hp => by rcases List.mem_append.1 hp with h | h; exact HP5.out p h; rw [List.mem_singleton.1 h]; constructor <;> constructor <;> simp only <;> omega) (by omega) (by omega) (by omega) (by omega) (by omega) (by omega) (by omega) (by omega))
            have HC168 := Lib.hid (fun (A9 : Option Addr) (c9 : Nat) w' (hr9 : Rd w' w'.heap.size A9 (pcI l5 ++ pcI [_])) => treeof_any ((s : Int)) A9 6 c9 (l5 ++ [((0), (-1))]) (0) (0) (0) w' (by rw [pcI_append]; exact hr9) (by rw [List.length_append, HL5.out]; rfl) (by omega) (fun p hp => by rcases List.mem_append.1 hp with h | h; exact HP5.out p h; rw [List.mem_singleton.1 h]; constructor <;> constructor <;> simp only <;> omega) (by omega) (by omega) (by omega) (by omega) (by omega) (by omega) (by omega) (by omega))
            have HC179 := Lib.hid (fun w' (hk : Kp [] w2 w') => treeof_any (-(s : Int)) none 0 0 [] (-(s : Int)) (1099511627776) (-(s : Int)) w' (Rd.nil _ _ _) rfl (by omega) (by simp) (by omega) (by omega) (by omega) (by omega) (by omega) (by omega) (by omega) (by omega))
            have hq1 : IntKind.i64.wrap ((s : Int) + 1) = (s : Int) + 1 := by rw [IntKind.wrap_i64]; omega
            have hq2 : IntKind.i64.wrap (sm : Int) = (sm : Int) := by rw [IntKind.wrap_i64]; omega
            have hq3 : IntKind.i64.wrap (-(s : Int)) = -(s : Int) := by rw [IntKind.wrap_i64]; omega
            clear hw2 hg hb hl5 HK
            refine wp_region_facts (by kernel_rfl) 260 [119, 120, 121, 122, 123, 124, 125, 126, 127, 128, 129, 130, 131, 132, 133, 134, 135, 136, 137, 138, 139, 140, 141, 142, 143, 144, 145, 146, 147, 148, 149, 150, 151, 152, 153, 154, 155, 156, 157, 158, 159, 160, 161, 162, 163, 164, 165, 166, 167, 168, 169, 170, 171, 172, 173, 174, 175, 176, 177, 178, 179, 180, 181] [[], [], [], [121], [122], [], [119, 120, 123, 124], [125], [126], [127], [128, 127], [127], [127], [131, 127], [132, 127], [129, 130, 133, 127], [134, 127], [127, 135], [136], [137], [138, 137], [137], [140, 137], [141, 137], [139, 142, 137], [143, 137], [137, 144], [145], [146], [146], [146], [149, 146], [150, 146], [148, 151, 146], [146], [153, 146], [154, 146], [147, 152, 155, 146], [156, 146], [146, 157], [158], [159], [159], [159], [162, 159], [161, 163, 159], [159], [165, 159], [166, 159], [160, 164, 167, 159], [168, 159], [159, 169], [170], [171], [172, 171], [171], [174, 171], [175, 171], [171], [177, 171], [173, 176, 178, 171], [179, 171], [171, 180]] (by kernel_rfl) (by kernel_rfl) rfl (factOf [(119, .eq (.int .i64 (s : Int))), (120, .eq (.slice (some ⟨g, 0, none⟩) 5 5)), (121, .eq (.slice (some ⟨g, 0, none⟩) 5 5)), (122, .eq (.pointer (some ⟨g, 2, none⟩))), (123, .eq (.agg #[.int .i64 (sm : Int), .int .i64 0])), (124, .eq (.int .i64 ((y : Int) - 1))), (125, .eq (.bool true)), (126, .eq (.bool false)), (127, .eq (.bool false)), (128, .eq (.int .i64 (s : Int))), (129, .eq (.int .i64 ((s : Int) + 1))), (130, .eq (.slice (some ⟨g, 0, none⟩) 5 5)), (131, .eq (.slice (some ⟨g, 0, none⟩) 5 5)), (132, .eq (.pointer (some ⟨g, 0, none⟩))), (133, .eq (.agg #[.int .i64 0, .int .i64 0])), (134, .eq (.bool true)), (135, .eq (.bool false)), (136, .eq (.bool false)), (137, .eq (.bool false)), (138, .eq (.int .i64 (s : Int))), (139, .eq (.int .i64 (sm : Int))), (140, .eq (.slice (some ⟨g, 0, none⟩) 5 5)), (141, .eq (.pointer (some ⟨g, 0, none⟩))), (142, .eq (.agg #[.int .i64 0, .int .i64 0])), (143, .eq (.bool true)), (144, .eq (.bool false)), (145, .eq (.bool false)), (146, .eq (.bool false)), (147, .eq (.int .i64 (s : Int))), (148, .eq (.slice (some ⟨g, 0, none⟩) 5 5)), (149, .eq (.int .i64 (s : Int))), (150, .eq (.agg #[.int .i64 (s : Int), .int .i64 0])), (151, SFact.vals 1 ([.int .i64 (s : Int), .int .i64 0])), (152, SFact.vals 6 (pcI l5 ++ [.int .i64 (s : Int), .int .i64 0])), (153, .eq (.slice (some ⟨g, 0, none⟩) 5 5)), (154, .eq (.pointer (some ⟨g, 0, none⟩))), (155, .eq (.agg #[.int .i64 0, .int .i64 0])), (156, .eq (.bool true)), (157, .eq (.bool false)), (158, .eq (.bool false)), (159, .eq (.bool false)), (160, .eq (.int .i64 (s : Int))), (161, .eq (.slice (some ⟨g, 0, none⟩) 5 5)), (162, .eq (.agg #[.int .i64 0, .int .i64 (-1)])), (163, SFact.vals 1 ([.int .i64 0, .int .i64 (-1)])), (164, SFact.vals 6 (pcI l5 ++ [.int .i64 0, .int .i64 (-1)])), (165, .eq (.slice (some ⟨g, 0, none⟩) 5 5)), (166, .eq (.pointer (some ⟨g, 0, none⟩))), (167, .eq (.agg #[.int .i64 0, .int .i64 0])), (168, .eq (.bool true)), (169, .eq (.bool false)), (170, .eq (.bool false)), (171, .eq (.bool false)), (172, .eq (.int .i64 (s : Int))), (173, .eq (.int .i64 (-(s : Int)))), (174, .eq (.int .i64 (s : Int))), (175, .eq (.int .i64 (-(s : Int)))), (176, .eq (.agg #[.int .i64 (-(s : Int)), .int .i64 1099511627776])), (177, .eq (.int .i64 (s : Int))), (178, .eq (.int .i64 (-(s : Int)))), (179, .eq (.bool true)), (180, .eq (.bool false)), (181, .eq (.bool false))]) (factOf_stable _) _ (fun x => by simp only [fillL, Nat.reduceAdd, Nat.reduceEqDiff, ↓reduceIte]; rfl) ?_ ?_
            · refine ⟨?_, ?_, ?_, ?_, ?_, ?_, ?_, ?_, ?_, ?_, ?_, ?_, ?_, ?_, ?_, ?_, ?_, ?_, ?_, ?_, ?_, ?_, ?_, ?_, ?_, ?_, ?_, ?_, ?_, ?_, ?_, ?_, ?_, ?_, ?_, ?_, ?_, ?_, ?_, ?_, ?_, ?_, ?_, ?_, ?_, ?_, ?_, ?_, ?_, ?_, ?_, ?_, ?_, ?_, ?_, ?_, ?_, ?_, ?_, ?_, ?_, ?_, ?_, trivial⟩
              · intro fx w' fa hk hd ev  -- 119 = Op.move (Operand.tmp 7)
                have e7 : fa.tmps[7]?.getD undef = .int .i64 (s : Int) := ev.old 7 rfl
                refine stepF_un rfl (fun K hK => ?_)
                exact stepF_val _ hK (run_move rfl e7 _) rfl
              · intro fx w' fa hk hd ev  -- 120 = Op.move (Operand.tmp 8)
                have e8 : fa.tmps[8]?.getD undef = .slice (some ⟨g, 0, none⟩) 5 5 := ev.old 8 rfl
                refine stepF_un rfl (fun K hK => ?_)
                exact stepF_val _ hK (run_move rfl e8 _) rfl
              · intro fx w' fa hk hd ev  -- 121 = Op.move (Operand.tmp 8)
                have e8 : fa.tmps[8]?.getD undef = .slice (some ⟨g, 0, none⟩) 5 5 := ev.old 8 rfl
                refine stepF_un rfl (fun K hK => ?_)
                exact stepF_val _ hK (run_move rfl e8 _) rfl
              · intro fx w' fa hk hd ev  -- 122 = Op.indexAddr 22 (Operand.tmp 121) (Operand.const (Value.int 
                have h121 : fx 121 = .slice (some ⟨g, 0, none⟩) 5 5 := hd.1
                have e121 : fa.tmps[121]?.getD undef = .slice (some ⟨g, 0, none⟩) 5 5 := (ev.new 121 rfl).trans h121
                refine stepF_un rfl (fun K hK => ?_)
                go_simp
                exact hK _ _ rfl (Kp.refl _ _)
              · intro fx w' fa hk hd ev  -- 123 = Op.load 24 (Operand.tmp 122)
                have h122 : fx 122 = .pointer (some ⟨g, 2, none⟩) := hd.1
                have e122 : fa.tmps[122]?.getD undef = .pointer (some ⟨g, 2, none⟩) := (ev.new 122 rfl).trans h122
                refine stepF_un rfl (fun K hK => ?_)
                have x0 := hk.cell c2 (by simp)
                have x1 := hk.cell c3 (by simp)
                go_simp
                exact hK _ _ rfl (Kp.refl _ _)
              · intro fx w' fa hk hd ev  -- 124 = Op.move (Operand.tmp 6)
                have e6 : fa.tmps[6]?.getD undef = .int .i64 ((y : Int) - 1) := ev.old 6 rfl
                refine stepF_un rfl (fun K hK => ?_)
                exact stepF_val _ hK (run_move rfl e6 _) rfl
              · intro fx w' fa hk hd ev  -- 125 = Op.call { callee := Callee.value (Operand.func 3), args := #
                have h119 : fx 119 = .int .i64 (s : Int) := hd.1
                have e119 : fa.tmps[119]?.getD undef = .int .i64 (s : Int) := (ev.new 119 rfl).trans h119
                have h120 : fx 120 = .slice (some ⟨g, 0, none⟩) 5 5 := hd.2.1
                have e120 : fa.tmps[120]?.getD undef = .slice (some ⟨g, 0, none⟩) 5 5 := (ev.new 120 rfl).trans h120
                have h123 : fx 123 = .agg #[.int .i64 (sm : Int), .int .i64 0] := hd.2.2.1
                have e123 : fa.tmps[123]?.getD undef = .agg #[.int .i64 (sm : Int), .int .i64 0] := (ev.new 123 rfl).trans h123
                have h124 : fx 124 = .int .i64 ((y : Int) - 1) := hd.2.2.2.1
                have e124 : fa.tmps[124]?.getD undef = .int .i64 ((y : Int) - 1) := (ev.new 124 rfl).trans h124
                refine stepF_un rfl (fun K hK => ?_)
                go_simp
                (with_reducible refine (HC125.out w' hk).mono ?_)
                rintro e w1 ⟨rfl, hk1⟩
                exact hK _ _ rfl hk1
              · intro fx w' fa hk hd ev  -- 126 = Op.unOp UnOp.not 4 (Operand.tmp 125)
                have h125 : fx 125 = .bool true := hd.1
                have e125 : fa.tmps[125]?.getD undef = .bool true := (ev.new 125 rfl).trans h125
                refine stepF_un rfl (fun K hK => ?_)
                go_simp
                exact hK _ _ rfl (Kp.refl _ _)
              · intro fx w' fa hk hd ev  -- 127 = Op.move (Operand.tmp 126)
                have h126 : fx 126 = .bool false := hd.1
                have e126 : fa.tmps[126]?.getD undef = .bool false := (ev.new 126 rfl).trans h126
                refine stepF_un rfl (fun K hK => ?_)
                exact stepF_val _ hK (run_move rfl e126 _) rfl
              · intro fx w' fa hk hd ev  -- 128 = Op.move (Operand.tmp 7)
                have h127 : fx 127 = .bool false := hd.1
                have e127 : fa.tmps[127]?.getD undef = .bool false := (ev.new 127 rfl).trans h127
                have e7 : fa.tmps[7]?.getD undef = .int .i64 (s : Int) := ev.old 7 rfl
                refine stepF_yes (i := 8) (g := 127) (b := false) rfl rfl rfl e127 (fun K hK => ?_)
                exact stepF_val _ hK (run_move rfl e7 _) rfl
              · intro fx w' fa hk hd ev  -- 129 = Op.binOp BinOp.add 3 (Operand.tmp 128) (Operand.const (Value
                have h128 : fx 128 = .int .i64 (s : Int) := hd.1
                have e128 : fa.tmps[128]?.getD undef = .int .i64 (s : Int) := (ev.new 128 rfl).trans h128
                have h127 : fx 127 = .bool false := hd.2.1
                have e127 : fa.tmps[127]?.getD undef = .bool false := (ev.new 127 rfl).trans h127
                refine stepF_yes (i := 8) (g := 127) (b := false) rfl rfl rfl e127 (fun K hK => ?_)
                go_simp
                exact hK _ _ rfl (Kp.refl _ _)
              · intro fx w' fa hk hd ev  -- 130 = Op.move (Operand.tmp 8)
                have h127 : fx 127 = .bool false := hd.1
                have e127 : fa.tmps[127]?.getD undef = .bool false := (ev.new 127 rfl).trans h127
                have e8 : fa.tmps[8]?.getD undef = .slice (some ⟨g, 0, none⟩) 5 5 := ev.old 8 rfl
                refine stepF_yes (i := 8) (g := 127) (b := false) rfl rfl rfl e127 (fun K hK => ?_)
                exact stepF_val _ hK (run_move rfl e8 _) rfl
              · intro fx w' fa hk hd ev  -- 131 = Op.move (Operand.tmp 8)
                have h127 : fx 127 = .bool false := hd.1
                have e127 : fa.tmps[127]?.getD undef = .bool false := (ev.new 127 rfl).trans h127
                have e8 : fa.tmps[8]?.getD undef = .slice (some ⟨g, 0, none⟩) 5 5 := ev.old 8 rfl
                refine stepF_yes (i := 8) (g := 127) (b := false) rfl rfl rfl e127 (fun K hK => ?_)
                exact stepF_val _ hK (run_move rfl e8 _) rfl
              · intro fx w' fa hk hd ev  -- 132 = Op.indexAddr 22 (Operand.tmp 131) (Operand.const (Value.int 
                have h131 : fx 131 = .slice (some ⟨g, 0, none⟩) 5 5 := hd.1
                have e131 : fa.tmps[131]?.getD undef = .slice (some ⟨g, 0, none⟩) 5 5 := (ev.new 131 rfl).trans h131
                have h127 : fx 127 = .bool false := hd.2.1
                have e127 : fa.tmps[127]?.getD undef = .bool false := (ev.new 127 rfl).trans h127
                refine stepF_yes (i := 8) (g := 127) (b := false) rfl rfl rfl e127 (fun K hK => ?_)
                go_simp
                exact hK _ _ rfl (Kp.refl _ _)
              · intro fx w' fa hk hd ev  -- 133 = Op.load 24 (Operand.tmp 132)
                have h132 : fx 132 = .pointer (some ⟨g, 0, none⟩) := hd.1
                have e132 : fa.tmps[132]?.getD undef = .pointer (some ⟨g, 0, none⟩) := (ev.new 132 rfl).trans h132
                have h127 : fx 127 = .bool false := hd.2.1
                have e127 : fa.tmps[127]?.getD undef = .bool false := (ev.new 127 rfl).trans h127
                refine stepF_yes (i := 8) (g := 127) (b := false) rfl rfl rfl e127 (fun K hK => ?_)
                have x0 := hk.cell c0 (by simp)
                have x1 := hk.cell c1 (by simp)
                go_simp
                exact hK _ _ rfl (Kp.refl _ _)
              · intro fx w' fa hk hd ev  -- 134 = Op.call { callee := Callee.value (Operand.func 3), args := #
                have h129 : fx 129 = .int .i64 ((s : Int) + 1) := hd.1
                have e129 : fa.tmps[129]?.getD undef = .int .i64 ((s : Int) + 1) := (ev.new 129 rfl).trans h129
                have h130 : fx 130 = .slice (some ⟨g, 0, none⟩) 5 5 := hd.2.1
                have e130 : fa.tmps[130]?.getD undef = .slice (some ⟨g, 0, none⟩) 5 5 := (ev.new 130 rfl).trans h130
                have h133 : fx 133 = .agg #[.int .i64 0, .int .i64 0] := hd.2.2.1
                have e133 : fa.tmps[133]?.getD undef = .agg #[.int .i64 0, .int .i64 0] := (ev.new 133 rfl).trans h133
                have h127 : fx 127 = .bool false := hd.2.2.2.1
                have e127 : fa.tmps[127]?.getD undef = .bool false := (ev.new 127 rfl).trans h127
                refine stepF_yes (i := 8) (g := 127) (b := false) rfl rfl rfl e127 (fun K hK => ?_)
                go_simp
                (with_reducible refine (HC134.out w' hk).mono ?_)
                rintro e w1 ⟨rfl, hk1⟩
                exact hK _ _ rfl hk1
              · intro fx w' fa hk hd ev  -- 135 = Op.unOp UnOp.not 4 (Operand.tmp 134)
                have h134 : fx 134 = .bool true := hd.1
                have e134 : fa.tmps[134]?.getD undef = .bool true := (ev.new 134 rfl).trans h134
                have h127 : fx 127 = .bool false := hd.2.1
                have e127 : fa.tmps[127]?.getD undef = .bool false := (ev.new 127 rfl).trans h127
                refine stepF_yes (i := 8) (g := 127) (b := false) rfl rfl rfl e127 (fun K hK => ?_)
                go_simp
                exact hK _ _ rfl (Kp.refl _ _)
              · intro fx w' fa hk hd ev  -- 136 = Op.pick (Operand.tmp 127) (Operand.const (Value.bool true)) 
                have h127 : fx 127 = .bool false := hd.1
                have e127 : fa.tmps[127]?.getD undef = .bool false := (ev.new 127 rfl).trans h127
                have h135 : fx 135 = .bool false := hd.2.1
                have e135 : fa.tmps[135]?.getD undef = .bool false := (ev.new 135 rfl).trans h135
                refine stepF_un rfl (fun K hK => ?_)
                go_simp
                exact hK _ _ rfl (Kp.refl _ _)
              · intro fx w' fa hk hd ev  -- 137 = Op.move (Operand.tmp 136)
                have h136 : fx 136 = .bool false := hd.1
                have e136 : fa.tmps[136]?.getD undef = .bool false := (ev.new 136 rfl).trans h136
                refine stepF_un rfl (fun K hK => ?_)
                exact stepF_val _ hK (run_move rfl e136 _) rfl
              · intro fx w' fa hk hd ev  -- 138 = Op.move (Operand.tmp 7)
                have h137 : fx 137 = .bool false := hd.1
                have e137 : fa.tmps[137]?.getD undef = .bool false := (ev.new 137 rfl).trans h137
                have e7 : fa.tmps[7]?.getD undef = .int .i64 (s : Int) := ev.old 7 rfl
                refine stepF_yes (i := 18) (g := 137) (b := false) rfl rfl rfl e137 (fun K hK => ?_)
                exact stepF_val _ hK (run_move rfl e7 _) rfl
              · intro fx w' fa hk hd ev  -- 139 = Op.binOp BinOp.sub 3 (Operand.tmp 138) (Operand.const (Value
                have h138 : fx 138 = .int .i64 (s : Int) := hd.1
                have e138 : fa.tmps[138]?.getD undef = .int .i64 (s : Int) := (ev.new 138 rfl).trans h138
                have h137 : fx 137 = .bool false := hd.2.1
                have e137 : fa.tmps[137]?.getD undef = .bool false := (ev.new 137 rfl).trans h137
                refine stepF_yes (i := 18) (g := 137) (b := false) rfl rfl rfl e137 (fun K hK => ?_)
                go_simp
                exact hK _ _ rfl (Kp.refl _ _)
              · intro fx w' fa hk hd ev  -- 140 = Op.move (Operand.tmp 8)
                have h137 : fx 137 = .bool false := hd.1
                have e137 : fa.tmps[137]?.getD undef = .bool false := (ev.new 137 rfl).trans h137
                have e8 : fa.tmps[8]?.getD undef = .slice (some ⟨g, 0, none⟩) 5 5 := ev.old 8 rfl
                refine stepF_yes (i := 18) (g := 137) (b := false) rfl rfl rfl e137 (fun K hK => ?_)
                exact stepF_val _ hK (run_move rfl e8 _) rfl
              · intro fx w' fa hk hd ev  -- 141 = Op.indexAddr 22 (Operand.tmp 140) (Operand.const (Value.int 
                have h140 : fx 140 = .slice (some ⟨g, 0, none⟩) 5 5 := hd.1
                have e140 : fa.tmps[140]?.getD undef = .slice (some ⟨g, 0, none⟩) 5 5 := (ev.new 140 rfl).trans h140
                have h137 : fx 137 = .bool false := hd.2.1
                have e137 : fa.tmps[137]?.getD undef = .bool false := (ev.new 137 rfl).trans h137
                refine stepF_yes (i := 18) (g := 137) (b := false) rfl rfl rfl e137 (fun K hK => ?_)
                go_simp
                exact hK _ _ rfl (Kp.refl _ _)
              · intro fx w' fa hk hd ev  -- 142 = Op.load 24 (Operand.tmp 141)
                have h141 : fx 141 = .pointer (some ⟨g, 0, none⟩) := hd.1
                have e141 : fa.tmps[141]?.getD undef = .pointer (some ⟨g, 0, none⟩) := (ev.new 141 rfl).trans h141
                have h137 : fx 137 = .bool false := hd.2.1
                have e137 : fa.tmps[137]?.getD undef = .bool false := (ev.new 137 rfl).trans h137
                refine stepF_yes (i := 18) (g := 137) (b := false) rfl rfl rfl e137 (fun K hK => ?_)
                have x0 := hk.cell c0 (by simp)
                have x1 := hk.cell c1 (by simp)
                go_simp
                exact hK _ _ rfl (Kp.refl _ _)
              · intro fx w' fa hk hd ev  -- 143 = Op.call { callee := Callee.value (Operand.func 3), args := #
                have h139 : fx 139 = .int .i64 (sm : Int) := hd.1
                have e139 : fa.tmps[139]?.getD undef = .int .i64 (sm : Int) := (ev.new 139 rfl).trans h139
                have h142 : fx 142 = .agg #[.int .i64 0, .int .i64 0] := hd.2.1
                have e142 : fa.tmps[142]?.getD undef = .agg #[.int .i64 0, .int .i64 0] := (ev.new 142 rfl).trans h142
                have h137 : fx 137 = .bool false := hd.2.2.1
                have e137 : fa.tmps[137]?.getD undef = .bool false := (ev.new 137 rfl).trans h137
                refine stepF_yes (i := 18) (g := 137) (b := false) rfl rfl rfl e137 (fun K hK => ?_)
                go_simp
                (with_reducible refine (HC143.out w' hk).mono ?_)
                rintro e w1 ⟨rfl, hk1⟩
                exact hK _ _ rfl hk1
              · intro fx w' fa hk hd ev  -- 144 = Op.unOp UnOp.not 4 (Operand.tmp 143)
                have h143 : fx 143 = .bool true := hd.1
                have e143 : fa.tmps[143]?.getD undef = .bool true := (ev.new 143 rfl).trans h143
                have h137 : fx 137 = .bool false := hd.2.1
                have e137 : fa.tmps[137]?.getD undef = .bool false := (ev.new 137 rfl).trans h137
                refine stepF_yes (i := 18) (g := 137) (b := false) rfl rfl rfl e137 (fun K hK => ?_)
                go_simp
                exact hK _ _ rfl (Kp.refl _ _)
              · intro fx w' fa hk hd ev  -- 145 = Op.pick (Operand.tmp 137) (Operand.const (Value.bool true)) 
                have h137 : fx 137 = .bool false := hd.1
                have e137 : fa.tmps[137]?.getD undef = .bool false := (ev.new 137 rfl).trans h137
                have h144 : fx 144 = .bool false := hd.2.1
                have e144 : fa.tmps[144]?.getD undef = .bool false := (ev.new 144 rfl).trans h144
                refine stepF_un rfl (fun K hK => ?_)
                go_simp
                exact hK _ _ rfl (Kp.refl _ _)
              · intro fx w' fa hk hd ev  -- 146 = Op.move (Operand.tmp 145)
                have h145 : fx 145 = .bool false := hd.1
                have e145 : fa.tmps[145]?.getD undef = .bool false := (ev.new 145 rfl).trans h145
                refine stepF_un rfl (fun K hK => ?_)
                exact stepF_val _ hK (run_move rfl e145 _) rfl
              · intro fx w' fa hk hd ev  -- 147 = Op.move (Operand.tmp 7)
                have h146 : fx 146 = .bool false := hd.1
                have e146 : fa.tmps[146]?.getD undef = .bool false := (ev.new 146 rfl).trans h146
                have e7 : fa.tmps[7]?.getD undef = .int .i64 (s : Int) := ev.old 7 rfl
                refine stepF_yes (i := 27) (g := 146) (b := false) rfl rfl rfl e146 (fun K hK => ?_)
                exact stepF_val _ hK (run_move rfl e7 _) rfl
              · intro fx w' fa hk hd ev  -- 148 = Op.move (Operand.tmp 8)
                have h146 : fx 146 = .bool false := hd.1
                have e146 : fa.tmps[146]?.getD undef = .bool false := (ev.new 146 rfl).trans h146
                have e8 : fa.tmps[8]?.getD undef = .slice (some ⟨g, 0, none⟩) 5 5 := ev.old 8 rfl
                refine stepF_yes (i := 27) (g := 146) (b := false) rfl rfl rfl e146 (fun K hK => ?_)
                exact stepF_val _ hK (run_move rfl e8 _) rfl
              · intro fx w' fa hk hd ev  -- 149 = Op.move (Operand.tmp 7)
                have h146 : fx 146 = .bool false := hd.1
                have e146 : fa.tmps[146]?.getD undef = .bool false := (ev.new 146 rfl).trans h146
                have e7 : fa.tmps[7]?.getD undef = .int .i64 (s : Int) := ev.old 7 rfl
                refine stepF_yes (i := 27) (g := 146) (b := false) rfl rfl rfl e146 (fun K hK => ?_)
                exact stepF_val _ hK (run_move rfl e7 _) rfl
              · intro fx w' fa hk hd ev  -- 150 = Op.build 24 #[(0, Operand.tmp 149)]
                have h149 : fx 149 = .int .i64 (s : Int) := hd.1
                have e149 : fa.tmps[149]?.getD undef = .int .i64 (s : Int) := (ev.new 149 rfl).trans h149
                have h146 : fx 146 = .bool false := hd.2.1
                have e146 : fa.tmps[146]?.getD undef = .bool false := (ev.new 146 rfl).trans h146
                refine stepF_yes (i := 27) (g := 146) (b := false) rfl rfl rfl e146 (fun K hK => ?_)
                go_simp
                exact hK _ _ rfl (Kp.refl _ _)
              · intro fx w' fa hk hd ev  -- 151 = Op.buildSlice 22 1 #[(0, Operand.tmp 150)]
                have h150 : fx 150 = .agg #[.int .i64 (s : Int), .int .i64 0] := hd.1
                have e150 : fa.tmps[150]?.getD undef = .agg #[.int .i64 (s : Int), .int .i64 0] := (ev.new 150 rfl).trans h150
                have h146 : fx 146 = .bool false := hd.2.1
                have e146 : fa.tmps[146]?.getD undef = .bool false := (ev.new 146 rfl).trans h146
                refine stepF_yes (i := 27) (g := 146) (b := false) rfl rfl rfl e146 (fun K hK => ?_)
                go_simp
                exact hK _ _ (vals_new w' ([.int .i64 (s : Int), .int .i64 0]) 24 1) ((Kp.refl _ _).alloc _)
              · intro fx w' fa hk hd ev  -- 152 = Op.call { callee := Callee.builtin Builtin.append, args := #
                have h148 : fx 148 = .slice (some ⟨g, 0, none⟩) 5 5 := hd.1
                have e148 : fa.tmps[148]?.getD undef = .slice (some ⟨g, 0, none⟩) 5 5 := (ev.new 148 rfl).trans h148
                have h151 : (SFact.vals 1 ([.int .i64 (s : Int), .int .i64 0]) : SFact).p (fx 151) w' := hd.2.1
                obtain ⟨A151, c151, v151, hc151, hr151⟩ := h151
                have e151 : fa.tmps[151]?.getD undef = .slice A151 1 c151 := (ev.new 151 rfl).trans v151
                have h146 : fx 146 = .bool false := hd.2.2.1
                have e146 : fa.tmps[146]?.getD undef = .bool false := (ev.new 146 rfl).trans h146
                refine stepF_yes (i := 27) (g := 146) (b := false) rfl rfl rfl e146 (fun K hK => ?_)
                obtain ⟨ad151, rfl⟩ := (show ∃ ad, A151 = some ad from by obtain ⟨ad, h, _⟩ := hr151.at_ (i := 0) rfl; exact ⟨ad, h⟩)
                exact wp_append_full_rd hK 148 151 22 rfl 24 i0 (.agg #[.int .i64 0, .int .i64 0]) 2 16 Try.underlying22 hi hz0 hz1 hz2 rfl (by decide) ⟨g, 0, none⟩ 5 5 _ _ (pcI l5) [.int .i64 (s : Int), .int .i64 0] e148 (by rw [pcI_len, HL5.out]) (HRD.out.kp0 hk) ad151 1 c151 e151 rfl hr151 (by decide) (by decide) (by decide) (fun v' w'' h _ => vals_of_own h)
              · intro fx w' fa hk hd ev  -- 153 = Op.move (Operand.tmp 8)
                have h146 : fx 146 = .bool false := hd.1
                have e146 : fa.tmps[146]?.getD undef = .bool false := (ev.new 146 rfl).trans h146
                have e8 : fa.tmps[8]?.getD undef = .slice (some ⟨g, 0, none⟩) 5 5 := ev.old 8 rfl
                refine stepF_yes (i := 27) (g := 146) (b := false) rfl rfl rfl e146 (fun K hK => ?_)
                exact stepF_val _ hK (run_move rfl e8 _) rfl
              · intro fx w' fa hk hd ev  -- 154 = Op.indexAddr 22 (Operand.tmp 153) (Operand.const (Value.int 
                have h153 : fx 153 = .slice (some ⟨g, 0, none⟩) 5 5 := hd.1
                have e153 : fa.tmps[153]?.getD undef = .slice (some ⟨g, 0, none⟩) 5 5 := (ev.new 153 rfl).trans h153
                have h146 : fx 146 = .bool false := hd.2.1
                have e146 : fa.tmps[146]?.getD undef = .bool false := (ev.new 146 rfl).trans h146
                refine stepF_yes (i := 27) (g := 146) (b := false) rfl rfl rfl e146 (fun K hK => ?_)
                go_simp
                exact hK _ _ rfl (Kp.refl _ _)
              · intro fx w' fa hk hd ev  -- 155 = Op.load 24 (Operand.tmp 154)
                have h154 : fx 154 = .pointer (some ⟨g, 0, none⟩) := hd.1
                have e154 : fa.tmps[154]?.getD undef = .pointer (some ⟨g, 0, none⟩) := (ev.new 154 rfl).trans h154
                have h146 : fx 146 = .bool false := hd.2.1
                have e146 : fa.tmps[146]?.getD undef = .bool false := (ev.new 146 rfl).trans h146
                refine stepF_yes (i := 27) (g := 146) (b := false) rfl rfl rfl e146 (fun K hK => ?_)
                have x0 := hk.cell c0 (by simp)
                have x1 := hk.cell c1 (by simp)
                go_simp
                exact hK _ _ rfl (Kp.refl _ _)
              · intro fx w' fa hk hd ev  -- 156 = Op.call { callee := Callee.value (Operand.func 3), args := #
                have h147 : fx 147 = .int .i64 (s : Int) := hd.1
                have e147 : fa.tmps[147]?.getD undef = .int .i64 (s : Int) := (ev.new 147 rfl).trans h147
                have h152 : (SFact.vals 6 (pcI l5 ++ [.int .i64 (s : Int), .int .i64 0]) : SFact).p (fx 152) w' := hd.2.1
                obtain ⟨A152, c152, v152, hc152, hr152⟩ := h152
                have e152 : fa.tmps[152]?.getD undef = .slice A152 6 c152 := (ev.new 152 rfl).trans v152
                have h155 : fx 155 = .agg #[.int .i64 0, .int .i64 0] := hd.2.2.1
                have e155 : fa.tmps[155]?.getD undef = .agg #[.int .i64 0, .int .i64 0] := (ev.new 155 rfl).trans h155
                have h146 : fx 146 = .bool false := hd.2.2.2.1
                have e146 : fa.tmps[146]?.getD undef = .bool false := (ev.new 146 rfl).trans h146
                refine stepF_yes (i := 27) (g := 146) (b := false) rfl rfl rfl e146 (fun K hK => ?_)
                go_simp
                (with_reducible refine (HC156.out A152 c152 w' (by rw [pcI_one]; exact hr152)).mono ?_)
                rintro e w1 ⟨rfl, hk1⟩
                exact hK _ _ rfl hk1
              · intro fx w' fa hk hd ev  -- 157 = Op.unOp UnOp.not 4 (Operand.tmp 156)
                have h156 : fx 156 = .bool true := hd.1
                have e156 : fa.tmps[156]?.getD undef = .bool true := (ev.new 156 rfl).trans h156
                have h146 : fx 146 = .bool false := hd.2.1
                have e146 : fa.tmps[146]?.getD undef = .bool false := (ev.new 146 rfl).trans h146
                refine stepF_yes (i := 27) (g := 146) (b := false) rfl rfl rfl e146 (fun K hK => ?_)
                go_simp
                exact hK _ _ rfl (Kp.refl _ _)
              · intro fx w' fa hk hd ev  -- 158 = Op.pick (Operand.tmp 146) (Operand.const (Value.bool true)) 
                have h146 : fx 146 = .bool false := hd.1
                have e146 : fa.tmps[146]?.getD undef = .bool false := (ev.new 146 rfl).trans h146
                have h157 : fx 157 = .bool false := hd.2.1
                have e157 : fa.tmps[157]?.getD undef = .bool false := (ev.new 157 rfl).trans h157
                refine stepF_un rfl (fun K hK => ?_)
                go_simp
                exact hK _ _ rfl (Kp.refl _ _)
              · intro fx w' fa hk hd ev  -- 159 = Op.move (Operand.tmp 158)
                have h158 : fx 158 = .bool false := hd.1
                have e158 : fa.tmps[158]?.getD undef = .bool false := (ev.new 158 rfl).trans h158
                refine stepF_un rfl (fun K hK => ?_)
                exact stepF_val _ hK (run_move rfl e158 _) rfl
              · intro fx w' fa hk hd ev  -- 160 = Op.move (Operand.tmp 7)
                have h159 : fx 159 = .bool false := hd.1
                have e159 : fa.tmps[159]?.getD undef = .bool false := (ev.new 159 rfl).trans h159
                have e7 : fa.tmps[7]?.getD undef = .int .i64 (s : Int) := ev.old 7 rfl
                refine stepF_yes (i := 40) (g := 159) (b := false) rfl rfl rfl e159 (fun K hK => ?_)
                exact stepF_val _ hK (run_move rfl e7 _) rfl
              · intro fx w' fa hk hd ev  -- 161 = Op.move (Operand.tmp 8)
                have h159 : fx 159 = .bool false := hd.1
                have e159 : fa.tmps[159]?.getD undef = .bool false := (ev.new 159 rfl).trans h159
                have e8 : fa.tmps[8]?.getD undef = .slice (some ⟨g, 0, none⟩) 5 5 := ev.old 8 rfl
                refine stepF_yes (i := 40) (g := 159) (b := false) rfl rfl rfl e159 (fun K hK => ?_)
                exact stepF_val _ hK (run_move rfl e8 _) rfl
              · intro fx w' fa hk hd ev  -- 162 = Op.build 24 #[(1, Operand.const (Value.int IntKind.i64 (-1))
                have h159 : fx 159 = .bool false := hd.1
                have e159 : fa.tmps[159]?.getD undef = .bool false := (ev.new 159 rfl).trans h159
                refine stepF_yes (i := 40) (g := 159) (b := false) rfl rfl rfl e159 (fun K hK => ?_)
                go_simp
                exact hK _ _ rfl (Kp.refl _ _)
              · intro fx w' fa hk hd ev  -- 163 = Op.buildSlice 22 1 #[(0, Operand.tmp 162)]
                have h162 : fx 162 = .agg #[.int .i64 0, .int .i64 (-1)] := hd.1
                have e162 : fa.tmps[162]?.getD undef = .agg #[.int .i64 0, .int .i64 (-1)] := (ev.new 162 rfl).trans h162
                have h159 : fx 159 = .bool false := hd.2.1
                have e159 : fa.tmps[159]?.getD undef = .bool false := (ev.new 159 rfl).trans h159
                refine stepF_yes (i := 40) (g := 159) (b := false) rfl rfl rfl e159 (fun K hK => ?_)
                go_simp
                exact hK _ _ (vals_new w' ([.int .i64 0, .int .i64 (-1)]) 24 1) ((Kp.refl _ _).alloc _)
              · intro fx w' fa hk hd ev  -- 164 = Op.call { callee := Callee.builtin Builtin.append, args := #
                have h161 : fx 161 = .slice (some ⟨g, 0, none⟩) 5 5 := hd.1
                have e161 : fa.tmps[161]?.getD undef = .slice (some ⟨g, 0, none⟩) 5 5 := (ev.new 161 rfl).trans h161
                have h163 : (SFact.vals 1 ([.int .i64 0, .int .i64 (-1)]) : SFact).p (fx 163) w' := hd.2.1
                obtain ⟨A163, c163, v163, hc163, hr163⟩ := h163
                have e163 : fa.tmps[163]?.getD undef = .slice A163 1 c163 := (ev.new 163 rfl).trans v163
                have h159 : fx 159 = .bool false := hd.2.2.1
                have e159 : fa.tmps[159]?.getD undef = .bool false := (ev.new 159 rfl).trans h159
                refine stepF_yes (i := 40) (g := 159) (b := false) rfl rfl rfl e159 (fun K hK => ?_)
                obtain ⟨ad163, rfl⟩ := (show ∃ ad, A163 = some ad from by obtain ⟨ad, h, _⟩ := hr163.at_ (i := 0) rfl; exact ⟨ad, h⟩)
                exact wp_append_full_rd hK 161 163 22 rfl 24 i0 (.agg #[.int .i64 0, .int .i64 0]) 2 16 Try.underlying22 hi hz0 hz1 hz2 rfl (by decide) ⟨g, 0, none⟩ 5 5 _ _ (pcI l5) [.int .i64 0, .int .i64 (-1)] e161 (by rw [pcI_len, HL5.out]) (HRD.out.kp0 hk) ad163 1 c163 e163 rfl hr163 (by decide) (by decide) (by decide) (fun v' w'' h _ => vals_of_own h)
              · intro fx w' fa hk hd ev  -- 165 = Op.move (Operand.tmp 8)
                have h159 : fx 159 = .bool false := hd.1
                have e159 : fa.tmps[159]?.getD undef = .bool false := (ev.new 159 rfl).trans h159
                have e8 : fa.tmps[8]?.getD undef = .slice (some ⟨g, 0, none⟩) 5 5 := ev.old 8 rfl
                refine stepF_yes (i := 40) (g := 159) (b := false) rfl rfl rfl e159 (fun K hK => ?_)
                exact stepF_val _ hK (run_move rfl e8 _) rfl
              · intro fx w' fa hk hd ev  -- 166 = Op.indexAddr 22 (Operand.tmp 165) (Operand.const (Value.int 
                have h165 : fx 165 = .slice (some ⟨g, 0, none⟩) 5 5 := hd.1
                have e165 : fa.tmps[165]?.getD undef = .slice (some ⟨g, 0, none⟩) 5 5 := (ev.new 165 rfl).trans h165
                have h159 : fx 159 = .bool false := hd.2.1
                have e159 : fa.tmps[159]?.getD undef = .bool false := (ev.new 159 rfl).trans h159
                refine stepF_yes (i := 40) (g := 159) (b := false) rfl rfl rfl e159 (fun K hK => ?_)
                go_simp
                exact hK _ _ rfl (Kp.refl _ _)
              · intro fx w' fa hk hd ev  -- 167 = Op.load 24 (Operand.tmp 166)
                have h166 : fx 166 = .pointer (some ⟨g, 0, none⟩) := hd.1
                have e166 : fa.tmps[166]?.getD undef = .pointer (some ⟨g, 0, none⟩) := (ev.new 166 rfl).trans h166
                have h159 : fx 159 = .bool false := hd.2.1
                have e159 : fa.tmps[159]?.getD undef = .bool false := (ev.new 159 rfl).trans h159
                refine stepF_yes (i := 40) (g := 159) (b := false) rfl rfl rfl e159 (fun K hK => ?_)
                have x0 := hk.cell c0 (by simp)
                have x1 := hk.cell c1 (by simp)
                go_simp
                exact hK _ _ rfl (Kp.refl _ _)
              · intro fx w' fa hk hd ev  -- 168 = Op.call { callee := Callee.value (Operand.func 3), args := #
                have h160 : fx 160 = .int .i64 (s : Int) := hd.1
                have e160 : fa.tmps[160]?.getD undef = .int .i64 (s : Int) := (ev.new 160 rfl).trans h160
                have h164 : (SFact.vals 6 (pcI l5 ++ [.int .i64 0, .int .i64 (-1)]) : SFact).p (fx 164) w' := hd.2.1
                obtain ⟨A164, c164, v164, hc164, hr164⟩ := h164
                have e164 : fa.tmps[164]?.getD undef = .slice A164 6 c164 := (ev.new 164 rfl).trans v164
                have h167 : fx 167 = .agg #[.int .i64 0, .int .i64 0] := hd.2.2.1
                have e167 : fa.tmps[167]?.getD undef = .agg #[.int .i64 0, .int .i64 0] := (ev.new 167 rfl).trans h167
                have h159 : fx 159 = .bool false := hd.2.2.2.1
                have e159 : fa.tmps[159]?.getD undef = .bool false := (ev.new 159 rfl).trans h159
                refine stepF_yes (i := 40) (g := 159) (b := false) rfl rfl rfl e159 (fun K hK => ?_)
                go_simp
                (with_reducible refine (HC168.out A164 c164 w' (by rw [pcI_one]; exact hr164)).mono ?_)
                rintro e w1 ⟨rfl, hk1⟩
                exact hK _ _ rfl hk1
              · intro fx w' fa hk hd ev  -- 169 = Op.unOp UnOp.not 4 (Operand.tmp 168)
                have h168 : fx 168 = .bool true := hd.1
                have e168 : fa.tmps[168]?.getD undef = .bool true := (ev.new 168 rfl).trans h168
                have h159 : fx 159 = .bool false := hd.2.1
                have e159 : fa.tmps[159]?.getD undef = .bool false := (ev.new 159 rfl).trans h159
                refine stepF_yes (i := 40) (g := 159) (b := false) rfl rfl rfl e159 (fun K hK => ?_)
                go_simp
                exact hK _ _ rfl (Kp.refl _ _)
              · intro fx w' fa hk hd ev  -- 170 = Op.pick (Operand.tmp 159) (Operand.const (Value.bool true)) 
                have h159 : fx 159 = .bool false := hd.1
                have e159 : fa.tmps[159]?.getD undef = .bool false := (ev.new 159 rfl).trans h159
                have h169 : fx 169 = .bool false := hd.2.1
                have e169 : fa.tmps[169]?.getD undef = .bool false := (ev.new 169 rfl).trans h169
                refine stepF_un rfl (fun K hK => ?_)
                go_simp
                exact hK _ _ rfl (Kp.refl _ _)
              · intro fx w' fa hk hd ev  -- 171 = Op.move (Operand.tmp 170)
                have h170 : fx 170 = .bool false := hd.1
                have e170 : fa.tmps[170]?.getD undef = .bool false := (ev.new 170 rfl).trans h170
                refine stepF_un rfl (fun K hK => ?_)
                exact stepF_val _ hK (run_move rfl e170 _) rfl
              · intro fx w' fa hk hd ev  -- 172 = Op.move (Operand.tmp 7)
                have h171 : fx 171 = .bool false := hd.1
                have e171 : fa.tmps[171]?.getD undef = .bool false := (ev.new 171 rfl).trans h171
                have e7 : fa.tmps[7]?.getD undef = .int .i64 (s : Int) := ev.old 7 rfl
                refine stepF_yes (i := 52) (g := 171) (b := false) rfl rfl rfl e171 (fun K hK => ?_)
                exact stepF_val _ hK (run_move rfl e7 _) rfl
              · intro fx w' fa hk hd ev  -- 173 = Op.unOp UnOp.neg 3 (Operand.tmp 172)
                have h172 : fx 172 = .int .i64 (s : Int) := hd.1
                have e172 : fa.tmps[172]?.getD undef = .int .i64 (s : Int) := (ev.new 172 rfl).trans h172
                have h171 : fx 171 = .bool false := hd.2.1
                have e171 : fa.tmps[171]?.getD undef = .bool false := (ev.new 171 rfl).trans h171
                refine stepF_yes (i := 52) (g := 171) (b := false) rfl rfl rfl e171 (fun K hK => ?_)
                go_simp
                exact hK _ _ rfl (Kp.refl _ _)
              · intro fx w' fa hk hd ev  -- 174 = Op.move (Operand.tmp 7)
                have h171 : fx 171 = .bool false := hd.1
                have e171 : fa.tmps[171]?.getD undef = .bool false := (ev.new 171 rfl).trans h171
                have e7 : fa.tmps[7]?.getD undef = .int .i64 (s : Int) := ev.old 7 rfl
                refine stepF_yes (i := 52) (g := 171) (b := false) rfl rfl rfl e171 (fun K hK => ?_)
                exact stepF_val _ hK (run_move rfl e7 _) rfl
              · intro fx w' fa hk hd ev  -- 175 = Op.unOp UnOp.neg 3 (Operand.tmp 174)
                have h174 : fx 174 = .int .i64 (s : Int) := hd.1
                have e174 : fa.tmps[174]?.getD undef = .int .i64 (s : Int) := (ev.new 174 rfl).trans h174
                have h171 : fx 171 = .bool false := hd.2.1
                have e171 : fa.tmps[171]?.getD undef = .bool false := (ev.new 171 rfl).trans h171
                refine stepF_yes (i := 52) (g := 171) (b := false) rfl rfl rfl e171 (fun K hK => ?_)
                go_simp
                exact hK _ _ rfl (Kp.refl _ _)
              · intro fx w' fa hk hd ev  -- 176 = Op.build 24 #[(0, Operand.tmp 175), (1, Operand.const (Value
                have h175 : fx 175 = .int .i64 (-(s : Int)) := hd.1
                have e175 : fa.tmps[175]?.getD undef = .int .i64 (-(s : Int)) := (ev.new 175 rfl).trans h175
                have h171 : fx 171 = .bool false := hd.2.1
                have e171 : fa.tmps[171]?.getD undef = .bool false := (ev.new 171 rfl).trans h171
                refine stepF_yes (i := 52) (g := 171) (b := false) rfl rfl rfl e171 (fun K hK => ?_)
                go_simp
                exact hK _ _ rfl (Kp.refl _ _)
              · intro fx w' fa hk hd ev  -- 177 = Op.move (Operand.tmp 7)
                have h171 : fx 171 = .bool false := hd.1
                have e171 : fa.tmps[171]?.getD undef = .bool false := (ev.new 171 rfl).trans h171
                have e7 : fa.tmps[7]?.getD undef = .int .i64 (s : Int) := ev.old 7 rfl
                refine stepF_yes (i := 52) (g := 171) (b := false) rfl rfl rfl e171 (fun K hK => ?_)
                exact stepF_val _ hK (run_move rfl e7 _) rfl
              · intro fx w' fa hk hd ev  -- 178 = Op.unOp UnOp.neg 3 (Operand.tmp 177)
                have h177 : fx 177 = .int .i64 (s : Int) := hd.1
                have e177 : fa.tmps[177]?.getD undef = .int .i64 (s : Int) := (ev.new 177 rfl).trans h177
                have h171 : fx 171 = .bool false := hd.2.1
                have e171 : fa.tmps[171]?.getD undef = .bool false := (ev.new 171 rfl).trans h171
                refine stepF_yes (i := 52) (g := 171) (b := false) rfl rfl rfl e171 (fun K hK => ?_)
                go_simp
                exact hK _ _ rfl (Kp.refl _ _)
              · intro fx w' fa hk hd ev  -- 179 = Op.call { callee := Callee.value (Operand.func 3), args := #
                have h173 : fx 173 = .int .i64 (-(s : Int)) := hd.1
                have e173 : fa.tmps[173]?.getD undef = .int .i64 (-(s : Int)) := (ev.new 173 rfl).trans h173
                have h176 : fx 176 = .agg #[.int .i64 (-(s : Int)), .int .i64 1099511627776] := hd.2.1
                have e176 : fa.tmps[176]?.getD undef = .agg #[.int .i64 (-(s : Int)), .int .i64 1099511627776] := (ev.new 176 rfl).trans h176
                have h178 : fx 178 = .int .i64 (-(s : Int)) := hd.2.2.1
                have e178 : fa.tmps[178]?.getD undef = .int .i64 (-(s : Int)) := (ev.new 178 rfl).trans h178
                have h171 : fx 171 = .bool false := hd.2.2.2.1
                have e171 : fa.tmps[171]?.getD undef = .bool false := (ev.new 171 rfl).trans h171
                refine stepF_yes (i := 52) (g := 171) (b := false) rfl rfl rfl e171 (fun K hK => ?_)
                go_simp
                (with_reducible refine (HC179.out w' hk).mono ?_)
                rintro e w1 ⟨rfl, hk1⟩
                exact hK _ _ rfl hk1
              · intro fx w' fa hk hd ev  -- 180 = Op.unOp UnOp.not 4 (Operand.tmp 179)
                have h179 : fx 179 = .bool true := hd.1
                have e179 : fa.tmps[179]?.getD undef = .bool true := (ev.new 179 rfl).trans h179
                have h171 : fx 171 = .bool false := hd.2.1
                have e171 : fa.tmps[171]?.getD undef = .bool false := (ev.new 171 rfl).trans h171
                refine stepF_yes (i := 52) (g := 171) (b := false) rfl rfl rfl e171 (fun K hK => ?_)
                go_simp
                exact hK _ _ rfl (Kp.refl _ _)
              · intro fx w' fa hk hd ev  -- 181 = Op.pick (Operand.tmp 171) (Operand.const (Value.bool true)) 
                have h171 : fx 171 = .bool false := hd.1
                have e171 : fa.tmps[171]?.getD undef = .bool false := (ev.new 171 rfl).trans h171
                have h180 : fx 180 = .bool false := hd.2.1
                have e180 : fa.tmps[180]?.getD undef = .bool false := (ev.new 180 rfl).trans h180
                refine stepF_un rfl (fun K hK => ?_)
                go_simp
                exact hK _ _ rfl (Kp.refl _ _)
            · intro fx w' hk hd
              have h181 : fx 181 = .bool false := hd.2.2.2.2.2.2.2.2.2.2.2.2.2.2.2.2.2.2.2.2.2.2.2.2.2.2.2.2.2.2.2.2.2.2.2.2.2.2.2.2.2.2.2.2.2.2.2.2.2.2.2.2.2.2.2.2.2.2.2.2.2.2.1
              rw [h181]
              have HK3 := Lib.hid (HK2.out.trans hk)
              clear hk hd
              go_wp2_with fail
              exact ⟨⟨y + 1, by go_num, by omega, HK3⟩, by simp [intOf]; omega⟩
        · have hd : decide ((y : Int) - 1 < 20) = false := by simp; omega
          have HW1 := Lib.hid (HW.out.trans HK.out)
          clear HW HK
          go_wp2_with fail
          have hA := ((Blk.new wr 24 [.int .i64 1, .int .i64 2]).alloc (.cells #[.int .i64 0, .int .i64 0, .int .i64 3, .int .i64 3, .int .i64 2, .int .i64 1] 24)).alloc (.cells #[.slice none 0 0, .slice (some ⟨wr.heap.size, 0, none⟩) 1 1, .slice (some ⟨wr.heap.size + 1, 0, none⟩) 3 3] 22)
          have hB := (Blk.new (wr.alloc (.cells #[.int .i64 1, .int .i64 2] 24)) 24 [.int .i64 0, .int .i64 0, .int .i64 3, .int .i64 3, .int .i64 2, .int .i64 1]).alloc (.cells #[.slice none 0 0, .slice (some ⟨wr.heap.size, 0, none⟩) 1 1, .slice (some ⟨wr.heap.size + 1, 0, none⟩) 3 3] 22)
          have hC := Blk.new ((wr.alloc (.cells #[.int .i64 1, .int .i64 2] 24)).alloc (.cells #[.int .i64 0, .int .i64 0, .int .i64 3, .int .i64 3, .int .i64 2, .int .i64 1] 24)) 22 [.slice none 0 0, .slice (some ⟨wr.heap.size, 0, none⟩) 1 1, .slice (some ⟨wr.heap.size + 1, 0, none⟩) 3 3]
          have hk3 : Kp [] wr (((wr.alloc (.cells #[.int .i64 1, .int .i64 2] 24)).alloc (.cells #[.int .i64 0, .int .i64 0, .int .i64 3, .int .i64 3, .int .i64 2, .int .i64 1] 24)).alloc (.cells #[.slice none 0 0, .slice (some ⟨wr.heap.size, 0, none⟩) 1 1, .slice (some ⟨wr.heap.size + 1, 0, none⟩) 3 3] 22)) := (((Kp.refl _ _).alloc _).alloc _).alloc _
          obtain ⟨w3, hw3⟩ : ∃ w3, w3 = ((wr.alloc (.cells #[.int .i64 1, .int .i64 2] 24)).alloc (.cells #[.int .i64 0, .int .i64 0, .int .i64 3, .int .i64 3, .int .i64 2, .int .i64 1] 24)).alloc (.cells #[.slice none 0 0, .slice (some ⟨wr.heap.size, 0, none⟩) 1 1, .slice (some ⟨wr.heap.size + 1, 0, none⟩) 3 3] 22) := ⟨_, rfl⟩
          rw [← hw3] at hk3 ⊢
          replace hA : Blk w3 wr.heap.size 24 [.int .i64 1, .int .i64 2] := by rw [hw3]; exact hA
          replace hB : Blk w3 (wr.heap.size + 1) 24 [.int .i64 0, .int .i64 0, .int .i64 3, .int .i64 3, .int .i64 2, .int .i64 1] := by rw [hw3]; simpa using hB
          replace hC : Blk w3 (wr.heap.size + 1 + 1) 22 [.slice none 0 0, .slice (some ⟨wr.heap.size, 0, none⟩) 1 1, .slice (some ⟨wr.heap.size + 1, 0, none⟩) 3 3] := by rw [hw3]; simpa using hC
          obtain ⟨gc, hgc⟩ : ∃ gc, gc = wr.heap.size + 1 + 1 := ⟨_, rfl⟩
          rw [← hgc] at hC ⊢
          have HROW := Lib.hid (show ∀ w', Kp [] w3 w' → ∀ i, i < 3 → ∃ (Ai : Option Addr) (ni ci : Nat) (m : List (Nat × Nat)), w'.cell? ⟨gc, i, none⟩ = some (.slice Ai ni ci) ∧ Rd w' w3.heap.size Ai (pc m) ∧ m.length = ni ∧ ni ≤ 3 ∧ ∀ p ∈ m, p.1 < 2 ^ 2 ∧ p.2 < 2 ^ 2 from by
            intro w' hk i hi
            have hc := hC.kp0 hk
            rcases (show i = 0 ∨ i = 1 ∨ i = 2 by omega) with rfl | rfl | rfl
            · exact ⟨none, 0, 0, [], by rw [hc.cell]; rfl, Rd.nil _ _ _, rfl, by omega, by simp⟩
            · exact ⟨_, 1, 1, [(1, 2)], by rw [hc.cell]; rfl, (hA.rd hA.lt).kp0 hk, rfl, by omega, by decide⟩
            · exact ⟨_, 3, 3, [(0, 0), (3, 3), (2, 1)], by rw [hc.cell]; rfl, (hB.rd hB.lt).kp0 hk, rfl, by omega, by decide⟩)
          have HW3 := Lib.hid (HW1.out.trans hk3)
          clear hw3 hA hB hC hk3 hgc HW1 hd
          go_loopw [10] (fun x wr => ∃ i : Nat, x = .int .i64 (i : Int) ∧ i ≤ 3 ∧ Hid (Kp [] w3 wr)) (fun x _ => 3 - (intOf x).toNat)
          case atStart => exact ⟨0, rfl, by omega, Lib.hid (Kp.refl _ _)⟩
          case round =>
            obtain ⟨i, rfl, hi3, HKR⟩ := hrel
            by_cases hlt : i < 3
            · have hid : decide ((i : Int) < 3) = true := by simp; omega
              have hi0 : (0 : Int) ≤ (i : Int) := by omega
              have hi1 : (i : Int) < 3 := by omega
              obtain ⟨Ai, ni, ci, m, hcell, hrd, hml, hn3, hm⟩ := HROW.out wr HKR.out i hlt
              have HRD := Lib.hid (show Rd wr w3.heap.size Ai (pcI (m.map upI)) from by rw [← pc_I]; exact hrd)
              have HML := Lib.hid hml
              have HM := Lib.hid hm
              clear hrd hml hm
              go_wp2_with fail
              refine (pairs_any Ai ni ci w3.heap.size (m.map upI) wr HRD.out HKR.out.size (by rw [List.length_map]; exact HML.out) (by omega)).mono ?_
              rintro e wa ⟨Ao, co, rfl, hop, hka⟩
              have HOP := Lib.hid (own_rd hop)
              have HKA := Lib.hid (HKR.out.trans hka)
              clear hop hka HRD hcell
              go_wp2_with fail
              have hof := rof_ok 2 ni co wa.heap.size Ao m wa (by omega) (by omega) (by rw [pc_I]; exact HOP.out) (Nat.le_refl _) HML.out (by omega) HM.out
              rw [show ((2 ^ 2 : Nat) : Int) = 4 from rfl] at hof
              refine hof.mono ?_
              rintro e wb ⟨p, Lp, rfl, hrt, hnd, hmem, hkb⟩
              have hbl : (levL 2 [Lp]).length ≤ 48 := by
                rw [lev_same 2 (same_one hmem)]
                exact Nat.le_trans (levL_len 3 2 [m] (by simp) (by simp [HML.out]; omega)) (by omega)
              have HRT := Lib.hid hrt
              have HKB := Lib.hid (HKA.out.trans hkb)
              obtain ⟨bs, hbs⟩ : ∃ bs, bs = levL 2 [Lp] := ⟨_, rfl⟩
              rw [← hbs] at HRT hbl
              clear hof hrt hnd hmem hkb hbs HOP HKA HML HM
              go_wp2_with fail
              refine (rtbytes_any _ p 2 Lp bs wb HRT.out (by omega) (by omega)).mono ?_
              rintro e wc ⟨Ab, L, cb, hL, rfl, hob, hkc⟩
              obtain ⟨tb, htb⟩ : ∃ tb, tb = treeB 2 bs := ⟨_, rfl⟩
              have HTB := Lib.hid (show ∀ y ∈ tb, 0 ≤ y ∧ y ≤ 255 from fun y hy => by rw [htb] at hy; have := treeB_range (h := 2) (by omega) y hy; omega)
              have HTL := Lib.hid (show tb.length = L by rw [htb, hL]; unfold treeB headB; simp [bytesN]; omega)
              rw [← htb] at hob
              obtain ⟨_, _, hv9, hcb, _, hA9, _⟩ := own_form hob
              injection hv9 with e1 e2 e3
              subst e1 e3
              have hL5 : 5 ≤ L := by omega
              have hLb : L ≤ 11 := by omega
              obtain ⟨ad, rfl⟩ : ∃ ad, Ab = some ad := by
                cases Ab with
                | none => have := (hA9 rfl).1; omega
                | some ad => exact ⟨ad, rfl⟩
              have HRB := Lib.hid (own_rd hob)
              have HKC := Lib.hid (HKB.out.trans hkc)
              clear hob hkc htb hL hA9 HRT HKB hbl
              go_wp2_with fail
              go_loopw [14] (fun x wr => ∃ k : Nat, x = .int .i64 (k : Int) ∧ k ≤ L + 1 ∧ Hid (Kp [] wc wr)) (fun x _ => L + 1 - (intOf x).toNat)
              case atStart => exact ⟨0, rfl, by omega, Lib.hid (Kp.refl _ _)⟩
              case round =>
                obtain ⟨k, rfl, hkL, HK⟩ := hrel
                by_cases hlt : k ≤ L
                · have hkd : decide ((k : Int) ≤ (L : Int)) = true := by simp; omega
                  have hkc : k ≤ cb := by omega
                  have hk0 : (0 : Int) ≤ (k : Int) := by omega
                  have HR := Lib.hid (show Rd wr wr.heap.size (some ad) ((tb.take k).map (.int .u8)) from by rw [List.map_take]; exact ((HRB.out.kp0 HK.out).bound HK.out.size).take k)
                  have HTK := Lib.hid (show (tb.take k).length = k by rw [List.length_take, HTL.out]; omega)
                  have HTKB := Lib.hid (show ∀ y ∈ tb.take k, 0 ≤ y ∧ y ≤ 255 from fun y hy => HTB.out y (List.mem_of_mem_take hy))
                  go_wp2_with fail
                  refine (treadsI_any (some ad) k cb (tb.take k) 1 2 1 wr HR.out HTK.out (by omega) HTKB.out (by omega) (by omega) (by omega) (by omega) (by omega) (by omega)).mono ?_
                  rintro e w4 ⟨rfl, hk4⟩
                  have HK4 := Lib.hid (HK.out.trans hk4)
                  have HR4 := Lib.hid ((HR.out.kp0 hk4).kp0 ((Kp.refl [] _).alloc (.cells #[.int .u8 0, .int .u8 1] 5)))
                  clear hk4
                  go_wp2_with (at_builtin; go_loud (refine wpList_append_full (by rfl) (.tmp 222) (.tmp 223) 38 rfl 5 iu (.int .u8 0) 1 1 Try.underlying38 hu hu0 hu1 hu2 rfl (by decide) ad k k _ _ ((tb.take k).map (.int .u8)) [.int .u8 0, .int .u8 1] rfl (by rw [List.length_map, HTK.out, Nat.mul_one]) HR4.out ⟨w4.heap.size, 0, none⟩ 2 2 rfl rfl (Rd.new w4 #[.int .u8 0, .int .u8 1] 5 (0, 0)) (by omega) (by unfold maxLen; omega) (by omega) ?_); intro v5 w5 hown5 hk5; obtain ⟨A5, c5, rfl, hc5, _⟩ := own_form hown5)
                  have HK5 := Lib.hid ((HK4.out.alloc _).trans hk5)
                  have HR5 := Lib.hid (show Rd w5 w5.heap.size A5 ((tb.take k ++ [0, 1]).map (.int .u8)) from by rw [List.map_append]; exact own_rd hown5)
                  clear hown5 hk5
                  refine (treadsI_any A5 (k + 2) c5 (tb.take k ++ [0, 1]) 0 0 0 w5 HR5.out (by rw [List.length_append, HTK.out]; rfl) (by omega) (fun z hz => by rcases List.mem_append.1 hz with h | h; exact HTKB.out z h; simp at h; omega) (by omega) (by omega) (by omega) (by omega) (by omega) (by omega)).mono ?_
                  rintro e w6 ⟨rfl, hk6⟩
                  have HK6 := Lib.hid (HK5.out.trans hk6)
                  clear hk6 HK HK4 HK5 HR HR4 HR5 hc5
                  go_wp2_with fail
                  go_loopw [15] (fun x wr => ∃ n : Nat, x = .int .i64 (n : Int) ∧ n ≤ 8 ∧ Hid (Kp [] wc wr)) (fun x _ => 8 - (intOf x).toNat)
                  case atStart => exact ⟨0, rfl, by omega, HK6⟩
                  case round =>
                    clear HK6
                    obtain ⟨n, rfl, hn8, HK⟩ := hrel
                    by_cases hlt : n < 8 ∧ k < L
                    · have hnd : decide ((n : Int) < 8) = true := by simp; omega
                      have hkd2 : decide ((k : Int) < (L : Int)) = true := by simp; omega
                      have hn0 : (0 : Int) ≤ (n : Int) := by omega
                      have hn1 : (n : Int) ≤ 7 := by omega
                      have hkL1 : k < L := hlt.2
                      have HRA := Lib.hid (show Rd (wr.alloc (.cells #[] 5)) _ (some ad) (tb.map (.int .u8)) from ((HRB.out.kp0 HK.out).bound HK.out.size).kp0 ((Kp.refl [] _).alloc _))
                      go_wp2_with (at_builtin; go_loud (refine wpList_append_rd rfl (.tmp 239) (.tmp 240) 38 rfl wr.heap.size 5 iu (.int .u8 0) 1 1 Try.underlying38 hu hu0 hu1 hu2 rfl (by decide) (.slice (some ⟨wr.heap.size, 0, none⟩) 0 0) 0 [] rfl (own_nil2 wr wr.heap.size _ 1 (Nat.le_refl _)) _ _ L cb (tb.map (.int .u8)) rfl (by rw [List.length_map, HTL.out, Nat.mul_one]) HRA.out (oc_ints _ _) (by unfold maxLen; omega) (by omega) (by simp) ?_); intro v7 w7 hown7 hgrow7 hat7)
                      rw [Nat.zero_add, List.nil_append] at hown7
                      have hka := (((Kp.refl [] wr).alloc (.cells #[] 5)).grown hgrow7 (fun x hx => .inr (by simp [Value.ownBlock] at hx; omega)))
                      have HK7 := Lib.hid (HK.out.trans hka)
                      rcases own_blk hown7 with ⟨hv, hz, _⟩ | ⟨g, cap, rest, hv, _, hb, hn7, hm7, hl7, _⟩
                      · omega
                      subst hv
                      have HGE := Lib.hid (show wc.heap.size ≤ g from by have := (own_ge hown7 (g := g) rfl).1; have := HK.out.size; omega)
                      obtain ⟨x, hx⟩ : ∃ x, tb[k]? = some x := ⟨_, List.getElem?_eq_getElem (by have := HTL.out; omega)⟩
                      have hxr := HTB.out x (List.mem_of_getElem? hx)
                      have hcx : w7.cell? ⟨g, k, none⟩ = some (.int .u8 x) := by
                        rw [hb.cell, List.getElem?_append_left (by rw [List.length_map, HTL.out]; omega), List.getElem?_map, hx]
                        rfl
                      have hfr := hb.free k
                      have HB7 := Lib.hid hb
                      clear hown7 hgrow7 hat7 hka hb hx HRA HK
                      go_region
                      obtain ⟨z, hz⟩ : ∃ z, z = bits .xor .u8 x (2 ^ n % 256) := ⟨_, rfl⟩
                      have hz9 := bits_u8 .xor x (2 ^ n % 256)
                      rw [← hz] at hz9 ⊢
                      clear hz
                      go_wp2_with fail
                      have hb8 := (HB7.out.set_ k (.int .u8 z)).drew
                      have HK8 := Lib.hid (show Kp [] wc (w7.setCell ⟨g, k, none⟩ (.int .u8 z)).drew from (HK7.out.setCell (p := ⟨g, k, none⟩) (.inr HGE.out) _).drew)
                      obtain ⟨w8, hw8⟩ : ∃ w8, w8 = (w7.setCell ⟨g, k, none⟩ (.int .u8 z)).drew := ⟨_, rfl⟩
                      rw [← hw8] at hb8 HK8 ⊢
                      have HR8 := Lib.hid (show Rd w8 w8.heap.size (some ⟨g, 0, none⟩) ((tb.set k z).map (.int .u8)) from by
                        have h9 := (hb8.rd hb8.lt).take L
                        rw [List.set_append_left _ _ (by rw [List.length_map, HTL.out]; omega), List.take_append_of_le_length (by rw [List.length_set, List.length_map, HTL.out]; exact Nat.le_refl _), List.take_of_length_le (by rw [List.length_set, List.length_map, HTL.out]; exact Nat.le_refl _)] at h9
                        rw [List.map_set]
                        exact h9)
                      clear hb8 hw8 hcx hfr HB7 HK7
                      refine (treadsI_any (some ⟨g, 0, none⟩) L cap (tb.set k z) 3 3 2 w8 HR8.out (by rw [List.length_set, HTL.out]) hn7 (fun u hu => by rcases List.mem_or_eq_of_mem_set hu with h | h; exact HTB.out u h; rw [h]; exact hz9) (by omega) (by omega) (by omega) (by omega) (by omega) (by omega)).mono ?_
                      rintro e w9 ⟨rfl, hk9⟩
                      have HK9 := Lib.hid (HK8.out.trans hk9)
                      clear hk9
                      go_wp2_with fail
                      exact ⟨⟨n + 1, by go_num, by omega, HK9⟩, by simp [intOf]; omega⟩
                    · by_cases hn : n < 8
                      · have hnd : decide ((n : Int) < 8) = true := by simp; omega
                        have hkd2 : decide (k < L) = false := by simp; omega
                        clear hlt
                        go_wp2_with fail
                        exact ⟨⟨k + 1, by go_num, by omega, HK⟩, by simp [intOf]; omega⟩
                      · have hnd : decide ((n : Int) < 8) = false := by simp; omega
                        clear hlt
                        go_wp2_with fail
                        exact ⟨⟨k + 1, by go_num, by omega, HK⟩, by simp [intOf]; omega⟩
                · have hkd : decide ((k : Int) ≤ (L : Int)) = false := by simp; omega
                  have HKE := Lib.hid (HKC.out.trans HK.out)
                  go_wp2_with fail
                  exact ⟨⟨i + 1, by go_num, by omega, HKE⟩, by simp [intOf]; omega⟩
            · have hid : decide ((i : Int) < 3) = false := by simp; omega
              have HKE := Lib.hid (HW3.out.trans HKR.out)
              go_wp2_with fail
              refine (tnone_any wr).mono ?_
              rintro e w5 ⟨rfl, hk5⟩
              have HK5 := Lib.hid (HKE.out.trans hk5)
              clear hk5
              go_wp2_with fail
              refine (tawake_any w5).mono ?_
              rintro e w6 ⟨rfl, hk6⟩
              have HK6 := Lib.hid (HK5.out.trans hk6)
              clear hk6
              go_wp2_with fail
              go_ret
              exact ⟨rfl, HK6.out⟩
end Go.Proofs.Ytldmabkilgpgcaa
