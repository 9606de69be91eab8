/-
  LAYER 15 (tree): levels.
  LAYER 15 (tree): levels, the walk.
  CONDITIONS: as each lemma says.
-/
import Derived.Test.YtldmabkilgpgcaaQ05
import Derived.Deep.DeepCutAuto
namespace Go.Proofs.Ytldmabkilgpgcaa
open Go.RowKit

theorem app_facts {w w2 : World} {o : Obj} {v v' : Value} (hg : (w.alloc o).grownBy w2 v.ownBlock) (hat : v'.ownBlock = v.ownBlock ∨ v'.ownBlock = some (w.alloc o).heap.size) : Kp (ownL v) w w2 ∧ ∀ x ∈ ownL v', x ∈ ownL v ∨ w.heap.size ≤ x :=
  ⟨((Kp.refl _ w).alloc o).grown hg (fun _ hb => .inl (mem_ownL.2 hb)), own_new hat⟩
theorem Try.info_gpairs : (Try.prog.info? 22).map (fun i => (i.zero, i.size, i.bytes)) = some (some (.slice none 0 0), 1, 24) := by kernel_rfl
theorem Try.info_gbool : (Try.prog.info? 4).map (fun i => (i.zero, i.size, i.bytes)) = some (some (.bool false), 1, 1) := by kernel_rfl
/-- A row that lies apart from some blocks. -/
def RF (w : World) (F : List Nat) (A : Option Addr) (xs : List Value) : Prop := Rd w w.heap.size A xs ∧ ∀ ad, A = some ad → xs ≠ [] → ad.block ∉ F
theorem RF.step {w w' : World} {S F F' : List Nat} {A : Option Addr} {xs : List Value} (h : RF w F A xs) (hk : Kp S w w') (hS : ∀ x ∈ S, x ∈ F) (hF : ∀ x ∈ F', x ∈ F ∨ w.heap.size ≤ x) : RF w' F' A xs := by
  obtain ⟨h1, h2⟩ := h
  rcases xs with _ | ⟨x, l⟩
  · exact ⟨Rd.nil _ _ _, fun _ _ h => absurd rfl h⟩
  · have hne : x :: l ≠ [] := List.cons_ne_nil _ _
    refine ⟨(h1.kp_ne hk (fun ad ha hm => h2 ad ha hne (hS _ hm))).bound hk.size, fun ad ha _ hm => ?_⟩
    rcases hF _ hm with h | h
    · exact h2 ad ha hne h
    · obtain ⟨ad', e, _, hl⟩ := h1.lt hne
      rw [ha] at e
      injection e with e
      subst e
      omega
/-- The squares' rows. -/
def SqE (w : World) (F : List Nat) (sq : List (List (Nat × Nat))) (vs : List Value) : Prop := vs.length = sq.length ∧ ∀ (i : Nat) (l : List (Nat × Nat)), sq[i]? = some l → ∃ (Ai : Option Addr) (ci : Nat), vs[i]? = some (Value.slice Ai l.length ci) ∧ RF w F Ai (pc l)
theorem SqE.step {w w' : World} {S F F' : List Nat} {sq : List (List (Nat × Nat))} {vs : List Value} (h : SqE w F sq vs) (hk : Kp S w w') (hS : ∀ x ∈ S, x ∈ F) (hF : ∀ x ∈ F', x ∈ F ∨ w.heap.size ≤ x) : SqE w' F' sq vs :=
  ⟨h.1, fun i l hi => by obtain ⟨Ai, ci, h1, h2⟩ := h.2 i l hi; exact ⟨Ai, ci, h1, h2.step hk hS hF⟩⟩
theorem SqE.snoc {w : World} {F : List Nat} {sq : List (List (Nat × Nat))} {vs : List Value} {l : List (Nat × Nat)} {A : Option Addr} {n c : Nat} (h : SqE w F sq vs) (hl : l.length = n) (hr : RF w F A (pc l)) : SqE w F (sq ++ [l]) (vs ++ [Value.slice A n c]) := by
  refine ⟨by rw [List.length_append, List.length_append, h.1]; rfl, fun i m hi => ?_⟩
  by_cases hlt : i < sq.length
  · rw [List.getElem?_append_left hlt] at hi
    rw [List.getElem?_append_left (by rw [h.1]; exact hlt)]
    exact h.2 i m hi
  · rw [List.getElem?_append_right (by omega)] at hi
    rw [List.getElem?_append_right (by rw [h.1]; omega), h.1]
    rcases Nat.eq_zero_or_pos (i - sq.length) with h0 | h0
    · rw [h0] at hi ⊢
      simp only [List.getElem?_cons_zero, Option.some.injEq] at hi
      subst hi
      exact ⟨A, c, by rw [hl]; rfl, hr⟩
    · rw [List.getElem?_eq_none (by simp; omega)] at hi
      cases hi
/-- A slice of squares. -/
def SqV (w : World) (F : List Nat) (A : Option Addr) (sq : List (List (Nat × Nat))) : Prop := ∃ vs, RF w F A vs ∧ SqE w F sq vs
theorem SqV.step {w w' : World} {S F F' : List Nat} {A : Option Addr} {sq : List (List (Nat × Nat))} (h : SqV w F A sq) (hk : Kp S w w') (hS : ∀ x ∈ S, x ∈ F) (hF : ∀ x ∈ F', x ∈ F ∨ w.heap.size ≤ x) : SqV w' F' A sq := by
  obtain ⟨vs, h1, h2⟩ := h
  exact ⟨vs, h1.step hk hS hF, h2.step hk hS hF⟩
theorem SqV.kp0 {w w' : World} {F : List Nat} {A : Option Addr} {sq : List (List (Nat × Nat))} (h : SqV w F A sq) (hk : Kp [] w w') : SqV w' F A sq := h.step hk (by simp) (fun _ h => .inl h)
theorem SqV.at_ {w : World} {F : List Nat} {A : Option Addr} {sq : List (List (Nat × Nat))} (h : SqV w F A sq) {i : Nat} {l : List (Nat × Nat)} (hi : sq[i]? = some l) : ∃ ad Ai ci, A = some ad ∧ w.cell? (ad.add i) = some (.slice Ai l.length ci) ∧ RF w F Ai (pc l) := by
  obtain ⟨vs, h1, h2⟩ := h
  obtain ⟨Ai, ci, h3, h4⟩ := h2.2 i l hi
  obtain ⟨ad, e, _, hc⟩ := h1.1 i _ h3
  exact ⟨ad, Ai, ci, e, hc, h4⟩
/-- The bits and the next squares, as far as they are made. -/
def LevS (w : World) (base : Nat) (vo vn : Value) (no nn : Nat) (bs : List Bool) (nx : List (List (Nat × Nat))) : Prop :=
  w.ownsRow base 4 1 vo no (bs.map .bool) ∧ (∀ b ∈ ownL vo, b ∉ ownL vn) ∧ nx.length = nn ∧ ∃ vs, w.ownsRow base 22 1 vn nn vs ∧ SqE w (ownL vo ++ ownL vn) nx vs
theorem LevS.kp0 {w w' : World} {base : Nat} {vo vn : Value} {no nn : Nat} {bs : List Bool} {nx : List (List (Nat × Nat))} (h : LevS w base vo vn no nn bs nx) (hk : Kp [] w w') : LevS w' base vo vn no nn bs nx := by
  obtain ⟨h1, h2, h3, vs, h4, h5⟩ := h
  exact ⟨own_kp0 h1 hk, h2, h3, vs, own_kp0 h4 hk, h5.step hk (by simp) (fun _ h => .inl h)⟩
theorem LevS.o {w : World} {base : Nat} {vo vn : Value} {no nn : Nat} {bs : List Bool} {nx : List (List (Nat × Nat))} (h : LevS w base vo vn no nn bs nx) : w.ownsRow base 4 1 vo no (bs.map .bool) := h.1
theorem LevS.n {w : World} {base : Nat} {vo vn : Value} {no nn : Nat} {bs : List Bool} {nx : List (List (Nat × Nat))} (h : LevS w base vo vn no nn bs nx) : ∃ vs, w.ownsRow base 22 1 vn nn vs ∧ vs.length = nn := by
  obtain ⟨h1, h2, h3, vs, h4, h5⟩ := h
  exact ⟨vs, h4, by rw [h5.1, h3]⟩
theorem F_o {w : World} {vo vn vo' : Value} (hn : ∀ x ∈ ownL vo', x ∈ ownL vo ∨ w.heap.size ≤ x) : ∀ x ∈ ownL vo' ++ ownL vn, x ∈ ownL vo ++ ownL vn ∨ w.heap.size ≤ x := fun x hx => by
  rw [List.mem_append] at hx ⊢
  rcases hx with h | h
  · rcases hn x h with h | h
    · exact .inl (.inl h)
    · exact .inr h
  · exact .inl (.inr h)
theorem F_n {w : World} {vo vn vn' : Value} (hn : ∀ x ∈ ownL vn', x ∈ ownL vn ∨ w.heap.size ≤ x) : ∀ x ∈ ownL vo ++ ownL vn', x ∈ ownL vo ++ ownL vn ∨ w.heap.size ≤ x := fun x hx => by
  rw [List.mem_append] at hx ⊢
  rcases hx with h | h
  · exact .inl (.inl h)
  · rcases hn x h with h | h
    · exact .inl (.inr h)
    · exact .inr h
theorem S_o {vo vn : Value} : ∀ x ∈ ownL vo, x ∈ ownL vo ++ ownL vn := fun _ h => List.mem_append.2 (.inl h)
theorem S_n {vo vn : Value} : ∀ x ∈ ownL vn, x ∈ ownL vo ++ ownL vn := fun _ h => List.mem_append.2 (.inr h)
/-- A bit more. -/
theorem LevS.bit {w w' : World} {base : Nat} {vo vn vo' : Value} {no nn : Nat} {bs : List Bool} {nx : List (List (Nat × Nat))} {b : Bool} (h : LevS w base vo vn no nn bs nx) (ho : w'.ownsRow base 4 1 vo' (no + 1) (bs.map .bool ++ [.bool b])) (hk : Kp (ownL vo) w w') (hn : ∀ x ∈ ownL vo', x ∈ ownL vo ∨ w.heap.size ≤ x) : LevS w' base vo' vn (no + 1) nn (bs ++ [b]) nx := by
  obtain ⟨h1, h2, h3, vs, h4, h5⟩ := h
  refine ⟨by rw [List.map_append]; exact ho, fun x hx hm => ?_, h3, vs, own_kp h4 hk (fun x hx hm => h2 x hm (mem_ownL.2 hx)), h5.step hk S_o (F_o hn)⟩
  rcases hn x hx with h | h
  · exact h2 x h hm
  · have := (own_ge h4 (mem_ownL.1 hm)).2
    omega
/-- A square more. -/
theorem LevS.sq {w w' : World} {base : Nat} {vo vn vn' : Value} {no nn n c : Nat} {bs : List Bool} {nx : List (List (Nat × Nat))} {l : List (Nat × Nat)} {A : Option Addr} {xs : List Value} (h : LevS w base vo vn no nn bs nx) (hx : w.ownsRow base 22 1 vn nn xs) (ho : w'.ownsRow base 22 1 vn' (nn + 1) (xs ++ [.slice A n c])) (hk : Kp (ownL vn) w w') (hn : ∀ x ∈ ownL vn', x ∈ ownL vn ∨ w.heap.size ≤ x) (hl : l.length = n) (hr : RF w (ownL vo ++ ownL vn) A (pc l)) : LevS w' base vo vn' no (nn + 1) bs (nx ++ [l]) := by
  obtain ⟨h1, h2, h3, vs, h4, h5⟩ := h
  obtain rfl : vs = xs := by
    rcases own_blk h4 with ⟨rfl, _, e⟩ | ⟨g, cap, rest, rfl, _, hb, _, _, hc⟩
    · have := hx.1
      rw [e]
      rcases own_blk hx with ⟨_, _, e'⟩ | ⟨g', _, _, e', _⟩
      · exact e'.symm
      · cases e'
    · rcases own_blk hx with ⟨e', _, _⟩ | ⟨g', cap', rest', e', _, hb', _, _, hc'⟩
      · cases e'
      · injection e' with e1 e2 e3
        injection e1 with e1
        injection e1 with e1 _ _
        subst e1
        have he := (hb.inj hb').2
        have hl1 := h4.1
        have hl2 := hx.1
        exact (List.append_inj he (by omega)).1
  refine ⟨own_kp h1 hk (fun x hx hm => h2 x (mem_ownL.2 hx) hm), fun x hx hm => ?_, by rw [List.length_append, h3]; rfl, _, ho, (h5.step hk S_n (F_n hn)).snoc hl (hr.step hk S_n (F_n hn))⟩
  rcases hn x hm with h | h
  · exact h2 x hx h
  · have := (own_ge h1 (mem_ownL.1 hx)).2
    omega
end Go.Proofs.Ytldmabkilgpgcaa
namespace Go.Proofs.Ytldmabkilgpgcaa
open Go.RowKit

theorem filt0 {l : List (List (Nat × Nat))} {x : List (Nat × Nat)} (h : x = []) : (l ++ [x]).filter (fun l => !l.isEmpty) = l.filter fun l => !l.isEmpty := by
  subst h
  rw [List.filter_append]
  simp
theorem filt1 {l : List (List (Nat × Nat))} {x : List (Nat × Nat)} (h : x.isEmpty = false) : (l ++ [x]).filter (fun l => !l.isEmpty) = l.filter (fun l => !l.isEmpty) ++ [x] := by
  rw [List.filter_append, List.filter_cons, h]
  rfl
theorem levL_len (N : Nat) : ∀ (h : Nat) (sq : List (List (Nat × Nat))), sq.length ≤ N + 1 → sq.flatten.length ≤ N → (levL h sq).length ≤ 4 * (N + 1) * h
  | 0, _, _, _ => Nat.zero_le _
  | h + 1, sq, h1, h2 => by
    unfold levL
    obtain ⟨e1, e2⟩ := nextL_len h sq
    have := levL_len N h (nextL h sq) (by omega) (by omega)
    rw [List.length_append, bitsL_len, Nat.mul_succ]
    omega
set_option maxRecDepth 100000 in
set_option maxHeartbeats 4000000 in
theorem levels_any (h n c N : Nat) (y0 : Int) (A : Option Addr) (sq : List (List (Nat × Nat))) (w : World) (hx : SqV w [] A sq) (hn : sq.length = n) (hn1 : n ≤ N + 1) (hN : sq.flatten.length ≤ N) (hb : N ≤ 1000000) (hh : h ≤ 17) (hy : y0 = (h : Int) - 1) (hs : ∀ l ∈ sq, ∀ p ∈ l, p.1 < 131072 ∧ p.2 < 131072) :
    Calls Try.prog 39 #[.int .i64 y0, .slice A n c] w fun e w' => ∃ Ao no co, e = .returned (.slice Ao no co) ∧ no = (levL h sq).length ∧ no ≤ 68 * (N + 1) ∧ w'.ownsRow w.heap.size 4 1 (.slice Ao no co) no ((levL h sq).map .bool) ∧ Kp [] w w' := by
  obtain ⟨i0, hi, hz0, hz1, hz2⟩ := info_parts Try.info_gbool
  obtain ⟨i1, hi', hy0, hy1, hy2⟩ := info_parts Try.info_gpairs
  have HX := Lib.hid hx; have HN := Lib.hid hn; have HN' := Lib.hid hN; have HS := Lib.hid hs; clear hx hn hN hs
  obtain ⟨R, hR⟩ : ∃ R, R = levL h sq := ⟨_, rfl⟩
  rw [← hR]
  have HR := Lib.hid hR; clear hR
  go_enter Try.func39, Try.ntmps39
  go_wp2_with fail
  go_loopw [0, 1, 4] (fun x s o wr => ∃ (j n' c' no co : Nat) (y : Int) (A' Ao : Option Addr) (sq' : List (List (Nat × Nat))) (bs : List Bool), x = .int .i64 y ∧ s = .slice A' n' c' ∧ o = .slice Ao no co ∧ y = (j : Int) - 1 ∧ j ≤ h ∧ n' ≤ N + 1 ∧ Hid (bs.length = no) ∧ Hid (sq'.length = n') ∧ Hid (sq'.flatten.length ≤ N) ∧ Hid (∀ l ∈ sq', ∀ p ∈ l, p.1 < 131072 ∧ p.2 < 131072) ∧ Hid (no + 4 * (N + 1) * j ≤ 68 * (N + 1)) ∧ Hid (R = bs ++ levL j sq') ∧ Hid (wr.ownsRow w.heap.size 4 1 (.slice Ao no co) no (bs.map .bool)) ∧ Hid (SqV wr (ownL (.slice Ao no co)) A' sq') ∧ Hid (Kp [] w wr)) (fun x _ _ _ => (intOf x + 1).toNat)
  case atStart => exact ⟨h, n, c, 0, 0, y0, A, none, sq, [], rfl, rfl, rfl, hy, Nat.le_refl _, hn1, Lib.hid rfl, HN, HN', HS, Lib.hid (by rw [Nat.zero_add]; exact Nat.le_trans (Nat.mul_le_mul_left _ hh) (by omega)), HR, Lib.hid (World.ownsRow_nil _ _ _ 1), HX, Lib.hid (Kp.refl _ _)⟩
  case round =>
    clear HX HN HN' HS HR
    obtain ⟨j, n', c', no, co, y, A', Ao, sq', bs, rfl, rfl, rfl, hyj, hj, hn', HBS, HSQ, HFL, HPB, HNO, HR, HO, HX, HK⟩ := hrel
    rcases Nat.eq_zero_or_pos j with rfl | hj0
    · have hyn : y < 0 := by omega
      clear hyj
      have HR2 := Lib.hid (show R = bs by rw [HR.out]; exact List.append_nil _)
      have hno : no ≤ 68 * (N + 1) := by have := HNO.out; omega
      go_wp2_with fail
      go_ret
      exact ⟨Ao, no, co, rfl, by rw [HR2.out, HBS.out], hno, by rw [HR2.out]; exact HO.out, HK.out⟩
    obtain ⟨i, rfl⟩ : ∃ i, j = i + 1 := ⟨j - 1, by omega⟩
    obtain rfl : y = (i : Int) := by omega
    have hi17 : i ≤ 16 := by omega
    have hK : no + 4 * (N + 1) ≤ 68 * (N + 1) := Nat.le_trans (Nat.add_le_add_left (by rw [Nat.mul_succ]; exact Nat.le_add_left _ _) _) HNO.out
    have HR2 := Lib.hid (show R = bs ++ (bitsL i sq' ++ levL i (nextL i sq')) from HR.out)
    clear HR hyj hj0
    go_wp2_with fail
    have HL0 := Lib.hid (show LevS wr w.heap.size (.slice Ao no co) (.slice none 0 0) no 0 bs [] from ⟨HO.out, fun b _ hm => by simp [mem_ownL, Value.ownBlock] at hm, rfl, [], World.ownsRow_nil _ _ _ 1, rfl, fun i l hi => by simp at hi⟩)
    have HX0 := Lib.hid (show SqV wr (ownL (.slice Ao no co) ++ ownL (.slice none 0 0)) A' sq' from HX.out.step (Kp.refl [] wr) (by simp) (fun x hx => by
      rw [List.mem_append] at hx
      rcases hx with h | h
      · exact .inl h
      · simp [mem_ownL, Value.ownBlock] at h))
    obtain ⟨no0, hno0⟩ : ∃ no0, no0 = no := ⟨_, rfl⟩
    have HQ0 := Lib.hid hno0
    clear HO HX
    generalize hwk : wr = wk at *
    clear hwk
    go_loopw [4, 5, 16] (fun o v x wr => ∃ (k no co nn cn : Nat) (Ao An : Option Addr) (bs2 : List Bool) (nx : List (List (Nat × Nat))), x = .int .i64 (k : Int) ∧ o = .slice Ao no co ∧ v = .slice An nn cn ∧ k ≤ n' ∧ nn ≤ N ∧ Hid (no = no0 + 4 * k) ∧ Hid (bs2 = bs ++ bitsL i (sq'.take k)) ∧ Hid (nx = nextL i (sq'.take k)) ∧ Hid (bs2.length = no) ∧ Hid (LevS wr w.heap.size (.slice Ao no co) (.slice An nn cn) no nn bs2 nx) ∧ Hid (SqV wr (ownL (.slice Ao no co) ++ ownL (.slice An nn cn)) A' sq') ∧ Hid (Kp [] w wr)) (fun _ _ x _ => n' - (intOf x).toNat)
    case atStart => exact ⟨0, no, co, 0, 0, Ao, none, bs, [], rfl, rfl, rfl, by omega, by omega, Lib.hid (by omega), Lib.hid (by simp [bitsL]), Lib.hid (by simp [nextL]), HBS, HL0, HX0, HK⟩
    case round =>
      clear HL0 HX0 HBS HK
      have HQ1 := HQ0.out
      obtain ⟨k, no2, co2, nn, cn, Ao2, An, bs2, nx, rfl, rfl, rfl, hk, hnn, HNO2, HB2, HNX, HBL, HLS, HX, HK⟩ := hrel
      by_cases hlt : k < n'
      · obtain ⟨l, hl⟩ : ∃ l, sq'[k]? = some l := ⟨_, List.getElem?_eq_getElem (by rw [HSQ.out]; exact hlt)⟩
        obtain ⟨ad, Al, cl, rfl, hcl, hrl⟩ := HX.out.at_ hl
        obtain ⟨m, hm⟩ : ∃ m, l.length = m := ⟨_, rfl⟩
        rw [hm] at hcl
        have HLL := Lib.hid hl
        have HLM := Lib.hid hm
        have HRL := Lib.hid hrl
        have hmN : m ≤ N := by
          have h1 := HFL.out
          have h2 : l.length ≤ sq'.flatten.length := by
            have : l ∈ sq' := List.mem_of_getElem? hl
            exact (List.sublist_flatten_of_mem this).length_le
          omega
        have HNF := Lib.hid (show (nextL i (sq'.take k)).length + m ≤ N ∧ nn + m ≤ N by
          have h1 := (nextL_len i (sq'.take k)).2
          have h2 : (sq'.take k).flatten.length + l.length ≤ sq'.flatten.length := by
            conv => rhs; rw [← List.take_append_drop k sq']
            rw [List.flatten_append, List.length_append, List.drop_eq_getElem_cons (by rw [HSQ.out]; exact hlt), List.flatten_cons, List.length_append, ← Option.some.inj ((List.getElem?_eq_getElem (by rw [HSQ.out]; exact hlt)).symm.trans hl)]
            omega
          have h3 := HFL.out
          have h4 : nn = (nextL i (sq'.take k)).length := by rw [← HNX.out]; exact HLS.out.2.2.1.symm
          omega)
        have hi0' : (0 : Int) ≤ (k : Int) := by omega
        have hi1' : (k : Int) < (n' : Int) := by omega
        have HPL := Lib.hid (show ∀ p ∈ l, p.1 < 131072 ∧ p.2 < 131072 from HPB.out l (List.mem_of_getElem? hl))
        clear hl hm hrl
        go_wp2_with fail
        refine (parted_any i m cl _ Al l wr HRL.out.1 HLM.out (by omega) hi17 HPL.out).mono ?_
        rintro e w2 ⟨vs, rfl, hvs, hk2⟩
        obtain ⟨a0, k0, e0, r0, g0⟩ := hvs 0 (by omega)
        obtain ⟨a1, k1, e1, r1, g1⟩ := hvs 1 (by omega)
        obtain ⟨a2, k2, e2, r2, g2⟩ := hvs 2 (by omega)
        obtain ⟨a3, k3, e3, r3, g3⟩ := hvs 3 (by omega)
        obtain ⟨m0, hm0⟩ : ∃ m0, (part i l 0).length = m0 := ⟨_, rfl⟩
        obtain ⟨m1, hm1⟩ : ∃ m1, (part i l 1).length = m1 := ⟨_, rfl⟩
        obtain ⟨m2, hm2⟩ : ∃ m2, (part i l 2).length = m2 := ⟨_, rfl⟩
        obtain ⟨m3, hm3⟩ : ∃ m3, (part i l 3).length = m3 := ⟨_, rfl⟩
        have hms : m0 + m1 + m2 + m3 = m := by rw [← hm0, ← hm1, ← hm2, ← hm3, ← HLM.out]; exact parts_sum i l
        rw [e0, e1, e2, e3, hm0, hm1, hm2, hm3]
        have hF : ∀ x ∈ ownL (.slice Ao2 no2 co2) ++ ownL (.slice An nn cn), x < wr.heap.size := fun x hx => by
          obtain ⟨xs, hxs, _⟩ := HLS.out.n
          rw [List.mem_append] at hx
          rcases hx with h | h
          · exact (own_ge HLS.out.o (mem_ownL.1 h)).2
          · exact (own_ge hxs (mem_ownL.1 h)).2
        have HPE := Lib.hid (show SqE w2 (ownL (.slice Ao2 no2 co2) ++ ownL (.slice An nn cn)) (parts i l) [.slice a0 m0 k0, .slice a1 m1 k1, .slice a2 m2 k2, .slice a3 m3 k3] from by
          have hr : ∀ (a : Option Addr) (l : List (Nat × Nat)), Rd w2 w2.heap.size a (pc l) → (∀ ad, a = some ad → wr.heap.size ≤ ad.block) → RF w2 (ownL (.slice Ao2 no2 co2) ++ ownL (.slice An nn cn)) a (pc l) := fun a l h g => ⟨h, fun ad e _ hm => by have := g ad e; have := hF _ hm; omega⟩
          refine ⟨rfl, fun q l' hq => ?_⟩
          match q, hq with
          | 0, hq => simp only [parts, List.getElem?_cons_zero, Option.some.injEq] at hq; subst hq; exact ⟨a0, k0, by rw [hm0]; rfl, hr _ _ r0 g0⟩
          | 1, hq => simp only [parts, List.getElem?_cons_zero, List.getElem?_cons_succ, Option.some.injEq] at hq; subst hq; exact ⟨a1, k1, by rw [hm1]; rfl, hr _ _ r1 g1⟩
          | 2, hq => simp only [parts, List.getElem?_cons_zero, List.getElem?_cons_succ, Option.some.injEq] at hq; subst hq; exact ⟨a2, k2, by rw [hm2]; rfl, hr _ _ r2 g2⟩
          | 3, hq => simp only [parts, List.getElem?_cons_zero, List.getElem?_cons_succ, Option.some.injEq] at hq; subst hq; exact ⟨a3, k3, by rw [hm3]; rfl, hr _ _ r3 g3⟩
          | q + 4, hq => simp [parts] at hq)
        have HM0 := Lib.hid hm0
        have HM1 := Lib.hid hm1
        have HM2 := Lib.hid hm2
        have HM3 := Lib.hid hm3
        replace HLS := Lib.hid (HLS.out.kp0 hk2)
        replace HX := Lib.hid (HX.out.kp0 hk2)
        replace HK := Lib.hid (HK.out.trans hk2)
        clear hvs e0 e1 e2 e3 r0 r1 r2 r3 g0 g1 g2 g3 hm0 hm1 hm2 hm3 hk2 hcl HRL hF
        have HNN := Lib.hid (show nn + m ≤ N from HNF.out.2)
        obtain ⟨nn0, hnn0⟩ : ∃ nn0, nn0 = nn := ⟨_, rfl⟩
        rw [← hnn0] at HNN
        go_wp2_with fail
        go_loopw [4, 5, 23] (fun o v x wq => ∃ (q no co nn cn : Nat) (Ao An : Option Addr) (bs3 : List Bool) (nx3 : List (List (Nat × Nat))), x = .int .i64 (q : Int) ∧ o = .slice Ao no co ∧ v = .slice An nn cn ∧ q ≤ 4 ∧ Hid (no = no2 + q) ∧ Hid (nn ≤ nn0 + ((parts i l).take q).flatten.length) ∧ Hid (bs3 = bs2 ++ ((parts i l).take q).map fun l => !l.isEmpty) ∧ Hid (nx3 = nx ++ ((parts i l).take q).filter fun l => !l.isEmpty) ∧ Hid (bs3.length = no) ∧ Hid (LevS wq w.heap.size (.slice Ao no co) (.slice An nn cn) no nn bs3 nx3) ∧ Hid (SqV wq (ownL (.slice Ao no co) ++ ownL (.slice An nn cn)) (some ad) sq') ∧ Hid (SqE wq (ownL (.slice Ao no co) ++ ownL (.slice An nn cn)) (parts i l) [.slice a0 m0 k0, .slice a1 m1 k1, .slice a2 m2 k2, .slice a3 m3 k3]) ∧ Hid (Kp [] w wq)) (fun _ _ x _ => 4 - (intOf x).toNat)
        case atStart => exact ⟨0, no2, co2, nn, cn, Ao2, An, bs2, nx, rfl, rfl, rfl, by omega, Lib.hid rfl, Lib.hid (by simp; omega), Lib.hid (by simp), Lib.hid (by simp), HBL, HLS, HX, HPE, HK⟩
        case round =>
          clear HLS HX HPE HK HBL
          obtain ⟨q, no3, co3, nn3, cn3, Ao3, An3, bs3, nx3, rfl, rfl, rfl, hq, HNO3, HNQ, HB3, HN3, HBL, HLS, HX, HPE, HK⟩ := hrel
          have HSZ := Lib.hid HK.out.size
          by_cases hq4 : q < 4
          · rcases (show q = 0 ∨ q = 1 ∨ q = 2 ∨ q = 3 by omega) with rfl | rfl | rfl | rfl
            · have hix : ∀ w, (Instr.index 106 (.agg #[.slice a0 m0 k0, .slice a1 m1 k1, .slice a2 m2 k2, .slice a3 m3 k3]) (.int .i64 0)).run Try.prog w = .ok (.slice a0 m0 k0) w := fun _ => by kernel_rfl
              obtain ⟨Aq, cq, hvq, hrq⟩ := HPE.out.2 0 (part i l 0) rfl
              obtain ⟨hA, hM, hC⟩ : a0 = Aq ∧ m0 = (part i l 0).length ∧ k0 = cq := by simpa using hvq
              rw [← hA] at hrq
              have HRQ := Lib.hid hrq
              clear hA hM hC hvq hrq
              have hnoB : no3 ≤ 300000000 := by have := HNO3.out; have := HNO2.out; omega
              have hnnB : nn3 ≤ 4000000 := by
                have h1 := HNQ.out
                have h2 : (((parts i l).take 0).flatten.length) ≤ l.length := by
                  have h3 : (parts i l).flatten.length = l.length := by simp only [parts, List.flatten_cons, List.flatten_nil, List.append_nil, List.length_append]; have := parts_sum i l; omega
                  rw [← h3]
                  first | (simp [parts]; done) | (simp [parts]; omega)
                have := HLM.out
                omega
              rcases Nat.eq_zero_or_pos m0 with hz | hz
              · have hdec : decide (0 < m0) = false := decide_eq_false (by omega)
                have hdec2 : ¬ (0 < m0) := by omega
                have hemp : part i l 0 = [] := List.eq_nil_of_length_eq_zero (by rw [HM0.out]; exact hz)
                have HEM := Lib.hid hemp
                clear hemp hz
                go_wp2_with (at_builtin; go_loud (refine wpList_append_rd rfl (.tmp 26) (.tmp 30) 67 rfl w.heap.size 4 i0 (.bool false) 1 1 Try.underlying67 hi hz0 hz1 hz2 rfl (by decide) (.slice Ao3 no3 co3) no3 _ rfl (own_kp0 HLS.out.o ((Kp.refl [] _).alloc _)) _ _ 1 1 [.bool false] rfl rfl (Rd.new wr #[.bool false] 4 (0, 0)) (by intro u hu; simp at hu; subst hu; rfl) (by unfold maxLen; omega) (by omega) (by have := HSZ.out; simp; omega) ?_); intro v3 w3 hown3 hgrow3 hat3
                             obtain ⟨hka, hga⟩ := app_facts hgrow3 hat3
                             obtain ⟨A3', ca', rfl, _⟩ := own_form hown3
                             have HL3 := Lib.hid (HLS.out.bit hown3 hka hga)
                             have HX3 := Lib.hid (HX.out.step hka S_o (F_o hga))
                             have HP3 := Lib.hid (HPE.out.step hka S_o (F_o hga))
                             have HK3 := Lib.hid (HK.out.trans' hka (fun x hx => .inr (own_ge HLS.out.o (mem_ownL.1 hx)).1))
                             clear hka hga hown3 hgrow3 hat3)
                exact ⟨⟨0 + 1, no3 + 1, ca', nn3, cn3, A3', An3, bs3 ++ [false], nx3, by go_num, rfl, rfl, by omega, Lib.hid (by have := HNO3.out; omega), Lib.hid (by have := HNQ.out; simp [parts] at this ⊢; omega), Lib.hid (by rw [HB3.out]; simp [parts, HEM.out]), Lib.hid (by rw [HN3.out, show (parts i l).take (0 + 1) = (parts i l).take 0 ++ [part i l 0] from rfl, filt0 HEM.out]), Lib.hid (by rw [List.length_append, HBL.out]; rfl), HL3, HX3, HP3, HK3⟩, by simp [intOf]⟩
              · have hdec : decide (0 < m0) = true := decide_eq_true (by omega)
                have hemp : (part i l 0).isEmpty = false := by
                  rw [← Bool.not_eq_true, List.isEmpty_iff]
                  intro e
                  have := HM0.out
                  rw [e] at this
                  simp at this
                  omega
                have HEM := Lib.hid hemp
                clear hemp
                go_upto_region 11 with (at_builtin; go_loud (refine wpList_append_rd rfl (.tmp 26) (.tmp 30) 67 rfl w.heap.size 4 i0 (.bool false) 1 1 Try.underlying67 hi hz0 hz1 hz2 rfl (by decide) (.slice Ao3 no3 co3) no3 _ rfl (own_kp0 HLS.out.o ((Kp.refl [] _).alloc _)) _ _ 1 1 [.bool true] rfl rfl (Rd.new wr #[.bool true] 4 (0, 0)) (by intro u hu; simp at hu; subst hu; rfl) (by unfold maxLen; omega) (by omega) (by have := HSZ.out; simp; omega) ?_); intro v3 w3 hown3 hgrow3 hat3)
                obtain ⟨hka, hga⟩ := app_facts hgrow3 hat3
                obtain ⟨A3', ca', rfl, _⟩ := own_form hown3
                have HL3 := Lib.hid (HLS.out.bit hown3 hka hga)
                have HX3 := Lib.hid (HX.out.step hka S_o (F_o hga))
                have HP3 := Lib.hid (HPE.out.step hka S_o (F_o hga))
                have HR3 := Lib.hid (HRQ.out.step hka S_o (F_o hga))
                have HK3 := Lib.hid (HK.out.trans' hka (fun x hx => .inr (own_ge HLS.out.o (mem_ownL.1 hx)).1))
                clear hka hga hown3 hgrow3 hat3 HLS HX HPE HRQ HK HSZ
                have HSZ := Lib.hid HK3.out.size
                obtain ⟨xs, hxs, hxl⟩ := HL3.out.n
                have HXS := Lib.hid hxs
                clear hxs hxl
                go_wp2_with (at_builtin; go_loud (refine wpList_append_rd rfl (.tmp 35) (.tmp 37) 51 rfl w.heap.size 22 i1 (.slice none 0 0) 1 24 Try.underlying51 hi' hy0 hy1 hy2 rfl (by decide) (.slice An3 nn3 cn3) nn3 _ rfl (own_kp0 HXS.out ((Kp.refl [] _).alloc _)) _ _ 1 1 [.slice a0 m0 k0] rfl rfl (Rd.new w3 #[.slice a0 m0 k0] 22 (0, 0)) (by intro u hu; simp at hu; subst hu; rfl) (by unfold maxLen; omega) (by omega) (by have := HSZ.out; simp; omega) ?_); intro v4 w4 hown4 hgrow4 hat4
                             obtain ⟨hka, hga⟩ := app_facts hgrow4 hat4
                             obtain ⟨A4', cb', rfl, _⟩ := own_form hown4
                             have HL4 := Lib.hid (HL3.out.sq HXS.out hown4 hka hga HM0.out HR3.out)
                             have HX4 := Lib.hid (HX3.out.step hka S_n (F_n hga))
                             have HP4 := Lib.hid (HP3.out.step hka S_n (F_n hga))
                             have HK4 := Lib.hid (HK3.out.trans' hka (fun x hx => .inr (own_ge HXS.out (mem_ownL.1 hx)).1))
                             clear hka hga hown4 hgrow4 hat4)
                exact ⟨⟨0 + 1, no3 + 1, ca', nn3 + 1, cb', A3', A4', bs3 ++ [true], nx3 ++ [part i l 0], by go_num, rfl, rfl, by omega, Lib.hid (by have := HNO3.out; omega), Lib.hid (by have h1 := HNQ.out; have h2 := HM0.out; simp [parts] at h1 ⊢; omega), Lib.hid (by rw [HB3.out]; simp [parts, HEM.out]), Lib.hid (by rw [HN3.out, show (parts i l).take (0 + 1) = (parts i l).take 0 ++ [part i l 0] from rfl, filt1 HEM.out, List.append_assoc]), Lib.hid (by rw [List.length_append, HBL.out]; rfl), HL4, HX4, HP4, HK4⟩, by simp [intOf]⟩
            · have hix : ∀ w, (Instr.index 106 (.agg #[.slice a0 m0 k0, .slice a1 m1 k1, .slice a2 m2 k2, .slice a3 m3 k3]) (.int .i64 1)).run Try.prog w = .ok (.slice a1 m1 k1) w := fun _ => by kernel_rfl
              obtain ⟨Aq, cq, hvq, hrq⟩ := HPE.out.2 1 (part i l 1) rfl
              obtain ⟨hA, hM, hC⟩ : a1 = Aq ∧ m1 = (part i l 1).length ∧ k1 = cq := by simpa using hvq
              rw [← hA] at hrq
              have HRQ := Lib.hid hrq
              clear hA hM hC hvq hrq
              have hnoB : no3 ≤ 300000000 := by have := HNO3.out; have := HNO2.out; omega
              have hnnB : nn3 ≤ 4000000 := by
                have h1 := HNQ.out
                have h2 : (((parts i l).take 1).flatten.length) ≤ l.length := by
                  have h3 : (parts i l).flatten.length = l.length := by simp only [parts, List.flatten_cons, List.flatten_nil, List.append_nil, List.length_append]; have := parts_sum i l; omega
                  rw [← h3]
                  first | (simp [parts]; done) | (simp [parts]; omega)
                have := HLM.out
                omega
              rcases Nat.eq_zero_or_pos m1 with hz | hz
              · have hdec : decide (0 < m1) = false := decide_eq_false (by omega)
                have hdec2 : ¬ (0 < m1) := by omega
                have hemp : part i l 1 = [] := List.eq_nil_of_length_eq_zero (by rw [HM1.out]; exact hz)
                have HEM := Lib.hid hemp
                clear hemp hz
                go_wp2_with (at_builtin; go_loud (refine wpList_append_rd rfl (.tmp 26) (.tmp 30) 67 rfl w.heap.size 4 i0 (.bool false) 1 1 Try.underlying67 hi hz0 hz1 hz2 rfl (by decide) (.slice Ao3 no3 co3) no3 _ rfl (own_kp0 HLS.out.o ((Kp.refl [] _).alloc _)) _ _ 1 1 [.bool false] rfl rfl (Rd.new wr #[.bool false] 4 (0, 0)) (by intro u hu; simp at hu; subst hu; rfl) (by unfold maxLen; omega) (by omega) (by have := HSZ.out; simp; omega) ?_); intro v3 w3 hown3 hgrow3 hat3
                             obtain ⟨hka, hga⟩ := app_facts hgrow3 hat3
                             obtain ⟨A3', ca', rfl, _⟩ := own_form hown3
                             have HL3 := Lib.hid (HLS.out.bit hown3 hka hga)
                             have HX3 := Lib.hid (HX.out.step hka S_o (F_o hga))
                             have HP3 := Lib.hid (HPE.out.step hka S_o (F_o hga))
                             have HK3 := Lib.hid (HK.out.trans' hka (fun x hx => .inr (own_ge HLS.out.o (mem_ownL.1 hx)).1))
                             clear hka hga hown3 hgrow3 hat3)
                exact ⟨⟨1 + 1, no3 + 1, ca', nn3, cn3, A3', An3, bs3 ++ [false], nx3, by go_num, rfl, rfl, by omega, Lib.hid (by have := HNO3.out; omega), Lib.hid (by have := HNQ.out; simp [parts] at this ⊢; omega), Lib.hid (by rw [HB3.out]; simp [parts, HEM.out]), Lib.hid (by rw [HN3.out, show (parts i l).take (1 + 1) = (parts i l).take 1 ++ [part i l 1] from rfl, filt0 HEM.out]), Lib.hid (by rw [List.length_append, HBL.out]; rfl), HL3, HX3, HP3, HK3⟩, by simp [intOf]⟩
              · have hdec : decide (0 < m1) = true := decide_eq_true (by omega)
                have hemp : (part i l 1).isEmpty = false := by
                  rw [← Bool.not_eq_true, List.isEmpty_iff]
                  intro e
                  have := HM1.out
                  rw [e] at this
                  simp at this
                  omega
                have HEM := Lib.hid hemp
                clear hemp
                go_upto_region 11 with (at_builtin; go_loud (refine wpList_append_rd rfl (.tmp 26) (.tmp 30) 67 rfl w.heap.size 4 i0 (.bool false) 1 1 Try.underlying67 hi hz0 hz1 hz2 rfl (by decide) (.slice Ao3 no3 co3) no3 _ rfl (own_kp0 HLS.out.o ((Kp.refl [] _).alloc _)) _ _ 1 1 [.bool true] rfl rfl (Rd.new wr #[.bool true] 4 (0, 0)) (by intro u hu; simp at hu; subst hu; rfl) (by unfold maxLen; omega) (by omega) (by have := HSZ.out; simp; omega) ?_); intro v3 w3 hown3 hgrow3 hat3)
                obtain ⟨hka, hga⟩ := app_facts hgrow3 hat3
                obtain ⟨A3', ca', rfl, _⟩ := own_form hown3
                have HL3 := Lib.hid (HLS.out.bit hown3 hka hga)
                have HX3 := Lib.hid (HX.out.step hka S_o (F_o hga))
                have HP3 := Lib.hid (HPE.out.step hka S_o (F_o hga))
                have HR3 := Lib.hid (HRQ.out.step hka S_o (F_o hga))
                have HK3 := Lib.hid (HK.out.trans' hka (fun x hx => .inr (own_ge HLS.out.o (mem_ownL.1 hx)).1))
                clear hka hga hown3 hgrow3 hat3 HLS HX HPE HRQ HK HSZ
                have HSZ := Lib.hid HK3.out.size
                obtain ⟨xs, hxs, hxl⟩ := HL3.out.n
                have HXS := Lib.hid hxs
                clear hxs hxl
                go_wp2_with (at_builtin; go_loud (refine wpList_append_rd rfl (.tmp 35) (.tmp 37) 51 rfl w.heap.size 22 i1 (.slice none 0 0) 1 24 Try.underlying51 hi' hy0 hy1 hy2 rfl (by decide) (.slice An3 nn3 cn3) nn3 _ rfl (own_kp0 HXS.out ((Kp.refl [] _).alloc _)) _ _ 1 1 [.slice a1 m1 k1] rfl rfl (Rd.new w3 #[.slice a1 m1 k1] 22 (0, 0)) (by intro u hu; simp at hu; subst hu; rfl) (by unfold maxLen; omega) (by omega) (by have := HSZ.out; simp; omega) ?_); intro v4 w4 hown4 hgrow4 hat4
                             obtain ⟨hka, hga⟩ := app_facts hgrow4 hat4
                             obtain ⟨A4', cb', rfl, _⟩ := own_form hown4
                             have HL4 := Lib.hid (HL3.out.sq HXS.out hown4 hka hga HM1.out HR3.out)
                             have HX4 := Lib.hid (HX3.out.step hka S_n (F_n hga))
                             have HP4 := Lib.hid (HP3.out.step hka S_n (F_n hga))
                             have HK4 := Lib.hid (HK3.out.trans' hka (fun x hx => .inr (own_ge HXS.out (mem_ownL.1 hx)).1))
                             clear hka hga hown4 hgrow4 hat4)
                exact ⟨⟨1 + 1, no3 + 1, ca', nn3 + 1, cb', A3', A4', bs3 ++ [true], nx3 ++ [part i l 1], by go_num, rfl, rfl, by omega, Lib.hid (by have := HNO3.out; omega), Lib.hid (by have h1 := HNQ.out; have h2 := HM1.out; simp [parts] at h1 ⊢; omega), Lib.hid (by rw [HB3.out]; simp [parts, HEM.out]), Lib.hid (by rw [HN3.out, show (parts i l).take (1 + 1) = (parts i l).take 1 ++ [part i l 1] from rfl, filt1 HEM.out, List.append_assoc]), Lib.hid (by rw [List.length_append, HBL.out]; rfl), HL4, HX4, HP4, HK4⟩, by simp [intOf]⟩
            · have hix : ∀ w, (Instr.index 106 (.agg #[.slice a0 m0 k0, .slice a1 m1 k1, .slice a2 m2 k2, .slice a3 m3 k3]) (.int .i64 2)).run Try.prog w = .ok (.slice a2 m2 k2) w := fun _ => by kernel_rfl
              obtain ⟨Aq, cq, hvq, hrq⟩ := HPE.out.2 2 (part i l 2) rfl
              obtain ⟨hA, hM, hC⟩ : a2 = Aq ∧ m2 = (part i l 2).length ∧ k2 = cq := by simpa using hvq
              rw [← hA] at hrq
              have HRQ := Lib.hid hrq
              clear hA hM hC hvq hrq
              have hnoB : no3 ≤ 300000000 := by have := HNO3.out; have := HNO2.out; omega
              have hnnB : nn3 ≤ 4000000 := by
                have h1 := HNQ.out
                have h2 : (((parts i l).take 2).flatten.length) ≤ l.length := by
                  have h3 : (parts i l).flatten.length = l.length := by simp only [parts, List.flatten_cons, List.flatten_nil, List.append_nil, List.length_append]; have := parts_sum i l; omega
                  rw [← h3]
                  first | (simp [parts]; done) | (simp [parts]; omega)
                have := HLM.out
                omega
              rcases Nat.eq_zero_or_pos m2 with hz | hz
              · have hdec : decide (0 < m2) = false := decide_eq_false (by omega)
                have hdec2 : ¬ (0 < m2) := by omega
                have hemp : part i l 2 = [] := List.eq_nil_of_length_eq_zero (by rw [HM2.out]; exact hz)
                have HEM := Lib.hid hemp
                clear hemp hz
                go_wp2_with (at_builtin; go_loud (refine wpList_append_rd rfl (.tmp 26) (.tmp 30) 67 rfl w.heap.size 4 i0 (.bool false) 1 1 Try.underlying67 hi hz0 hz1 hz2 rfl (by decide) (.slice Ao3 no3 co3) no3 _ rfl (own_kp0 HLS.out.o ((Kp.refl [] _).alloc _)) _ _ 1 1 [.bool false] rfl rfl (Rd.new wr #[.bool false] 4 (0, 0)) (by intro u hu; simp at hu; subst hu; rfl) (by unfold maxLen; omega) (by omega) (by have := HSZ.out; simp; omega) ?_); intro v3 w3 hown3 hgrow3 hat3
                             obtain ⟨hka, hga⟩ := app_facts hgrow3 hat3
                             obtain ⟨A3', ca', rfl, _⟩ := own_form hown3
                             have HL3 := Lib.hid (HLS.out.bit hown3 hka hga)
                             have HX3 := Lib.hid (HX.out.step hka S_o (F_o hga))
                             have HP3 := Lib.hid (HPE.out.step hka S_o (F_o hga))
                             have HK3 := Lib.hid (HK.out.trans' hka (fun x hx => .inr (own_ge HLS.out.o (mem_ownL.1 hx)).1))
                             clear hka hga hown3 hgrow3 hat3)
                exact ⟨⟨2 + 1, no3 + 1, ca', nn3, cn3, A3', An3, bs3 ++ [false], nx3, by go_num, rfl, rfl, by omega, Lib.hid (by have := HNO3.out; omega), Lib.hid (by have := HNQ.out; simp [parts] at this ⊢; omega), Lib.hid (by rw [HB3.out]; simp [parts, HEM.out]), Lib.hid (by rw [HN3.out, show (parts i l).take (2 + 1) = (parts i l).take 2 ++ [part i l 2] from rfl, filt0 HEM.out]), Lib.hid (by rw [List.length_append, HBL.out]; rfl), HL3, HX3, HP3, HK3⟩, by simp [intOf]⟩
              · have hdec : decide (0 < m2) = true := decide_eq_true (by omega)
                have hemp : (part i l 2).isEmpty = false := by
                  rw [← Bool.not_eq_true, List.isEmpty_iff]
                  intro e
                  have := HM2.out
                  rw [e] at this
                  simp at this
                  omega
                have HEM := Lib.hid hemp
                clear hemp
                go_upto_region 11 with (at_builtin; go_loud (refine wpList_append_rd rfl (.tmp 26) (.tmp 30) 67 rfl w.heap.size 4 i0 (.bool false) 1 1 Try.underlying67 hi hz0 hz1 hz2 rfl (by decide) (.slice Ao3 no3 co3) no3 _ rfl (own_kp0 HLS.out.o ((Kp.refl [] _).alloc _)) _ _ 1 1 [.bool true] rfl rfl (Rd.new wr #[.bool true] 4 (0, 0)) (by intro u hu; simp at hu; subst hu; rfl) (by unfold maxLen; omega) (by omega) (by have := HSZ.out; simp; omega) ?_); intro v3 w3 hown3 hgrow3 hat3)
                obtain ⟨hka, hga⟩ := app_facts hgrow3 hat3
                obtain ⟨A3', ca', rfl, _⟩ := own_form hown3
                have HL3 := Lib.hid (HLS.out.bit hown3 hka hga)
                have HX3 := Lib.hid (HX.out.step hka S_o (F_o hga))
                have HP3 := Lib.hid (HPE.out.step hka S_o (F_o hga))
                have HR3 := Lib.hid (HRQ.out.step hka S_o (F_o hga))
                have HK3 := Lib.hid (HK.out.trans' hka (fun x hx => .inr (own_ge HLS.out.o (mem_ownL.1 hx)).1))
                clear hka hga hown3 hgrow3 hat3 HLS HX HPE HRQ HK HSZ
                have HSZ := Lib.hid HK3.out.size
                obtain ⟨xs, hxs, hxl⟩ := HL3.out.n
                have HXS := Lib.hid hxs
                clear hxs hxl
                go_wp2_with (at_builtin; go_loud (refine wpList_append_rd rfl (.tmp 35) (.tmp 37) 51 rfl w.heap.size 22 i1 (.slice none 0 0) 1 24 Try.underlying51 hi' hy0 hy1 hy2 rfl (by decide) (.slice An3 nn3 cn3) nn3 _ rfl (own_kp0 HXS.out ((Kp.refl [] _).alloc _)) _ _ 1 1 [.slice a2 m2 k2] rfl rfl (Rd.new w3 #[.slice a2 m2 k2] 22 (0, 0)) (by intro u hu; simp at hu; subst hu; rfl) (by unfold maxLen; omega) (by omega) (by have := HSZ.out; simp; omega) ?_); intro v4 w4 hown4 hgrow4 hat4
                             obtain ⟨hka, hga⟩ := app_facts hgrow4 hat4
                             obtain ⟨A4', cb', rfl, _⟩ := own_form hown4
                             have HL4 := Lib.hid (HL3.out.sq HXS.out hown4 hka hga HM2.out HR3.out)
                             have HX4 := Lib.hid (HX3.out.step hka S_n (F_n hga))
                             have HP4 := Lib.hid (HP3.out.step hka S_n (F_n hga))
                             have HK4 := Lib.hid (HK3.out.trans' hka (fun x hx => .inr (own_ge HXS.out (mem_ownL.1 hx)).1))
                             clear hka hga hown4 hgrow4 hat4)
                exact ⟨⟨2 + 1, no3 + 1, ca', nn3 + 1, cb', A3', A4', bs3 ++ [true], nx3 ++ [part i l 2], by go_num, rfl, rfl, by omega, Lib.hid (by have := HNO3.out; omega), Lib.hid (by have h1 := HNQ.out; have h2 := HM2.out; simp [parts] at h1 ⊢; omega), Lib.hid (by rw [HB3.out]; simp [parts, HEM.out]), Lib.hid (by rw [HN3.out, show (parts i l).take (2 + 1) = (parts i l).take 2 ++ [part i l 2] from rfl, filt1 HEM.out, List.append_assoc]), Lib.hid (by rw [List.length_append, HBL.out]; rfl), HL4, HX4, HP4, HK4⟩, by simp [intOf]⟩
            · have hix : ∀ w, (Instr.index 106 (.agg #[.slice a0 m0 k0, .slice a1 m1 k1, .slice a2 m2 k2, .slice a3 m3 k3]) (.int .i64 3)).run Try.prog w = .ok (.slice a3 m3 k3) w := fun _ => by kernel_rfl
              obtain ⟨Aq, cq, hvq, hrq⟩ := HPE.out.2 3 (part i l 3) rfl
              obtain ⟨hA, hM, hC⟩ : a3 = Aq ∧ m3 = (part i l 3).length ∧ k3 = cq := by simpa using hvq
              rw [← hA] at hrq
              have HRQ := Lib.hid hrq
              clear hA hM hC hvq hrq
              have hnoB : no3 ≤ 300000000 := by have := HNO3.out; have := HNO2.out; omega
              have hnnB : nn3 ≤ 4000000 := by
                have h1 := HNQ.out
                have h2 : (((parts i l).take 3).flatten.length) ≤ l.length := by
                  have h3 : (parts i l).flatten.length = l.length := by simp only [parts, List.flatten_cons, List.flatten_nil, List.append_nil, List.length_append]; have := parts_sum i l; omega
                  rw [← h3]
                  first | (simp [parts]; done) | (simp [parts]; omega)
                have := HLM.out
                omega
              rcases Nat.eq_zero_or_pos m3 with hz | hz
              · have hdec : decide (0 < m3) = false := decide_eq_false (by omega)
                have hdec2 : ¬ (0 < m3) := by omega
                have hemp : part i l 3 = [] := List.eq_nil_of_length_eq_zero (by rw [HM3.out]; exact hz)
                have HEM := Lib.hid hemp
                clear hemp hz
                go_wp2_with (at_builtin; go_loud (refine wpList_append_rd rfl (.tmp 26) (.tmp 30) 67 rfl w.heap.size 4 i0 (.bool false) 1 1 Try.underlying67 hi hz0 hz1 hz2 rfl (by decide) (.slice Ao3 no3 co3) no3 _ rfl (own_kp0 HLS.out.o ((Kp.refl [] _).alloc _)) _ _ 1 1 [.bool false] rfl rfl (Rd.new wr #[.bool false] 4 (0, 0)) (by intro u hu; simp at hu; subst hu; rfl) (by unfold maxLen; omega) (by omega) (by have := HSZ.out; simp; omega) ?_); intro v3 w3 hown3 hgrow3 hat3
                             obtain ⟨hka, hga⟩ := app_facts hgrow3 hat3
                             obtain ⟨A3', ca', rfl, _⟩ := own_form hown3
                             have HL3 := Lib.hid (HLS.out.bit hown3 hka hga)
                             have HX3 := Lib.hid (HX.out.step hka S_o (F_o hga))
                             have HP3 := Lib.hid (HPE.out.step hka S_o (F_o hga))
                             have HK3 := Lib.hid (HK.out.trans' hka (fun x hx => .inr (own_ge HLS.out.o (mem_ownL.1 hx)).1))
                             clear hka hga hown3 hgrow3 hat3)
                exact ⟨⟨3 + 1, no3 + 1, ca', nn3, cn3, A3', An3, bs3 ++ [false], nx3, by go_num, rfl, rfl, by omega, Lib.hid (by have := HNO3.out; omega), Lib.hid (by have := HNQ.out; simp [parts] at this ⊢; omega), Lib.hid (by rw [HB3.out]; simp [parts, HEM.out]), Lib.hid (by rw [HN3.out, show (parts i l).take (3 + 1) = (parts i l).take 3 ++ [part i l 3] from rfl, filt0 HEM.out]), Lib.hid (by rw [List.length_append, HBL.out]; rfl), HL3, HX3, HP3, HK3⟩, by simp [intOf]⟩
              · have hdec : decide (0 < m3) = true := decide_eq_true (by omega)
                have hemp : (part i l 3).isEmpty = false := by
                  rw [← Bool.not_eq_true, List.isEmpty_iff]
                  intro e
                  have := HM3.out
                  rw [e] at this
                  simp at this
                  omega
                have HEM := Lib.hid hemp
                clear hemp
                go_upto_region 11 with (at_builtin; go_loud (refine wpList_append_rd rfl (.tmp 26) (.tmp 30) 67 rfl w.heap.size 4 i0 (.bool false) 1 1 Try.underlying67 hi hz0 hz1 hz2 rfl (by decide) (.slice Ao3 no3 co3) no3 _ rfl (own_kp0 HLS.out.o ((Kp.refl [] _).alloc _)) _ _ 1 1 [.bool true] rfl rfl (Rd.new wr #[.bool true] 4 (0, 0)) (by intro u hu; simp at hu; subst hu; rfl) (by unfold maxLen; omega) (by omega) (by have := HSZ.out; simp; omega) ?_); intro v3 w3 hown3 hgrow3 hat3)
                obtain ⟨hka, hga⟩ := app_facts hgrow3 hat3
                obtain ⟨A3', ca', rfl, _⟩ := own_form hown3
                have HL3 := Lib.hid (HLS.out.bit hown3 hka hga)
                have HX3 := Lib.hid (HX.out.step hka S_o (F_o hga))
                have HP3 := Lib.hid (HPE.out.step hka S_o (F_o hga))
                have HR3 := Lib.hid (HRQ.out.step hka S_o (F_o hga))
                have HK3 := Lib.hid (HK.out.trans' hka (fun x hx => .inr (own_ge HLS.out.o (mem_ownL.1 hx)).1))
                clear hka hga hown3 hgrow3 hat3 HLS HX HPE HRQ HK HSZ
                have HSZ := Lib.hid HK3.out.size
                obtain ⟨xs, hxs, hxl⟩ := HL3.out.n
                have HXS := Lib.hid hxs
                clear hxs hxl
                go_wp2_with (at_builtin; go_loud (refine wpList_append_rd rfl (.tmp 35) (.tmp 37) 51 rfl w.heap.size 22 i1 (.slice none 0 0) 1 24 Try.underlying51 hi' hy0 hy1 hy2 rfl (by decide) (.slice An3 nn3 cn3) nn3 _ rfl (own_kp0 HXS.out ((Kp.refl [] _).alloc _)) _ _ 1 1 [.slice a3 m3 k3] rfl rfl (Rd.new w3 #[.slice a3 m3 k3] 22 (0, 0)) (by intro u hu; simp at hu; subst hu; rfl) (by unfold maxLen; omega) (by omega) (by have := HSZ.out; simp; omega) ?_); intro v4 w4 hown4 hgrow4 hat4
                             obtain ⟨hka, hga⟩ := app_facts hgrow4 hat4
                             obtain ⟨A4', cb', rfl, _⟩ := own_form hown4
                             have HL4 := Lib.hid (HL3.out.sq HXS.out hown4 hka hga HM3.out HR3.out)
                             have HX4 := Lib.hid (HX3.out.step hka S_n (F_n hga))
                             have HP4 := Lib.hid (HP3.out.step hka S_n (F_n hga))
                             have HK4 := Lib.hid (HK3.out.trans' hka (fun x hx => .inr (own_ge HXS.out (mem_ownL.1 hx)).1))
                             clear hka hga hown4 hgrow4 hat4)
                exact ⟨⟨3 + 1, no3 + 1, ca', nn3 + 1, cb', A3', A4', bs3 ++ [true], nx3 ++ [part i l 3], by go_num, rfl, rfl, by omega, Lib.hid (by have := HNO3.out; omega), Lib.hid (by have h1 := HNQ.out; have h2 := HM3.out; simp [parts] at h1 ⊢; omega), Lib.hid (by rw [HB3.out]; simp [parts, HEM.out]), Lib.hid (by rw [HN3.out, show (parts i l).take (3 + 1) = (parts i l).take 3 ++ [part i l 3] from rfl, filt1 HEM.out, List.append_assoc]), Lib.hid (by rw [List.length_append, HBL.out]; rfl), HL4, HX4, HP4, HK4⟩, by simp [intOf]⟩
          · obtain rfl : q = 4 := by omega
            have HT4 : (parts i l).take 4 = parts i l := rfl
            have hnnN : nn3 ≤ N := by
              have h1 := HNQ.out
              have h2 := HNN.out
              rw [HT4] at h1
              have h3 : (parts i l).flatten.length = l.length := by simp only [parts, List.flatten_cons, List.flatten_nil, List.append_nil, List.length_append]; have := parts_sum i l; omega
              have := HLM.out
              omega
            go_wp2_with fail
            exact ⟨⟨k + 1, no3, co3, nn3, cn3, Ao3, An3, bs3, nx3, by go_num, rfl, rfl, by omega, hnnN, Lib.hid (by have := HNO3.out; have := HNO2.out; omega), Lib.hid (by rw [HB3.out, HT4, HB2.out, List.take_add_one, HLL.out, Option.toList_some, bitsL_snoc, List.append_assoc]), Lib.hid (by rw [HN3.out, HT4, HNX.out, List.take_add_one, HLL.out, Option.toList_some, nextL_snoc]), HBL, HLS, HX, HK⟩, by simp [intOf]; omega⟩
      · obtain rfl : n' = k := by omega
        have HT := Lib.hid (show sq'.take n' = sq' from List.take_of_length_le (Nat.le_of_eq HSQ.out))
        go_wp2_with fail
        refine ⟨⟨i, nn, cn, no2, co2, (i : Int) - 1, An, Ao2, nextL i sq', bs2, by go_num, rfl, rfl, rfl, by omega, by omega, HBL, Lib.hid ?_, Lib.hid ?_, Lib.hid ?_, Lib.hid ?_, Lib.hid ?_, Lib.hid HLS.out.o, Lib.hid ?_, HK⟩, by simp [intOf]⟩
        · rw [← HLS.out.2.2.1, HNX.out, HT.out]
        · rw [(nextL_len i sq').1]; exact HFL.out
        · intro l hl p hp
          obtain ⟨l0, h0, hp0⟩ := mem_nextL hl
          exact HPB.out l0 h0 p (mem_parts hp0 hp)
        · have h1 := HNO.out
          rw [Nat.mul_succ] at h1
          have := HNO2.out
          omega
        · rw [HR2.out, HB2.out, HT.out, List.append_assoc]
        · obtain ⟨h1, h2, h3, vs, h4, h5⟩ := HLS.out
          rw [HNX.out, HT.out] at h5
          refine ⟨vs, ⟨own_rd h4, fun ad e _ hm => ?_⟩, h5.step (Kp.refl [] _) (by simp) (fun x hx => .inl (S_o x hx))⟩
          have : ad.block ∈ ownL (.slice An nn cn) := by rw [e]; simp [mem_ownL, Value.ownBlock]
          exact h2 _ hm this
end Go.Proofs.Ytldmabkilgpgcaa
