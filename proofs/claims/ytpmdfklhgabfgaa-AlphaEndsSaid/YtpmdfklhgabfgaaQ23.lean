/-
  LAYER 3: the writer in memory; spoil, sound, there, Put, Len, NewWriter.
  LAYER 3: each: numbers put one behind the other, by what may be and what is made of them.
  LAYER 3: Number, Gamma, Vec of the writer.
  CONDITIONS: as each lemma says.
-/
import Derived.Test.YtpmdfklhgabfgaaQ22
import Derived.Test.YtpmdfklhgabfgaaQ03
import Derived.Test.YtpmdfklhgabfgaaQ02
import Derived.Test.YtpmdfklhgabfgaaQ08
import Derived.Laws.BitsLemmas
import Derived.Deep.QuietTactic
import Derived.BigQuiet
namespace Go.Proofs.Ytpmdfklhgabfgaa
open Go.RowKit

/-- A writer in memory: its blocks, its place, its bits and error. -/
def WrM (w : World) (S : List Nat) (p : Nat) (s : WS) : Prop := ∃ (A : Option Addr) (c : Nat), Blk w p 92 [.int .i64 s.2, .slice A s.1.length c, .bool true] ∧ w.ownsRow 0 4 1 (.slice A s.1.length c) s.1.length (s.1.map .bool) ∧ s.1.length ≤ 16777216 ∧ S = p :: ownL (.slice A s.1.length c)
theorem WrM.lt {w : World} {S : List Nat} {p : Nat} {s : WS} (h : WrM w S p s) : ∀ g ∈ S, g < w.heap.size := by
  obtain ⟨A, c, h1, h2, _, rfl⟩ := h
  intro x hx
  simp only [List.mem_cons] at hx
  rcases hx with rfl | hx
  · exact h1.lt
  · exact (own_ge h2 (mem_ownL.1 hx)).2
theorem WrM.kp {w w' : World} {S T : List Nat} {p : Nat} {s : WS} (h : WrM w S p s) (hk : Kp T w w') (hd : ∀ g ∈ S, g ∉ T) : WrM w' S p s := by
  obtain ⟨A, c, h1, h2, h3, rfl⟩ := h
  exact ⟨A, c, h1.kp hk (hd p (by simp)), own_kp h2 hk (fun x hx => hd x (by simp [mem_ownL, hx])), h3, rfl⟩
theorem WrM.kp0 {w w' : World} {S : List Nat} {p : Nat} {s : WS} (h : WrM w S p s) (hk : Kp [] w w') : WrM w' S p s := h.kp hk (by simp)
theorem WrM.mem {w : World} {S : List Nat} {p : Nat} {s : WS} (h : WrM w S p s) : p ∈ S := by
  obtain ⟨A, c, _, _, _, rfl⟩ := h
  simp
theorem Kp.kp0 {S : List Nat} {a b c : World} (h : Kp S a b) (k : Kp [] b c) : Kp S a c := h.trans (k.mono (by simp))
theorem Grow.far {w : World} {S T U : List Nat} (hg : Grow w S T) (hd : ∀ x ∈ U, x ∉ S) (hl : ∀ x ∈ U, x < w.heap.size) : ∀ x ∈ U, x ∉ T := fun x hx hm => by
  rcases hg x hm with h | h
  · exact hd x hx h
  · have := hl x hx; omega
theorem Grow.ge {w : World} {S T : List Nat} {B : Nat} (hg : Grow w S T) (h : ∀ x ∈ S, B ≤ x) (hB : B ≤ w.heap.size) : ∀ x ∈ T, B ≤ x := fun x hx => by
  rcases hg x hx with h1 | h1
  · exact h x h1
  · omega

theorem sound_ok (p : Nat) (T : TypeId) (rest : List Value) (w : World) (h : Blk w p T (.int .i64 0 :: rest)) : Calls Try.prog 49 #[.pointer (some ⟨p, 0, none⟩)] w fun e w' => e = .returned (.bool true) ∧ w = w' := by
  have hc : w.cell? ⟨p, 0, none⟩ = some (.int .i64 0) := by rw [h.cell]; rfl
  clear h
  go_enter Try.func49, Try.ntmps49
  go_wp2_with fail
  go_ret
  exact ⟨rfl, rfl⟩
theorem sound_no (p : Nat) (T : TypeId) (err : Int) (rest : List Value) (w : World) (h : Blk w p T (.int .i64 err :: rest)) (he : err ≠ 0) : Calls Try.prog 49 #[.pointer (some ⟨p, 0, none⟩)] w fun e w' => e = .returned (.bool false) ∧ w = w' := by
  have hc : w.cell? ⟨p, 0, none⟩ = some (.int .i64 err) := by rw [h.cell]; rfl
  have hb : (err == 0) = false := by simpa using he
  clear h he
  go_enter Try.func49, Try.ntmps49
  go_wp2_with fail
  go_ret
  exact ⟨rfl, rfl⟩
theorem spoil_new (p : Nat) (T : TypeId) (E : Int) (rest : List Value) (w : World) (h : Blk w p T (.int .i64 0 :: rest)) : Calls Try.prog 68 #[.pointer (some ⟨p, 0, none⟩), .int .i64 E] w fun e w' => e = .returned (.int .i64 E) ∧ Blk w' p T (.int .i64 E :: rest) ∧ Kp [p] w w' := by
  have hc : w.cell? ⟨p, 0, none⟩ = some (.int .i64 0) := by rw [h.cell]; rfl
  have hf := h.free 0
  have H := Lib.hid (h.set_ 0 (.int .i64 E))
  clear h
  go_enter Try.func68, Try.ntmps68
  go_wp2_with fail
  go_ret
  exact ⟨rfl, H.out, (Kp.refl [p] w).setCell (.inl (by simp)) _⟩
theorem spoil_old (p : Nat) (T : TypeId) (E err : Int) (rest : List Value) (w : World) (h : Blk w p T (.int .i64 err :: rest)) (he : err ≠ 0) : Calls Try.prog 68 #[.pointer (some ⟨p, 0, none⟩), .int .i64 E] w fun e w' => e = .returned (.int .i64 err) ∧ w = w' := by
  have hc : w.cell? ⟨p, 0, none⟩ = some (.int .i64 err) := by rw [h.cell]; rfl
  have hb : (err == 0) = false := by simpa using he
  clear h he
  go_enter Try.func68, Try.ntmps68
  go_wp2_with fail
  go_ret
  exact ⟨rfl, rfl⟩
theorem wthere_any (S : List Nat) (p : Nat) (s : WS) (w : World) (h : WrM w S p s) : Calls Try.prog 48 #[.pointer (some ⟨p, 0, none⟩)] w fun e w' => e = .returned (.bool true) ∧ w = w' := by
  have hc : w.cell? ⟨p, 2, none⟩ = some (.bool true) := by obtain ⟨A, c, h1, _⟩ := h; rw [h1.cell]; rfl
  clear h
  go_enter Try.func48, Try.ntmps48
  go_wp2_with fail
  go_ret
  exact ⟨rfl, rfl⟩
theorem wnew_any (w : World) : Calls Try.prog 19 #[] w fun e w' => ∃ S p, e = .returned (.pointer (some ⟨p, 0, none⟩)) ∧ WrM w' S p ([], 0) ∧ (∀ x ∈ S, w.heap.size ≤ x) ∧ Kp [] w w' := by
  go_enter Try.func19, Try.ntmps19
  go_wp2_with fail
  go_ret
  exact ⟨[w.heap.size], w.heap.size, rfl, ⟨none, 0, Blk.new w 92 [.int .i64 0, .slice none 0 0, .bool true], World.ownsRow_nil _ _ _ 1, by simp, rfl⟩, (by simp), (Kp.refl [] w).alloc _⟩
theorem wlen_any (S : List Nat) (p : Nat) (s : WS) (n : Nat) (w : World) (h : WrM w S p s) (hn : s.1.length = n) : Calls Try.prog 61 #[.pointer (some ⟨p, 0, none⟩)] w fun e w' => e = .returned (.int .i64 (n : Int)) ∧ w = w' := by
  obtain ⟨A, c, hc⟩ : ∃ A c, w.cell? ⟨p, 1, none⟩ = some (.slice A n c) := by obtain ⟨A, c, h1, _⟩ := h; exact ⟨A, c, by rw [h1.cell, ← hn]; rfl⟩
  have H := Lib.hid h; clear h
  have HN := Lib.hid hn; clear hn
  go_enter Try.func61, Try.ntmps61
  go_wp2_with fail
  refine (wthere_any S p s w H.out).mono ?_
  rintro e w1 ⟨rfl, rfl⟩
  go_wp2_with fail
  go_ret
  exact ⟨rfl, rfl⟩
/-- Behind a call that writes into a writer. -/
def WPost (w w' : World) (S : List Nat) (p : Nat) (s : WS) : Prop := ∃ S', WrM w' S' p s ∧ Kp S w w' ∧ Grow w S S'
theorem WPost.refl {w : World} {S : List Nat} {p : Nat} {s : WS} (h : WrM w S p s) : WPost w w S p s := ⟨S, h, Kp.refl _ _, Grow.refl _ _⟩
theorem wspoil {w w' : World} {S : List Nat} {p : Nat} {L : List Bool} {A : Option Addr} {c : Nat} {E : Int} (h : Blk w' p 92 [.int .i64 E, .slice A L.length c, .bool true]) (ho : w.ownsRow 0 4 1 (.slice A L.length c) L.length (L.map .bool)) (hp : Blk w p 92 [.int .i64 0, .slice A L.length c, .bool true]) (hl : L.length ≤ 16777216) (hS : S = p :: ownL (.slice A L.length c)) (hk : Kp [p] w w') : WPost w w' S p (L, E) := by
  refine ⟨S, ⟨A, c, h, own_kp ho hk (fun b hb hm => ?_), hl, hS⟩, hk.mono (by intro x hx; simp only [List.mem_singleton] at hx; subst hx; rw [hS]; simp), Grow.refl _ _⟩
  simp only [List.mem_singleton] at hm
  subst hm
  obtain ⟨l, hB⟩ := own_blk_some ho hb
  exact absurd rfl (hB.ne hp (by decide))
set_option maxRecDepth 100000 in
set_option maxHeartbeats 4000000 in
theorem wput_any (S : List Nat) (p n m c B : Nat) (A : Option Addr) (l : List Bool) (s : WS) (w : World) (h : WrM w S p s) (hn : s.1.length = n) (hx : Rd w B A (l.map .bool)) (hl : l.length = m) (hm : m ≤ 1000000000) :
    Calls Try.prog 47 #[.pointer (some ⟨p, 0, none⟩), .slice A m c] w fun e w' => e = .returned (.int .i64 (wPut s l).2) ∧ WPost w w' S p (wPut s l) := by
  obtain ⟨L, err⟩ := s
  have HH := Lib.hid h
  obtain ⟨A0, c0, h1, h2, h3, hS⟩ := h
  have hn' : L.length = n := hn
  have h1' : Blk w p 92 [.int .i64 err, .slice A0 n c0, .bool true] := by rw [← hn']; exact h1
  have h3' : n ≤ 16777216 := by rw [← hn']; exact h3
  have hc0 : w.cell? ⟨p, 0, none⟩ = some (.int .i64 err) := by rw [h1'.cell]; rfl
  have hc1 : w.cell? ⟨p, 1, none⟩ = some (.slice A0 n c0) := by rw [h1'.cell]; rfl
  have H1 := Lib.hid h1'
  have H2 := Lib.hid h2
  have HS := Lib.hid hS
  have HX := Lib.hid hx; clear hx
  have HL := Lib.hid hl; clear hl
  have HN' := Lib.hid hn'; clear hn'
  clear h1 h1' h2 h3 hS hn
  by_cases he : err = 0
  · subst he
    by_cases hbig : 16777216 < n + m
    · have HR := Lib.hid (show wPut (L, 0) l = (L, 3) by unfold wPut; rw [if_neg (by simp), if_pos (by rw [HN'.out, HL.out]; exact hbig)])
      rw [HR.out]
      go_enter Try.func47, Try.ntmps47
      go_wp2_with fail
      refine (wthere_any S p _ w HH.out).mono ?_
      rintro e w1 ⟨rfl, rfl⟩
      go_wp2_with fail
      refine (sound_ok p _ _ w H1.out).mono ?_
      rintro e w1 ⟨rfl, rfl⟩
      go_wp2_with fail
      refine (spoil_new p _ 3 _ w H1.out).mono ?_
      rintro e w1 ⟨rfl, hb, hk⟩
      go_wp2_with fail
      go_ret
      exact ⟨rfl, wspoil (A := A0) (c := c0) (L := L) (by rw [HN'.out]; exact hb) H2.out (by rw [HN'.out]; exact H1.out) (by rw [HN'.out]; exact h3') HS.out hk⟩
    · have HR := Lib.hid (show wPut (L, 0) l = (L ++ l, 0) by unfold wPut; rw [if_neg (by simp), if_neg (by rw [HN'.out, HL.out]; exact hbig)])
      rw [HR.out]
      obtain ⟨i0, hi, hz0, hz1, hz2⟩ := info_parts Try.info_bool_
      have hf1 := H1.out.free 1
      go_enter Try.func47, Try.ntmps47
      go_wp2_with fail
      refine (wthere_any S p _ w HH.out).mono ?_
      rintro e w1 ⟨rfl, rfl⟩
      go_wp2_with fail
      refine (sound_ok p _ _ w H1.out).mono ?_
      rintro e w1 ⟨rfl, rfl⟩
      go_wp2_with fail
      refine (sound_ok p _ _ w H1.out).mono ?_
      rintro e w1 ⟨rfl, rfl⟩
      have HO := Lib.hid (show w.ownsRow 0 4 1 (.slice A0 n c0) n (L.map .bool) by have h := H2.out; rw [HN'.out] at h; exact h)
      go_wp2_with (at_builtin; go_loud (refine wpList_append_rd rfl (.tmp 38) (.tmp 39) 31 rfl 0 4 i0 (.bool false) 1 1 Try.underlying31 hi hz0 hz1 hz2 rfl (by decide) (.slice A0 n c0) n _ rfl HO.out B A m c (l.map .bool) rfl (by rw [List.length_map, HL.out, Nat.mul_one]) HX.out (by intro u hu; obtain ⟨b, _, rfl⟩ := List.mem_map.1 hu; rfl) (by unfold maxLen; omega) (by omega) (Nat.zero_le _) ?_); intro v2 w2 hown2 hgrow2 hat2
                   go_loud (obtain ⟨A2, c2, rfl, _⟩ := own_form hown2)
                   go_loud (have hkg : Kp (ownL (.slice A0 n c0)) w w2 := (Kp.refl _ w).grown hgrow2 (fun b hb => .inl (mem_ownL.2 hb)))
                   have HP2 := Lib.hid (H1.out.kp hkg (fun hm => by obtain ⟨q, hq⟩ := own_blk_some HO.out (mem_ownL.1 hm); exact absurd rfl (hq.ne H1.out (by decide))))
                   have HK2 := Lib.hid hkg
                   have HO2 := Lib.hid hown2
                   have HA2 := Lib.hid hat2
                   have cf2 := HP2.out.free 1
                   have cp2 : w2.cell? ⟨p, 1, none⟩ = some (.slice A0 n c0) := by rw [HP2.out.cell]; rfl
                   have cp0 : w2.cell? ⟨p, 0, none⟩ = some (.int .i64 0) := by rw [HP2.out.cell]; rfl
                   clear hown2 hgrow2 hat2 hkg)
      go_ret
      have hpA : ∀ b, (Value.slice A2 (n + m) c2).ownBlock = some b → b ≠ p := fun b hb e => by
        subst e
        obtain ⟨q, hq⟩ := own_blk_some HO2.out hb
        exact absurd rfl (hq.ne HP2.out (by decide))
      have hk3 : Kp [p] w2 (w2.setCell ⟨p, 1, none⟩ (.slice A2 (n + m) c2)) := (Kp.refl [p] w2).setCell (.inl (by simp)) _
      have hln : (L ++ l).length = n + m := by rw [List.length_append, HN'.out, HL.out]
      have hS : S = p :: ownL (.slice A0 n c0) := by have h := HS.out; rw [HN'.out] at h; exact h
      refine ⟨rfl, p :: ownL (.slice A2 (n + m) c2), ⟨A2, c2, ?_, ?_, ?_, ?_⟩, ?_, ?_⟩
      · rw [hln]; exact HP2.out.set_ 1 _
      · rw [hln, List.map_append]
        exact own_kp HO2.out hk3 (fun b hb hm => by simp only [List.mem_singleton] at hm; exact hpA b hb hm)
      · rw [hln]; omega
      · rw [hln]
      · rw [hS]
        exact (HK2.out.mono (fun x hx => by simp [hx])).trans (hk3.mono (fun x hx => by simp only [List.mem_singleton] at hx; subst hx; simp))
      · intro x hx
        simp only [List.mem_cons] at hx
        rcases hx with rfl | hx
        · exact .inl (by rw [hS]; simp)
        · rw [mem_ownL] at hx
          rcases HA2.out with h | h
          · exact .inl (by rw [hS]; exact List.mem_cons_of_mem _ (mem_ownL.2 (by rw [← h]; exact hx)))
          · rw [h] at hx
            injection hx with hx
            exact .inr (Nat.le_of_eq hx)
  · have HR := Lib.hid (show wPut (L, err) l = (L, err) by unfold wPut; rw [if_pos he])
    rw [HR.out]
    have hb : (err == 0) = false := by simpa using he
    have HE := Lib.hid he
    clear he
    go_enter Try.func47, Try.ntmps47
    go_wp2_with fail
    refine (wthere_any S p _ w HH.out).mono ?_
    rintro e w1 ⟨rfl, rfl⟩
    go_wp2_with fail
    refine (sound_no p _ err _ w H1.out HE.out).mono ?_
    rintro e w1 ⟨rfl, rfl⟩
    go_wp2_with fail
    refine (sound_no p _ err _ w H1.out HE.out).mono ?_
    rintro e w1 ⟨rfl, rfl⟩
    go_wp2_with fail
    go_ret
    exact ⟨rfl, WPost.refl HH.out⟩

theorem i64_and1 (y : Nat) (h : y < 2 ^ 63) : bits .and .i64 (y : Int) 1 = ((y % 2 : Nat) : Int) := by
  have := (bits_nat .i64 63 (by decide) (fun n h0 h1 => by rw [IntKind.wrap_i64]; omega) y 1 h (by decide)).1
  rw [Nat.and_one_is_mod] at this
  exact this
theorem shr_bit (x k : Nat) (hx : x ≤ 9223372036854775807) : (bits .and .i64 ((x : Int) / 2 ^ min k 64) 1 == 1) = (x / 2 ^ k % 2 == 1) := by
  have e : (x : Int) / 2 ^ min k 64 = ((x / 2 ^ k : Nat) : Int) := by
    by_cases hk : k ≤ 64
    · rw [Nat.min_eq_left hk]; simp
    · rw [Nat.min_eq_right (by omega)]
      have h1 : x / 2 ^ k = 0 := Nat.div_eq_of_lt (Nat.lt_of_lt_of_le (show x < 2 ^ 64 by omega) (Nat.pow_le_pow_right (by omega) (by omega)))
      rw [h1]
      omega
  have hb : x / 2 ^ k < 2 ^ 63 := Nat.lt_of_le_of_lt (Nat.div_le_self _ _) (by omega)
  rw [e, i64_and1 _ hb]
  rcases (show x / 2 ^ k % 2 = 0 ∨ x / 2 ^ k % 2 = 1 by omega) with h | h <;> rw [h] <;> rfl
theorem app_facts {w w2 : World} {o : Obj} {v v' : Value} (hg : (w.alloc o).grownBy w2 v.ownBlock) (hat : v'.ownBlock = v.ownBlock ∨ v'.ownBlock = some (w.alloc o).heap.size) : Kp (ownL v) w w2 ∧ ∀ x ∈ ownL v', x ∈ ownL v ∨ w.heap.size ≤ x := by
  refine ⟨((Kp.refl _ w).alloc o).grown hg (fun b hb => .inl (mem_ownL.2 hb)), fun x hx => ?_⟩
  rw [mem_ownL] at hx
  rcases hat with h | h
  · exact .inl (mem_ownL.2 (by rw [← h]; exact hx))
  · rw [h] at hx
    injection hx with hx
    rw [← hx]
    exact .inr (by simp)
end Go.Proofs.Ytpmdfklhgabfgaa
namespace Go.Proofs.Ytpmdfklhgabfgaa
open Go.RowKit

def eachR (ok : Int → Bool) (f : Int → List Bool) (s : WS) (l : List Int) : WS := if s.2 ≠ 0 then s else if l.all ok then wPut s (l.flatMap f) else (s.1, 2)
theorem flat_len {f : Int → List Bool} : ∀ {l : List Int}, (∀ x ∈ l, (f x).length ≤ 200) → (l.flatMap f).length ≤ 200 * l.length
  | [], _ => Nat.le_refl _
  | x :: l, h => by
    have ih := flat_len (l := l) (fun y hy => h y (by simp [hy]))
    have hx := h x (by simp)
    rw [List.flatMap_cons, List.length_append, List.length_cons]
    omega
end Go.Proofs.Ytpmdfklhgabfgaa
namespace Go.Proofs.Ytpmdfklhgabfgaa
open Go.RowKit

theorem okD_nat (M n : Nat) : okD (M : Int) (n : Int) = decide (bl n ≤ M) := by
  unfold okD
  rw [Int.toNat_natCast, decide_eq_true (by omega : (0 : Int) ≤ (n : Int)), Bool.true_and]
  by_cases h : bl n ≤ M
  · rw [decide_eq_true h, decide_eq_true (by omega)]
  · rw [decide_eq_false h, decide_eq_false (by omega)]
theorem okD_neg {m x : Int} (h : x < 0) : okD m x = false := by
  unfold okD
  rw [decide_eq_false (by omega), Bool.false_and]
/-- What is new since a world changes nothing that was there. -/
theorem Kp.own {w0 w w' : World} {e : TypeId} {n : Nat} {v : Value} {xs : List Value} (h : w.ownsRow w0.heap.size e 1 v n xs) (hk : Kp (ownL v) w w') (h0 : Kp [] w0 w) : Kp [] w0 w' := h0.trans' hk (fun _ hx => .inr (own_ge h (mem_ownL.1 hx)).1)
theorem eachR_num {M : Nat} {s : WS} {l : List Int} (hM : M ≤ 60) : eachR (okD (M : Int)) (fun x => digL M x.toNat) s l = wNum s (M : Int) l := by
  unfold eachR wNum
  by_cases h : s.2 ≠ 0
  · rw [if_pos h, if_pos h]
  · have h2 : ¬ ((M : Int) < 0 ∨ 60 < (M : Int)) := by omega
    rw [if_neg h, if_neg h, if_neg h2, Int.toNat_natCast]
    rfl
theorem okG_nat {x : Int} (h : okG x = true) : ∃ n : Nat, x = (n : Int) ∧ n ≠ 0 ∧ bl n ≤ 60 := by
  unfold okG at h
  rw [Bool.and_eq_true, decide_eq_true_iff, decide_eq_true_iff] at h
  exact ⟨x.toNat, by omega, by omega, by omega⟩
set_option maxRecDepth 100000 in
set_option maxHeartbeats 4000000 in
theorem wvec_err (S : List Nat) (p : Nat) (s : WS) (w : World) (h : WrM w S p s) (he : s.2 ≠ 0) : Calls Try.prog 21 #[.pointer (some ⟨p, 0, none⟩)] w fun e w' => e = .returned (.tuple #[.pointer none, .int .i64 s.2]) ∧ Kp [] w w' := by
  obtain ⟨L, err⟩ := s
  have HH := Lib.hid h
  obtain ⟨A0, c0, h1, _⟩ := h
  have H1 := Lib.hid h1
  have hc0 : w.cell? ⟨p, 0, none⟩ = some (.int .i64 err) := by rw [h1.cell]; rfl
  have HE := Lib.hid (show err ≠ 0 from he)
  clear h1 he
  go_enter Try.func21, Try.ntmps21
  go_wp2_with fail
  refine (wthere_any S p _ w HH.out).mono ?_
  rintro e w1 ⟨rfl, rfl⟩
  go_wp2_with fail
  refine (sound_no p _ err _ w H1.out HE.out).mono ?_
  rintro e w1 ⟨rfl, rfl⟩
  go_wp2_with fail
  go_quiet (fail)
  go_wp2_with fail
  go_ret2
  exact ⟨rfl, (Kp.refl [] w).drewN _⟩
set_option maxRecDepth 100000 in
set_option maxHeartbeats 4000000 in
theorem wvec_ok (S : List Nat) (p : Nat) (L : List Bool) (w : World) (h : WrM w S p (L, 0)) : Calls Try.prog 21 #[.pointer (some ⟨p, 0, none⟩)] w fun e w' => ∃ T q, e = .returned (.tuple #[.pointer (some ⟨q, 0, none⟩), .int .i64 0]) ∧ VecM w' T q L false ∧ (∀ x ∈ T, w.heap.size ≤ x) ∧ Kp [] w w' := by
  have HH := Lib.hid h
  obtain ⟨A0, c0, h1, h2, h3, _⟩ := h
  obtain ⟨n, hn⟩ : ∃ n, n = L.length := ⟨_, rfl⟩
  have h1' : Blk w p 92 [.int .i64 0, .slice A0 n c0, .bool true] := by rw [hn]; exact h1
  have h3' : n ≤ 16777216 := by rw [hn]; exact h3
  have H1 := Lib.hid h1'
  have hc1 : w.cell? ⟨p, 1, none⟩ = some (.slice A0 n c0) := by rw [h1'.cell]; rfl
  have HRD := Lib.hid (show Rd w w.heap.size A0 (L.map .bool) from own_rd h2)
  have HN := Lib.hid hn
  clear h1 h1' h2 h3 hn
  go_enter Try.func21, Try.ntmps21
  go_wp2_with fail
  refine (wthere_any S p _ w HH.out).mono ?_
  rintro e w1 ⟨rfl, rfl⟩
  go_wp2_with fail
  refine (sound_ok p _ _ w H1.out).mono ?_
  rintro e w1 ⟨rfl, rfl⟩
  go_wp2_with fail
  refine (bof_any A0 n c0 _ L w HRD.out HN.out.symm h3').mono ?_
  rintro e w1 ⟨T, q, rfl, hv, hT, hk⟩
  have HV := Lib.hid hv
  have HT := Lib.hid hT
  have HK := Lib.hid hk
  clear hv hT hk
  go_wp2_with fail
  go_ret2
  exact ⟨T, q, rfl, HV.out, HT.out, HK.out⟩
end Go.Proofs.Ytpmdfklhgabfgaa
