/-
  LAYER 3: each: numbers put one behind the other, by what may be and what is made of them.
  CONDITIONS: as it says.
-/
import Derived.Test.YtddmioaeehgkbaaDoorFwr
import Derived.Test.YtddmioaeehgkbaaDoorSearch
namespace Go.Proofs.YtddmioaeehgkbaaDoor
open Go.RowKit

def eachR (ok : Int → Bool) (f : Int → List Bool) (s : WS) (l : List Int) : WS := if s.2 ≠ 0 then s else if l.all ok then wPut s (l.flatMap f) else (s.1, 2)
theorem flat_len {f : Int → List Bool} : ∀ {l : List Int}, (∀ x ∈ l, (f x).length ≤ 200) → (l.flatMap f).length ≤ 200 * l.length
  | [], _ => Nat.le_refl _
  | x :: l, h => by
    have ih := flat_len (l := l) (fun y hy => h y (by simp [hy]))
    have hx := h x (by simp)
    rw [List.flatMap_cons, List.length_append, List.length_cons]
    omega
set_option maxRecDepth 100000 in
set_option maxHeartbeats 4000000 in
theorem each_any (S : List Nat) (p n m c B g1 g2 : Nat) (lb1 lb2 : Array Value) (A : Option Addr) (ok : Int → Bool) (f : Int → List Bool) (l : List Int) (s : WS) (w : World) (h : WrM w S p s) (hn : s.1.length = n) (hx : Rd w B A (l.map (.int .i64))) (hl : l.length = m) (hm : m ≤ 1000000)
    (eg1 : ∀ args w, (callFunc g1 args).run Tryd.prog w = .ok (.enter g1 args) w) (eg2 : ∀ args w, (callFunc g2 args).run Tryd.prog w = .ok (.enter g2 args) w)
    (hf : ∀ x ∈ l, ok x = true → (f x).length ≤ 200)
    (hmay : ∀ w' x, Kp [] w w' → x ∈ l → Calls Tryd.prog g1 (#[.int .i64 x] ++ lb1) w' fun e w'' => e = .returned (.bool (ok x)) ∧ Dr w' w'')
    (hof : ∀ w' (A : Option Addr) (c n : Nat) (L : List Bool) x, Kp [] w w' → w'.ownsRow w.heap.size 4 1 (.slice A n c) n (L.map .bool) → n ≤ 1000000000 → x ∈ l → ok x = true →
      Calls Tryd.prog g2 (#[.slice A n c, .int .i64 x] ++ lb2) w' fun e w'' => ∃ A' c' k, k = (f x).length ∧ e = .returned (.slice A' (n + k) c') ∧ w''.ownsRow w.heap.size 4 1 (.slice A' (n + k) c') (n + k) ((L ++ f x).map .bool) ∧ Kp [] w w'') :
    Calls Tryd.prog 54 #[.pointer (some ⟨p, 0, none⟩), .func (.func g1) #[] lb1, .func (.func g2) #[] lb2, .slice A m c] w fun e w' => e = .returned (.int .i64 (eachR ok f s l).2) ∧ WPost w w' S p (eachR ok f s l) := by
  obtain ⟨L, err⟩ := s
  have HH := Lib.hid h
  obtain ⟨A0, c0, h1, h2, h3, hS⟩ := h
  have hn' : L.length = n := hn
  have h1' : Blk w p 91 [.int .i64 err, .slice A0 n c0, .bool true] := by rw [← hn']; exact h1
  have h3' : n ≤ 16777216 := by rw [← hn']; exact h3
  have hc0 : w.cell? ⟨p, 0, none⟩ = some (.int .i64 err) := by rw [h1'.cell]; rfl
  have H1 := Lib.hid h1'
  have H2 := Lib.hid h2
  have HS := Lib.hid hS
  have HX := Lib.hid hx; clear hx
  have HL := Lib.hid hl; clear hl
  have HN' := Lib.hid hn'; clear hn'
  have HF := Lib.hid hf; clear hf
  have HMAY := Lib.hid hmay; clear hmay
  have HOF := Lib.hid hof; clear hof
  clear h1 h1' h2 h3 hS hn
  by_cases he : err = 0
  · subst he
    clear hc0
    obtain ⟨R, hR⟩ : ∃ R, R = eachR ok f (L, 0) l := ⟨_, rfl⟩
    rw [← hR]
    have HRR := Lib.hid hR; clear hR
    go_enter Tryd.func54, Tryd.ntmps54
    go_wp2_with fail
    refine (wthere_any S p _ w HH.out).mono ?_
    rintro e w1 ⟨rfl, rfl⟩
    go_wp2_with fail
    refine (sound_ok p _ _ w H1.out).mono ?_
    rintro e w1 ⟨rfl, rfl⟩
    go_wp2_with fail
    go_loopw [9, 27] (fun v y wr => ∃ (k j c1 : Nat) (A1 : Option Addr), y = .int .i64 (k : Int) ∧ v = .slice A1 j c1 ∧ k ≤ m ∧ Hid (j = ((l.take k).flatMap f).length) ∧ Hid ((l.take k).all ok = true) ∧ Hid (wr.ownsRow w.heap.size 4 1 (.slice A1 j c1) j (((l.take k).flatMap f).map .bool)) ∧ Hid (Kp [] w wr)) (fun _ y _ => m - (intOf y).toNat)
    case atStart => exact ⟨0, 0, 0, none, rfl, rfl, by omega, Lib.hid rfl, Lib.hid rfl, Lib.hid (World.ownsRow_nil _ _ _ 1), Lib.hid (Kp.refl _ _)⟩
    case round =>
      obtain ⟨k, j, c1, A1, rfl, rfl, hk, HJ, HOK, HO, HK⟩ := hrel
      have HJB := Lib.hid (show j ≤ 200000000 by
        have h := flat_len (f := f) (l := l.take k) (fun x hx => HF.out x (List.mem_of_mem_take hx) (List.all_eq_true.1 HOK.out x hx))
        rw [← HJ.out, List.length_take] at h
        omega)
      by_cases hlt : k < m
      · obtain ⟨x, ad, hxk, rfl, _, hcx⟩ := (HX.out.kp0 HK.out).ix (i := k) (by rw [HL.out]; exact hlt)
        have hxm := List.mem_of_getElem? hxk
        have hmx := HMAY.out wr x HK.out hxm
        have HXK := Lib.hid hxk
        have HXM := Lib.hid hxm
        cases hox : ok x with
        | false =>
          rw [hox] at hmx
          have HR := Lib.hid (show eachR ok f (L, 0) l = (L, 2) by
            unfold eachR
            rw [if_neg (by simp), if_neg]
            intro h
            rw [List.all_eq_true.1 h x hxm] at hox
            cases hox)
          clear hxk hxm hox
          go_wp2_with fail
          refine hmx.mono ?_
          rintro e w2 ⟨rfl, hd⟩
          have HK2 := Lib.hid (HK.out.trans (hd.kp []))
          clear hmx hd
          go_wp2_with fail
          refine (spoil_new p _ 2 _ w2 (H1.out.kp0 HK2.out)).mono ?_
          rintro e w3 ⟨rfl, hb, hk3⟩
          go_wp2_with fail
          go_ret
          obtain ⟨S', q1, q2, q3⟩ := wspoil (A := A0) (c := c0) (L := L) (w := w2) (by rw [HN'.out]; exact hb) (own_kp0 H2.out HK2.out) (by rw [HN'.out]; exact H1.out.kp0 HK2.out) (by rw [HN'.out]; exact h3') HS.out hk3
          rw [show R = (L, 2) from HRR.out.trans HR.out]
          exact ⟨rfl, S', q1, (HK2.out.mono (by simp)).trans q2, fun x hx => (q3 x hx).imp id (fun h => Nat.le_trans HK2.out.size h)⟩
        | true =>
          rw [hox] at hmx
          have HOX := Lib.hid hox
          clear hxk hxm hox
          go_wp2_with fail
          refine hmx.mono ?_
          rintro e w2 ⟨rfl, hd⟩
          have HK2 := Lib.hid (HK.out.trans (hd.kp []))
          have HO2 := Lib.hid (own_kp0 HO.out (hd.kp []))
          clear hmx hd
          go_wp2_with fail
          refine (HOF.out w2 A1 c1 j _ x HK2.out HO2.out (by have := HJB.out; omega) HXM.out HOX.out).mono ?_
          rintro e w3 ⟨A', c', q, hq, rfl, hown, hk3⟩
          have HQ := Lib.hid hq
          have HO3 := Lib.hid hown
          have HK3 := Lib.hid hk3
          clear hq hown hk3 hcx
          go_wp2_with fail
          exact ⟨⟨k + 1, j + q, c', A', by go_num, rfl, by omega, Lib.hid (by rw [take_succ_of HXK.out, List.flatMap_append, List.length_append, ← HJ.out, HQ.out]; simp), Lib.hid (by rw [take_succ_of HXK.out, List.all_append, HOK.out]; simp [HOX.out]),
            Lib.hid (by rw [take_succ_of HXK.out, List.flatMap_append, List.flatMap_singleton]; exact HO3.out), HK3⟩, by simp [intOf]; omega⟩
      · obtain rfl : m = k := by omega
        have htk : l.take m = l := List.take_of_length_le (by rw [HL.out]; exact Nat.le_refl _)
        have ho2 := HO.out
        have hok := HOK.out
        have hj := HJ.out
        rw [htk] at ho2 hok hj
        have HR := Lib.hid (show eachR ok f (L, 0) l = wPut (L, 0) (l.flatMap f) by
          unfold eachR
          rw [if_neg (by simp), if_pos hok])
        have HJ2 := Lib.hid hj
        have hjb : j ≤ 1000000000 := by have := HJB.out; omega
        have HO2 := Lib.hid ho2; clear ho2
        clear hok hj htk HO HJ HOK
        go_wp2_with fail
        refine (wput_any S p n j c1 _ A1 (l.flatMap f) (L, 0) wr (HH.out.kp0 HK.out) HN'.out (own_rd HO2.out) HJ2.out.symm hjb).mono ?_
        rintro e w3 ⟨rfl, S', q1, q2, q3⟩
        have HQ := Lib.hid (show WPost w w3 S p (wPut (L, 0) (l.flatMap f)) from ⟨S', q1, (HK.out.mono (by simp)).trans q2, fun x hx => (q3 x hx).imp id (fun h => Nat.le_trans HK.out.size h)⟩)
        clear q1 q2 q3
        go_wp2_with fail
        go_ret
        rw [show R = wPut (L, 0) (l.flatMap f) from HRR.out.trans HR.out]
        exact ⟨rfl, HQ.out⟩
  · have HR := Lib.hid (show eachR ok f (L, err) l = (L, err) by unfold eachR; rw [if_pos he])
    rw [HR.out]
    have HE := Lib.hid he
    clear he
    go_enter Tryd.func54, Tryd.ntmps54
    go_wp2_with fail
    refine (wthere_any S p _ w HH.out).mono ?_
    rintro e w1 ⟨rfl, rfl⟩
    go_wp2_with fail
    refine (sound_no p _ err _ w H1.out HE.out).mono ?_
    rintro e w1 ⟨rfl, rfl⟩
    go_wp2_with fail
    go_ret
    exact ⟨rfl, WPost.refl HH.out⟩
end Go.Proofs.YtddmioaeehgkbaaDoor
